import Derived.Deep.DeepCutAuto
import Derived.Test.YtcejdmggacjnoaaDsh
import Derived.Test.YtcejdmggacjnoaaSpl
import Derived.Test.YtcejdmggacjnoaaJoin
import Derived.Test.YtcejdmggacjnoaaShlM
/- An object drawn, cut and joined. -/
namespace Go.Proofs.Ytcejdmggacjnoaa
open Go.RowKit

set_option maxHeartbeats 400000 in
theorem lmax_any (x y : Int) (w : World) : Calls Try.prog 29 #[.int .i64 x, .int .i64 y] w fun e w' => e = .returned (.int .i64 (max x y)) ∧ w = w' := by
  go_enter Try.func29, Try.ntmps29
  by_cases h : y < x
  · go_wp2
    go_ret
    exact ⟨ret_int (Int.max_eq_left (by omega)).symm, rfl⟩
  · go_wp2
    go_ret
    exact ⟨ret_int (Int.max_eq_right (by omega)).symm, rfl⟩
set_option maxHeartbeats 400000 in
theorem lmin_any (x y : Int) (w : World) : Calls Try.prog 48 #[.int .i64 x, .int .i64 y] w fun e w' => e = .returned (.int .i64 (min x y)) ∧ w = w' := by
  go_enter Try.func48, Try.ntmps48
  by_cases h : x < y
  · go_wp2
    go_ret
    exact ⟨ret_int (Int.min_eq_left (by omega)).symm, rfl⟩
  · go_wp2
    go_ret
    exact ⟨ret_int (Int.min_eq_right (by omega)).symm, rfl⟩
def LenDraw (b : Nat) (a : Option Addr) (la ca : Nat) (xs : List UInt8) (f : List Nat) (t : Int) (w0 : World) (e : Ending) (w' : World) : Prop :=
  ∃ v : Int, e = .returned (.int .i64 v) ∧ (-1 ≤ v ∧ v ≤ 37) ∧ SrcB b a la ca xs f t w' ∧ Chg [b] w0 w'
set_option maxHeartbeats 2000000 in
theorem drawLen_any (b : Nat) (a : Option Addr) (la ca : Nat) (xs : List UInt8) (f : List Nat) (t : Int) (x : Shp) (w : World) (h : SrcB b a la ca xs f t w) (ht : t ≤ 1073741600) :
    Calls Try.prog 30 #[.pointer (some ⟨b, 0, none⟩), .agg x.cells] w (LenDraw b a la ca xs f (t + 2) w) := by
  obtain ⟨g, c, d, p, r, q, bb, u, tt⟩ := x
  simp only [Shp.cells]
  have HS0 := Lib.hid (h.ext ((Chg.refl [] w).alloc (.cells #[.int .i64 g, .int .i64 c, .int .i64 d, .int .i64 p, .int .i64 r, .int .i64 q, .int .i64 bb, .int .i64 u, .int .i64 tt] 29)))
  clear h
  go_enter Try.func30, Try.ntmps30
  go_wp2_with fail
  refine (lmin_any 3 d _).mono ?_
  rintro e w' ⟨rfl, rfl⟩
  go_wp2_with fail
  refine (lmax_any 1 (min 3 d) _).mono ?_
  rintro e w' ⟨rfl, rfl⟩
  obtain ⟨k, hk⟩ : ∃ k, k = max 1 (min 3 d) := ⟨_, rfl⟩
  rw [← hk]
  have hk1 : 1 ≤ k ∧ k ≤ 3 := by omega
  clear hk
  go_wp2_with fail
  refine (next_any b a la ca xs f t (3 * (4 * k)) _ HS0.out (by omega) (by omega) (by omega)).mono ?_
  rintro e w2 ⟨v, rfl, hd, hs2, hc2⟩
  have hv0 := hd.1; have hv1 := hd.2.1 (by omega)
  have HS2 := Lib.hid hs2
  have HC2 := Lib.hid (((Chg.refl [b] w).alloc (.cells #[.int .i64 g, .int .i64 c, .int .i64 d, .int .i64 p, .int .i64 r, .int .i64 q, .int .i64 bb, .int .i64 u, .int .i64 tt] 29)).trans hc2 (fun y hy => .inl hy))
  clear hs2 hc2 hd
  go_wp2_with fail
  refine (pickN_any b a la ca xs f (t + 1) 7 [1 + v, 4 * k, 4 * k + 1, 3 * (4 * k), 3 * (4 * k) + 1, 0, -1] w2 HS2.out (by omega) (by intro y hy; simp only [List.mem_cons, List.not_mem_nil, or_false] at hy; constructor <;> omega) rfl (by omega) (by omega) _ rfl _ rfl).mono ?_
  rintro e w3 ⟨v3, rfl, hd3, hs3, hc3⟩
  have hb3 : -1 ≤ v3 ∧ v3 ≤ 37 := by simp only [List.mem_cons, List.not_mem_nil, or_false] at hd3; omega
  have HS3 := Lib.hid hs3; have HC3 := Lib.hid (HC2.out.trans hc3 (fun y hy => .inl hy))
  clear hs3 hc3 hd3
  go_wp2_with fail
  go_ret
  exact ⟨v3, rfl, hb3, HS3.out.mono (by omega), HC3.out⟩
def ObjDraw (w0 : World) (e : Ending) (w' : World) : Prop :=
  ∃ (x : Shp) (A : Option Addr) (l C : Nat) (ys : List UInt8) (g : List Nat), e = .returned (.tuple #[.agg x.cells, .slice A l C]) ∧ x.small ∧ l ≤ 37 ∧ byteL.sl w' A l C ys g ∧ Chg [] w0 w'
set_option maxRecDepth 100000 in
set_option maxHeartbeats 2000000 in
theorem drawObj_any (a : Option Addr) (la ca : Nat) (xs : List UInt8) (f : List Nat) (w : World) (ha : byteL.sl w a la ca xs f) (hla : la ≤ 1048576) :
    Calls Try.prog 15 #[.slice a la ca] w (ObjDraw w) := by
  have HA := Lib.hid ha
  have hfw := fun x (hx : x ∈ f) => byteL.sl_lt ha x hx
  have HFW := Lib.hid hfw
  clear ha hfw
  go_enter Try.func15, Try.ntmps15
  go_wp2_with fail
  refine (source_any a la ca xs f _ (byteL.sl_ext HA.out ((Chg.refl [] w).alloc _)) hla).mono ?_
  rintro e w1 ⟨rfl, hs1, hc1⟩
  have HS1 := Lib.hid hs1; have HR1 := Lib.hid (hc1.keep0 (new_alloc w _)); have HC1 := Lib.hid (((Chg.refl [] w).alloc _).trans0 hc1)
  have hsz : w.heap.size + 1 ≤ w1.heap.size := by have := hc1.size; simpa using this
  obtain ⟨b, hb⟩ : ∃ b, b = (w.alloc (.cells #[.int .i64 0, .int .i64 0, .int .i64 0, .int .i64 0, .int .i64 0, .int .i64 0, .int .i64 0, .int .i64 0, .int .i64 0] 29)).heap.size := ⟨_, rfl⟩
  rw [← hb] at HS1 ⊢
  rw [show w.heap.size + 1 = b by rw [hb]; simp] at hsz
  have hbw : b = w.heap.size + 1 := by rw [hb]; simp
  have HB := Lib.hid hbw
  have hnb : w.heap.size ∉ [b] := fun hm => by rw [List.mem_singleton] at hm; omega
  clear hs1 hc1 hb hbw
  go_wp2_with fail
  refine (bent_any b a la ca xs f 0 _ HS1.out (by omega)).mono ?_
  rintro e w2 ⟨x, rfl, hsm, hs2, hc2⟩
  have HSM := Lib.hid hsm
  obtain ⟨g, c, d, p, r, q, bb, u, tt⟩ := x
  simp only [Shp.cells]
  have HS2 := Lib.hid hs2; have HR2 := Lib.hid (hc2.keepb HR1.out hnb)
  have HC2 := Lib.hid (HC1.out.trans hc2 (fun y hy => .inr (by rw [List.mem_singleton] at hy; have := HB.out; omega)))
  have HX2 := Lib.hid (new_alloc w2 (.cells #[.int .i64 g, .int .i64 c, .int .i64 d, .int .i64 p, .int .i64 r, .int .i64 q, .int .i64 bb, .int .i64 u, .int .i64 tt] 29))
  have hz2 : b < w2.heap.size := hs2.lt
  have HNW := Lib.hid (show w2.heap.size ∉ [b] from fun hm => by rw [List.mem_singleton] at hm; omega)
  have HNX := Lib.hid (show w2.heap.size ∉ [w.heap.size] from fun hm => by rw [List.mem_singleton] at hm; have := HB.out; omega)
  have HDL := Lib.hid (fun (w' : World) h => drawLen_any b a la ca xs f (0 + 11) ⟨g, c, d, p, r, q, bb, u, tt⟩ w' h (by omega))
  simp only [Shp.cells] at HDL
  have HS3 := Lib.hid (HS2.out.ext (((Chg.refl [] w2).alloc (.cells #[.int .i64 g, .int .i64 c, .int .i64 d, .int .i64 p, .int .i64 r, .int .i64 q, .int .i64 bb, .int .i64 u, .int .i64 tt] 29)).drew))
  have HC3 := Lib.hid ((HC2.out.alloc (.cells #[.int .i64 g, .int .i64 c, .int .i64 d, .int .i64 p, .int .i64 r, .int .i64 q, .int .i64 bb, .int .i64 u, .int .i64 tt] 29)).drew)
  have HR3 := Lib.hid (show (w2.alloc (.cells #[.int .i64 g, .int .i64 c, .int .i64 d, .int .i64 p, .int .i64 r, .int .i64 q, .int .i64 bb, .int .i64 u, .int .i64 tt] 29)).drew.heap[w.heap.size]? = some _ from keep_drew (keep_alloc HR2.out _))
  have HX3 := Lib.hid (show (w2.alloc (.cells #[.int .i64 g, .int .i64 c, .int .i64 d, .int .i64 p, .int .i64 r, .int .i64 q, .int .i64 bb, .int .i64 u, .int .i64 tt] 29)).drew.heap[w2.heap.size]? = some (.cells #[.int .i64 g, .int .i64 c, .int .i64 d, .int .i64 p, .int .i64 r, .int .i64 q, .int .i64 bb, .int .i64 u, .int .i64 tt] 29 (0, 0)) from keep_drew HX2.out)
  clear hs2 hc2 hsm
  go_upto_region 3 with (refine store_new rfl _ _ 29 rfl rfl rfl rfl infoShD rfl rfl rfl ?_)
  obtain ⟨SS, HSI, HSO⟩ := rg_cond (fun w' => Know w2.heap.size #[.int .i64 g, .int .i64 c, .int .i64 d, .int .i64 p, .int .i64 r, .int .i64 q, .int .i64 bb, .int .i64 u, .int .i64 tt] w')
  have hS0 := HSI.out _ (Know.of HX3.out)
  refine rg_start SS (by kernel_rfl) hS0 ?_
  refine rgL 0 hS0 HSO ?_
  refine rgT 1 hS0 ?_
  refine rgT 2 hS0 ?_
  refine rgL 3 hS0 HSO ?_
  refine rg_call 4 rfl (by kernel_rfl) (fun K hK => ?_)
  go_simp
  go_at_call 30
  refine (HDL.out _ HS3.out).mono ?_
  rintro e w4 ⟨v, rfl, hv, hs4, hc4⟩
  have HS4 := Lib.hid hs4; have HX4 := Lib.hid (hc4.keepb HX3.out HNW.out); have HR4 := Lib.hid (hc4.keepb HR3.out hnb)
  have HC4 := Lib.hid (HC3.out.trans hc4 (fun y hy => .inr (by rw [List.mem_singleton] at hy; have := HB.out; omega)))
  have HV := Lib.hid hv
  clear hs4 hc4 hv
  go_wp2_with fail
  refine hK.out _ _ (HSI.out _ (Know.of HX4.out)) (fun hS1 => ?_)
  clear hK K
  try simp only [Act.put, List.setIfInBounds_toArray, List.set_cons_zero, List.set_cons_succ]
  refine rg_call 5 rfl (by kernel_rfl) (fun K hK => ?_)
  go_simp
  go_at_call 29
  refine (lmax_any 0 v _).mono ?_
  rintro e w' ⟨rfl, rfl⟩
  obtain ⟨n, hn⟩ : ∃ n, n = max 0 v := ⟨_, rfl⟩
  rw [← hn]
  have hn1 : 0 ≤ n ∧ n ≤ 37 := by have := HV.out; omega
  have HNB := Lib.hid hn1
  clear hn hn1
  go_wp2_with fail
  refine hK.out _ _ (HSI.out _ (Know.of HX4.out)) (fun hS2 => ?_)
  clear hK K
  try simp only [Act.put, List.setIfInBounds_toArray, List.set_cons_zero, List.set_cons_succ]
  refine rg_call 6 rfl (by kernel_rfl) (fun K hK => ?_)
  go_simp
  go_at_call 28
  refine (some_any b a la ca xs f (0 + 11 + 2) n _ HS4.out (by have := HNB.out; omega) (by have := HNB.out; omega) (by have := HNB.out; omega) (by omega)).mono ?_
  rintro e w5 ⟨A5, C5, g5, ys, rfl, hyl, hsl5, hfr5, hs5, hc5⟩
  have HX5 := Lib.hid (hc5.keepb HX4.out HNW.out); have HR5 := Lib.hid (hc5.keepb HR4.out hnb)
  have HC5 := Lib.hid (HC4.out.trans hc5 (fun y hy => .inr (by rw [List.mem_singleton] at hy; have := HB.out; omega)))
  have HY5 := Lib.hid hsl5; have HYL := Lib.hid hyl
  have HNG := Lib.hid (show w.heap.size ∉ g5 from fun hm => by have h1 := (hfr5.2 _ hm).1; have h2 := HC4.out.size; have h3 := ltOf HR4.out; omega)
  generalize ys.length = l5 at HY5 HYL ⊢
  clear hs5 hc5 hsl5 hyl hfr5
  go_wp2_with fail
  refine hK.out _ _ (HSI.out _ (Know.of HX5.out)) (fun hS3 => ?_)
  clear hK K
  try simp only [Act.put, List.setIfInBounds_toArray, List.set_cons_zero, List.set_cons_succ]
  refine rg_call 7 rfl (by kernel_rfl) (fun K hK => ?_)
  refine store_step rfl _ _ 29 rfl rfl rfl infoShD HR5.out rfl rfl rfl ?_
  intro w9 hb9 hc9
  have HB9 := Lib.hid hb9; have HC9 := Lib.hid hc9
  clear hb9 hc9
  refine hK.out _ _ (HSI.out _ (Know.of (HC9.out.keepb HX5.out HNX.out))) (fun hS4 => ?_)
  clear hK K
  try simp only [Act.put]
  refine rgT 8 hS4 ?_
  refine wpAnyH_done (by kernel_rfl) ?_ _
  have c9 := cellsOf HB9.out
  go_wp2_with fail
  refine bodyPost_ret (v := .tuple #[.agg #[.int .i64 g, .int .i64 c, .int .i64 d, .int .i64 p, .int .i64 r, .int .i64 q, .int .i64 bb, .int .i64 u, .int .i64 tt], .slice A5 l5 C5]) (by simp [results, Try.results15, go_sem, c9]) rfl ?_
  have hl5 : l5 ≤ 37 := by have := HYL.out; have := HNB.out; omega
  exact ⟨⟨g, c, d, p, r, q, bb, u, tt⟩, A5, l5, C5, ys, g5, rfl, HSM.out, hl5, byteL.sl_chg HY5.out HC9.out (fun y hy hm => by rw [List.mem_singleton] at hm; subst hm; exact HNG.out hy), HC5.out.trans HC9.out (fun y hy => .inr (by rw [List.mem_singleton] at hy; omega))⟩
theorem rows_flat {xs : List UInt8} {k n : Nat} (hl : xs.length ≤ n * k) : ∀ m, m ≤ n → ((List.range m).map (rowL xs k)).flatten = (xs ++ List.replicate (n * k - xs.length) 0).take (m * k)
  | 0, _ => by simp
  | m + 1, hm => by
    rw [List.range_succ, List.map_append, List.flatten_append, rows_flat hl m (by omega), Nat.add_mul, Nat.one_mul, List.take_add, List.map_singleton, List.flatten_singleton, ← row_of hl (show m < n by omega), Nat.add_mul, Nat.one_mul, Nat.add_sub_cancel_left]
theorem split_join {s : Shp} {ys : List UInt8} (h : (splitRes s ys).1 = 0) : joinRes s (splitRes s ys).2 ys.length = (0, ys) ∧ (s.parts ys.length).2 = ((splitRes s ys).2.length : Int) ∧ 0 < (splitRes s ys).2.length := by
  have hp : (s.parts ys.length).1 = 0 := by
    unfold splitRes at h
    by_cases h1 : (s.parts ys.length).1 = 0
    · exact h1
    · rw [if_pos h1] at h; exact h
  obtain ⟨hs, hl1, hl36, n, k, e2, ek, ew, en, hn3, hnl, hm⟩ := split_ok hp
  have e : splitRes s ys = (0, (List.range n).map (rowL ys k)) := by rw [splitRes, if_neg (fun h2 => h2 hp), e2, ew]; rfl
  have hfl := rows_flat hnl n (Nat.le_refl _)
  have hfull : (ys ++ List.replicate (n * k - ys.length) 0).length = n * k := by rw [List.length_append, List.length_replicate]; omega
  rw [List.take_of_length_le (by omega)] at hfl
  have hn1 : 0 < n := (hm 0).1 (by omega)
  refine ⟨?_, by rw [e, e2]; simp, by rw [e]; simpa using hn1⟩
  rw [e, joinRes, if_neg (fun h2 => h2 hp), if_neg (by rw [e2]; simp), if_neg, hfl]
  · simp
  · rw [List.any_eq_true]
    rintro ⟨y, hy, h2⟩
    obtain ⟨j, -, rfl⟩ := List.mem_map.1 hy
    rw [rowL_length, ew] at h2
    simp at h2
set_option maxRecDepth 100000 in
set_option maxHeartbeats 8000000 in
theorem walk_FnObjects (W : World) (a : Option Addr) (la ca : Nat) (xs : List UInt8) (f : List Nat) (o : byteL.sl W a la ca xs f) :
    Calls Try.prog 4 #[.slice a la ca] W fun e w' => e = .returned (.bool true) ∧ Chg [] W w' := by
  have hfl : ∀ (n : Int) (a : Option Addr) (l c : Nat) (w : World), (Instr.field 27 (.agg #[.int .i64 n, .slice a l c]) 0).run Try.prog w = .ok (.int .i64 n) w := fun _ _ _ _ _ => by kernel_rfl
  have hfi : ∀ (n m : Int) (w : World), (Instr.field 44 (.agg #[.int .i64 n, .int .i64 m]) 1).run Try.prog w = .ok (.int .i64 m) w := fun _ _ _ => by kernel_rfl
  have hm := byteL.sl_max o
  have HA := Lib.hid o
  have HBG := Lib.hid (lwBig_any a la ca W)
  clear o
  by_cases hz : (1048576 : Int) < (la : Int)
  · rw [decide_eq_true hz] at HBG
    go_enter Try.func4, Try.ntmps4
    go_wp2_with fail
    refine HBG.out.mono ?_; rintro e w' ⟨rfl, rfl⟩
    go_wp2_with fail
    go_ret
    exact ⟨rfl, Chg.refl _ _⟩
  rw [decide_eq_false hz] at HBG
  go_enter Try.func4, Try.ntmps4
  go_wp2_with fail
  refine HBG.out.mono ?_; rintro e w' ⟨rfl, rfl⟩
  go_wp2_with fail
  refine (drawObj_any a la ca xs f W HA.out (by omega)).mono ?_
  rintro e w1 ⟨x, A, l, C, ys, g0, rfl, -, hl, hsl, hc1⟩
  have HY := Lib.hid hsl; have HC1 := Lib.hid hc1
  have HI := Lib.hid (fun (w : World) (h : Chg [] w1 w) => impl_splitO x A l C ys g0 w (byteL.sl_ext HY.out h))
  have HSP := Lib.hid (fun (w : World) (h : Chg [] w1 w) => spec_splitO x A l C ys g0 w (byteL.sl_ext HY.out h))
  have HP := Lib.hid (impl_partsFor x (l : Int) ⟨by omega, by omega⟩)
  have HJ := Lib.hid (fun (a3 : Option Addr) (l3 c3 : Nat) (R : List (List UInt8)) (f3 : List Nat) (w : World) h => impl_joinO x a3 l3 c3 R f3 (l : Int) ⟨by omega, by omega⟩ w h)
  have hok := @split_join x ys
  rw [← hsl.1] at hok
  obtain ⟨q, hq⟩ : ∃ q, q = splitRes x ys := ⟨_, rfl⟩
  rw [← hq] at hok HI HSP
  clear hq
  obtain ⟨n, R⟩ := q
  simp only at hok
  have HOK := Lib.hid hok
  have HLY := Lib.hid hsl.1
  clear hsl hc1 hok
  obtain ⟨lb, hlb⟩ : ∃ lb, lb = R.length := ⟨_, rfl⟩
  have HLB := Lib.hid hlb
  clear hlb
  generalize x.parts (l : Int) = PQ at HP HOK
  obtain ⟨pc, pv⟩ := PQ
  generalize hJR : (fun RR => joinRes x RR (l : Int)) = JR at HOK
  have HJR := Lib.hid (fun RR => congrFun hJR RR)
  clear hJR
  obtain ⟨g, c, d, p, r, q, bb, u, tt⟩ := x
  simp only [Shp.cells] at HI HSP HP HJ ⊢
  have HX1 := Lib.hid (new_alloc w1 (.cells #[.int .i64 g, .int .i64 c, .int .i64 d, .int .i64 p, .int .i64 r, .int .i64 q, .int .i64 bb, .int .i64 u, .int .i64 tt] 29))
  have HC1' := Lib.hid ((Chg.refl [] w1).alloc (.cells #[.int .i64 g, .int .i64 c, .int .i64 d, .int .i64 p, .int .i64 r, .int .i64 q, .int .i64 bb, .int .i64 u, .int .i64 tt] 29))
  go_wp2_with (refine store_new rfl _ _ 29 rfl rfl rfl rfl infoShD rfl rfl rfl ?_)
  refine (HI.out _ HC1'.out).mono ?_
  rintro e w2 ⟨a3, c3, f3, rfl, hs3, -, hc3⟩
  simp only at hs3 ⊢
  rw [← HLB.out] at hs3 ⊢
  have HS3 := Lib.hid hs3
  have HX2 := Lib.hid (hc3.keep0 HX1.out)
  have HC2 := Lib.hid (HC1'.out.trans0 hc3)
  have HB2 := Lib.hid (new_alloc w2 (.cells #[.int .i64 n, .slice a3 lb c3] 27))
  have HX2' := Lib.hid (keep_alloc HX2.out (.cells #[.int .i64 n, .slice a3 lb c3] 27))
  have HC2' := Lib.hid (HC2.out.alloc (.cells #[.int .i64 n, .slice a3 lb c3] 27))
  clear hs3 hc3
  by_cases hn : n = 0
  · have hnz : (n != (0 : Int)) = false := by simp [hn]
    obtain ⟨e1, e2, e3⟩ := HOK.out hn
    subst hn
    subst e2
    have HRJ := Lib.hid e1
    have hlb0 : 0 < lb := by rw [HLB.out]; exact e3
    rw [← HLB.out] at HP
    clear e1 e3 HOK
    have cX := cellsOf HX2'.out; have lX := ltOf HX2'.out; have cB := cellsOf HB2.out; have lB := ltOf HB2.out
    go_wp2_with fail
    refine (HJ.out a3 lb c3 R f3 _ (byteL.slice.sl_ext HS3.out ((Chg.refl [] w2).alloc _))).mono ?_
    rintro e w3 ⟨a4, c4, f4, rfl, hs4, -, hc4⟩
    rw [HRJ.out] at hs4 ⊢
    simp only at hs4 ⊢
    rw [← HLY.out] at hs4 ⊢
    have HS4 := Lib.hid hs4
    have HX3 := Lib.hid (hc4.keep0 HX2'.out); have HB3 := Lib.hid (hc4.keep0 HB2.out)
    have HC3 := Lib.hid (HC2'.out.trans0 hc4)
    have HX5 := Lib.hid (show (w3.alloc (.cells #[.int .i64 0, .slice a4 l c4] 41)).drew.heap[w1.heap.size]? = some _ from keep_drew (keep_alloc HX3.out _))
    have HB5 := Lib.hid (show (w3.alloc (.cells #[.int .i64 0, .slice a4 l c4] 41)).drew.heap[w2.heap.size]? = some _ from keep_drew (keep_alloc HB3.out _))
    have HJ5 := Lib.hid (show (w3.alloc (.cells #[.int .i64 0, .slice a4 l c4] 41)).drew.heap[w3.heap.size]? = some (.cells #[.int .i64 0, .slice a4 l c4] 41 (0, 0)) from keep_drew (new_alloc w3 _))
    have HC5 := Lib.hid ((HC3.out.alloc (.cells #[.int .i64 0, .slice a4 l c4] 41)).drew)
    have HLW := Lib.hid (lwBytes_any a4 A l c4 C ys f4 g0 _ (byteL.sl_ext HS4.out (((Chg.refl [] w3).alloc (.cells #[.int .i64 0, .slice a4 l c4] 41)).drew)) (byteL.sl_ext HY.out HC5.out))
    clear hs4 hc4 cX lX cB lB
    have c4' := cellsOf (keep_alloc HX3.out (.cells #[.int .i64 0, .slice a4 l c4] 41))
    go_wp2_with fail
    obtain ⟨SS, HSI, HSO⟩ := rg_cond (fun w' => Know w1.heap.size #[.int .i64 g, .int .i64 c, .int .i64 d, .int .i64 p, .int .i64 r, .int .i64 q, .int .i64 bb, .int .i64 u, .int .i64 tt] w' ∧ Know w2.heap.size #[.int .i64 0, .slice a3 lb c3] w' ∧ Know w3.heap.size #[.int .i64 0, .slice a4 l c4] w')
    have hS0 := HSI.out _ ⟨(Know.of HX5.out), (Know.of HB5.out), (Know.of HJ5.out)⟩
    refine rg_start SS (by kernel_rfl) hS0 ?_
    refine rgT 0 hS0 ?_
    refine rgL 1 hS0 HSO ?_
    refine rgT 2 hS0 ?_
    refine rgT 3 hS0 ?_
    refine rgT 4 hS0 ?_
    refine rgL 5 hS0 HSO ?_
    refine rgT 6 hS0 ?_
    refine rg_call 7 rfl (by kernel_rfl) (fun K hK => ?_)
    go_simp
    go_at_call 17
    refine HLW.out.mono ?_
    rintro e w6 ⟨rfl, hc6⟩
    have HX6 := Lib.hid (hc6.keep0 HX5.out); have HB6 := Lib.hid (hc6.keep0 HB5.out); have HJ6 := Lib.hid (hc6.keep0 HJ5.out); have HC6 := Lib.hid (HC5.out.trans0 hc6); clear hc6
    go_wp2_with fail
    refine hK.out _ _ (HSI.out _ ⟨(Know.of HX6.out), (Know.of HB6.out), (Know.of HJ6.out)⟩) (fun hS1 => ?_)
    clear hK K
    try simp only [Act.put, List.setIfInBounds_toArray, List.set_cons_zero, List.set_cons_succ]
    refine rgT 8 hS1 ?_
    refine rgT 9 hS1 ?_
    refine rgL 10 hS1 HSO ?_
    refine rgT 11 hS1 ?_
    refine rgT 14 hS1 ?_
    refine rgL 15 hS1 HSO ?_
    refine rgT 16 hS1 ?_
    refine rg_call 12 rfl (by kernel_rfl) (fun K hK => ?_)
    go_simp
    go_at_call 18
    refine (HP.out _).mono ?_
    rintro e w7 ⟨rfl, hc7⟩
    have HX7 := Lib.hid (hc7.keep0 HX6.out); have HB7 := Lib.hid (hc7.keep0 HB6.out); have HJ7 := Lib.hid (hc7.keep0 HJ6.out); have HC7 := Lib.hid (HC6.out.trans0 hc7); clear hc7
    go_wp2_with fail
    refine hK.out _ _ (HSI.out _ ⟨(Know.of HX7.out), (Know.of HB7.out), (Know.of HJ7.out)⟩) (fun hS2 => ?_)
    clear hK K
    try simp only [Act.put, List.setIfInBounds_toArray, List.set_cons_zero, List.set_cons_succ]
    refine rgT 13 hS2 ?_
    refine rgT 17 hS2 ?_
    refine rgT 18 hS2 ?_
    refine rgT 19 hS2 ?_
    refine rgT 20 hS2 ?_
    refine rgL 21 hS2 HSO ?_
    refine rgT 22 hS2 ?_
    refine rgT 23 hS2 ?_
    refine rgT 24 hS2 ?_
    refine rgT 25 hS2 ?_
    refine wpAnyH_done (by kernel_rfl) ?_ _
    go_wp2_with fail
    go_ret
    exact ⟨by simp, HC1.out.trans0 HC7.out⟩
  · have hnz : (n != (0 : Int)) = true := by simp [hn]
    have cX := cellsOf HX2'.out; have lX := ltOf HX2'.out; have cB := cellsOf HB2.out; have lB := ltOf HB2.out
    go_upto_region 6 with fail
    have HX6 := Lib.hid (keep_drew HX2'.out); have HB6 := Lib.hid (keep_drew HB2.out)
    have HC6 := Lib.hid (HC2'.out.drew)
    clear cX lX cB lB
    obtain ⟨SS, HSI, HSO⟩ := rg_cond (fun w' => Know w1.heap.size #[.int .i64 g, .int .i64 c, .int .i64 d, .int .i64 p, .int .i64 r, .int .i64 q, .int .i64 bb, .int .i64 u, .int .i64 tt] w' ∧ Know w2.heap.size #[.int .i64 n, .slice a3 lb c3] w')
    have hS0 := HSI.out _ ⟨(Know.of HX6.out), (Know.of HB6.out)⟩
    refine rg_start SS (by kernel_rfl) hS0 ?_
    refine rgL 0 hS0 HSO ?_
    refine rgT 1 hS0 ?_
    refine rgT 4 hS0 ?_
    refine rgL 5 hS0 HSO ?_
    refine rg_call 2 rfl (by kernel_rfl) (fun K hK => ?_)
    go_simp
    go_at_call 5
    refine (HSP.out _ HC6.out).mono ?_
    rintro e w5 ⟨a5, c5, f5, rfl, -, -, hc5⟩
    have HX7 := Lib.hid (hc5.keep0 HX6.out); have HB7 := Lib.hid (hc5.keep0 HB6.out); have HC7 := Lib.hid (HC6.out.trans0 hc5); clear hc5
    go_wp2_with fail
    refine hK.out _ _ (HSI.out _ ⟨(Know.of HX7.out), (Know.of HB7.out)⟩) (fun hS1 => ?_)
    clear hK K
    try simp only [Act.put, List.setIfInBounds_toArray, List.set_cons_zero, List.set_cons_succ]
    refine rgT 3 hS1 ?_
    refine rgT 6 hS1 ?_
    refine rgT 7 hS1 ?_
    refine wpAnyH_done (by kernel_rfl) ?_ _
    go_wp2_with fail
    go_ret
    exact ⟨by simp, HC1.out.trans0 HC7.out⟩
end Go.Proofs.Ytcejdmggacjnoaa
