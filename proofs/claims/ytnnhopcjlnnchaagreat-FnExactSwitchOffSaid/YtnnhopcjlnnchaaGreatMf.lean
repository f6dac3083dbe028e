/- Several texts in one. -/
import Derived.Test.YtnnhopcjlnnchaaGreatRows
import Derived.Test.YtnnhopcjlnnchaaGreatSam
import Derived.Test.YtnnhopcjlnnchaaGreatBss
import Derived.Test.YtnnhopcjlnnchaaGreatMd
import Derived.Test.YtnnhopcjlnnchaaGreatPut
import Derived.Lib.SliceRun
/- Parts of slices; EqualFunc over lists of bytes. -/
namespace Go.Proofs.YtnnhopcjlnnchaaGreat
open Go.RowKit

theorem Lay.sl_take {α : Type} (L : Lay α) {w : World} {a : Option Addr} {len cap : Nat} {xs : List α} {fp : List Nat} (h : L.sl w a len cap xs fp) {n : Nat} (hn : n ≤ len) :
    ∃ f', (∀ b ∈ f', b ∈ fp) ∧ L.sl w a n cap (xs.take n) f' := by
  obtain ⟨h1, h2, h3, h4, ⟨rfl, rfl⟩ | ⟨b, off, cur, E, fr, fps, rfl, hb, hall, rfl⟩⟩ := h
  · simp only [List.length_nil] at h1
    obtain rfl : n = 0 := by omega
    exact ⟨[], by simp, rfl, by omega, h3, h4, .inl ⟨rfl, rfl⟩⟩
  · have hsp : L.all w ((cur.toList.drop off).take (len * L.n)) (xs.take n ++ xs.drop n) fps := by rw [List.take_append_drop]; exact hall
    obtain ⟨f1, f2, rfl, k1, k2⟩ := L.all_split hsp
    have hl : (xs.take n).length = n := by rw [List.length_take]; omega
    rw [hl, List.take_take, Nat.min_eq_left (Nat.mul_le_mul_right _ hn)] at k1
    exact ⟨b :: f1, by intro x hx; rcases List.mem_cons.1 hx with rfl | hx <;> simp [*], hl.symm, by omega, h3, h4, .inr ⟨b, off, cur, E, fr, f1, rfl, hb, k1, rfl⟩⟩
theorem Lay.sl_drop {α : Type} (L : Lay α) {w : World} {b off len cap : Nat} {xs : List α} {fp : List Nat} (h : L.sl w (some ⟨b, off, none⟩) len cap xs fp) {n : Nat} (hn : n ≤ len) :
    ∃ f', (∀ b ∈ f', b ∈ fp) ∧ L.sl w (some ⟨b, off + n * L.n, none⟩) (len - n) (cap - n) (xs.drop n) f' := by
  obtain ⟨h1, h2, h3, h4, ⟨rfl, rfl⟩ | ⟨b', off', cur, E, fr, fps, ha, hb, hall, rfl⟩⟩ := h
  · simp only [List.length_nil] at h1
    obtain rfl : n = 0 := by omega
    exact ⟨[], by simp, by simp; omega, by omega, by omega, (fun h => by cases h), .inl ⟨by simp, rfl⟩⟩
  · cases ha
    have hsp : L.all w ((cur.toList.drop off).take (len * L.n)) (xs.take n ++ xs.drop n) fps := by rw [List.take_append_drop]; exact hall
    obtain ⟨f1, f2, rfl, k1, k2⟩ := L.all_split hsp
    have hl : (xs.take n).length = n := by rw [List.length_take]; omega
    rw [hl, List.drop_take, List.drop_drop, ← Nat.sub_mul] at k2
    exact ⟨b :: f2, by intro x hx; rcases List.mem_cons.1 hx with rfl | hx <;> simp [*], by rw [List.length_drop]; omega, by omega, by omega, (fun h => by cases h), .inr ⟨b, _, cur, E, fr, f2, rfl, hb, k2, rfl⟩⟩
theorem Lay.sl_none {α : Type} (L : Lay α) (w : World) (a : Option Addr) : L.sl w a 0 0 [] [] := ⟨rfl, by omega, by simp [maxLen], fun _ => rfl, .inl ⟨rfl, rfl⟩⟩

theorem cf_bytesEqual : ∀ (args : Array Value) (w : World), (callFunc 183 args).run Tryz.prog w = .ok (.enter 183 args) w := fun _ _ => by go_simp
end Go.Proofs.YtnnhopcjlnnchaaGreat

/- A group is struck from what is on: both sides (slices.DeleteFunc at integers, l5Off). -/
namespace Go.Proofs.YtnnhopcjlnnchaaGreat
open Go.RowKit

theorem isl_fp {w : World} {b off n cap : Nat} {xs : List Int} {fp : List Nat} (h : intL.sl w (some ⟨b, off, none⟩) n cap xs fp) (hn : 0 < n) : fp = [b] := by
  obtain ⟨h1, h2, h3, h4, ⟨rfl, rfl⟩ | ⟨b', off', cur, E, fr, fps, ha, hb, hall, rfl⟩⟩ := h
  · simp at h1; omega
  · have hf : fps = [] := Lay.flat_all int_flat hall
    simp only [Option.some.injEq, Addr.mk.injEq, and_true] at ha
    obtain ⟨rfl, rfl⟩ := ha
    rw [hf]
theorem isl_put {w : World} {b off n cap : Nat} {xs : List Int} (h : intL.sl w (some ⟨b, off, none⟩) n cap xs [b]) {i : Nat} (hi : i < n) {v : Int} (hv : i64ok v) : intL.sl (w.setCell ⟨b, off + i, none⟩ (.int .i64 v)) (some ⟨b, off, none⟩) n cap (xs.set i v) [b] := by
  obtain ⟨fp', h1, h2, h3, h4, -⟩ := intL.sl_putN h (by simp) hi (vs := [.int .i64 v]) (x' := v) (f' := []) ⟨rfl, hv, rfl⟩ (by simp) (by simp)
  have e := isl_fp h1 (by omega)
  subst e
  have h5 : off + i * intL.n = off + i := by simp [intL]
  rw [h5] at h1
  exact h1
theorem isl_zeros {b off n cap : Nat} : ∀ (k i : Nat) (w : World) (ys : List Int), i + k ≤ n → intL.sl w (some ⟨b, off, none⟩) n cap ys [b] → ∃ zs, intL.sl (w.setCells b (off + i) (List.replicate k (.int .i64 0))) (some ⟨b, off, none⟩) n cap zs [b] ∧ zs.take i = ys.take i
  | 0, i, w, ys, _, h => ⟨ys, h, rfl⟩
  | k + 1, i, w, ys, hk, h => by
    obtain ⟨zs, h1, h2⟩ := isl_zeros k (i + 1) _ _ (by omega) (isl_put h (i := i) (by omega) i64z)
    refine ⟨zs, h1, ?_⟩
    have h3 := congrArg (List.take i) h2
    rw [List.take_take, List.take_take, Nat.min_eq_left (by omega), List.take_set_of_le (Nat.le_refl _)] at h3
    exact h3
set_option maxHeartbeats 400000 in
theorem off1_any (B : Nat) (g x : Int) (w : World) (hB : w.heap[B]? = some (.cells #[.int .i64 g] 2 (0, 0))) :
    Calls Tryz.prog 134 #[.int .i64 x, .pointer (some ⟨B, 0, none⟩)] w fun e w' => e = .returned (.bool (x == g)) ∧ w = w' := by
  have cB := cellsOf hB; have lB := ltOf hB
  clear hB
  go_enter Tryz.func134, Tryz.ntmps134
  go_wp2
  go_ret
  exact ⟨rfl, rfl⟩
set_option maxHeartbeats 1000000 in
theorem idxOff_any (B : Nat) (g : Int) (a : Option Addr) (l c : Nat) (xs : List Int) (f : List Nat) (w : World) (hB : w.heap[B]? = some (.cells #[.int .i64 g] 2 (0, 0))) (h6 : intL.sl w a l c xs f) (hg : g ∈ xs) :
    Calls Tryz.prog 174 #[.slice a l c, .func (.func 134) #[] #[.pointer (some ⟨B, 0, none⟩)]] w fun e w' => ∃ k : Nat, e = .returned (.int .i64 k) ∧ k < l ∧ RowKit.Hid (xs[k]? = some g ∧ ∀ y ∈ xs.take k, ¬ y = g) ∧ w = w' := by
  have hm := intL.sl_max h6
  have HL := Lib.hid h6.1
  have HA := Lib.hid h6
  have HG := Lib.hid hg
  have HC := Lib.hid (fun y => off1_any B g y w hB)
  clear h6 hB hg
  go_enter Tryz.func174, Tryz.ntmps174
  go_wp2
  go_loop [5, 8] (fun _ i => ∃ k : Nat, k ≤ l ∧ i = .int .i64 k ∧ RowKit.Hid (∀ y ∈ xs.take k, ¬ y = g)) (fun _ i => l - (intOf i).toNat)
  case atStart => exact ⟨0, by omega, rfl, by intro y hy; simp at hy⟩
  case round =>
    obtain ⟨k, hk, rfl, HK⟩ := hrel
    by_cases hlt : k < l
    · obtain ⟨y, b, off, HX, rfl, hcx, hok⟩ := int_at HA.out hlt
      have HCy := Lib.hid (HC.out y)
      by_cases h : y = g
      · rw [show (y == g) = true by simp [h]] at HCy
        have HR := Lib.hid (show xs[k]? = some g ∧ ∀ y ∈ xs.take k, ¬ y = g from ⟨by rw [HX.out.1, h], HK.out⟩)
        clear h
        go_wp2_with (go_at_call 134; refine HCy.out.mono ?_; rintro e w' ⟨rfl, rfl⟩)
        go_ret
        exact ⟨k, rfl, hlt, HR.out, rfl⟩
      · rw [show (y == g) = false by simp [h]] at HCy
        have HN := Lib.hid (show ∀ y ∈ xs.take (k + 1), ¬ y = g by
          intro z hz
          rw [take_next HX.out.1] at hz
          rcases List.mem_append.1 hz with h1 | h1
          · exact HK.out z h1
          · simp at h1; subst h1; exact h)
        clear h
        go_wp2_with (go_at_call 134; refine HCy.out.mono ?_; rintro e w' ⟨rfl, rfl⟩)
        go_round
        case rel => exact ⟨k + 1, by omega, by go_num, HN⟩
        case measure => simp [intOf]; omega
    · exact absurd rfl (HK.out g (by rw [List.take_of_length_le (by have := HL.out; omega)]; exact HG.out))
theorem filter_none {g : Int} {xs : List Int} (h : ∀ y ∈ xs, ¬ y = g) : xs.filter (fun y => y != g) = xs := List.filter_eq_self.2 (fun y hy => by simpa using h y hy)
set_option maxHeartbeats 2000000 in
theorem delOff_any (B : Nat) (g : Int) (b off n cap : Nat) (xs : List Int) (w : World) (hB : w.heap[B]? = some (.cells #[.int .i64 g] 2 (0, 0))) (h6 : intL.sl w (some ⟨b, off, none⟩) n cap xs [b]) (hlo : Loose w b) (hbB : b ≠ B) (hg : g ∈ xs) :
    Calls Tryz.prog 133 #[.slice (some ⟨b, off, none⟩) n cap, .func (.func 134) #[] #[.pointer (some ⟨B, 0, none⟩)]] w fun e w' => ∃ i, e = .returned (.slice (some ⟨b, off, none⟩) i cap) ∧ intL.sl w' (some ⟨b, off, none⟩) i cap (xs.filter (fun y => y != g)) [b] ∧ Chg [b] w w' := by
  have hm := intL.sl_max h6
  have hcl := h6.2.1
  have HL := Lib.hid h6.1
  have HA := Lib.hid h6
  have HB := Lib.hid hB; have HLO := Lib.hid hlo
  have HI := Lib.hid (idxOff_any B g _ _ _ _ _ w hB h6 hg)
  clear h6 hB hlo hg
  go_enter Tryz.func133, Tryz.ntmps133
  go_wp2_with fail
  refine HI.out.mono ?_
  rintro e w' ⟨k0, rfl, hk0, HK0, rfl⟩
  have hne : ((k0 : Int) == -1) = false := by simp
  go_wp2_with fail
  go_loopw [5, 6, 7] (fun vi vj _ wr => ∃ (i j : Nat) (ys : List Int) (Wr : World), Wr = wr ∧ vi = .int .i64 i ∧ vj = .int .i64 j ∧ i < j ∧ j ≤ n ∧ intL.sl wr (some ⟨b, off, none⟩) n cap ys [b] ∧ RowKit.Hid (ys.take i = (xs.take j).filter (fun y => y != g)) ∧ RowKit.Hid (ys.drop j = xs.drop j) ∧ Chg [b] w wr) (fun _ vj _ _ => n - (intOf vj).toNat)
  case atStart =>
    refine ⟨k0, k0 + 1, xs, _, rfl, rfl, by go_num, by omega, by omega, HA.out, ?_, rfl, Chg.refl _ _⟩
    show xs.take k0 = (xs.take (k0 + 1)).filter (fun y => y != g)
    rw [take_next HK0.out.1, List.filter_append, filter_none HK0.out.2]
    simp
  case round =>
    obtain ⟨i, j, ys, wr, rfl, rfl, rfl, hij, hj, hsl, HT, HD, hch⟩ := hrel
    have HS := Lib.hid hsl; have HCH := Lib.hid hch
    have cB := cellsOf (hch.keepb HB.out (by simpa using fun h => hbB h.symm))
    have hfr := (hch.loose b HLO.out).free
    have hbl := (hch.loose b HLO.out).lt
    have HBw := Lib.hid (hch.keepb HB.out (by simpa using fun h => hbB h.symm))
    clear hsl hch
    by_cases hlt : j < n
    · obtain ⟨y, b', off', HX, e, hcx, hok⟩ := int_at HS.out hlt
      obtain ⟨rfl, rfl⟩ : b = b' ∧ off = off' := by simpa using e
      obtain ⟨y2, b2, off2, -, e2, hcy, -⟩ := int_at HS.out (show i < n by omega)
      obtain ⟨rfl, rfl⟩ : b = b2 ∧ off = off2 := by simpa using e2
      have hxj : xs[j]? = some y := by
        have h1 := congrArg (fun l => l[0]?) HD.out
        simp only [List.getElem?_drop, Nat.add_zero] at h1
        rw [← h1]; exact HX.out.1
      have HXJ := Lib.hid hxj
      have HCy := Lib.hid (off1_any B g y wr HBw.out)
      clear hxj e e2
      by_cases h : y = g
      · rw [show (y == g) = true by simp [h]] at HCy
        have HN := Lib.hid (show ys.take i = (xs.take (j + 1)).filter (fun y => y != g) by rw [take_next HXJ.out, List.filter_append, HT.out]; simp [h])
        have HN2 := Lib.hid (show ys.drop (j + 1) = xs.drop (j + 1) by have h1 := congrArg (List.drop 1) HD.out; rw [List.drop_drop, List.drop_drop] at h1; exact h1)
        clear h
        go_wp2_with (go_at_call 134; refine HCy.out.mono ?_; rintro e w' ⟨rfl, rfl⟩)
        go_roundw
        case rel => exact ⟨i, j + 1, ys, _, rfl, rfl, by go_num, by omega, by omega, HS.out, HN, HN2, HCH.out⟩
        case measure => simp [intOf]; omega
      · rw [show (y == g) = false by simp [h]] at HCy
        have hyl : i < ys.length := by have := HS.out.1; omega
        have HN := Lib.hid (show (ys.set i y).take (i + 1) = (xs.take (j + 1)).filter (fun y => y != g) by
          rw [take_next HXJ.out, List.filter_append, ← HT.out, take_next (show (ys.set i y)[i]? = some y by rw [List.getElem?_set_self hyl]), List.take_set_of_le (Nat.le_refl _)]
          simp [h])
        have HN2 := Lib.hid (show (ys.set i y).drop (j + 1) = xs.drop (j + 1) by
          rw [List.drop_set_of_lt (by omega)]
          have h1 := congrArg (List.drop 1) HD.out; rw [List.drop_drop, List.drop_drop] at h1; exact h1)
        clear h
        go_wp2_with (go_at_call 134; refine HCy.out.mono ?_; rintro e w' ⟨rfl, rfl⟩)
        go_roundw
        case rel => exact ⟨i + 1, j + 1, ys.set i y, _, rfl, by go_num, by go_num, by omega, by omega, isl_put HS.out (by omega) hok.out, HN, HN2, HCH.out.setCell _ _ (.inl (by simp))⟩
        case measure => simp [intOf]; omega
    · obtain rfl : j = n := by omega
      have hltz : ¬ (j : Int) < (j : Int) := by omega
      have hcell : ∀ t, t < j - i → ∃ v, wr.cell? ⟨b, off + i + t, none⟩ = some v := fun t ht => by
        obtain ⟨y, b', off', HX, e, hcx, hok⟩ := int_at HS.out (show i + t < j by omega)
        obtain ⟨rfl, rfl⟩ : b = b' ∧ off = off' := by simpa using e
        exact ⟨_, by rw [Nat.add_assoc]; exact hcx⟩
      have hcl2 : ∀ ty, (Builtin.clear_ #[25] ty #[.slice (some ⟨b, off + i, none⟩) (j - i) (cap - i)]).run Tryz.prog wr = .ok (.tuple #[]) (wr.setCells b (off + i) (List.replicate (j - i) (.int .i64 0))) :=
        fun ty => Lib.run_clear_slice wr _ _ ty _ Tryz.underlying25 Tryz.zeroValue2 rfl rfl b (off + i) _ _ (by omega) (fun t ht => by obtain ⟨v, hv⟩ := hcell t ht; rw [hv]; rfl) (fun t _ => hfr _)
      obtain ⟨zs, hz, hzt⟩ := isl_zeros (j - i) i wr ys (by omega) HS.out
      obtain ⟨f', hf', hz2⟩ := intL.sl_take hz (n := i) (by omega)
      rw [hzt, HT.out, List.take_of_length_le (by have := HL.out; omega)] at hz2
      have HZ := Lib.hid hz2; have HF' := Lib.hid hf'; have HZ0 := Lib.hid hz
      clear hcell hz hzt hz2 hf'
      go_wp2_with fail
      go_ret
      refine ⟨i, rfl, ?_, HCH.out.setCells (.inl (by simp)) _ _⟩
      have h2 := HZ.out
      obtain ⟨q1, q2, q3, q4, -⟩ := h2
      obtain ⟨-, -, -, -, ⟨-, e⟩ | ⟨b', off', cur, E, fr, fps, ha, hb, hall, e⟩⟩ := HZ0.out
      · simp at e
      · simp only [Option.some.injEq, Addr.mk.injEq, and_true] at ha
        obtain ⟨rfl, rfl⟩ := ha
        refine ⟨q1, q2, q3, q4, .inr ⟨b, off, cur, E, fr, [], rfl, hb, ?_, rfl⟩⟩
        obtain ⟨-, -, -, -, ⟨e1, -⟩ | ⟨b2, off2, cur2, E2, fr2, fps2, ha2, hb2, hall2, -⟩⟩ := HZ.out
        · have hi0 : i = 0 := by rw [q1, e1]; rfl
          rw [e1, hi0]; simp [Lay.all]
        · simp only [Option.some.injEq, Addr.mk.injEq, and_true] at ha2
          obtain ⟨rfl, rfl⟩ := ha2
          rw [hb] at hb2
          obtain ⟨rfl, rfl, rfl⟩ : cur = cur2 ∧ E = E2 ∧ fr = fr2 := by simpa using hb2
          have hff : fps2 = [] := Lay.flat_all int_flat hall2
          rw [hff] at hall2; exact hall2
theorem bmh {w w' : World} {m : Nat} {o : Obj} (hc : Chg [] w w') (h : w.heap[m]? = some o) : w'.heap[m]? = some o := hc.keep0 h
set_option maxHeartbeats 2000000 in
theorem turnOff_any (m : Nat) {u0 u1 u2 u3 u4 u5 u6 u7 u8 u9 u11 u12 u13 u14 : Value} (b off la ca : Nat) (xs : List Int) (g : Int) (w : World) (h : w.heap[m]? = some (.cells #[u0, u1, u2, u3, u4, u5, u6, u7, u8, u9, .slice (some ⟨b, off, none⟩) la ca, u11, u12, u13, u14] 40 (0, 0))) (ha : intL.sl w (some ⟨b, off, none⟩) la ca xs [b]) (hlo : Loose w b) (hbm : b ≠ m) (hg : g ∈ xs) :
    Calls Tryz.prog 91 #[.pointer (some ⟨m, 0, none⟩), .int .i64 g] w fun e w' => e = .returned (.tuple #[]) ∧ ∃ wz i, intL.sl wz (some ⟨b, off, none⟩) i ca (xs.filter (fun y => y != g)) [b] ∧ Chg [b] w wz ∧ w' = wz.setCell ⟨m, 10, none⟩ (.slice (some ⟨b, off, none⟩) i ca) := by
  have cm := cellsOf h; have nm := ltOf h; have fm := freeOf h
  have hB := new_alloc w (.cells #[.int .i64 g] 2)
  have HM := Lib.hid (keep_alloc h (.cells #[.int .i64 g] 2))
  have hcA : Chg [] w (w.alloc (.cells #[.int .i64 g] 2)) := (Chg.refl [] w).alloc _
  have HD := Lib.hid (delOff_any w.heap.size g b off la ca xs _ hB (intL.sl_ext ha hcA) (hcA.loose b hlo) (by have := hlo.lt; omega) hg)
  have HC := Lib.hid hcA
  clear h ha hB hcA
  go_enter Tryz.func91, Tryz.ntmps91
  go_wp2_with fail
  refine HD.out.mono ?_
  rintro e wz ⟨i, rfl, hs, hc⟩
  have hmz := hc.keepb HM.out (by simpa using fun e => hbm e.symm)
  clear cm nm fm
  have cm := cellsOf hmz; have nm := ltOf hmz; have fm := freeOf hmz
  have HS := Lib.hid hs; have HCz := Lib.hid hc
  clear hs hc hmz
  go_wp2_with fail
  refine bodyPost_end (v := .tuple #[]) (by simp [results, Tryz.results91, go_sem]) rfl ?_
  exact ⟨rfl, wz, i, HS.out, (HC.out.mono (T := [b]) (by simp)).trans HCz.out (fun y hy => .inl hy), rfl⟩
set_option maxHeartbeats 2000000 in
theorem l5Off_any (m : Nat) {u0 u1 u2 u3 u4 u5 u6 u7 u8 u9 u11 u12 u13 u14 : Value} (a : Option Addr) (la ca : Nat) (xs : List Int) (f : List Nat) (g : Int) (w : World) (h : w.heap[m]? = some (.cells #[u0, u1, u2, u3, u4, u5, u6, u7, u8, u9, .slice a la ca, u11, u12, u13, u14] 40 (0, 0))) (ha : intL.sl w a la ca xs f) (hla : la ≤ 1048576) :
    Calls Tryz.prog 89 #[.pointer (some ⟨m, 0, none⟩), .int .i64 g] w fun e w' => e = .returned (.tuple #[]) ∧ ∃ wz v, Grow intL 2 w wz v (xs.filter (fun y => y != g)) ∧ w' = wz.setCell ⟨m, 10, none⟩ v := by
  obtain ⟨KI, _⟩ := kindI
  have HL := Lib.hid ha.1
  have HA := Lib.hid ha; have HM := Lib.hid h
  clear h ha
  go_enter Tryz.func89, Tryz.ntmps89
  go_wp2_with fail
  go_loopw [4, 5] (fun vo vi wr => ∃ (k : Nat) (Wr : World), Wr = wr ∧ k ≤ la ∧ vi = .int .i64 k ∧ Grow intL 2 w wr vo ((xs.take k).filter (fun y => y != g))) (fun _ vi _ => la - (intOf vi).toNat)
  case atStart => exact ⟨0, _, rfl, by omega, rfl, by rw [List.take_zero]; exact Grow.made (Chg.refl _ _)⟩
  case round =>
    obtain ⟨k, wr, rfl, hk, rfl, hg⟩ := hrel
    have hmr := hg.chg.keep0 HM.out
    have cm := cellsOf hmr; have nm := ltOf hmr; have fm := freeOf hmr
    have HG := Lib.hid hg
    clear hmr hg
    by_cases hlt : k < la
    · obtain ⟨y, b, off, HX, rfl, hcx, hok⟩ := int_at (intL.sl_ext HA.out HG.out.chg) hlt
      by_cases h : y = g
      · have hyg : (y != g) = false := by simp [h]
        have HN := Lib.hid (show (xs.take k).filter (fun y => y != g) = (xs.take (k + 1)).filter (fun y => y != g) by rw [take_next HX.out.1, List.filter_append]; simp [h])
        clear h
        go_wp2_with fail
        go_roundw
        case rel => exact ⟨k + 1, _, rfl, by omega, by go_num, by rw [← HN.out]; exact HG.out⟩
        case measure => simp [intOf]; omega
      · have hyg : (y != g) = true := by simp [h]
        have HN := Lib.hid (show (xs.take k).filter (fun y => y != g) ++ [y] = (xs.take (k + 1)).filter (fun y => y != g) by rw [take_next HX.out.1, List.filter_append]; simp [h])
        have HLL := Lib.hid (show ((xs.take k).filter (fun y => y != g)).length + [y].length ≤ maxLen ∧ (((xs.take k).filter (fun y => y != g)).length + [y].length) * 8 ≤ 140737488355328 by
          have h1 := List.length_filter_le (fun y => y != g) (xs.take k)
          rw [List.length_take] at h1
          simp only [List.length_cons, List.length_nil, maxLen]
          omega)
        clear h
        go_wp2_with (at_builtin; refine intL.wpList_grow rfl _ _ 25 rfl Tryz.underlying25 KI rfl HG.out ((Chg.refl [] wr).alloc (.cells #[.int .i64 y] 2)) ⟨wr.heap.size, 0, none⟩ 1 1 [.int .i64 y] (ys := [y]) (f := []) rfl rfl (new_cell wr (.int .i64 y) 2) (intL.all_single ⟨rfl, hok.out, rfl⟩) (Fresh.nil _ _) HLL.out.1 HLL.out.2 ?_; intro v' w' hg'; rw [HN.out] at hg'; have HG2 := Lib.hid hg'; clear hg')
        go_roundw
        case rel => exact ⟨k + 1, _, rfl, by omega, by go_num, HG2.out⟩
        case measure => simp [intOf]; omega
    · obtain rfl : k = la := by omega
      have hg := HG.out
      rw [List.take_of_length_le (by have := HL.out; omega)] at hg
      obtain ⟨a9, c9, f9, e9, -, -, -⟩ := hg.sl
      subst e9
      have HG3 := Lib.hid hg
      clear hg
      go_wp2_with fail
      refine bodyPost_end (v := .tuple #[]) (by simp [results, Tryz.results89, go_sem]) rfl ?_
      exact ⟨rfl, wr, _, HG3.out, rfl⟩
end Go.Proofs.YtnnhopcjlnnchaaGreat
