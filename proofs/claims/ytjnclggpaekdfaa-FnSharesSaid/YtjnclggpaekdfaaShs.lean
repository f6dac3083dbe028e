
/- The shares of those that are there sum up to what is wanted, in whatever order they come, for all codes: the walk. -/
import Derived.Test.YtjnclggpaekdfaaReg
import Derived.Test.YtjnclggpaekdfaaShd
import Derived.Test.YtjnclggpaekdfaaShl
import Derived.Deep.RegionLaw
namespace Go.Proofs.Ytjnclggpaekdfaa
open Go.RowKit

/-- a whole slice appended to a row of one's own: its elements lie where they lay -/
theorem Lay.wpList_own {α : Type} (L : Lay α) {P : Program} {E : TypeId} {bytes : Nat} {w : World} {v : Value} {xs ys : List α} {h : Option Nat} {f fps : List Nat} {ops : Array Oper} {rest : List Oper} {o : Oper} {a : Act} {Q : Exit → Act → World → Prop} (hgd : o.guard = none) (s x : Operand) (t : TypeId)
    (hop : o.op = .call { callee := .builtin .append, args := #[s, x], argTypes := #[t, t] }) (ht : P.underlying t = some (.slice E)) (K : Kind P E L.n bytes)
    (hs : a.eval s = v) (ho : L.os E w v xs h fps)
    {ad : Option Addr} {m c : Nat} (hx : a.eval x = .slice ad m c) (hsl : L.sl w ad m c ys f) (hf : ∀ g, h = some g → g ∉ f)
    (h63 : xs.length + ys.length ≤ maxLen) (hbytes : (xs.length + ys.length) * bytes ≤ 140737488355328)
    (hk : ∀ v' w' h' fps', L.os E w' v' (xs ++ ys) h' fps' → (h' = h ∨ h' = some w.heap.size) → (∀ b ∈ fps', b ∈ fps ∨ b ∈ f) → Chg h.toList w w' → wpList P ops Q rest (a.put o.dst v') w') : wpList P ops Q (o :: rest) a w := by
  refine wpList_plain hgd fun _ hK => ?_
  cases ad with
  | none =>
    have h0 : c = 0 := hsl.2.2.2.1 rfl
    have h1 : m = 0 := by have := hsl.2.1; omega
    have h2 : ys = [] := List.eq_nil_of_length_eq_zero (by have := hsl.1; omega)
    subst h0 h1 h2
    have hr := L.run_append_none t o.type ht K ho
    unfold Oper.wp execOp
    simp only [hop, resolve, invoke, builtin, Sem.run_bind, Sem.run_pure, Result.andThen_ok, List.map_toArray, List.map_cons, List.map_nil, hs, hx, hr]
    exact hK _ _ (hk v w h fps (by rw [List.append_nil]; exact ho) (.inl rfl) (fun b hb => .inl hb) (Chg.refl _ _))
  | some ad =>
    obtain ⟨news, fy, hnews, hall, hsub⟩ := L.sl_cells hsl
    refine L.wp_append s x t hop ht K hs ho ad m c news hx hsl.1 hnews hall (fun g hg hm => hf g hg (hsub _ hm)) h63 hbytes fun v' w' h' h1 h2 h3 => hK _ _ (hk v' w' h' _ h1 h2 (fun b hb => ?_) h3)
    rcases List.mem_append.1 hb with hb | hb
    · exact .inl hb
    · exact .inr (hsub _ hb)
/-- two bytes in a new row -/
theorem two_sl (w : World) (E : TypeId) (X Y : UInt8) {x y : Int} (hx : x = X.toNat) (hy : y = Y.toNat) : byteL.sl (w.alloc (.cells #[.int .u8 x, .int .u8 y] E)) (some ⟨w.heap.size, 0, none⟩) 2 2 [X, Y] [w.heap.size] := by
  subst hx hy
  refine ⟨rfl, Nat.le_refl _, by simp [maxLen], (fun h => by cases h), .inr ⟨w.heap.size, 0, _, E, (0, 0), [], rfl, new_alloc w _, ?_, rfl⟩⟩
  exact ⟨[_], [_], [], [], rfl, rfl, ⟨rfl, rfl⟩, [_], [], [], [], rfl, rfl, ⟨rfl, rfl⟩, rfl, rfl⟩
theorem sha_len {g c : Int} {ks : List Int} {p : Int} (h : (shaRes g c ks p).1 = 0) : (shaRes g c ks p).2.length = ks.length := by
  obtain ⟨⟨h1, h2⟩, ⟨h3, h4⟩, hr, _, hl, e⟩ := sha_ok h
  obtain ⟨n, rfl⟩ : ∃ n : Nat, g = (n : Int) := ⟨g.toNat, by omega⟩
  have hw := (wts_ok (p := p) (by omega : 1 ≤ n) (by omega) h4 hr (by omega)).2
  rw [e]
  show (wtsL (n : Int).toNat (ks.take (n : Int).toNat) p ++ List.replicate (ks.length - (n : Int).toNat) 0).length = _
  rw [List.length_append, Int.toNat_natCast, hw, List.length_replicate]
  omega
theorem sdn_next {all : List (List UInt8)} {ks : List Int} {B : List UInt8} {e : Nat} {x : Int} {Y : List UInt8} {y : UInt8} (hx : ks[e]? = some x) (hY : all[x.toNat]? = some Y) (hy : B[e]? = some y) :
    addL (sdn all ks B (ks.length - (e + 1))) (scaleL Y y) = sdn all ks B (ks.length - e) := by
  have he := (List.getElem?_eq_some_iff.1 hx).1
  obtain ⟨d, hd⟩ : ∃ d, ks.length - e = d + 1 := ⟨ks.length - e - 1, by omega⟩
  rw [hd, show ks.length - (e + 1) = d by omega]
  show _ = addL _ _
  rw [show ks.length - 1 - d = e by omega, List.getD_eq_getElem?_getD (l := ks), hx, List.getD_eq_getElem?_getD (l := B), hy, Option.getD_some, Option.getD_some, List.getD_eq_getElem?_getD (l := all), hY, Option.getD_some]
theorem enc_two {L : List (List UInt8)} {c : Int} (h : ∀ x ∈ L, x.length = 2) (h1 : 1 ≤ L.length) (h4 : L.length ≤ 4) (h0 : 0 ≤ c) (h2 : c ≤ 2) : encRes L c = (0, parL L 2 c.toNat) := by
  have hh : (L.headD []).length = 2 := by
    cases L with
    | nil => simp at h1
    | cons x xs => exact h x (by simp)
  unfold encRes
  rw [if_neg (by simp [inB]; omega), if_neg, if_neg (by omega), hh]
  intro hn
  exact hn (fun x hx => by rw [h x hx, hh])
set_option maxRecDepth 100000 in
set_option maxHeartbeats 8000000 in
theorem walk_FnShares (W : World) (a : Option Addr) (la ca : Nat) (xs : List UInt8) (f : List Nat) (o : byteL.sl W a la ca xs f) :
    Calls Try.prog 4 #[.slice a la ca] W fun e w' => e = .returned (.bool true) ∧ Chg [] W w' := by
  have hfd : ∀ (n : Int) (a : Option Addr) (l c : Nat) (w : World), (Instr.field 38 (.agg #[.int .i64 n, .slice a l c]) 0).run Try.prog w = .ok (.int .i64 n) w := fun _ _ _ _ _ => by kernel_rfl
  have hfe : ∀ (n : Int) (a : Option Addr) (l c : Nat) (w : World), (Instr.field 38 (.agg #[.int .i64 n, .slice a l c]) 1).run Try.prog w = .ok (.slice a l c) w := fun _ _ _ _ _ => by kernel_rfl
  have hfl : ∀ (n : Int) (a : Option Addr) (l c : Nat) (w : World), (Instr.field 28 (.agg #[.int .i64 n, .slice a l c]) 1).run Try.prog w = .ok (.slice a l c) w := fun _ _ _ _ _ => by kernel_rfl
  obtain ⟨KLL, _⟩ := kindLL
  have hm := byteL.sl_max o
  have HA := Lib.hid o
  have HBG := Lib.hid (lwBig_any a la ca W)
  clear o
  by_cases hz : (1048576 : Int) < (la : Int)
  · rw [decide_eq_true hz] at HBG
    go_enter Try.func4, Try.ntmps4
    go_wp2_with fail
    refine HBG.out.mono ?_; rintro e w' ⟨rfl, rfl⟩
    go_wp2_with fail
    go_ret
    exact ⟨rfl, Chg.refl _ _⟩
  rw [decide_eq_false hz] at HBG
  go_enter Try.func4, Try.ntmps4
  go_wp2_with fail
  refine HBG.out.mono ?_; rintro e w' ⟨rfl, rfl⟩
  go_wp2_with fail
  refine (drawShare_any a la ca xs f W HA.out (by omega)).mono ?_
  rintro e w1 ⟨g, c, p, A, C, ks, fk, rfl, hg, hc, hp, hkl, hks, hc1⟩
  have HK1 := Lib.hid hks; have HC1 := Lib.hid hc1
  have HGI := Lib.hid (show i64ok g ∧ i64ok c ∧ i64ok p by simp only [i64ok]; omega)
  have HIS := Lib.hid (fun (w : World) (h : Chg [] w1 w) => impl_shareOf2 A ks.length C ks fk g HGI.out.1 c HGI.out.2.1 p HGI.out.2.2 w (intL.sl_ext HK1.out h))
  have HSS := Lib.hid (fun (w : World) (h : Chg [] w1 w) => spec_shareOf2 A ks.length C ks fk g HGI.out.1 c HGI.out.2.1 p HGI.out.2.2 w (intL.sl_ext HK1.out h))
  have hok := @sha_ok g c ks p
  have hln := @sha_len g c ks p
  obtain ⟨q, hq⟩ : ∃ q, q = shaRes g c ks p := ⟨_, rfl⟩
  rw [← hq] at hok hln HIS HSS
  clear hq hks hc1
  obtain ⟨n, B⟩ := q
  simp only at hok hln HIS HSS
  generalize hkq : ks.length = lk at hkl HK1 HIS HSS hok hln ⊢
  have HLK := Lib.hid hkq
  have HOK := Lib.hid hok; have HLN := Lib.hid hln
  clear hkq hok hln
  go_wp2_with fail
  refine (HIS.out w1 (Chg.refl _ _)).mono ?_
  rintro e w2 ⟨a3, c3, f3, rfl, hz3, -, hc3⟩
  simp only at hz3 ⊢
  obtain ⟨lb, hlb⟩ : ∃ lb, lb = B.length := ⟨_, rfl⟩
  rw [← hlb] at hz3 ⊢
  have HLB := Lib.hid hlb
  have HZ2 := Lib.hid hz3; have HC2 := Lib.hid hc3
  have hBX := new_alloc w2 (.cells #[.int .i64 n, .slice a3 lb c3] 38)
  have HBX := Lib.hid (keep_drew hBX)
  have HBX0 := Lib.hid hBX
  have HCW := Lib.hid (HC2.out.alloc (.cells #[.int .i64 n, .slice a3 lb c3] 38))
  have HCWd := Lib.hid (HCW.out.drew)
  clear hz3 hc3 hBX hlb
  by_cases hn : n = 0
  · subst hn
    obtain ⟨⟨hg1, hg4⟩, ⟨hc0, hc2⟩, hr, ⟨hp0, hp1⟩, hgl, hB⟩ := HOK.out rfl
    have HB := Lib.hid (congrArg Prod.snd hB)
    have HRI := Lib.hid hr
    have hbk : lb = lk := by rw [HLB.out]; exact HLN.out rfl
    subst hbk
    clear hB hr HOK HLN HIS HSS
    have cB := cellsOf HBX0.out; have lB := ltOf HBX0.out
    go_wp2_with fail
    go_loopw [8, 9] (fun vl vg wr => ∃ (k : Nat) (L : List (List UInt8)) (Wr : World), Wr = wr ∧ (k : Int) ≤ g ∧ vg = .int .i64 k ∧ RowKit.Hid (L.length = k ∧ ∀ x ∈ L, x.length = 2) ∧ Grow byteL.slice 22 (w2.alloc (.cells #[.int .i64 0, .slice a3 lb c3] 38)) wr vl L) (fun _ vg _ => 4 - (intOf vg).toNat)
    case atStart => exact ⟨0, [], _, rfl, by omega, rfl, ⟨rfl, by simp⟩, Grow.madeN (Chg.refl [] _) (by simp)⟩
    case round =>
      obtain ⟨k, L, wr, rfl, hk, rfl, HL, hgr⟩ := hrel
      have HG := Lib.hid hgr
      have HCR := Lib.hid (HCW.out.trans0 hgr.chg)
      have HBR := Lib.hid (hgr.chg.keep0 HBX0.out)
      clear hgr cB lB
      by_cases hlt : (k : Int) < g
      · have HLL := Lib.hid (show L.length + [([] : List UInt8)].length ≤ maxLen ∧ (L.length + [([] : List UInt8)].length) * 24 ≤ 140737488355328 by have := HL.out.1; simp only [List.length_singleton, maxLen]; omega)
        go_wp2_with fail
        refine (lwAt_any a la ca xs f k 256 wr (byteL.sl_ext HA.out (HC1.out.trans0 HCR.out)) (by omega) (by omega) (by omega) (by omega) (by omega)).mono ?_
        rintro e w5 ⟨v, rfl, hd5, hc5⟩
        have hv0 := hd5.1; have hv1 := hd5.2.1 (by omega)
        have hvw : IntKind.u8.wrap v = v := IntWalk.u8_in _ (by omega)
        have HC5 := Lib.hid hc5
        clear hd5 hc5
        go_wp2_with fail
        refine (lwAt_any a la ca xs f (k + 7) 256 w5 (byteL.sl_ext HA.out ((HC1.out.trans0 HCR.out).trans0 HC5.out)) (by omega) (by omega) (by omega) (by omega) (by omega)).mono ?_
        rintro e w6 ⟨u, rfl, hd6, hc6⟩
        have hu0 := hd6.1; have hu1 := hd6.2.1 (by omega)
        have huw : IntKind.u8.wrap u = u := IntWalk.u8_in _ (by omega)
        have HC6 := Lib.hid (HC5.out.trans0 hc6)
        obtain ⟨V, hV⟩ : ∃ V : UInt8, v = (V.toNat : Int) := ⟨UInt8.ofNat v.toNat, by rw [UInt8.toNat_ofNat']; omega⟩
        obtain ⟨U, hU⟩ : ∃ U : UInt8, u = (U.toNat : Int) := ⟨UInt8.ofNat u.toNat, by rw [UInt8.toNat_ofNat']; omega⟩
        have HT := Lib.hid (two_sl w6 5 V U hV hU)
        have HT1 := Lib.hid (show byteL.slice.all ((w6.alloc (.cells #[.int .u8 v, .int .u8 u] 5)).alloc (.cells #[.slice (some ⟨w6.heap.size, 0, none⟩) 2 2] 22)) [.slice (some ⟨w6.heap.size, 0, none⟩) 2 2] [[V, U]] [w6.heap.size] from slc_all1 (x := [V, U]) (byteL.sl_ext HT.out ((Chg.refl [] _).alloc _)))
        clear hd6 hc6 hV hU
        go_wp2_with (at_builtin; (refine byteL.slice.wpList_grow rfl _ _ 24 rfl Try.underlying24 KLL rfl HG.out ((HC6.out.alloc _).alloc _) ⟨w6.heap.size + 1, 0, none⟩ 1 1 [.slice (some ⟨w6.heap.size, 0, none⟩) 2 2] (ys := [[V, U]]) (f := [w6.heap.size]) rfl rfl (by simpa using new_cell (w6.alloc (.cells #[.int .u8 v, .int .u8 u] 5)) (.slice (some ⟨w6.heap.size, 0, none⟩) 2 2) 22) HT1.out ⟨by simp, fun b hb => by rw [List.mem_singleton] at hb; subst hb; exact ⟨HC6.out.size, _, _, ((Chg.refl [] _).alloc _).keep0 (new_alloc w6 _)⟩⟩ HLL.out.1 HLL.out.2 ?_; intro v' w' hg'; have HN := Lib.hid hg'; clear hg'))
        go_roundw
        case rel => exact ⟨k + 1, L ++ [[V, U]], _, rfl, by omega, by go_num, ⟨by rw [List.length_append, HL.out.1]; rfl, fun x hx => by rcases List.mem_append.1 hx with hx | hx; exact HL.out.2 x hx; rw [List.mem_singleton] at hx; subst hx; rfl⟩, HN.out⟩
        case measure => simp [intOf]; omega
      · have hgk : g = (k : Int) := by omega
        subst hgk
        obtain ⟨al, cl, fl, rfl, hls, -, -⟩ := HG.out.sl
        rw [HL.out.1] at hls ⊢
        have HLS := Lib.hid hls
        have HLS1 := Lib.hid (byteL.slice.sl_ext hls ((Chg.refl [] wr).alloc (.cells #[] 22)))
        have hNF : ∀ q, (some wr.heap.size : Option Nat) = some q → q ∉ fl := fun q hq hm => by cases hq; exact Nat.lt_irrefl _ (byteL.slice.sl_lt hls _ hm)
        have HNF := Lib.hid hNF
        have HLL := Lib.hid (show ([] : List (List UInt8)).length + L.length ≤ maxLen ∧ (([] : List (List UInt8)).length + L.length) * 24 ≤ 140737488355328 by rw [HL.out.1]; simp only [List.length_nil, maxLen]; omega)
        have HEN := Lib.hid (enc_two HL.out.2 (by rw [HL.out.1]; omega) (by rw [HL.out.1]; omega) hc0 hc2)
        have HQ := Lib.hid (show codeL L 2 c.toNat = L ++ parL L 2 c.toNat from (codeL_eq c.toNat HL.out.2).symm)
        have HQL := Lib.hid (show (codeL L 2 c.toNat).length = k + c.toNat by rw [codeL_length, HL.out.1])
        have HSUM := Lib.hid (show sdn (codeL L 2 c.toNat) ks B ks.length = codeAt L 2 p by
          have h := shares_sum (L := L) (c := c.toNat) (ks := ks) (p := p) HL.out.2 (by rw [HL.out.1]; omega) (by rw [HL.out.1]; omega) (by omega) (by rw [HL.out.1, Int.toNat_of_nonneg hc0]; exact HRI.out) (by rw [HL.out.1, HLK.out]; omega)
          rw [HL.out.1] at h
          rw [HB.out, ← HLK.out]
          exact h)
        have HAT := Lib.hid (fun (i : Nat) (hi : (i : Int) ≤ k + c - 1) => (show ∃ Y, (codeL L 2 c.toNat)[i]? = some Y ∧ Y = codeAt L 2 (i : Int) ∧ Y.length = 2 from ⟨_, codeL_at (by rw [HL.out.1]; omega), rfl, codeAt_length HL.out.2 _⟩))
        have HKI := Lib.hid (fun (x : Int) (hx : x ∈ ks) => HRI.out.at hx)
        clear hls hNF
        go_wp2_with (at_builtin; (refine byteL.slice.wpList_own rfl _ _ 24 rfl Try.underlying24 KLL rfl (byteL.slice.os_made 22 wr #[] 0 (by simp [maxLen]) (by simp)) rfl HLS1.out HNF.out HLL.out.1 HLL.out.2 ?_; intro v4 w4 h4 f4 ho4 hh4 hs4 hc4; have HO4 := Lib.hid ho4; have HH4 := Lib.hid (And.intro hh4 (And.intro hs4 hc4)); clear ho4 hh4 hs4 hc4))
        have HW4 := Lib.hid (show Chg [] wr w4 from ((Chg.refl [] wr).alloc (.cells #[] 22)).trans HH4.out.2.2 (fun x hx => .inr (by simp at hx; omega)))
        have HX4 := Lib.hid (show ∀ q, h4 = some q → q < w4.heap.size from (byteL.slice.os_lt HO4.out).1)
        have hen := impl_encode2 al k cl L fl c HGI.out.2.1 w4 (byteL.slice.sl_ext HLS.out HW4.out)
        rw [HEN.out] at hen
        have HEC := Lib.hid hen
        clear hen
        go_wp2_with fail
        refine HEC.out.mono ?_
        rintro e w5 ⟨a5, c5, f5, rfl, hs5, hf5, hc5⟩
        simp only at hs5 ⊢
        obtain ⟨pl, hpl⟩ : ∃ pl, pl = (parL L 2 c.toNat).length := ⟨_, rfl⟩
        rw [← hpl] at hs5 ⊢
        have HS5 := Lib.hid hs5
        have HNF5 := Lib.hid (show ∀ q, h4 = some q → q ∉ f5 from fun q hq hm => by have := (hf5.2 q hm).1; have := HX4.out q hq; omega)
        have HO5 := Lib.hid (byteL.slice.os_ext HO4.out hc5)
        have hpc : pl = c.toNat := by have := HQL.out; rw [HQ.out, List.length_append, HL.out.1, ← hpl] at this; omega
        have HLL5 := Lib.hid (show (([] : List (List UInt8)) ++ L).length + (parL L 2 c.toNat).length ≤ maxLen ∧ ((([] : List (List UInt8)) ++ L).length + (parL L 2 c.toNat).length) * 24 ≤ 140737488355328 by rw [List.nil_append, HL.out.1, ← hpl, hpc]; simp only [maxLen]; omega)
        have HW5 := Lib.hid (HW4.out.trans0 hc5)
        have HCZ := Lib.hid (show ∀ q ∈ h4.toList, wr.heap.size ≤ q from fun q hq => by
          rcases HH4.out.1 with e | e <;> rw [e] at hq <;> simp at hq <;> omega)
        have HPL := Lib.hid hpl; have HPC := Lib.hid hpc
        clear hs5 hf5 hc5 hpl hpc
        obtain ⟨ln, hln⟩ : ∃ ln, ln = k + c.toNat := ⟨_, rfl⟩
        have HLN2 := Lib.hid (show (codeL L 2 c.toNat).length = ln by rw [hln]; exact HQL.out)
        obtain ⟨ALL, hALL⟩ : ∃ ALL, ALL = codeL L 2 c.toNat := ⟨_, rfl⟩
        have HAL := Lib.hid (show ([] ++ L) ++ parL L 2 c.toNat = ALL by rw [hALL, HQ.out, List.nil_append])
        rw [← hALL] at HLN2 HSUM HAT
        have hne : ((ln : Int) != (k : Int) + c) = false := by rw [bne_eq_false_iff_eq]; omega
        have HLE := Lib.hid hln
        clear hln hALL
        go_wp2_with (at_builtin; (refine byteL.slice.wpList_own rfl _ _ 24 rfl Try.underlying24 KLL rfl HO5.out rfl HS5.out HNF5.out HLL5.out.1 HLL5.out.2 ?_; intro v6 w6 h6 f6 ho6 hh6 hs6 hc6; rw [HAL.out] at ho6; obtain ⟨a6, c6, rfl, hsl6⟩ := byteL.slice.os_sl ho6; rw [HLN2.out] at hsl6 ⊢; have HS6 := Lib.hid hsl6; have HW6 := Lib.hid (show Chg [] wr w6 from HW5.out.trans hc6 (fun x hx => .inr (HCZ.out x hx))); clear ho6 hh6 hs6 hc6 hsl6; have cB := cellsOf (HW6.out.keep0 HBR.out); have lB := ltOf (HW6.out.keep0 HBR.out)))
        have HT6 := Lib.hid (two_sl w6 5 0 0 rfl rfl)
        have HC6 := Lib.hid (HCR.out.trans0 HW6.out)
        have HB6 := Lib.hid (HW6.out.keep0 HBR.out)
        clear cB lB
        go_loopw [11, 12] (fun vs vk w7 => ∃ (e : Nat) (W7 : World) (aS : Option Addr) (cS : Nat) (fS : List Nat), W7 = w7 ∧ e ≤ lb ∧ vk = .int .i64 ((e : Int) - 1) ∧ vs = .slice aS 2 cS ∧ RowKit.Hid (byteL.sl w7 aS 2 cS (sdn ALL ks B (lb - e)) fS) ∧ RowKit.Hid (Chg [] w6 w7)) (fun _ vk _ => (intOf vk + 1).toNat)
        case atStart => exact ⟨lb, _, _, _, _, rfl, Nat.le_refl _, rfl, rfl, by rw [Nat.sub_self]; exact HT6.out, (Chg.refl [] w6).alloc _⟩
        case round =>
          obtain ⟨e, w7, aS, cS, fS, rfl, he, rfl, rfl, HSS, HC7⟩ := hrel
          have cB := cellsOf (HC7.out.keep0 HB6.out); have lB := ltOf (HC7.out.keep0 HB6.out)
          have HB7 := Lib.hid (keep_drew (HC7.out.keep0 HB6.out))
          cases e with
          | zero =>
            obtain ⟨i, rfl⟩ : ∃ i : Nat, p = (i : Int) := ⟨p.toNat, by omega⟩
            obtain ⟨Y, hY, hYe, hYl⟩ := HAT.out i (by omega)
            have hil : i < ln := by have := (List.getElem?_eq_some_iff.1 hY).1; have := HLN2.out; omega
            have hS := HSS.out
            rw [Nat.sub_zero] at hS
            have e2 : sdn ALL ks B lb = Y := by rw [← HLK.out, HSUM.out, hYe]
            rw [e2] at hS
            obtain ⟨y, B2, o2, A2, l2, C2, f2, HY, rfl, hcy, HYS⟩ := slc_at (byteL.slice.sl_ext HS6.out HC7.out) hil
            have hyY : y = Y := Option.some.inj (HY.out.1.symm.trans hY)
            subst hyY
            have hl2 : l2 = 2 := by rw [HYS.out.1]; exact hYl
            subst hl2
            have HSF := Lib.hid hS
            clear hY hYe hYl hS e2
            go_wp2_with fail
            refine (lwBytes_any aS A2 2 cS C2 y fS f2 w7 HSF.out HYS.out).mono ?_
            rintro e w8 ⟨rfl, hc8⟩
            have HC8 := Lib.hid hc8
            clear hc8
            go_wp2_with fail
            go_ret
            exact ⟨rfl, (HC1.out.trans0 HC6.out).trans0 (HC7.out.trans0 HC8.out)⟩
          | succ e =>
            rw [show (((e + 1 : Nat) : Int) - 1) = (e : Int) by omega]
            obtain ⟨x, B1, o1, HX, rfl, hcx, HXO⟩ := int_at (intL.sl_ext HK1.out ((HCR.out.trans0 HW6.out).trans0 HC7.out)) (show e < lb by omega)
            have helt : e < lb := by omega
            have hx2 := HKI.out x (List.mem_of_getElem? HX.out.1)
            obtain ⟨i, rfl⟩ : ∃ i : Nat, x = (i : Int) := ⟨x.toNat, by omega⟩
            obtain ⟨Y, hY, -, hYl⟩ := HAT.out i (by omega)
            have hil : i < ln := by have := (List.getElem?_eq_some_iff.1 hY).1; have := HLN2.out; omega
            obtain ⟨y, B2, o2, A2, l2, C2, f2, HY, rfl, hcy, HYS⟩ := slc_at (byteL.slice.sl_ext HS6.out HC7.out) hil
            have hyY : y = Y := Option.some.inj (HY.out.1.symm.trans hY)
            subst hyY
            have hl2 : l2 = 2 := by rw [HYS.out.1]; exact hYl
            subst hl2
            obtain ⟨z, Z, B3, o3, HZ, rfl, hcz, hZ0, hZ1⟩ := byte_at (byteL.sl_ext HZ2.out ((((Chg.refl [] w2).alloc _).trans0 (HG.out.chg)).trans0 (HW6.out.trans0 HC7.out))) (show e < lb by omega)
            have lB1 : B1 < w7.heap.size := intL.sl_lt (intL.sl_ext HK1.out ((HCR.out.trans0 HW6.out).trans0 HC7.out)) _ HX.out.2.2
            have lB2 : B2 < w7.heap.size := byteL.slice.sl_lt (byteL.slice.sl_ext HS6.out HC7.out) _ HY.out.2.1
            have lB3 : B3 < w7.heap.size := byteL.sl_lt (byteL.sl_ext HZ2.out ((((Chg.refl [] w2).alloc _).trans0 (HG.out.chg)).trans0 (HW6.out.trans0 HC7.out))) _ HZ.out.2.2
            have HSL := Lib.hid (show (sdn ALL ks B (lb - (e + 1))).length = 2 from HSS.out.1.symm)
            have HYL := Lib.hid hYl
            have HSN := Lib.hid (show addL (sdn ALL ks B (lb - (e + 1))) (scaleL y z) = sdn ALL ks B (lb - e) by
              have h := sdn_next (all := ALL) (ks := ks) (B := B) (e := e) (x := (i : Int)) HX.out.1 (by rw [Int.toNat_natCast]; exact hY) HZ.out.1
              rw [HLK.out] at h; exact h)
            have hsh := impl_share aS A2 2 cS 2 C2 (sdn ALL ks B (lb - (e + 1))) y fS f2 z w7.drew (byteL.sl_ext HSS.out (Chg.refl [] _).drew) (byteL.sl_ext HYS.out (Chg.refl [] _).drew)
            have hre : shareRes (sdn ALL ks B (lb - (e + 1))) y z = (0, sdn ALL ks B (lb - e)) := by
              unfold shareRes
              rw [if_neg (by rw [HSL.out, HYL.out]; simp), if_neg (by rw [HSL.out]; omega), HSN.out]
            rw [hre, ← HZ.out.2.1] at hsh
            have HSH := Lib.hid hsh
            have HLL2 := Lib.hid (show (sdn ALL ks B (lb - e)).length = 2 by rw [← HSN.out, addL_len_eq (by rw [HSL.out, scaleL_length, HYL.out]), HSL.out])
            have HCX := Lib.hid (show w7.drew.cell? ⟨B1, o1 + e, none⟩ = some (.int .i64 i) from hcx)
            have HCY := Lib.hid (show w7.drew.cell? ⟨B2, o2 + i, none⟩ = some (.slice A2 2 C2) from hcy)
            have HCZ3 := Lib.hid (show w7.drew.cell? ⟨B3, o3 + e, none⟩ = some (.int .u8 Z) from hcz)
            clear hsh hre hY hYl hcx hcy hcz
            go_wp2_with fail
            obtain ⟨SS1, HSI1, HSO1⟩ := rg_cond (fun w' => Know w2.heap.size #[.int .i64 0, .slice (some ⟨B3, o3, none⟩) lb c3] w' ∧ w'.cell? ⟨B1, o1 + e, none⟩ = some (.int .i64 i) ∧ w'.cell? ⟨B2, o2 + i, none⟩ = some (.slice A2 2 C2) ∧ w'.cell? ⟨B3, o3 + e, none⟩ = some (.int .u8 Z))
            have hS0 := HSI1.out w7.drew ⟨(Know.of HB7.out), HCX.out, HCY.out, HCZ3.out⟩
            refine rg_start SS1 (by kernel_rfl) hS0 ?_
            refine rgT 0 hS0 ?_
            refine rgT 1 hS0 ?_
            refine rgT 2 hS0 ?_
            refine rgT 3 hS0 ?_
            refine rgT 4 hS0 ?_
            refine rgL 5 hS0 HSO1 ?_
            refine rgT 6 hS0 ?_
            refine rgL 7 hS0 HSO1 ?_
            refine rgT 8 hS0 ?_
            refine rgL 9 hS0 HSO1 ?_
            refine rgT 10 hS0 ?_
            refine rgT 11 hS0 ?_
            refine rgL 12 hS0 HSO1 ?_
            refine rg_call 13 rfl (by kernel_rfl) (fun K hK => ?_)
            go_simp
            go_at_call 17
            refine HSH.out.mono ?_; rintro e w8 ⟨a8, c8, f8, rfl, hs8, -, hc8⟩
            simp only at hs8 ⊢; rw [HLL2.out] at hs8 ⊢; have HS8 := Lib.hid hs8
            have HB8 := Lib.hid (hc8.keep0 HB7.out); have HC8 := Lib.hid ((Chg.refl [] w7).drew.trans0 hc8); have hd1 := cellKeep hc8 HCX.out lB1; have hd2 := cellKeep hc8 HCY.out lB2; have hd3 := cellKeep hc8 HCZ3.out lB3; clear hc8 hs8
            go_wp2_with fail
            refine hK.out _ _ (HSI1.out _ ⟨(Know.of HB8.out), hd1, hd2, hd3⟩) (fun hS1 => ?_)
            clear hK K
            try simp only [Act.put, List.setIfInBounds_toArray, List.set_cons_zero, List.set_cons_succ]
            refine rgT 14 hS1 ?_
            refine rgT 15 hS1 ?_
            refine wpAnyH_done (by kernel_rfl) ?_ _
            go_wp2_with fail
            go_roundw
            case rel => exact ⟨e, _, a8, c8, f8, rfl, by omega, by go_num, rfl, HS8.out, HC7.out.trans0 HC8.out⟩
            case measure => simp [intOf]
  · have hnz : (n != (0 : Int)) = true := by simp [hn]
    have cB := cellsOf HBX0.out; have lB := ltOf HBX0.out
    go_wp2_with fail
    clear cB lB
    obtain ⟨SS1, HSI1, HSO1⟩ := rg_cond (fun w' => Know w2.heap.size #[.int .i64 n, .slice a3 lb c3] w')
    have hS0 := HSI1.out (w2.alloc (.cells #[.int .i64 n, .slice a3 lb c3] 38)).drew (Know.of HBX.out)
    refine rg_start SS1 (by kernel_rfl) hS0 ?_
    refine rgT 0 hS0 ?_
    refine rgT 1 hS0 ?_
    refine rgT 2 hS0 ?_
    refine rgT 3 hS0 ?_
    refine rgT 6 hS0 ?_
    refine rgL 7 hS0 HSO1 ?_
    refine rg_call 4 rfl (by kernel_rfl) (fun K hK => ?_)
    go_simp
    go_at_call 16
    refine (HSS.out _ HCWd.out).mono ?_; rintro e w5 ⟨a5, c5, f5, rfl, -, -, hc5⟩
    have HB5 := Lib.hid (hc5.keep0 HBX.out); have HC5 := Lib.hid (HCWd.out.trans0 hc5); clear hc5
    go_wp2_with fail
    refine hK.out _ _ (HSI1.out _ (Know.of HB5.out)) (fun hS1 => ?_)
    clear hK K
    try simp only [Act.put, List.setIfInBounds_toArray, List.set_cons_zero, List.set_cons_succ]
    refine rgT 5 hS1 ?_
    refine rgT 8 hS1 ?_
    refine rgT 9 hS1 ?_
    refine wpAnyH_done (by kernel_rfl) ?_ _
    go_wp2_with fail
    go_ret
    exact ⟨by simp, HC1.out.trans0 HC5.out⟩
end Go.Proofs.Ytjnclggpaekdfaa
