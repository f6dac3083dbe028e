
/- Lists that are not empty: slices.DeleteFunc at lists of bytes; what lists are there, and where. -/
import Derived.Test.YtjnclggpaekdfaaRow
import Derived.Test.YtjnclggpaekdfaaCln
import Derived.Test.YtjnclggpaekdfaaSub
import Derived.Test.YtjnclggpaekdfaaMds
import Derived.Lib.SliceRun
namespace Go.Proofs.Ytjnclggpaekdfaa
open Go.RowKit

/-- the places, below k, of lists that are there -/
def havL (xs : List (List UInt8)) (k : Nat) : List Int := ((List.range k).filter (fun i => (xs.getD i []).length != 0)).map (fun i : Nat => (i : Int))
/-- the lists that are there, of the first k -/
def minL (xs : List (List UInt8)) (k : Nat) : List (List UInt8) := (xs.take k).filter (fun x => x.length != 0)
theorem getD_of {xs : List (List UInt8)} {k : Nat} {x : List UInt8} (h : xs[k]? = some x) : xs.getD k [] = x := by rw [List.getD_eq_getElem?_getD, h]; rfl
theorem havL_yes {xs : List (List UInt8)} {k : Nat} {x : List UInt8} (hx : xs[k]? = some x) (h : ¬ x.length = 0) : havL xs (k + 1) = havL xs k ++ [(k : Int)] := by
  unfold havL
  rw [List.range_succ, List.filter_append, List.map_append]
  congr 1
  rw [List.filter_cons_of_pos (by rw [getD_of hx]; simpa using h)]
  rfl
theorem havL_no {xs : List (List UInt8)} {k : Nat} {x : List UInt8} (hx : xs[k]? = some x) (h : x.length = 0) : havL xs (k + 1) = havL xs k := by
  unfold havL
  rw [List.range_succ, List.filter_append, List.map_append, List.filter_cons_of_neg (by rw [getD_of hx]; simp [h])]
  simp
theorem minL_yes {xs : List (List UInt8)} {k : Nat} {x : List UInt8} (hx : xs[k]? = some x) (h : ¬ x.length = 0) : minL xs (k + 1) = minL xs k ++ [x] := by
  unfold minL
  rw [take_next hx, List.filter_append, List.filter_cons_of_pos (by simpa using h)]
  rfl
theorem minL_no {xs : List (List UInt8)} {k : Nat} {x : List UInt8} (hx : xs[k]? = some x) (h : x.length = 0) : minL xs (k + 1) = minL xs k := by
  unfold minL
  rw [take_next hx, List.filter_append, List.filter_cons_of_neg (by simp [h])]
  simp
theorem havL_len (xs : List (List UInt8)) : ∀ k, k ≤ xs.length → (havL xs k).length = (minL xs k).length
  | 0, _ => rfl
  | k + 1, hk => by
    have hx : xs[k]? = some xs[k] := List.getElem?_eq_getElem (by omega)
    have ih := havL_len xs k (by omega)
    by_cases h : (xs[k]).length = 0
    · rw [havL_no hx h, minL_no hx h, ih]
    · rw [havL_yes hx h, minL_yes hx h, List.length_append, List.length_append, ih]; rfl
theorem havL_le (xs : List (List UInt8)) (k : Nat) : (havL xs k).length ≤ k := by
  unfold havL
  rw [List.length_map]
  have := List.length_filter_le (fun i => (xs.getD i []).length != 0) (List.range k)
  simpa using this
theorem havL_ris (xs : List (List UInt8)) (k : Nat) : Ris (k : Int) (havL xs k) := by
  refine ⟨fun y hy => ?_, ?_⟩
  · unfold havL at hy
    obtain ⟨i, hi, rfl⟩ := List.mem_map.1 hy
    have := List.mem_range.1 (List.mem_filter.1 hi).1
    omega
  · unfold havL
    rw [List.pairwise_map]
    exact (List.pairwise_lt_range.sublist List.filter_sublist).imp (fun h => by omega)

theorem nil_slD (w : World) : byteL.sl w none 0 0 [] [] := ⟨rfl, Nat.le_refl _, by simp [maxLen], fun _ => rfl, .inl ⟨rfl, rfl⟩⟩
/-- the first list that is empty, or none -/
def FirstE (xs : List (List UInt8)) (l : Nat) (r : Int) : Prop := (r = -1 ∧ ∀ x ∈ xs, ¬ x.length = 0) ∨ ∃ k : Nat, r = k ∧ k < l ∧ (∃ x, xs[k]? = some x ∧ x.length = 0) ∧ ∀ x ∈ xs.take k, ¬ x.length = 0
/-- what is left of a row, cut to the lists that are there -/
def DelPost (b off cap : Nat) (ys : List (List UInt8)) (w : World) (e : Ending) (w' : World) : Prop := ∃ i f', e = .returned (.slice (some ⟨b, off, none⟩) i cap) ∧ byteL.slice.sl w' (some ⟨b, off, none⟩) i cap ys f' ∧ Chg [b] w w'
theorem row_zeros {w0 : World} {b off : Nat} : ∀ (k i : Nat) (w : World) (ps : List (List UInt8 × List Nat)), i + k ≤ ps.length → RowAt byteL.slice w b off ps →
    ∃ qs, RowAt byteL.slice (w.setCells b (off + i) (List.replicate k (.slice none 0 0))) b off qs ∧ qs.take i = ps.take i ∧ qs.length = ps.length
  | 0, _, _, ps, _, h => ⟨ps, h, rfl, rfl⟩
  | k + 1, i, w, ps, hk, h => by
    have h1 := h.put (i := i) (by omega) (x := []) (c := [.slice none 0 0]) (f := []) ⟨none, 0, 0, rfl, nil_slD _⟩ (by simp)
    have e : off + i * byteL.slice.n = off + i := by simp [Lay.slice]
    rw [e] at h1
    obtain ⟨qs, q1, q2, q3⟩ := row_zeros (w0 := w0) k (i + 1) _ _ (by simp; omega) h1
    refine ⟨qs, q1, ?_, by simpa using q3⟩
    have h3 := congrArg (List.take i) q2
    rw [List.take_take, List.take_take, Nat.min_eq_left (by omega), List.take_set_of_le (Nat.le_refl _)] at h3
    exact h3
set_option maxHeartbeats 400000 in
theorem emp1_any (A : Option Addr) (l C : Nat) (w : World) :
    Calls Try.prog 43 #[.slice A l C] w fun e w' => e = .returned (.bool ((l : Int) == 0)) ∧ w = w' := by
  go_enter Try.func43, Try.ntmps43
  go_wp2
  go_ret
  exact ⟨rfl, rfl⟩
set_option maxHeartbeats 1000000 in
theorem idxE_any (a : Option Addr) (l c : Nat) (xs : List (List UInt8)) (f : List Nat) (w : World) (h6 : byteL.slice.sl w a l c xs f) :
    Calls Try.prog 73 #[.slice a l c, .func (.func 43) #[] #[]] w fun e w' => ∃ r : Int, e = .returned (.int .i64 r) ∧ RowKit.Hid (FirstE xs l r) ∧ w = w' := by
  have hm := byteL.slice.sl_max h6
  have HL := Lib.hid h6.1
  have HA := Lib.hid h6
  clear h6
  go_enter Try.func73, Try.ntmps73
  go_wp2
  go_loop [5, 8] (fun _ i => ∃ k : Nat, k ≤ l ∧ i = .int .i64 k ∧ RowKit.Hid (∀ x ∈ xs.take k, ¬ x.length = 0)) (fun _ i => l - (intOf i).toNat)
  case atStart => exact ⟨0, by omega, rfl, by intro y hy; simp at hy⟩
  case round =>
    obtain ⟨k, hk, rfl, HK⟩ := hrel
    by_cases hlt : k < l
    · obtain ⟨x, b, off, A, lx, C, fx, HX, rfl, hcx, HXS⟩ := slc_at HA.out hlt
      by_cases h : lx = 0
      · have HCy := Lib.hid (emp1_any A lx C w)
        rw [show ((lx : Int) == 0) = true by simp [h]] at HCy
        have HR := Lib.hid (show FirstE xs l (k : Int) from .inr ⟨k, rfl, hlt, ⟨x, HX.out.1, by rw [← HXS.out.1, h]⟩, HK.out⟩)
        clear h
        go_wp2_with (go_at_call 43; refine HCy.out.mono ?_; rintro e w' ⟨rfl, rfl⟩)
        go_ret
        exact ⟨_, rfl, HR.out, rfl⟩
      · have HCy := Lib.hid (emp1_any A lx C w)
        rw [show ((lx : Int) == 0) = false by simp; omega] at HCy
        have HN := Lib.hid (show ∀ x ∈ xs.take (k + 1), ¬ x.length = 0 by
          intro z hz
          rw [take_next HX.out.1] at hz
          rcases List.mem_append.1 hz with h1 | h1
          · exact HK.out z h1
          · simp at h1; subst h1; rw [← HXS.out.1]; exact h)
        clear h
        go_wp2_with (go_at_call 43; refine HCy.out.mono ?_; rintro e w' ⟨rfl, rfl⟩)
        go_round
        case rel => exact ⟨k + 1, by omega, by go_num, HN⟩
        case measure => simp [intOf]; omega
    · have HR := Lib.hid (show FirstE xs l (-1) from .inl ⟨rfl, fun x hx => HK.out x (by rw [List.take_of_length_le (by have := HL.out; omega)]; exact hx)⟩)
      go_wp2
      go_ret
      exact ⟨-1, rfl, HR.out, rfl⟩
theorem fkeep {xs : List (List UInt8)} (h : ∀ x ∈ xs, ¬ x.length = 0) : xs.filter (fun x => x.length != 0) = xs := List.filter_eq_self.2 (fun y hy => by simpa using h y hy)
set_option maxHeartbeats 2000000 in
theorem delE_any (b off n cap : Nat) (ps0 : List (List UInt8 × List Nat)) (w : World) (hr : RowAt byteL.slice w b off ps0) (hn : n = ps0.length) (hc : n ≤ cap) (hm : cap ≤ maxLen) :
    Calls Try.prog 41 #[.slice (some ⟨b, off, none⟩) n cap, .func (.func 43) #[] #[]] w (DelPost b off cap ((ps0.map (·.1)).filter (fun x => x.length != 0)) w) := by
  have hsl := hr.sl hn hc hm
  have HI := Lib.hid (idxE_any _ _ _ _ _ w hsl)
  have HR := Lib.hid hr; have HSL := Lib.hid hsl; have HN := Lib.hid hn
  simp only [maxLen] at hm
  clear hsl hr
  obtain ⟨xs, hxs⟩ : ∃ xs, xs = ps0.map (·.1) := ⟨_, rfl⟩
  rw [← hxs] at HI HSL ⊢
  have HXS := Lib.hid hxs
  clear hxs hn
  go_enter Try.func41, Try.ntmps41
  go_wp2_with fail
  refine HI.out.mono ?_
  rintro e w' ⟨r, rfl, HK, rfl⟩
  rcases HK.out with ⟨rfl, hall⟩ | ⟨k0, rfl, hk0, hx0, hall⟩
  · have HF := Lib.hid (show byteL.slice.sl w (some ⟨b, off, none⟩) n cap (xs.filter (fun x => x.length != 0)) _ from by rw [fkeep hall]; exact HSL.out)
    clear hall
    go_wp2_with fail
    go_ret
    exact ⟨n, _, rfl, HF.out, Chg.refl _ _⟩
  · have hne : ((k0 : Int) == -1) = false := by simp
    have HK0 := Lib.hid (And.intro hx0 hall)
    clear hx0 hall HK
    go_wp2_with fail
    go_loopw [5, 6, 7] (fun vi vj _ wr => ∃ (i j : Nat) (ps : List (List UInt8 × List Nat)) (Wr : World), Wr = wr ∧ vi = .int .i64 i ∧ vj = .int .i64 j ∧ i < j ∧ j ≤ n ∧ ps.length = n ∧ RowAt byteL.slice wr b off ps ∧ RowKit.Hid ((ps.map (·.1)).take i = (xs.take j).filter (fun x => x.length != 0)) ∧ RowKit.Hid ((ps.map (·.1)).drop j = xs.drop j) ∧ (∀ p ∈ ps, b ∉ p.2) ∧ Chg [b] w wr) (fun _ vj _ _ => n - (intOf vj).toNat)
    case atStart =>
      refine ⟨k0, k0 + 1, ps0, _, rfl, rfl, by go_num, by omega, by omega, HN.out.symm, HR.out, ?_, by show (ps0.map (·.1)).drop _ = _; rw [HXS.out], fun p hp => ?_, Chg.refl _ _⟩
      · show (ps0.map (·.1)).take k0 = (xs.take (k0 + 1)).filter _
        obtain ⟨⟨x, hx, hx0⟩, hall⟩ := HK0.out
        rw [← HXS.out, take_next hx, List.filter_append, fkeep hall, List.filter_cons_of_neg (by simp [hx0])]
        simp
      · obtain ⟨cur, E, -, -, h3⟩ := HR.out
        obtain ⟨i, hi, e⟩ := List.getElem_of_mem hp
        exact (h3 i p (by rw [List.getElem?_eq_getElem hi, e])).2
    case round =>
      obtain ⟨i, j, ps, wr, rfl, rfl, rfl, hij, hj, hpl, hrow, HT, HD, hbp, hch⟩ := hrel
      have HRW := Lib.hid hrow; have HCH := Lib.hid hch; have HBP := Lib.hid hbp
      have hfr := hrow.free; have hbl := hrow.lt
      clear hrow hch hbp
      by_cases hlt : j < n
      · obtain ⟨p, c, hp, hrep, hbp, hcell⟩ := HRW.out.at (show j < ps.length by omega)
        obtain ⟨A, lx, C, rfl, hxs⟩ := hrep
        have hcx : wr.cell? ⟨b, off + j, none⟩ = some (.slice A lx C) := by
          have h := hcell 0 (by decide)
          have e : off + j * byteL.slice.n + 0 = off + j := by simp [Lay.slice]
          rw [e] at h; exact h
        obtain ⟨p2, c2, hp2, hrep2, -, hcell2⟩ := HRW.out.at (show i < ps.length by omega)
        obtain ⟨A2, lx2, C2, rfl, -⟩ := hrep2
        have hcy : wr.cell? ⟨b, off + i, none⟩ = some (.slice A2 lx2 C2) := by
          have h := hcell2 0 (by decide)
          have e : off + i * byteL.slice.n + 0 = off + i := by simp [Lay.slice]
          rw [e] at h; exact h
        have hxj : xs[j]? = some p.1 := by
          have h1 := congrArg (fun l => l[0]?) HD.out
          simp only [List.getElem?_drop, Nat.add_zero, List.getElem?_map, hp] at h1
          rw [← h1]; rfl
        have HXJ := Lib.hid hxj; have HXS2 := Lib.hid hxs; have HP := Lib.hid (And.intro hp hbp)
        clear hxj hxs hp hbp hcell hcell2 hp2
        by_cases h : lx = 0
        · have HCy := Lib.hid (emp1_any A lx C wr)
          rw [show ((lx : Int) == 0) = true by simp [h]] at HCy
          have h0 : p.1.length = 0 := by rw [← HXS2.out.1, h]
          have HN1 := Lib.hid (show (ps.map (·.1)).take i = (xs.take (j + 1)).filter (fun x => x.length != 0) by rw [take_next HXJ.out, List.filter_append, HT.out, List.filter_cons_of_neg (by simp [h0])]; simp)
          have HN2 := Lib.hid (show (ps.map (·.1)).drop (j + 1) = xs.drop (j + 1) by have h1 := congrArg (List.drop 1) HD.out; rw [List.drop_drop, List.drop_drop] at h1; exact h1)
          clear h h0
          go_wp2_with (go_at_call 43; refine HCy.out.mono ?_; rintro e w' ⟨rfl, rfl⟩)
          go_roundw
          case rel => exact ⟨i, j + 1, ps, _, rfl, rfl, by go_num, by omega, by omega, hpl, HRW.out, HN1, HN2, HBP.out, HCH.out⟩
          case measure => simp [intOf]; omega
        · have HCy := Lib.hid (emp1_any A lx C wr)
          rw [show ((lx : Int) == 0) = false by simp; omega] at HCy
          have h0 : ¬ p.1.length = 0 := by rw [← HXS2.out.1]; exact h
          have hput := HRW.out.put (i := i) (by omega) (x := p.1) (c := [.slice A lx C]) (f := p.2) ⟨A, lx, C, rfl, HXS2.out⟩ HP.out.2
          have e1 : off + i * byteL.slice.n = off + i := by simp [Lay.slice]
          rw [e1] at hput
          have HPUT := Lib.hid hput
          have hyl : i < (ps.map (·.1)).length := by rw [List.length_map]; omega
          have HN1 := Lib.hid (show ((ps.set i (p.1, p.2)).map (·.1)).take (i + 1) = (xs.take (j + 1)).filter (fun x => x.length != 0) by
            rw [take_next HXJ.out, List.filter_append, ← HT.out, List.map_set, take_next (show ((ps.map (·.1)).set i p.1)[i]? = some p.1 by rw [List.getElem?_set_self hyl]), List.take_set_of_le (Nat.le_refl _), List.filter_cons_of_pos (by simpa using h0)]
            simp)
          have HN2 := Lib.hid (show ((ps.set i (p.1, p.2)).map (·.1)).drop (j + 1) = xs.drop (j + 1) by
            rw [List.map_set, List.drop_set_of_lt (by omega)]
            have h1 := congrArg (List.drop 1) HD.out; rw [List.drop_drop, List.drop_drop] at h1; exact h1)
          have HN3 := Lib.hid (show ∀ q ∈ ps.set i (p.1, p.2), b ∉ q.2 from fun q hq => by
            rcases List.mem_or_eq_of_mem_set hq with h | h
            · exact HBP.out q h
            · subst h; exact HP.out.2)
          clear h h0 hput e1
          go_wp2_with (go_at_call 43; refine HCy.out.mono ?_; rintro e w' ⟨rfl, rfl⟩)
          go_roundw
          case rel => exact ⟨i + 1, j + 1, ps.set i (p.1, p.2), _, rfl, by go_num, by go_num, by omega, by omega, by rw [List.length_set]; exact hpl, HPUT.out, HN1, HN2, HN3.out, HCH.out.setCell _ _ (.inl (by simp))⟩
          case measure => simp [intOf]; omega
      · obtain rfl : j = n := by omega
        have hltz : ¬ (j : Int) < (j : Int) := by omega
        have hcell : ∀ t, t < j - i → ∃ v, wr.cell? ⟨b, off + i + t, none⟩ = some v := fun t ht => by
          obtain ⟨p, c, -, hrep, -, hcell⟩ := HRW.out.at (show i + t < ps.length by omega)
          obtain ⟨A, lx, C, rfl, -⟩ := hrep
          have h := hcell 0 (by decide)
          have e : off + (i + t) * byteL.slice.n + 0 = off + i + t := by simp [Lay.slice]; omega
          rw [e] at h
          exact ⟨_, h⟩
        have hcl2 : ∀ ty, (Builtin.clear_ #[24] ty #[.slice (some ⟨b, off + i, none⟩) (j - i) (cap - i)]).run Try.prog wr = .ok (.tuple #[]) (wr.setCells b (off + i) (List.replicate (j - i) (.slice none 0 0))) :=
          fun ty => Lib.run_clear_slice wr _ _ ty _ Try.underlying24 Try.zeroValue22 rfl rfl b (off + i) _ _ (by omega) (fun t ht => by obtain ⟨v, hv⟩ := hcell t ht; rw [hv]; rfl) (fun t _ => hfr _)
        obtain ⟨qs, hq1, hq2, hq3⟩ := row_zeros (w0 := wr) (j - i) i wr ps (by omega) HRW.out
        have hqs := (hq1.take i).sl (len := i) (cap := cap) (by rw [List.length_take]; omega) (by omega) (by simp only [maxLen]; omega)
        have e2 : (qs.take i).map (·.1) = xs.filter (fun x => x.length != 0) := by
          rw [hq2, List.map_take, HT.out, List.take_of_length_le]
          have h1 := congrArg List.length HXS.out; rw [List.length_map] at h1; have h2 := HN.out; omega
        rw [e2] at hqs
        have HQ := Lib.hid hqs
        clear hcell hq1 hq2 hq3 hqs e2
        go_wp2_with fail
        go_ret
        exact ⟨i, _, rfl, HQ.out, HCH.out.setCells (.inl (by simp)) _ _⟩
end Go.Proofs.Ytjnclggpaekdfaa
