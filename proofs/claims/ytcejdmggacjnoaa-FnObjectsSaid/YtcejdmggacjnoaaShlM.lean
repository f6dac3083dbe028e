import Derived.Test.YtcejdmggacjnoaaMg
/- Shares sum up to what is wanted, in plain Lean; lwBytes. -/
namespace Go.Proofs.Ytcejdmggacjnoaa
open Go.RowKit

/-- the sum of the shares, from the last on, so many taken -/
def sdn (all : List (List UInt8)) (ks : List Int) (B : List UInt8) : Nat → List UInt8
  | 0 => [0, 0]
  | d + 1 => addL (sdn all ks B d) (scaleL (all.getD (ks.getD (ks.length - 1 - d) 0).toNat []) (B.getD (ks.length - 1 - d) 0))
section
variable {all : List (List UInt8)} {ks : List Int} {B : List UInt8}
theorem all_len (h : ∀ x ∈ all, x.length = 2) {i : Nat} (hi : i < all.length) : (all.getD i []).length = 2 := by
  rw [List.getD_eq_getElem?_getD, List.getElem?_eq_getElem hi]; exact h _ (List.getElem_mem _)
theorem ks_in (hk : ∀ k ∈ ks, 0 ≤ k ∧ k.toNat < all.length) {j : Nat} (hj : j < ks.length) : (ks.getD j 0).toNat < all.length := by
  rw [List.getD_eq_getElem?_getD, List.getElem?_eq_getElem hj]; exact (hk _ (List.getElem_mem _)).2
theorem sdn_len (h : ∀ x ∈ all, x.length = 2) (hk : ∀ k ∈ ks, 0 ≤ k ∧ k.toNat < all.length) : ∀ d, d ≤ ks.length → (sdn all ks B d).length = 2
  | 0, _ => rfl
  | d + 1, hd => by
    have ih := sdn_len h hk d (by omega)
    have h2 := all_len h (ks_in hk (show ks.length - 1 - d < ks.length by omega))
    show (addL _ _).length = 2
    rw [addL_len_eq (by rw [ih, scaleL_length, h2]), ih]
theorem sdn_at (h : ∀ x ∈ all, x.length = 2) (hk : ∀ k ∈ ks, 0 ≤ k ∧ k.toNat < all.length) (hB : B.length = ks.length) (t : Nat) : ∀ d, d ≤ ks.length →
    (sdn all ks B d).getD t 0 = lin ((ks.map (fun k => (all.getD k.toNat []).getD t 0)).drop (ks.length - d)) (B.drop (ks.length - d))
  | 0, _ => by
    rw [Nat.sub_zero, List.drop_eq_nil_of_le (by simp), List.drop_eq_nil_of_le (by omega)]
    show ([0, 0] : List UInt8).getD t 0 = 0
    match t with
    | 0 => rfl
    | 1 => rfl
    | t + 2 => rfl
  | d + 1, hd => by
    have ih := sdn_at h hk hB t d (by omega)
    have hj : ks.length - (d + 1) < ks.length := by omega
    have e1 : ks.length - (d + 1) + 1 = ks.length - d := by omega
    have e2 : ks.length - 1 - d = ks.length - (d + 1) := by omega
    rw [List.drop_eq_getElem_cons (show ks.length - (d + 1) < (ks.map (fun k => (all.getD k.toNat []).getD t 0)).length by rw [List.length_map]; exact hj), List.drop_eq_getElem_cons (show ks.length - (d + 1) < B.length by omega), e1]
    show (addL (sdn all ks B d) _).getD t 0 = _
    rw [e2, getD_add (by rw [sdn_len h hk d (by omega), scaleL_length, all_len h (ks_in hk hj)]), getD_scale, ih]
    simp only [lin]
    rw [UInt8.xor_comm, List.getElem_map, List.getD_eq_getElem?_getD (l := ks), List.getElem?_eq_getElem hj, List.getD_eq_getElem?_getD (l := B), List.getElem?_eq_getElem (show ks.length - (d + 1) < B.length by omega)]
    rfl
end
/-- the shares of those that are there sum up to the list that is wanted -/
theorem shares_sum {L : List (List UInt8)} {c : Nat} {ks : List Int} {p : Int} (hL : ∀ x ∈ L, x.length = 2) (h1 : 1 ≤ L.length) (h4 : L.length ≤ 4) (hc : c ≤ 2) (hr : Rises ((L.length : Int) + c - 1) ks) (hl : L.length ≤ ks.length) :
    sdn (codeL L 2 c) ks (wtsL L.length (ks.take L.length) p ++ List.replicate (ks.length - L.length) 0) ks.length = codeAt L 2 p := by
  have hk : ∀ k ∈ ks, 0 ≤ k ∧ k.toNat < (codeL L 2 c).length := fun k hm => by
    have := hr.at hm
    rw [codeL_length]
    omega
  have hall : ∀ x ∈ codeL L 2 c, x.length = 2 := fun x hx => by
    unfold codeL at hx
    obtain ⟨k, _, rfl⟩ := List.mem_map.1 hx
    exact codeAt_length hL _
  have hkl : (ks.take L.length).length = L.length := by rw [List.length_take]; omega
  obtain ⟨z, hz, hzl, hw⟩ := wts_some (p := p) h1 h4 hkl (by omega : (L.length : Int) + c - 1 + 1 ≤ L.length + 2) (hr.ris.take L.length)
  have ez : wtsL L.length (ks.take L.length) p = z := by unfold wtsL; rw [hz]; rfl
  rw [ez]
  have hB : (z ++ List.replicate (ks.length - L.length) (0 : UInt8)).length = ks.length := by rw [List.length_append, List.length_replicate, hzl]; omega
  have hb := code_back (n0 := 2) hL hkl hzl hw (p := p) rfl
  rw [← hb]
  refine getD_ext ?_ (fun t => ?_)
  · rw [sdn_len hall hk _ (Nat.le_refl _), mixTo_len (xs := (ks.take L.length).map (codeAt L 2)) (fun x hx => by obtain ⟨k, _, rfl⟩ := List.mem_map.1 hx; exact codeAt_length hL k) (Nat.le_refl _)]
  · rw [sdn_at hall hk hB t _ (Nat.le_refl _), Nat.sub_self, List.drop_zero, List.drop_zero]
    rw [mixTo_at (xs := (ks.take L.length).map (codeAt L 2)) (cs := z) (fun x hx => by obtain ⟨k, _, rfl⟩ := List.mem_map.1 hx; exact codeAt_length hL k) t (Nat.le_refl _) (by rw [List.length_map, hkl, hzl]; exact Nat.le_refl _), List.take_length, List.take_of_length_le (l := z) (by rw [List.length_map, hkl, hzl]; exact Nat.le_refl _)]
    have em : ks.map (fun k => ((codeL L 2 c).getD k.toNat []).getD t 0) = (ks.map (fun k => (codeAt L 2 k).getD t 0)) := by
      apply List.map_congr_left
      intro k hm
      have h2 := hk k hm
      rw [List.getD_eq_getElem?_getD (l := codeL L 2 c), codeL_at (by rw [codeL_length] at h2; exact h2.2), Int.toNat_of_nonneg h2.1]
      rfl
    rw [em, ← List.take_append_drop L.length ks, List.map_append, List.take_append_drop, lin_app _ _ _ _ (by rw [List.length_map, hkl, hzl]), lin_zero _ (List.replicate _ _) (fun y hy => List.eq_of_mem_replicate hy), UInt8.xor_zero]
    unfold colAt
    rw [List.map_map]
    rfl
/-- what ShareOf has told where it tells no fault -/
theorem sha_ok {g c : Int} {ks : List Int} {p : Int} (h : (shaRes g c ks p).1 = 0) : (1 ≤ g ∧ g ≤ 4) ∧ (0 ≤ c ∧ c ≤ 2) ∧ Rises (g + c - 1) ks ∧ (0 ≤ p ∧ p ≤ g + c - 1) ∧ g ≤ (ks.length : Int) ∧ shaRes g c ks p = (0, wtsL g.toNat (ks.take g.toNat) p ++ List.replicate (ks.length - g.toNat) 0) := by
  unfold shaRes at h ⊢
  split at h
  · simp at h
  rename_i h1
  split at h
  · simp at h
  rename_i h2
  split at h
  · simp at h
  rename_i h3
  split at h
  · simp at h
  rename_i h4
  split at h
  · simp at h
  rename_i h5
  obtain ⟨hb1, hb2⟩ := Bool.and_eq_true_iff.1 (Bool.not_eq_false _ ▸ h1 : (inB g 1 4 && inB c 0 2) = true)
  refine ⟨inB_true hb1, inB_true hb2, Classical.byContradiction (fun hn => h2 (pb_false hn)), inB_true (by simpa using h3), by omega, ?_⟩
  rw [if_neg h1, if_neg h2, if_neg h3, if_neg h4, if_neg h5]
set_option maxHeartbeats 1000000 in
theorem lwBytes_any (a b : Option Addr) (la ca cb : Nat) (xs : List UInt8) (f g : List Nat) (w : World) (ha : byteL.sl w a la ca xs f) (hb : byteL.sl w b la cb xs g) :
    Calls Try.prog 17 #[.slice a la ca, .slice b la cb] w fun e w' => e = .returned (.bool true) ∧ Chg [] w w' := by
  have hm := byteL.sl_max ha
  have hne : ((la : Int) != (la : Int)) = false := by simp
  have HA := Lib.hid ha
  have HB := Lib.hid hb
  clear ha hb
  go_enter Try.func17, Try.ntmps17
  go_wp2
  go_loopw [5] (fun i wr => ∃ k : Nat, k ≤ la ∧ i = .int .i64 k ∧ Chg [] w wr) (fun i _ => la - (intOf i).toNat)
  case atStart => exact ⟨0, by omega, rfl, Chg.refl _ _⟩
  case round =>
    obtain ⟨k, hk, rfl, hc⟩ := hrel
    by_cases hlt : k < la
    · obtain ⟨x, X, b, o, HX, rfl, hcx, _, _⟩ := byte_at (byteL.sl_ext HA.out hc) hlt
      obtain ⟨y, Y, b', o', HY, rfl, hcy, _, _⟩ := byte_at (byteL.sl_ext HB.out hc) hlt
      have hxy : x = y := by have := HX.out.1.symm.trans HY.out.1; exact Option.some.inj this
      subst hxy
      rw [HX.out.2.1] at hcx; rw [HY.out.2.1] at hcy; have hnn : ((x.toNat : Int) != (x.toNat : Int)) = false := by simp
      have HC := Lib.hid hc
      clear hc
      go_wp2
      first | go_region | skip
      all_goals (try go_wp2)
      all_goals
        go_roundw
        case rel => exact ⟨k + 1, by omega, by go_num, by first | exact HC.out | exact HC.out.drew⟩
        case measure => simp [intOf]; omega
    · have HC := Lib.hid hc
      clear hc
      go_wp2
      go_ret
      exact ⟨rfl, HC.out⟩
end Go.Proofs.Ytcejdmggacjnoaa
