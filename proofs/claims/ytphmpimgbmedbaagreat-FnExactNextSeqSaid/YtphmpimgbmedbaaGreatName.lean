
/- The walks of the two NameFault: both tell 0 at a name and 5 else. -/
import Derived.Test.YtphmpimgbmedbaaGreatRows
import Derived.Test.YtphmpimgbmedbaaGreatRep
namespace Go.Proofs.YtphmpimgbmedbaaGreat
open Go.RowKit

/-- may a byte stand at a place of a name? -/
def Good (k : Nat) (c : Int) : Prop := (97 ≤ c ∧ c ≤ 122) ∨ (k ≠ 0 ∧ 48 ≤ c ∧ c ≤ 57)
/-- is it a name? -/
def NameOk (s : ByteArray) : Prop := (1 ≤ s.size ∧ s.size ≤ 8) ∧ ∀ (k : Nat) (h : k < s.size), Good k (s[k].toNat : Int)
open Classical in
noncomputable def nameFault (s : ByteArray) : Int := if NameOk s then 0 else 5

theorem name_bad {s : ByteArray} {k : Nat} (h : k < s.size) (hb : ¬ Good k (s[k].toNat : Int)) : (5 : Int) = nameFault s := by
  rw [nameFault, if_neg (fun hn => hb (hn.2 k h))]
theorem name_len {s : ByteArray} (h : ¬ (1 ≤ s.size ∧ s.size ≤ 8)) : (5 : Int) = nameFault s := by
  rw [nameFault, if_neg (fun hn => h hn.1)]
theorem name_good {s : ByteArray} (h : 1 ≤ s.size ∧ s.size ≤ 8) (hg : ∀ (k : Nat) (h : k < s.size), Good k (s[k].toNat : Int)) : (0 : Int) = nameFault s := by
  rw [nameFault, if_pos ⟨h, hg⟩]
theorem name_or (s : ByteArray) : nameFault s = 0 ∨ nameFault s = 5 := by
  unfold nameFault; split <;> simp
theorem nameOk_of {s : ByteArray} (h : nameFault s = 0) : NameOk s := by
  unfold nameFault at h; split at h
  · assumption
  · cases h

/-- the places looked at so far are good -/
def GoodTo (s : ByteArray) (k : Nat) : Prop := ∀ (j : Nat) (h : j < s.size), j < k → Good j (s[j].toNat : Int)
theorem goodTo_next {s : ByteArray} {k : Nat} (h : GoodTo s k) (hk : k < s.size) (hg : Good k (s[k].toNat : Int)) : GoodTo s (k + 1) := by
  intro j hj hjk
  by_cases e : j = k
  · subst e; exact hg
  · exact h j hj (by omega)
theorem goodTo_all {s : ByteArray} {k : Nat} (h : GoodTo s k) (hk : s.size ≤ k) : ∀ (k : Nat) (h : k < s.size), Good k (s[k].toNat : Int) := fun j hj => h j hj (by omega)

set_option maxHeartbeats 1000000 in
theorem impl_name (s : ByteArray) (hs : s.size ≤ maxLen) (w : World) :
    Calls Tryz.prog 125 #[.string s] w fun e w' => e = .returned (.int .i64 (nameFault s)) ∧ w = w' := by
  unfold maxLen at hs
  go_enter Tryz.func125, Tryz.ntmps125
  go_wp2
  go_loop [3, 4, 7] (fun _ _ i => ∃ k : Nat, k ≤ s.size ∧ GoodTo s k ∧ i = .int .i64 k) (fun _ _ i => s.size - (intOf i).toNat)
  case atStart => exact ⟨0, by omega, fun j _ h => by omega, rfl⟩
  case round =>
    obtain ⟨k, hk, hg, rfl⟩ := hrel
    by_cases hlt : k < s.size
    · have HB : RowKit.Hid (¬ Good k (s[k].toNat : Int) → (5 : Int) = nameFault s) := fun hb => name_bad hlt hb
      have HG : RowKit.Hid (Good k (s[k].toNat : Int) → GoodTo s (k + 1)) := fun h => goodTo_next hg hlt h
      clear hg
      have hc : (s[k].toNat : Int) < 48 ∨ (48 ≤ (s[k].toNat : Int) ∧ (s[k].toNat : Int) ≤ 57) ∨ (57 < (s[k].toNat : Int) ∧ (s[k].toNat : Int) < 97) ∨ (97 ≤ (s[k].toNat : Int) ∧ (s[k].toNat : Int) ≤ 122) ∨ 122 < (s[k].toNat : Int) := by omega
      by_cases h0 : k = 0
      · subst h0
        rcases hc with hc | ⟨hc, hc2⟩ | ⟨hc, hc2⟩ | ⟨hc, hc2⟩ | hc
        all_goals
          go_wp2
          all_goals first
            | (go_round
               case rel => exact ⟨1, by omega, HG.out (by unfold Good; omega), rfl⟩
               case measure => simp [intOf]; omega)
            | (go_ret; exact ⟨ret_int (HB.out (by unfold Good; omega)), rfl⟩)
            | (exfalso; simp_all; done)
            | (exfalso; simp_all; omega)
      · have hk0 : (((k : Nat) : Int) == 0) = false := by rw [beq_eq_false_iff_ne]; omega
        rcases hc with hc | ⟨hc, hc2⟩ | ⟨hc, hc2⟩ | ⟨hc, hc2⟩ | hc
        all_goals
          go_wp2
          all_goals first
            | (go_round
               case rel => exact ⟨k + 1, by omega, HG.out (by unfold Good; omega), by go_num⟩
               case measure => simp [intOf]; omega)
            | (go_ret; exact ⟨ret_int (HB.out (by unfold Good; omega)), rfl⟩)
            | (exfalso; simp_all; done)
            | (exfalso; simp_all; omega)
    · have ha := goodTo_all hg (by omega)
      by_cases hl : 1 ≤ s.size ∧ s.size ≤ 8
      · have H := Lib.hid (name_good hl ha)
        obtain ⟨hl1, hl2⟩ := hl
        clear ha hg
        have a1 : (1 : Int) ≤ (s.size : Int) := by omega
        have a2 : (s.size : Int) ≤ 8 := by omega
        go_wp2
        go_ret
        exact ⟨ret_int H.out, rfl⟩
      · have H := Lib.hid (name_len hl)
        clear ha hg
        by_cases a1 : (1 : Int) ≤ (s.size : Int)
        · have a2 : (8 : Int) < (s.size : Int) := by omega
          have d1 : decide ((s.size : Int) ≤ 8) = false := by simp; omega
          clear hl
          go_wp2
          go_ret
          exact ⟨ret_int H.out, rfl⟩
        · clear hl
          go_wp2
          go_ret
          exact ⟨ret_int H.out, rfl⟩
set_option maxHeartbeats 1000000 in
theorem spec_name (s : ByteArray) (hs : s.size ≤ maxLen) (w : World) :
    Calls Tryz.prog 192 #[.string s] w fun e w' => e = .returned (.int .i64 (nameFault s)) ∧ w = w' := by
  unfold maxLen at hs
  by_cases hl : 1 ≤ s.size ∧ s.size ≤ 8
  · have hlt : 0 < s.size := by omega
    have a1 : (1 : Int) ≤ (s.size : Int) := by omega
    have a2 : (s.size : Int) ≤ 8 := by omega
    have hc : (s[0].toNat : Int) < 97 ∨ 122 < (s[0].toNat : Int) ∨ (97 ≤ (s[0].toNat : Int) ∧ (s[0].toNat : Int) ≤ 122) := by omega
    rcases hc with hc | hc | ⟨hc1, hc2⟩
    · have H := Lib.hid (name_bad hlt (by unfold Good; omega))
      clear hl
      go_enter Tryz.func192, Tryz.ntmps192
      go_wp2
      go_ret
      exact ⟨ret_int H.out, rfl⟩
    · have H := Lib.hid (name_bad hlt (by unfold Good; omega))
      clear hl
      go_enter Tryz.func192, Tryz.ntmps192
      go_wp2
      go_ret
      exact ⟨ret_int H.out, rfl⟩
    · have hl' := Lib.hid hl
      have hc' : RowKit.Hid (97 ≤ (s[0].toNat : Int) ∧ (s[0].toNat : Int) ≤ 122) := ⟨hc1, hc2⟩
      clear hl
      go_enter Tryz.func192, Tryz.ntmps192
      go_wp2
      clear hc1 hc2
      go_loop [3] (fun i => ∃ k : Nat, k ≤ s.size ∧ GoodTo s k ∧ i = .int .i64 k) (fun i => s.size - (intOf i).toNat)
      case atStart => exact ⟨0, by omega, fun j _ h => by omega, rfl⟩
      case round =>
        obtain ⟨k, hk, hg, rfl⟩ := hrel
        by_cases hlt : k < s.size
        · have HB : RowKit.Hid (¬ Good k (s[k].toNat : Int) → (5 : Int) = nameFault s) := fun hb => name_bad hlt hb
          have HG : RowKit.Hid (Good k (s[k].toNat : Int) → GoodTo s (k + 1)) := fun h => goodTo_next hg hlt h
          clear hg
          have hc : (s[k].toNat : Int) < 48 ∨ (48 ≤ (s[k].toNat : Int) ∧ (s[k].toNat : Int) ≤ 57) ∨ (57 < (s[k].toNat : Int) ∧ (s[k].toNat : Int) < 97) ∨ (97 ≤ (s[k].toNat : Int) ∧ (s[k].toNat : Int) ≤ 122) ∨ 122 < (s[k].toNat : Int) := by omega
          by_cases h0 : k = 0
          · subst h0
            obtain ⟨hc1, hc2⟩ := hc'.out
            have hgood : GoodTo s 1 := HG.out (by unfold Good; omega)
            clear hc
            go_wp2
            go_round
            case rel => exact ⟨1, by omega, hgood, rfl⟩
            case measure => simp [intOf]; omega
          · rcases hc with hc | ⟨hc, hc2⟩ | ⟨hc, hc2⟩ | ⟨hc, hc2⟩ | hc
            all_goals
              go_wp2
              all_goals first
                | (go_round
                   case rel => exact ⟨k + 1, by omega, HG.out (by unfold Good; omega), by go_num⟩
                   case measure => simp [intOf]; omega)
                | (go_ret; exact ⟨ret_int (HB.out (by unfold Good; omega)), rfl⟩)
                | (exfalso; simp_all; done)
                | (exfalso; simp_all; omega)
        · have H := Lib.hid (name_good hl'.out (goodTo_all hg (by omega)))
          clear hg
          go_wp2
          go_ret
          exact ⟨ret_int H.out, rfl⟩
  · have H := Lib.hid (name_len hl)
    by_cases a1 : (1 : Int) ≤ (s.size : Int)
    · have a2 : (8 : Int) < (s.size : Int) := by omega
      clear hl
      go_enter Tryz.func192, Tryz.ntmps192
      go_wp2
      go_ret
      exact ⟨ret_int H.out, rfl⟩
    · clear hl
      go_enter Tryz.func192, Tryz.ntmps192
      go_wp2
      go_ret
      exact ⟨ret_int H.out, rfl⟩
end Go.Proofs.YtphmpimgbmedbaaGreat
