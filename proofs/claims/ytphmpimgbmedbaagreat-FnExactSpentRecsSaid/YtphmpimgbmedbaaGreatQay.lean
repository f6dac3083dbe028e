/- Several texts in one. -/
import Derived.Test.YtphmpimgbmedbaaGreatQax
import Derived.Test.YtphmpimgbmedbaaGreatQaf
import Derived.Laws.OwnMore
import Derived.Test.YtphmpimgbmedbaaGreatQan
import Derived.Test.YtphmpimgbmedbaaGreatQav
import Derived.Test.YtphmpimgbmedbaaGreatQar
import Derived.Test.YtphmpimgbmedbaaGreatQam
namespace Go.Proofs.YtphmpimgbmedbaaGreat
open Go.RowKit
open Go.Lib (hid)
set_option maxRecDepth 100000 in
set_option maxHeartbeats 2000000 in
theorem spn1_any (x r : Rec) (B : Nat) {a6 a7 a8 b6 b7 b8 : Option Addr} {l6 c6 l7 c7 l8 c8 m6 d6 m7 d7 m8 d8 : Nat} (w : World) (h : w.heap[B]? = some (.cells #[.int .i64 r.kind, .int .i64 r.seq, .string r.name, .int .i64 r.length, .int .i64 r.group, .int .i64 r.row, .slice b6 m6 d6, .slice b7 m7 d7, .slice b8 m8 d8] 67 (0, 0))) :
  Calls Tryz.prog 242 #[.agg #[.int .i64 x.kind, .int .i64 x.seq, .string x.name, .int .i64 x.length, .int .i64 x.group, .int .i64 x.row, .slice a6 l6 c6, .slice a7 l7 c7, .slice a8 l8 c8], .pointer (some ⟨B, 0, none⟩)] w fun e w' => e = .returned (.bool (pb (x.kind = 1 ∧ x.name = r.name))) ∧ Chg [] w w' := by
 have cB := cellsOf h; have lB := ltOf h
 have G0 := hid ((Chg.refl [] w).alloc (.cells #[.int .i64 x.kind, .int .i64 x.seq, .string x.name, .int .i64 x.length, .int .i64 x.group, .int .i64 x.row, .slice a6 l6 c6, .slice a7 l7 c7, .slice a8 l8 c8] 67))
 clear h
 by_cases h1 : x.kind = 1
 ·have bh1 : (x.kind == 1) = true := by simp [h1]
  by_cases h2 : x.name = r.name
  ·have bh2 : (x.name.toList == r.name.toList) = true := by rw [h2]; simp
   have HR := hid (show pb (x.kind = 1 ∧ x.name = r.name) = true from pb_true ⟨h1, h2⟩)
   clear h1 h2
   rw [HR.out]
   go_enter Tryz.func242, Tryz.ntmps242
   go_wp2_with fail
   go_ret
   exact ⟨rfl, G0.out⟩
  ·have bh2 : (x.name.toList == r.name.toList) = false := by exact toList_ne h2
   have HR := hid (show pb (x.kind = 1 ∧ x.name = r.name) = false from pb_false (fun h => h2 h.2))
   clear h1 h2
   rw [HR.out]
   go_enter Tryz.func242, Tryz.ntmps242
   go_wp2_with fail
   go_ret
   exact ⟨rfl, G0.out⟩
 ·have bh1 : (x.kind == 1) = false := by simpa using h1
  have HR := hid (show pb (x.kind = 1 ∧ x.name = r.name) = false from pb_false (fun h => h1 h.1))
  clear h1
  rw [HR.out]
  go_enter Tryz.func242, Tryz.ntmps242
  go_wp2_with fail
  go_ret
  exact ⟨rfl, G0.out⟩
theorem cf_spn1_any : ∀ (args : Array Value) (w : World), (callFunc 242 args).run Tryz.prog w = .ok (.enter 242 args) w := fun _ _ => by go_simp
set_option maxRecDepth 100000 in
set_option maxHeartbeats 2000000 in
theorem spn2_any (x r : Rec) (B : Nat) {a6 a7 a8 b6 b7 b8 : Option Addr} {l6 c6 l7 c7 l8 c8 m6 d6 m7 d7 m8 d8 : Nat} (w : World) (h : w.heap[B]? = some (.cells #[.int .i64 r.kind, .int .i64 r.seq, .string r.name, .int .i64 r.length, .int .i64 r.group, .int .i64 r.row, .slice b6 m6 d6, .slice b7 m7 d7, .slice b8 m8 d8] 67 (0, 0))) :
  Calls Tryz.prog 244 #[.agg #[.int .i64 x.kind, .int .i64 x.seq, .string x.name, .int .i64 x.length, .int .i64 x.group, .int .i64 x.row, .slice a6 l6 c6, .slice a7 l7 c7, .slice a8 l8 c8], .pointer (some ⟨B, 0, none⟩)] w fun e w' => e = .returned (.bool (pb (x.kind = 2 ∧ x.seq = r.seq))) ∧ Chg [] w w' := by
 have cB := cellsOf h; have lB := ltOf h
 have G0 := hid ((Chg.refl [] w).alloc (.cells #[.int .i64 x.kind, .int .i64 x.seq, .string x.name, .int .i64 x.length, .int .i64 x.group, .int .i64 x.row, .slice a6 l6 c6, .slice a7 l7 c7, .slice a8 l8 c8] 67))
 clear h
 by_cases h1 : x.kind = 2
 ·have bh1 : (x.kind == 2) = true := by simp [h1]
  by_cases h2 : x.seq = r.seq
  ·have bh2 : (x.seq == r.seq) = true := by simp [h2]
   have HR := hid (show pb (x.kind = 2 ∧ x.seq = r.seq) = true from pb_true ⟨h1, h2⟩)
   clear h1 h2
   rw [HR.out]
   go_enter Tryz.func244, Tryz.ntmps244
   go_wp2_with fail
   go_ret
   exact ⟨rfl, G0.out⟩
  ·have bh2 : (x.seq == r.seq) = false := by simpa using h2
   have HR := hid (show pb (x.kind = 2 ∧ x.seq = r.seq) = false from pb_false (fun h => h2 h.2))
   clear h1 h2
   rw [HR.out]
   go_enter Tryz.func244, Tryz.ntmps244
   go_wp2_with fail
   go_ret
   exact ⟨rfl, G0.out⟩
 ·have bh1 : (x.kind == 2) = false := by simpa using h1
  have HR := hid (show pb (x.kind = 2 ∧ x.seq = r.seq) = false from pb_false (fun h => h1 h.1))
  clear h1
  rw [HR.out]
  go_enter Tryz.func244, Tryz.ntmps244
  go_wp2_with fail
  go_ret
  exact ⟨rfl, G0.out⟩
theorem cf_spn2_any : ∀ (args : Array Value) (w : World), (callFunc 244 args).run Tryz.prog w = .ok (.enter 244 args) w := fun _ _ => by go_simp
set_option maxRecDepth 100000 in
set_option maxHeartbeats 2000000 in
theorem spn3_any (x r : Rec) (B : Nat) {a6 a7 a8 b6 b7 b8 : Option Addr} {l6 c6 l7 c7 l8 c8 m6 d6 m7 d7 m8 d8 : Nat} (w : World) (h : w.heap[B]? = some (.cells #[.int .i64 r.kind, .int .i64 r.seq, .string r.name, .int .i64 r.length, .int .i64 r.group, .int .i64 r.row, .slice b6 m6 d6, .slice b7 m7 d7, .slice b8 m8 d8] 67 (0, 0))) :
  Calls Tryz.prog 245 #[.agg #[.int .i64 x.kind, .int .i64 x.seq, .string x.name, .int .i64 x.length, .int .i64 x.group, .int .i64 x.row, .slice a6 l6 c6, .slice a7 l7 c7, .slice a8 l8 c8], .pointer (some ⟨B, 0, none⟩)] w fun e w' => e = .returned (.bool (pb ((x.kind = 3 ∧ x.seq = r.seq) ∨ (x.kind = 4 ∧ x.group = r.group ∧ x.row = r.row ∧ r.seq < x.seq)))) ∧ Chg [] w w' := by
 have cB := cellsOf h; have lB := ltOf h
 have G0 := hid ((Chg.refl [] w).alloc (.cells #[.int .i64 x.kind, .int .i64 x.seq, .string x.name, .int .i64 x.length, .int .i64 x.group, .int .i64 x.row, .slice a6 l6 c6, .slice a7 l7 c7, .slice a8 l8 c8] 67))
 clear h
 by_cases h1 : x.kind = 3
 ·have bh1 : (x.kind == 3) = true := by simp [h1]
  by_cases h2 : x.seq = r.seq
  ·have bh2 : (x.seq == r.seq) = true := by simp [h2]
   have HR := hid (show pb ((x.kind = 3 ∧ x.seq = r.seq) ∨ (x.kind = 4 ∧ x.group = r.group ∧ x.row = r.row ∧ r.seq < x.seq)) = true from pb_true (.inl ⟨h1, h2⟩))
   clear h1 h2
   rw [HR.out]
   go_enter Tryz.func245, Tryz.ntmps245
   go_wp2_with fail
   go_ret
   exact ⟨rfl, G0.out⟩
  ·have bh2 : (x.seq == r.seq) = false := by simpa using h2
   have b4 : (x.kind == 4) = false := by simp [h1]
   have HR := hid (show pb ((x.kind = 3 ∧ x.seq = r.seq) ∨ (x.kind = 4 ∧ x.group = r.group ∧ x.row = r.row ∧ r.seq < x.seq)) = false from pb_false (fun h => h.elim (fun h => h2 h.2) (fun h => by omega)))
   clear h1 h2
   rw [HR.out]
   go_enter Tryz.func245, Tryz.ntmps245
   go_wp2_with fail
   go_ret
   exact ⟨rfl, G0.out⟩
 ·have bh1 : (x.kind == 3) = false := by simpa using h1
  by_cases h4 : x.kind = 4
  ·have bh4 : (x.kind == 4) = true := by simp [h4]
   by_cases h5 : x.group = r.group
   ·have bh5 : (x.group == r.group) = true := by simp [h5]
    by_cases h6 : x.row = r.row
    ·have bh6 : (x.row == r.row) = true := by simp [h6]
     by_cases h7 : r.seq < x.seq
     ·have bh7 : decide (x.seq > r.seq) = true := by simp [h7]
      have HR := hid (show pb ((x.kind = 3 ∧ x.seq = r.seq) ∨ (x.kind = 4 ∧ x.group = r.group ∧ x.row = r.row ∧ r.seq < x.seq)) = true from pb_true (.inr ⟨h4, h5, h6, h7⟩))
      clear h1 h4 h5 h6
      rw [HR.out]
      go_enter Tryz.func245, Tryz.ntmps245
      go_wp2_with fail
      go_ret
      exact ⟨rfl, G0.out⟩
     ·have bh7 : decide (x.seq > r.seq) = false := by simpa using h7
      have HR := hid (show pb ((x.kind = 3 ∧ x.seq = r.seq) ∨ (x.kind = 4 ∧ x.group = r.group ∧ x.row = r.row ∧ r.seq < x.seq)) = false from pb_false (fun h => h.elim (fun h => h1 h.1) (fun h => h7 h.2.2.2)))
      clear h1 h4 h5 h6
      rw [HR.out]
      go_enter Tryz.func245, Tryz.ntmps245
      go_wp2_with fail
      go_ret
      exact ⟨rfl, G0.out⟩
    ·have bh6 : (x.row == r.row) = false := by simpa using h6
     have HR := hid (show pb ((x.kind = 3 ∧ x.seq = r.seq) ∨ (x.kind = 4 ∧ x.group = r.group ∧ x.row = r.row ∧ r.seq < x.seq)) = false from pb_false (fun h => h.elim (fun h => h1 h.1) (fun h => h6 h.2.2.1)))
     clear h1 h4 h5 h6
     rw [HR.out]
     go_enter Tryz.func245, Tryz.ntmps245
     go_wp2_with fail
     go_ret
     exact ⟨rfl, G0.out⟩
   ·have bh5 : (x.group == r.group) = false := by simpa using h5
    have HR := hid (show pb ((x.kind = 3 ∧ x.seq = r.seq) ∨ (x.kind = 4 ∧ x.group = r.group ∧ x.row = r.row ∧ r.seq < x.seq)) = false from pb_false (fun h => h.elim (fun h => h1 h.1) (fun h => h5 h.2.1)))
    clear h1 h4 h5
    rw [HR.out]
    go_enter Tryz.func245, Tryz.ntmps245
    go_wp2_with fail
    go_ret
    exact ⟨rfl, G0.out⟩
  ·have bh4 : (x.kind == 4) = false := by simpa using h4
   have HR := hid (show pb ((x.kind = 3 ∧ x.seq = r.seq) ∨ (x.kind = 4 ∧ x.group = r.group ∧ x.row = r.row ∧ r.seq < x.seq)) = false from pb_false (fun h => h.elim (fun h => h1 h.1) (fun h => h4 h.1)))
   clear h1 h4
   rw [HR.out]
   go_enter Tryz.func245, Tryz.ntmps245
   go_wp2_with fail
   go_ret
   exact ⟨rfl, G0.out⟩
theorem cf_spn3_any : ∀ (args : Array Value) (w : World), (callFunc 245 args).run Tryz.prog w = .ok (.enter 245 args) w := fun _ _ => by go_simp
theorem Lay.sl_dropR {α : Type} (L : Lay α) {w : World} {b off len cap : Nat} {xs : List α} {fp : List Nat} (h : L.sl w (some ⟨b, off, none⟩) len cap xs fp) {n : Nat} (hn : n ≤ len) :
  ∃ f', L.sl w (some ⟨b, off + n * L.n, none⟩) (len - n) (cap - n) (xs.drop n) f' := by
 obtain ⟨h1, h2, h3, h4, ⟨rfl, rfl⟩ | ⟨b', off', cur, E, fr, fps, ha, hb, hall, rfl⟩⟩ := h
 ·simp only [List.length_nil] at h1
  obtain rfl : n = 0 := by omega
  exact ⟨[], by simp; omega, by omega, by omega, (fun h => by cases h), .inl ⟨by simp, rfl⟩⟩
 ·cases ha
  have hsp : L.all w ((cur.toList.drop off).take (len * L.n)) (xs.take n ++ xs.drop n) fps := by rw [List.take_append_drop]; exact hall
  obtain ⟨f1, f2, rfl, k1, k2⟩ := L.all_split hsp
  have hl : (xs.take n).length = n := by rw [List.length_take]; omega
  rw [hl, List.drop_take, List.drop_drop, ← Nat.sub_mul] at k2
  exact ⟨b :: f2, by rw [List.length_drop]; omega, by omega, by omega, (fun h => by cases h), .inr ⟨b, _, cur, E, fr, f2, rfl, hb, k2, rfl⟩⟩
theorem setB_yes {gs : Int} {l : List Rec} {r : Rec} : ∀ {n : Nat}, (∀ j : Nat, j < n → donB l r.seq (gs + j) = true) → setB gs l r n = donB l r.seq r.group
 | 0, _ => rfl
 | n + 1, h => by
  show (setB gs l r n && donB l r.seq (gs + n)) = _
  rw [setB_yes (fun j hj => h j (by omega)), h n (by omega), Bool.and_true]
theorem setB_no {gs : Int} {l : List Rec} {r : Rec} {j : Nat} (hj : donB l r.seq (gs + j) = false) : ∀ {n : Nat}, j < n → setB gs l r n = false
 | 0, h => by omega
 | n + 1, h => by
  show (setB gs l r n && donB l r.seq (gs + n)) = false
  rcases Nat.lt_or_ge j n with h1 | h1
  ·rw [setB_no hj h1]; rfl
  ·obtain rfl : j = n := by omega
   rw [hj, Bool.and_false]
theorem allM_any (s : Shp) (hs : s.ok) (w : World) :
  Calls Tryz.prog 179 #[.agg #[.int .i64 s.groups, .int .i64 s.column, .int .i64 s.data, .int .i64 s.spare, .int .i64 s.rows, .int .i64 s.cap, .int .i64 s.batch, .int .i64 s.queue, .int .i64 s.stage]] w fun e w' => e = .returned (.int .i64 (s.groups + s.column)) ∧ Chg [] w w' := all_any s hs w
set_option maxRecDepth 100000 in
set_option maxHeartbeats 4000000 in
theorem doneEv_any (m : Nat) (s : Shp) (hok : s.ok) {u9 u10 u11 u12 u13 u14 : Value} (r : Rec) {b6 b7 b8 : Option Addr} {m6 d6 m7 d7 m8 d8 : Nat} (a : Option Addr) (l c : Nat) (xs : List Rec) (f : List Nat) (w : World) (h : w.heap[m]? = some (.cells #[.int .i64 s.groups, .int .i64 s.column, .int .i64 s.data, .int .i64 s.spare, .int .i64 s.rows, .int .i64 s.cap, .int .i64 s.batch, .int .i64 s.queue, .int .i64 s.stage, u9, u10, u11, u12, u13, u14] 34 (0, 0))) (hs : recL.sl w a l c xs f) :
  Calls Tryz.prog 243 #[.pointer (some ⟨m, 0, none⟩), .slice a l c, .agg #[.int .i64 r.kind, .int .i64 r.seq, .string r.name, .int .i64 r.length, .int .i64 r.group, .int .i64 r.row, .slice b6 m6 d6, .slice b7 m7 d7, .slice b8 m8 d8]] w fun e w' => e = .returned (.bool (setB s.groups xs r s.column.toNat)) ∧ Chg [] w w' := by
 have g0 : Chg [] w (w.alloc (.cells #[.int .i64 r.kind, .int .i64 r.seq, .string r.name, .int .i64 r.length, .int .i64 r.group, .int .i64 r.row, .slice b6 m6 d6, .slice b7 m7 d7, .slice b8 m8 d8] 67)) := (Chg.refl [] w).alloc _
 have HB := hid (new_alloc w (.cells #[.int .i64 r.kind, .int .i64 r.seq, .string r.name, .int .i64 r.length, .int .i64 r.group, .int .i64 r.row, .slice b6 m6 d6, .slice b7 m7 d7, .slice b8 m8 d8] 67)); have HM := hid (g0.keep0 h); have HS := hid (recL.sl_ext hs g0); have G0 := hid g0
 have hak := hok.all; have hg4 := hok.groups
 simp only [Shp.all] at hak
 obtain ⟨A, hA⟩ : ∃ A, A = s.groups + s.column := ⟨_, rfl⟩
 have hcl : 0 ≤ s.column := by have h := hok; unfold Shp.ok at h; omega
 have HAL := hid (fun w => by have h := allM_any s hok w; rw [← hA] at h; exact h)
 have HA := hid hA
 rw [← hA] at hak
 have cm := cellsOf (keep_alloc h (.cells #[.int .i64 r.kind, .int .i64 r.seq, .string r.name, .int .i64 r.length, .int .i64 r.group, .int .i64 r.row, .slice b6 m6 d6, .slice b7 m7 d7, .slice b8 m8 d8] 67)); have lm := ltOf (keep_alloc h (.cells #[.int .i64 r.kind, .int .i64 r.seq, .string r.name, .int .i64 r.length, .int .i64 r.group, .int .i64 r.row, .slice b6 m6 d6, .slice b7 m7 d7, .slice b8 m8 d8] 67))
 clear h hs g0 hA
 go_enter Tryz.func243, Tryz.ntmps243
 go_wp2_with fail
 go_loopw [7] (fun vg wr => ∃ (k : Nat) (gv : Int) (Wr : World), Wr = wr ∧ (s.groups ≤ gv ∧ gv ≤ A) ∧ Hid (gv = s.groups + k) ∧ vg = .int .i64 gv ∧ Hid (∀ j : Nat, j < k → donB xs r.seq (s.groups + j) = true) ∧ Chg [] (w.alloc (.cells #[.int .i64 r.kind, .int .i64 r.seq, .string r.name, .int .i64 r.length, .int .i64 r.group, .int .i64 r.row, .slice b6 m6 d6, .slice b7 m7 d7, .slice b8 m8 d8] 67)) wr) (fun vg _ => (A - intOf vg).toNat)
 case atStart => exact ⟨0, s.groups, _, rfl, ⟨by omega, by have := HA.out; omega⟩, hid (by simp), rfl, hid (fun j hj => by omega), Chg.refl _ _⟩
 case round =>
  clear cm lm
  obtain ⟨k, gv, wr, rfl, hgv, HK, rfl, HD, hc⟩ := hrel
  have hb := hc.keep0 HB.out; have hm := hc.keep0 HM.out
  have cb := cellsOf hb; have lb := ltOf hb; have cm := cellsOf hm; have lm := ltOf hm
  have HBR := hid hb; have HMR := hid hm; have HC := hid hc
  clear hb hm hc
  go_wp2_with fail
  refine (HAL.out wr).mono ?_
  rintro e w2 ⟨rfl, hc2⟩
  have hb := hc2.keep0 HBR.out
  clear cb lb cm lm
  have cb := cellsOf hb; have lb := ltOf hb
  have HC2 := hid (HC.out.trans0 hc2)
  clear hc2 hb
  have HDN := hid (isDone_any a l c xs f r.seq gv w2 (recL.sl_ext HS.out HC2.out))
  by_cases hlt : gv < A
  ·cases hd : donB xs r.seq gv
   ·have HR := hid (show setB s.groups xs r s.column.toNat = false from setB_no (j := k) (by rw [← HK.out]; exact hd) (by have := HA.out; have := HK.out; omega))
    rw [hd] at HDN
    clear hd
    go_wp2_with fail
    refine HDN.out.mono ?_
    rintro e w3 ⟨rfl, hc3⟩
    have HC3 := hid (HC2.out.trans0 hc3); clear hc3
    go_wp2_with fail
    go_ret
    exact ⟨by rw [HR.out]; rfl, G0.out.trans0 HC3.out⟩
   ·have HD2 := hid (show ∀ j : Nat, j < k + 1 → donB xs r.seq (s.groups + j) = true from fun j hj => by
     rcases Nat.lt_or_ge j k with h1 | h1
     ·exact HD.out j h1
     ·obtain rfl : j = k := by omega
      rw [← HK.out]; exact hd)
    rw [hd] at HDN
    clear hd
    go_wp2_with fail
    refine HDN.out.mono ?_
    rintro e w3 ⟨rfl, hc3⟩
    have HC3 := hid (HC2.out.trans0 hc3); clear hc3
    go_wp2_with fail
    go_roundw
    case rel => exact ⟨k + 1, gv + 1, _, rfl, ⟨by omega, by omega⟩, hid (by have := HK.out; omega), by go_num, HD2, HC3.out⟩
    case measure => simp [intOf]; omega
  ·have HR := hid (show setB s.groups xs r s.column.toNat = donB xs r.seq r.group from setB_yes (fun j hj => HD.out j (by have := HA.out; have := HK.out; omega)))
   have HDG := hid (isDone_any a l c xs f r.seq r.group w2 (recL.sl_ext HS.out HC2.out))
   go_wp2_with fail
   refine HDG.out.mono ?_
   rintro e w3 ⟨rfl, hc3⟩
   have HC3 := hid (HC2.out.trans0 hc3); clear hc3
   go_wp2_with fail
   go_ret
   exact ⟨by rw [HR.out]; rfl, G0.out.trans0 HC3.out⟩
set_option maxRecDepth 100000 in
set_option maxHeartbeats 4000000 in
theorem spent_a (m : Nat) (s : Shp) (_hok : s.ok) {u9 u10 u11 u12 u13 u14 : Value} (a : Option Addr) (l c : Nat) (xs : List Rec) (f : List Nat) (k : Nat) (r : Rec) (w : World) (h : w.heap[m]? = some (.cells #[.int .i64 s.groups, .int .i64 s.column, .int .i64 s.data, .int .i64 s.spare, .int .i64 s.rows, .int .i64 s.cap, .int .i64 s.batch, .int .i64 s.queue, .int .i64 s.stage, u9, u10, u11, u12, u13, u14] 34 (0, 0))) (hs : recL.sl w a l c xs f) (hk : xs[k]? = some r) (hl : xs.length ≤ 400) (hkd : r.kind = 1) (hkc : k + 1 < c) :
  Calls Tryz.prog 184 #[.pointer (some ⟨m, 0, none⟩), .slice a l c, .int .i64 k] w fun e w' => e = .returned (.bool (spB s.groups s.column.toNat xs k r)) ∧ Chg [] w w' := by
 have hlx := hs.1
 have hkl : k < l := by have := (List.getElem?_eq_some_iff.1 hk).1; omega
 obtain ⟨r', b2, off2, b6, m6, d6, b7, m7, d7, b8, m8, d8, fq, HR, rfl, hq0, hq1, hq2, hq3, hq4, hq5, hq6, hq7, hq8, HXS⟩ := rec_at hs hkl
 obtain rfl : r = r' := Option.some.inj (hk.symm.trans HR.out.1)
 have g0 : Chg [] w (w.alloc (.cells #[.int .i64 r.kind, .int .i64 r.seq, .string r.name, .int .i64 r.length, .int .i64 r.group, .int .i64 r.row, .slice b6 m6 d6, .slice b7 m7 d7, .slice b8 m8 d8] 67)) := (Chg.refl [] w).alloc _
 have HB := hid (new_alloc w (.cells #[.int .i64 r.kind, .int .i64 r.seq, .string r.name, .int .i64 r.length, .int .i64 r.group, .int .i64 r.row, .slice b6 m6 d6, .slice b7 m7 d7, .slice b8 m8 d8] 67)); have HM := hid (g0.keep0 h); have G0 := hid g0; have HXS2 := hid (recL.ext HXS.out g0)
 have hs2 := recL.sl_ext hs g0
 have hcl : c ≤ maxLen := hs.2.2.1
 have hlc : l ≤ c := hs.2.1
 have HRB := hid (show spB s.groups s.column.toNat xs k r = (xs.drop (k + 1)).any (fun x => pb (x.kind = 1 ∧ x.name = r.name)) by unfold spB; rw [if_pos hkd])
 obtain ⟨k1, hk1⟩ : ∃ k1, k1 = k + 1 := ⟨_, rfl⟩
 have hw1 : IntKind.i64.wrap ((k : Int) + 1) = (k1 : Int) := by rw [IntWalk.i64_in _ ⟨by omega, by omega⟩]; omega
 have hkl1 : k1 ≤ l := by omega
 have hne : ¬ c = k1 := by omega
 rw [← hk1] at HRB
 obtain ⟨f', hd⟩ := recL.sl_dropR hs2 (n := k1) hkl1
 have hd : recL.sl (w.alloc (.cells #[.int .i64 r.kind, .int .i64 r.seq, .string r.name, .int .i64 r.length, .int .i64 r.group, .int .i64 r.row, .slice b6 m6 d6, .slice b7 m7 d7, .slice b8 m8 d8] 67)) (some ⟨b2, off2 + k1 * 9, none⟩) (l - k1) (c - k1) (xs.drop k1) f' := hd
 have HQ := hid (contRec_any 242 #[.pointer (some ⟨w.heap.size, 0, none⟩)] (fun x => pb (x.kind = 1 ∧ x.name = r.name)) (some ⟨b2, off2 + k1 * 9, none⟩) (l - k1) (c - k1) (xs.drop k1) _ (w.alloc (.cells #[.int .i64 r.kind, .int .i64 r.seq, .string r.name, .int .i64 r.length, .int .i64 r.group, .int .i64 r.row, .slice b6 m6 d6, .slice b7 m7 d7, .slice b8 m8 d8] 67)) hd cf_spn1_any (fun x a6 l6 c6 a7 l7 c7 a8 l8 c8 fx w1 _ h2 _ => spn1_any x r _ w1 (h2.keep0 HB.out)))
 have hb1 : (r.kind == 1) = true := by simp [hkd]
 clear hd hkd hk1 hkc
 clear h hs g0 hk hl HR HXS hlx hs2
 go_enter Tryz.func184, Tryz.ntmps184
 go_wp2_with fail
 refine HQ.out.mono ?_
 rintro e w3 ⟨rfl, hc3⟩
 have HC3 := hid (G0.out.trans0 hc3); clear hc3
 go_wp2_with fail
 go_ret
 exact ⟨by rw [HRB.out]; rfl, HC3.out⟩
set_option maxRecDepth 100000 in
set_option maxHeartbeats 4000000 in
theorem spent_z (m : Nat) (s : Shp) (_hok : s.ok) {u9 u10 u11 u12 u13 u14 : Value} (a : Option Addr) (l c : Nat) (xs : List Rec) (f : List Nat) (k : Nat) (r : Rec) (w : World) (h : w.heap[m]? = some (.cells #[.int .i64 s.groups, .int .i64 s.column, .int .i64 s.data, .int .i64 s.spare, .int .i64 s.rows, .int .i64 s.cap, .int .i64 s.batch, .int .i64 s.queue, .int .i64 s.stage, u9, u10, u11, u12, u13, u14] 34 (0, 0))) (hs : recL.sl w a l c xs f) (hk : xs[k]? = some r) (hl : xs.length ≤ 400) (hkd : r.kind = 1) (hkc : k + 1 = c) :
  Calls Tryz.prog 184 #[.pointer (some ⟨m, 0, none⟩), .slice a l c, .int .i64 k] w fun e w' => e = .returned (.bool (spB s.groups s.column.toNat xs k r)) ∧ Chg [] w w' := by
 have hlx := hs.1
 have hkl : k < l := by have := (List.getElem?_eq_some_iff.1 hk).1; omega
 obtain ⟨r', b2, off2, b6, m6, d6, b7, m7, d7, b8, m8, d8, fq, HR, rfl, hq0, hq1, hq2, hq3, hq4, hq5, hq6, hq7, hq8, HXS⟩ := rec_at hs hkl
 obtain rfl : r = r' := Option.some.inj (hk.symm.trans HR.out.1)
 have g0 : Chg [] w (w.alloc (.cells #[.int .i64 r.kind, .int .i64 r.seq, .string r.name, .int .i64 r.length, .int .i64 r.group, .int .i64 r.row, .slice b6 m6 d6, .slice b7 m7 d7, .slice b8 m8 d8] 67)) := (Chg.refl [] w).alloc _
 have HB := hid (new_alloc w (.cells #[.int .i64 r.kind, .int .i64 r.seq, .string r.name, .int .i64 r.length, .int .i64 r.group, .int .i64 r.row, .slice b6 m6 d6, .slice b7 m7 d7, .slice b8 m8 d8] 67)); have HM := hid (g0.keep0 h); have G0 := hid g0; have HXS2 := hid (recL.ext HXS.out g0)
 have hs2 := recL.sl_ext hs g0
 have hcl : c ≤ maxLen := hs.2.2.1
 have hlc : l ≤ c := hs.2.1
 have HRB := hid (show spB s.groups s.column.toNat xs k r = false by unfold spB; rw [if_pos hkd, List.drop_eq_nil_of_le (by omega)]; rfl)
 obtain rfl : c = l := by omega
 have hw1 : IntKind.i64.wrap ((k : Int) + 1) = (c : Int) := by rw [IntWalk.i64_in _ ⟨by omega, by omega⟩]; omega
 have hd : recL.sl (w.alloc (.cells #[.int .i64 r.kind, .int .i64 r.seq, .string r.name, .int .i64 r.length, .int .i64 r.group, .int .i64 r.row, .slice b6 m6 d6, .slice b7 m7 d7, .slice b8 m8 d8] 67)) (some ⟨b2, off2, none⟩) 0 0 [] [] := ⟨rfl, by omega, by simp [maxLen], (fun h => by cases h), .inl ⟨rfl, rfl⟩⟩
 have HQ := hid (contRec_any 242 #[.pointer (some ⟨w.heap.size, 0, none⟩)] (fun x => pb (x.kind = 1 ∧ x.name = r.name)) (some ⟨b2, off2, none⟩) 0 0 [] _ (w.alloc (.cells #[.int .i64 r.kind, .int .i64 r.seq, .string r.name, .int .i64 r.length, .int .i64 r.group, .int .i64 r.row, .slice b6 m6 d6, .slice b7 m7 d7, .slice b8 m8 d8] 67)) hd cf_spn1_any (fun x a6 l6 c6 a7 l7 c7 a8 l8 c8 fx w1 _ h2 _ => spn1_any x r _ w1 (h2.keep0 HB.out)))
 have hb1 : (r.kind == 1) = true := by simp [hkd]
 clear hd hkd hkc
 clear h hs g0 hk hl HR HXS hlx hs2
 go_enter Tryz.func184, Tryz.ntmps184
 go_wp2_with fail
 refine HQ.out.mono ?_
 rintro e w3 ⟨rfl, hc3⟩
 have HC3 := hid (G0.out.trans0 hc3); clear hc3
 go_wp2_with fail
 go_ret
 exact ⟨by rw [HRB.out]; rfl, HC3.out⟩
set_option maxRecDepth 100000 in
set_option maxHeartbeats 4000000 in
theorem spent_b (m : Nat) (s : Shp) (hok : s.ok) {u9 u10 u11 u12 u13 u14 : Value} (a : Option Addr) (l c : Nat) (xs : List Rec) (f : List Nat) (k : Nat) (r : Rec) (w : World) (h : w.heap[m]? = some (.cells #[.int .i64 s.groups, .int .i64 s.column, .int .i64 s.data, .int .i64 s.spare, .int .i64 s.rows, .int .i64 s.cap, .int .i64 s.batch, .int .i64 s.queue, .int .i64 s.stage, u9, u10, u11, u12, u13, u14] 34 (0, 0))) (hs : recL.sl w a l c xs f) (hk : xs[k]? = some r) (_hl : xs.length ≤ 400) (hkd : r.kind = 2) :
  Calls Tryz.prog 184 #[.pointer (some ⟨m, 0, none⟩), .slice a l c, .int .i64 k] w fun e w' => e = .returned (.bool (spB s.groups s.column.toNat xs k r)) ∧ Chg [] w w' := by
 have hlx := hs.1
 have hkl : k < l := by have := (List.getElem?_eq_some_iff.1 hk).1; omega
 obtain ⟨r', b2, off2, b6, m6, d6, b7, m7, d7, b8, m8, d8, fq, HR, rfl, hq0, hq1, hq2, hq3, hq4, hq5, hq6, hq7, hq8, HXS⟩ := rec_at hs hkl
 obtain rfl : r = r' := Option.some.inj (hk.symm.trans HR.out.1)
 have g0 : Chg [] w (w.alloc (.cells #[.int .i64 r.kind, .int .i64 r.seq, .string r.name, .int .i64 r.length, .int .i64 r.group, .int .i64 r.row, .slice b6 m6 d6, .slice b7 m7 d7, .slice b8 m8 d8] 67)) := (Chg.refl [] w).alloc _
 have HB := hid (new_alloc w (.cells #[.int .i64 r.kind, .int .i64 r.seq, .string r.name, .int .i64 r.length, .int .i64 r.group, .int .i64 r.row, .slice b6 m6 d6, .slice b7 m7 d7, .slice b8 m8 d8] 67)); have HM := hid (g0.keep0 h); have G0 := hid g0; have HXS2 := hid (recL.ext HXS.out g0)
 have hs2 := recL.sl_ext hs g0
 have hcl : c ≤ maxLen := hs.2.2.1
 have hlc : l ≤ c := hs.2.1
 have HRB := hid (show spB s.groups s.column.toNat xs k r = setB s.groups xs r s.column.toNat by unfold spB; rw [if_neg (by omega), if_pos hkd])
 have HQ := hid (doneEv_any m s hok r (b6 := b6) (b7 := b7) (b8 := b8) (m6 := m6) (d6 := d6) (m7 := m7) (d7 := d7) (m8 := m8) (d8 := d8) (some ⟨b2, off2, none⟩) l c xs f (w.alloc (.cells #[.int .i64 r.kind, .int .i64 r.seq, .string r.name, .int .i64 r.length, .int .i64 r.group, .int .i64 r.row, .slice b6 m6 d6, .slice b7 m7 d7, .slice b8 m8 d8] 67)) HM.out hs2)
 have hb1 : (r.kind == 1) = false := by simp; omega
 have hb2 : (r.kind == 2) = true := by simp [hkd]
 clear hkd
 clear h hs g0 hk _hl HR HXS hlx hs2
 go_enter Tryz.func184, Tryz.ntmps184
 go_wp2_with fail
 refine HQ.out.mono ?_
 rintro e w3 ⟨rfl, hc3⟩
 have HC3 := hid (G0.out.trans0 hc3); clear hc3
 go_wp2_with fail
 go_ret
 exact ⟨by rw [HRB.out]; rfl, HC3.out⟩
set_option maxRecDepth 100000 in
set_option maxHeartbeats 4000000 in
theorem spent_c (m : Nat) (s : Shp) (_hok : s.ok) {u9 u10 u11 u12 u13 u14 : Value} (a : Option Addr) (l c : Nat) (xs : List Rec) (f : List Nat) (k : Nat) (r : Rec) (w : World) (h : w.heap[m]? = some (.cells #[.int .i64 s.groups, .int .i64 s.column, .int .i64 s.data, .int .i64 s.spare, .int .i64 s.rows, .int .i64 s.cap, .int .i64 s.batch, .int .i64 s.queue, .int .i64 s.stage, u9, u10, u11, u12, u13, u14] 34 (0, 0))) (hs : recL.sl w a l c xs f) (hk : xs[k]? = some r) (_hl : xs.length ≤ 400) (hkd : r.kind = 3) :
  Calls Tryz.prog 184 #[.pointer (some ⟨m, 0, none⟩), .slice a l c, .int .i64 k] w fun e w' => e = .returned (.bool (spB s.groups s.column.toNat xs k r)) ∧ Chg [] w w' := by
 have hlx := hs.1
 have hkl : k < l := by have := (List.getElem?_eq_some_iff.1 hk).1; omega
 obtain ⟨r', b2, off2, b6, m6, d6, b7, m7, d7, b8, m8, d8, fq, HR, rfl, hq0, hq1, hq2, hq3, hq4, hq5, hq6, hq7, hq8, HXS⟩ := rec_at hs hkl
 obtain rfl : r = r' := Option.some.inj (hk.symm.trans HR.out.1)
 have g0 : Chg [] w (w.alloc (.cells #[.int .i64 r.kind, .int .i64 r.seq, .string r.name, .int .i64 r.length, .int .i64 r.group, .int .i64 r.row, .slice b6 m6 d6, .slice b7 m7 d7, .slice b8 m8 d8] 67)) := (Chg.refl [] w).alloc _
 have HB := hid (new_alloc w (.cells #[.int .i64 r.kind, .int .i64 r.seq, .string r.name, .int .i64 r.length, .int .i64 r.group, .int .i64 r.row, .slice b6 m6 d6, .slice b7 m7 d7, .slice b8 m8 d8] 67)); have HM := hid (g0.keep0 h); have G0 := hid g0; have HXS2 := hid (recL.ext HXS.out g0)
 have hs2 := recL.sl_ext hs g0
 have hcl : c ≤ maxLen := hs.2.2.1
 have hlc : l ≤ c := hs.2.1
 have HRB := hid (show spB s.groups s.column.toNat xs k r = !xs.any (fun x => pb (x.kind = 2 ∧ x.seq = r.seq)) by unfold spB; rw [if_neg (by omega), if_neg (by omega), if_pos hkd])
 have HQ := hid (contRec_any 244 #[.pointer (some ⟨w.heap.size, 0, none⟩)] (fun x => pb (x.kind = 2 ∧ x.seq = r.seq)) (some ⟨b2, off2, none⟩) l c xs _ (w.alloc (.cells #[.int .i64 r.kind, .int .i64 r.seq, .string r.name, .int .i64 r.length, .int .i64 r.group, .int .i64 r.row, .slice b6 m6 d6, .slice b7 m7 d7, .slice b8 m8 d8] 67)) hs2 cf_spn2_any (fun x a6 l6 c6 a7 l7 c7 a8 l8 c8 fx w1 _ h2 _ => spn2_any x r _ w1 (h2.keep0 HB.out)))
 have hb1 : (r.kind == 1) = false := by simp; omega
 have hb2 : (r.kind == 2) = false := by simp; omega
 have hb3 : (r.kind == 3) = true := by simp [hkd]
 clear hkd
 clear h hs g0 hk _hl HR HXS hlx hs2
 go_enter Tryz.func184, Tryz.ntmps184
 go_wp2_with fail
 refine HQ.out.mono ?_
 rintro e w3 ⟨rfl, hc3⟩
 have HC3 := hid (G0.out.trans0 hc3); clear hc3
 go_wp2_with fail
 go_ret
 exact ⟨by rw [HRB.out]; rfl, HC3.out⟩
set_option maxRecDepth 100000 in
set_option maxHeartbeats 4000000 in
theorem spent_d (m : Nat) (s : Shp) (_hok : s.ok) {u9 u10 u11 u12 u13 u14 : Value} (a : Option Addr) (l c : Nat) (xs : List Rec) (f : List Nat) (k : Nat) (r : Rec) (w : World) (h : w.heap[m]? = some (.cells #[.int .i64 s.groups, .int .i64 s.column, .int .i64 s.data, .int .i64 s.spare, .int .i64 s.rows, .int .i64 s.cap, .int .i64 s.batch, .int .i64 s.queue, .int .i64 s.stage, u9, u10, u11, u12, u13, u14] 34 (0, 0))) (hs : recL.sl w a l c xs f) (hk : xs[k]? = some r) (_hl : xs.length ≤ 400) (hkd : ¬ r.kind = 1 ∧ ¬ r.kind = 2 ∧ ¬ r.kind = 3) :
  Calls Tryz.prog 184 #[.pointer (some ⟨m, 0, none⟩), .slice a l c, .int .i64 k] w fun e w' => e = .returned (.bool (spB s.groups s.column.toNat xs k r)) ∧ Chg [] w w' := by
 have hlx := hs.1
 have hkl : k < l := by have := (List.getElem?_eq_some_iff.1 hk).1; omega
 obtain ⟨r', b2, off2, b6, m6, d6, b7, m7, d7, b8, m8, d8, fq, HR, rfl, hq0, hq1, hq2, hq3, hq4, hq5, hq6, hq7, hq8, HXS⟩ := rec_at hs hkl
 obtain rfl : r = r' := Option.some.inj (hk.symm.trans HR.out.1)
 have g0 : Chg [] w (w.alloc (.cells #[.int .i64 r.kind, .int .i64 r.seq, .string r.name, .int .i64 r.length, .int .i64 r.group, .int .i64 r.row, .slice b6 m6 d6, .slice b7 m7 d7, .slice b8 m8 d8] 67)) := (Chg.refl [] w).alloc _
 have HB := hid (new_alloc w (.cells #[.int .i64 r.kind, .int .i64 r.seq, .string r.name, .int .i64 r.length, .int .i64 r.group, .int .i64 r.row, .slice b6 m6 d6, .slice b7 m7 d7, .slice b8 m8 d8] 67)); have HM := hid (g0.keep0 h); have G0 := hid g0; have HXS2 := hid (recL.ext HXS.out g0)
 have hs2 := recL.sl_ext hs g0
 have hcl : c ≤ maxLen := hs.2.2.1
 have hlc : l ≤ c := hs.2.1
 have HRB := hid (show spB s.groups s.column.toNat xs k r = xs.any (fun x => pb ((x.kind = 3 ∧ x.seq = r.seq) ∨ (x.kind = 4 ∧ x.group = r.group ∧ x.row = r.row ∧ r.seq < x.seq))) by unfold spB; rw [if_neg hkd.1, if_neg hkd.2.1, if_neg hkd.2.2])
 have HQ := hid (contRec_any 245 #[.pointer (some ⟨w.heap.size, 0, none⟩)] (fun x => pb ((x.kind = 3 ∧ x.seq = r.seq) ∨ (x.kind = 4 ∧ x.group = r.group ∧ x.row = r.row ∧ r.seq < x.seq))) (some ⟨b2, off2, none⟩) l c xs _ (w.alloc (.cells #[.int .i64 r.kind, .int .i64 r.seq, .string r.name, .int .i64 r.length, .int .i64 r.group, .int .i64 r.row, .slice b6 m6 d6, .slice b7 m7 d7, .slice b8 m8 d8] 67)) hs2 cf_spn3_any (fun x a6 l6 c6 a7 l7 c7 a8 l8 c8 fx w1 _ h2 _ => spn3_any x r _ w1 (h2.keep0 HB.out)))
 have hb1 : (r.kind == 1) = false := by simpa using hkd.1
 have hb2 : (r.kind == 2) = false := by simpa using hkd.2.1
 have hb3 : (r.kind == 3) = false := by simpa using hkd.2.2
 clear hkd
 clear h hs g0 hk _hl HR HXS hlx hs2
 go_enter Tryz.func184, Tryz.ntmps184
 go_wp2_with fail
 refine HQ.out.mono ?_
 rintro e w3 ⟨rfl, hc3⟩
 have HC3 := hid (G0.out.trans0 hc3); clear hc3
 go_wp2_with fail
 go_ret
 exact ⟨by rw [HRB.out]; rfl, HC3.out⟩
theorem spent_any (m : Nat) (s : Shp) (hok : s.ok) {u9 u10 u11 u12 u13 u14 : Value} (a : Option Addr) (l c : Nat) (xs : List Rec) (f : List Nat) (k : Nat) (r : Rec) (w : World) (h : w.heap[m]? = some (.cells #[.int .i64 s.groups, .int .i64 s.column, .int .i64 s.data, .int .i64 s.spare, .int .i64 s.rows, .int .i64 s.cap, .int .i64 s.batch, .int .i64 s.queue, .int .i64 s.stage, u9, u10, u11, u12, u13, u14] 34 (0, 0))) (hs : recL.sl w a l c xs f) (hk : xs[k]? = some r) (hl : xs.length ≤ 400) :
  Calls Tryz.prog 184 #[.pointer (some ⟨m, 0, none⟩), .slice a l c, .int .i64 k] w fun e w' => e = .returned (.bool (spB s.groups s.column.toNat xs k r)) ∧ Chg [] w w' := by
 by_cases h1 : r.kind = 1
 ·have h5 := (List.getElem?_eq_some_iff.1 hk).1
  have h6 := hs.1; have h7 := hs.2.1
  by_cases h8 : k + 1 < c
  ·exact spent_a m s hok a l c xs f k r w h hs hk hl h1 h8
  ·exact spent_z m s hok a l c xs f k r w h hs hk hl h1 (by omega)
 ·by_cases h2 : r.kind = 2
  ·exact spent_b m s hok a l c xs f k r w h hs hk hl h2
  ·by_cases h3 : r.kind = 3
   ·exact spent_c m s hok a l c xs f k r w h hs hk hl h3
   ·exact spent_d m s hok a l c xs f k r w h hs hk hl ⟨h1, h2, h3⟩
def BoolsAt (w : World) (b : Nat) (bs : List Bool) : Prop := w.heap[b]? = some (.cells (bs.map Value.bool).toArray 4 (0, 0))
theorem BoolsAt.ext {w w' : World} {b : Nat} {bs : List Bool} (h : BoolsAt w b bs) (hc : Chg [] w w') : BoolsAt w' b bs := hc.keep0 h
theorem BoolsAt.cell {w : World} {b : Nat} {bs : List Bool} (h : BoolsAt w b bs) {i : Nat} {v : Bool} (hv : bs[i]? = some v) : w.cell? ⟨b, i, none⟩ = some (.bool v) := by
 rw [cellsOf h]; simp [hv]
theorem BoolsAt.set {w : World} {b : Nat} {bs : List Bool} (h : BoolsAt w b bs) (i : Nat) (v : Bool) : BoolsAt (w.setCell ⟨b, i, none⟩ (.bool v)) b (bs.set i v) := by
 have h1 := heap_setCell_same (o := i) (v := .bool v) h
 unfold BoolsAt
 rw [h1]
 congr 2
 simp [List.map_set]
theorem set_next {bs : List Bool} {v : Bool} {i n : Nat} (hi : bs[i]? = some v) (hl : bs.length = n) : (bs.take i ++ List.replicate (n - i) false).set i v = bs.take (i + 1) ++ List.replicate (n - (i + 1)) false := by
 have hil := (List.getElem?_eq_some_iff.1 hi).1
 have e : n - i = (n - (i + 1)) + 1 := by omega
 have hl2 : (bs.take i).length = i := by rw [List.length_take]; omega
 rw [e, List.replicate_succ, List.set_append_right _ _ (by omega), hl2, Nat.sub_self, List.set_cons_zero, take_next hi, List.append_assoc]
 rfl
theorem pb_dec (P : Prop) [Decidable P] : pb P = decide P := by
 by_cases h : P
 ·rw [pb_true h]; simp [h]
 ·rw [pb_false h]; simp [h]
theorem infoBo : (Tryz.prog.info? 4).map (fun i => (i.zero, i.size, i.bytes)) = some (some (.bool false), 1, 1) := by kernel_rfl
theorem kindBo : ∃ K : Kind Tryz.prog 4 1 1, K.z = .bool false := by
 obtain ⟨i0, hi, hz0, hz1, hz2⟩ := info_parts infoBo
 exact ⟨⟨i0, .bool false, hi, hz0, hz1, hz2, rfl⟩, rfl⟩
theorem make_bools (n : Nat) (hn : n ≤ 140737488355327) (w : World) :
  (Instr.makeSlice 173 (.int .i64 (n : Int)) (.int .i64 (n : Int))).run Tryz.prog w = .ok (.slice (some ⟨w.heap.size, 0, none⟩) n n) (w.alloc (.cells (Array.replicate n (.bool false)) 4)) := by
 obtain ⟨K, hK⟩ := kindBo
 have h := make_row Tryz.underlying173 K n (by omega) (by omega) w
 have e : zrow K.z (n * 1) = Array.replicate n (.bool false) := by
  rw [Nat.mul_one, hK]
  apply Array.toList_inj.1
  rw [Array.toList_replicate]
  exact toList_madeCells_one (.bool false) n
 rw [e] at h
 exact h
theorem BoolsAt.made (w : World) (n b : Nat) (hb : b = w.heap.size) : BoolsAt (w.alloc (.cells (Array.replicate n (.bool false)) 4)) b (List.replicate n false) := by
 subst hb
 have h := new_alloc w (.cells (Array.replicate n (.bool false)) 4)
 unfold BoolsAt
 rw [h]
 congr 2
 apply Array.toList_inj.1
 simp
set_option maxRecDepth 100000 in
set_option maxHeartbeats 8000000 in
theorem spentRecs_any (m : Nat) (s : Shp) (hok : s.ok) {z9 z10 z12 z13 z14 : Value} (a12 : Option Addr) (l12 c12 : Nat) (f12 : List Nat) (ts : List Tap) (w : World) (h : w.heap[m]? = some (.cells #[.int .i64 s.groups, .int .i64 s.column, .int .i64 s.data, .int .i64 s.spare, .int .i64 s.rows, .int .i64 s.cap, .int .i64 s.batch, .int .i64 s.queue, .int .i64 s.stage, z9, z10, .slice a12 l12 c12, z12, z13, z14] 34 (0, 0))) (h12 : tapL.sl w a12 l12 c12 ts f12) (hz : (ts.flatMap (·.recs)).length ≤ 400) :
  Calls Tryz.prog 107 #[.pointer (some ⟨m, 0, none⟩)] w (SlR (spnL s.groups s.column.toNat (cntL ts)) w) := by
 obtain ⟨KR, _⟩ := kindRec
 have HN := hid (counted_any m a12 l12 c12 f12 ts w h h12 (by omega))
 have HLC := hid (Nat.le_trans (cntL_len ts) hz); have HM := hid h
 clear h h12 hz
 go_enter Tryz.func107, Tryz.ntmps107
 go_wp2_with fail
 refine HN.out.mono ?_
 rintro e w1 hp
 obtain ⟨v, rfl, hr, hc⟩ := hp.rwd
 obtain ⟨a, l, c, f, rfl, hs, hlx⟩ := hr.sl
 obtain ⟨xs, hxs⟩ : ∃ xs, xs = cntL ts := ⟨_, rfl⟩
 have HX9 := hid hxs
 rw [← hxs] at hs HLC hlx
 have hll : l ≤ 400 := by have := HLC.out; omega
 obtain ⟨bs, hbs⟩ : ∃ bs, bs = spA s.groups s.column.toNat xs := ⟨_, rfl⟩
 have HBL := hid (show bs.length = l by rw [hbs, spA_len, hlx]); have HBS := hid hbs; have HL := hid hlx
 have g2 : Chg [] w1 (w1.alloc (.cells #[] 67)) := (Chg.refl [] w1).alloc _
 have hmk := fun w => make_bools l (by omega) w
 obtain ⟨W2, hW2⟩ : ∃ W2, W2 = w1.alloc (.cells #[] 67) := ⟨_, rfl⟩
 have hsz2 : W2.heap.size = w1.heap.size + 1 := by rw [hW2]; simp
 obtain ⟨bb, hb0⟩ : ∃ bb, bb = w1.heap.size + 1 := ⟨_, rfl⟩
 have hbb : bb = W2.heap.size := by rw [hsz2]; exact hb0
 have HC2 := hid (show Chg [] w W2 by rw [hW2]; exact hc.trans0 g2); have HS2 := hid (show recL.sl W2 a l c xs f by rw [hW2]; exact recL.sl_ext hs g2)
 have HOS2 := hid (show recL.os 67 W2 (.slice (some ⟨w1.heap.size, 0, none⟩) 0 0) [] (some w1.heap.size) [] by rw [hW2]; exact recL.os_made 67 w1 #[] 0 (by simp [maxLen]) (by simp))
 have HGF0 := hid (show w1.heap.size ∉ bb :: f from fun hm => by
  rcases List.mem_cons.1 hm with e | hm
  ·omega
  ·exact Nat.lt_irrefl _ (recL.sl_lt hs _ hm))
 have HG0 := hid (show w.heap.size ≤ w1.heap.size from hc.size)
 have HM2 := hid (HC2.out.keep0 HM.out); have HFB := hid (show ∀ y ∈ f, y < bb from fun y hy => by rw [hbb]; exact recL.sl_lt HS2.out y hy)
 have HB2 := hid hbb
 have HB0 := hid (show BoolsAt (W2.alloc (.cells (Array.replicate l (.bool false)) 4)) bb (bs.take 0 ++ List.replicate (l - 0) false) from BoolsAt.made W2 l bb hbb)
 clear hp hr hc hs hxs hbs hlx g2
 clear hbb
 go_wp2_with fail
 rw [← hW2, ← hb0]
 clear hW2 hsz2 hb0
 go_loopw [20] (fun vi wr => ∃ (k : Nat) (Wr : World), Wr = wr ∧ k ≤ l ∧ vi = .int .i64 k ∧ BoolsAt wr bb (bs.take k ++ List.replicate (l - k) false) ∧ Chg [] W2 wr) (fun vi _ => l - (intOf vi).toNat)
 case atStart => exact ⟨0, _, rfl, by omega, rfl, HB0.out, (Chg.refl [] W2).alloc _⟩
 case round =>
  obtain ⟨k, wr, rfl, hk, rfl, HBA, hc⟩ := hrel
  have HC := hid hc; have HBO := hid HBA
  by_cases hlt : k < l
  ·obtain ⟨r, hr⟩ : ∃ r, xs[k]? = some r := ⟨_, List.getElem?_eq_getElem (by have := HL.out; omega)⟩
   have hbk : bs[k]? = some (spB s.groups s.column.toNat xs k r) := by rw [HBS.out]; exact spA_at hr
   obtain ⟨v, hv⟩ : ∃ v, v = spB s.groups s.column.toNat xs k r := ⟨_, rfl⟩
   have HSP := hid (spent_any m s hok a l c xs f k r wr (hc.keep0 HM2.out) (recL.sl_ext HS2.out hc) hr (by have := HL.out; omega))
   rw [← hv] at HSP hbk
   have HBN := hid (set_next hbk HBL.out)
   have hlk : (bs.take k ++ List.replicate (l - k) false)[k]? = some false := by
    have hl2 : (bs.take k).length = k := by rw [List.length_take, HBL.out]; omega
    rw [List.getElem?_append_right (by omega), hl2, Nat.sub_self]
    rw [show l - k = (l - k - 1) + 1 by omega, List.replicate_succ]; rfl
   have HLK := hid hlk
   clear HBA hc hr hv hbk hlk
   go_wp2_with fail
   refine HSP.out.mono ?_
   rintro e w5 ⟨rfl, hc5⟩
   have HB5 := hid (HBO.out.ext hc5)
   have hcell := HB5.out.cell HLK.out; have hlb := ltOf HB5.out; have hfb := freeOf HB5.out
   have HN5 := hid (And.intro (show BoolsAt (w5.setCell ⟨bb, k, none⟩ (.bool v)) bb (bs.take (k + 1) ++ List.replicate (l - (k + 1)) false) by rw [← HBN.out]; exact HB5.out.set k v) ((HC.out.trans0 hc5).setCell ⟨bb, k, none⟩ (.bool v) (.inr (by rw [HB2.out]; exact Nat.le_refl _))))
   clear hc5
   go_wp2_with fail
   go_roundw
   case rel => exact ⟨k + 1, _, rfl, by omega, by go_num, HN5.out.1, HN5.out.2⟩
   case measure => simp [intOf]; omega
  ·have hkl : k = l := by omega
   subst hkl
   have hbf : bs.take k ++ List.replicate (k - k) false = bs := by rw [List.take_of_length_le (by rw [HBL.out]; exact Nat.le_refl _), Nat.sub_self, List.replicate_zero, List.append_nil]
   have HBF := hid (show BoolsAt wr bb bs by have := HBO.out; rwa [hbf] at this)
   have HSF := hid (recL.sl_ext HS2.out hc); have HCF := hid (HC2.out.trans0 hc)
   have HSH := hid (show ShF w.heap.size (bb :: f) wr (.slice (some ⟨w1.heap.size, 0, none⟩) 0 0) [] from ⟨w1.heap.size, [], recL.os_ext HOS2.out hc, HG0.out, HGF0.out, by simp⟩)
   clear hbf hc HBA
   go_wp2_with fail
   go_loopw [4, 33] (fun vo vi wr => ∃ (i : Nat) (Wr : World), Wr = wr ∧ i ≤ k ∧ vi = .int .i64 i ∧ ShF w.heap.size (bb :: f) wr vo ((xs.take i).filter (fun r => spO xs bs r k)) ∧ BoolsAt wr bb bs ∧ recL.sl wr a k c xs f ∧ Chg [] w wr) (fun _ vi _ => k - (intOf vi).toNat)
   case atStart => exact ⟨0, _, rfl, by omega, rfl, HSH.out, HBF.out, HSF.out, HCF.out⟩
   case round =>
    clear HSH HBF HSF HCF HC HBO
    obtain ⟨i, wr2, rfl, hi, rfl, hsh, hbo, hs, hc⟩ := hrel
    by_cases hlt2 : i < k
    ·obtain ⟨r, b2, off2, cy, fq, HR, rfl, HCE, HXS⟩ := rec_at2 hs hlt2
     obtain ⟨a6, l6, c6, f6, a7, l7, c7, f7, a8, l8, c8, f8, hcy, -⟩ := recL_iff.1 HXS.out
     subst hcy
     obtain ⟨g0, fps, ho, hg, hgf, hfp⟩ := hsh
     obtain ⟨a9, c9, rfl⟩ := recL.os_len ho
     obtain ⟨z, hz⟩ : ∃ z, z = k - 1 := ⟨_, rfl⟩
     have hwz : IntKind.i64.wrap ((k : Int) - 1) = (z : Int) := by rw [IntWalk.i64_in _ ⟨by omega, by omega⟩]; omega
     have hzk : z < k := by omega
     obtain ⟨q, b3, off3, cq, fq3, HQ, ha3, HCQ, HXQ⟩ := rec_at2 hs hzk
     obtain ⟨rfl, rfl⟩ : b2 = b3 ∧ off2 = off3 := by simpa using ha3
     obtain ⟨q6, m6, d6, g6, q7, m7, d7, g7, q8, m8, d8, g8, hcq, -⟩ := recL_iff.1 HXQ.out
     subst hcq
     have hb2 := recL.sl_lt hs _ HR.out.2.1
     have HQS := hid (show ((wr2.alloc (.cells #[.int .i64 r.kind, .int .i64 r.seq, .string r.name, .int .i64 r.length, .int .i64 r.group, .int .i64 r.row, .slice a6 l6 c6, .slice a7 l7 c7, .slice a8 l8 c8] 67)).drew).cell? ⟨b2, off2 + z * 9 + 1, none⟩ = some (.int .i64 q.seq) from cellKeep (((Chg.refl [] wr2).alloc _).drew) (HCQ.out.2.1 1 _ rfl) hb2)
     have HTOP := topL_at HQ.out.1 HL.out (show k = z + 1 by omega)
     obtain ⟨o0, ho0⟩ : ∃ o0, o0 = spO xs bs r 0 := ⟨_, rfl⟩
     have hdec : decide (r.seq < q.seq) = o0 := by rw [ho0, ← HTOP]; exact (pb_dec _).symm
     have HO0 := hid ho0
     have HXL := hid (show xs[i]? = some r from HR.out.1)
     have HG := hid hg; have HGF := hid hgf; have HFP := hid hfp
     have HFQ := hid (fun y (hy : y ∈ fq) => (List.mem_cons_of_mem bb (HR.out.2.2 y hy) : y ∈ bb :: f))
     have HGQ := hid (show ∀ g', some g0 = some g' → g' ∉ fq from fun g' e hm => by cases e; exact hgf (List.mem_cons_of_mem bb (HR.out.2.2 g0 hm)))
     have hlen : ((xs.take i).filter (fun r => spO xs bs r k)).length ≤ 1000000 := by
      have h1 := List.length_filter_le (fun r => spO xs bs r k) (xs.take i)
      rw [List.length_take] at h1; omega
     obtain ⟨ys, hys⟩ : ∃ ys, ys = (xs.take i).filter (fun r => spO xs bs r k) := ⟨_, rfl⟩
     rw [← hys] at ho hlen ⊢
     have HYS := hid hys
     obtain ⟨lx, hlx⟩ : ∃ lx, lx = ys.length := ⟨_, rfl⟩
     have HLL := hid (show ys.length + [r].length ≤ maxLen ∧ (ys.length + [r].length) * 128 ≤ 140737488355328 by simp only [List.length_singleton, maxLen]; omega)
     rw [← hlx] at ho ⊢
     obtain ⟨WD, hWD⟩ : ∃ WD, WD = (wr2.alloc (.cells #[.int .i64 r.kind, .int .i64 r.seq, .string r.name, .int .i64 r.length, .int .i64 r.group, .int .i64 r.row, .slice a6 l6 c6, .slice a7 l7 c7, .slice a8 l8 c8] 67)).drew := ⟨_, rfl⟩
     have gD : Chg [] wr2 WD := by rw [hWD]; exact ((Chg.refl [] wr2).alloc _).drew
     have HBR := hid (show WD.heap[wr2.heap.size]? = some (.cells #[.int .i64 r.kind, .int .i64 r.seq, .string r.name, .int .i64 r.length, .int .i64 r.group, .int .i64 r.row, .slice a6 l6 c6, .slice a7 l7 c7, .slice a8 l8 c8] 67 (0, 0)) by rw [hWD]; exact keep_drew (new_alloc wr2 _))
     have HBB := hid (hbo.ext gD); have HSD := hid (recL.sl_ext hs gD); have HCD := hid (hc.trans0 gD); have HOSD := hid (recL.os_ext ho gD); have HXSD := hid (recL.ext HXS.out gD)
     have HFD := hid (show ∀ y ∈ bb :: f, y < WD.heap.size from fun y hy => by
      rcases List.mem_cons.1 hy with rfl | hy
      ·exact ltOf HBB.out
      ·exact recL.sl_lt HSD.out y hy)
     clear hbo hs hc ho hg hgf hfp HR hlen hys hlx gD HTOP ho0 HCQ HXQ HQ hz HXS ha3
     go_wp2_with (refine load_rowL rfl _ 67 rfl rfl infoRc Tryz.underlying67 HCE.out.2.1 HCE.out.1 ?_)
     obtain ⟨SS, HSI, HSO⟩ := rg_cond (fun w' => Know wr2.heap.size #[.int .i64 r.kind, .int .i64 r.seq, .string r.name, .int .i64 r.length, .int .i64 r.group, .int .i64 r.row, .slice a6 l6 c6, .slice a7 l7 c7, .slice a8 l8 c8] w' ∧ w'.cell? ⟨b2, off2 + z * 9 + 1, none⟩ = some (.int .i64 q.seq))
     have hS0 := HSI.out _ ⟨Know.of (keep_drew (new_alloc wr2 _)), HQS.out⟩
     refine rg_start SS (by kernel_rfl) hS0 ?_
     refine rgT 0 hS0 ?_
     refine rgL 1 hS0 HSO ?_
     refine rgT 2 hS0 ?_
     refine rgT 3 hS0 ?_
     refine rgT 4 hS0 ?_
     refine rgT 5 hS0 ?_
     refine rgT 6 hS0 ?_
     refine rgT 7 hS0 ?_
     refine rgL 8 hS0 HSO ?_
     refine rgT 9 hS0 ?_
     refine rgT 10 hS0 ?_
     refine wpAnyH_done (by kernel_rfl) ?_ _
     skip
     rw [← hWD]
     clear hWD hS0 HQS
     have cD := cellsOf HBR.out; have lD := ltOf HBR.out
     go_wp2_with fail
     go_loopw [9, 49] (fun vk vi wq => ∃ (j : Nat) (Wq : World), Wq = wq ∧ j ≤ k ∧ vi = .int .i64 j ∧ vk = .bool (spO xs bs r j) ∧ Chg [] WD wq) (fun _ vi _ => k - (intOf vi).toNat)
     case atStart => exact ⟨0, _, rfl, by omega, rfl, by rw [HO0.out], Chg.refl _ _⟩
     case round =>
      clear cD lD
      obtain ⟨j, wq, rfl, hj, rfl, rfl, hcj⟩ := hrel
      have HCJ := hid hcj
      have hbr := hcj.keep0 HBR.out
      have c8' := cellsOf hbr; have n8' := ltOf hbr
      have HBRQ := hid hbr
      obtain ⟨ov, hov⟩ : ∃ ov, ov = spO xs bs r j := ⟨_, rfl⟩
      rw [← hov]
      by_cases hlt3 : j < k
      ·obtain ⟨x, b4, off4, cx, fx, HX, ha4, HCX, HZX⟩ := rec_at2 (recL.sl_ext HSD.out hcj) hlt3
       obtain ⟨rfl, rfl⟩ : b2 = b4 ∧ off2 = off4 := by simpa using ha4
       obtain ⟨p6, n6, e6, y6, p7, n7, e7, y7, p8, n8, e8, y8, hcx, -⟩ := recL_iff.1 HZX.out
       subst hcx
       have HXI := hid (show xs[j]? = some x from HX.out.1)
       have HBV := hid (show ∀ v, bs.getD j false = v → wq.cell? ⟨bb, j, none⟩ = some (.bool v) from fun v hv => (HBB.out.ext hcj).cell (by rw [← hv, List.getD_eq_getElem?_getD, List.getElem?_eq_getElem (by rw [HBL.out]; exact hlt3)]; rfl))
       have hlbb := ltOf (HBB.out.ext hcj)
       clear hcj hbr HX HZX ha4
       cases ov
       ·have HOI := hid hov.symm; clear hov
        have HO1 := hid (show spO xs bs r (j + 1) = false by rw [spO_next HXI.out, HOI.out, Bool.false_and])
        go_wp2_with (refine load_rowL rfl _ 67 rfl rfl infoRc Tryz.underlying67 HCX.out.2.1 HCX.out.1 ?_)
        go_roundw
        case rel => exact ⟨j + 1, _, rfl, by omega, by go_num, by rw [HO1.out], HCJ.out.alloc _⟩
        case measure => simp [intOf]; omega
       ·have HOI := hid hov.symm; clear hov
        cases hbi : bs.getD j false
        ·have HBI := hid hbi
         have hcb := HBV.out _ hbi
         clear hbi
         by_cases hk1 : x.kind = r.kind
         ·have b1 : (x.kind != r.kind) = false := by simp [hk1]
          by_cases hs1 : x.seq = r.seq
          ·have b2 : (x.seq != r.seq) = false := by simp [hs1]
           have HO1 := hid (show spO xs bs r (j + 1) = false by rw [spO_next HXI.out, HOI.out, HBI.out, pb_true ⟨hk1, hs1⟩]; rfl)
           clear hk1 hs1
           go_wp2_with (refine load_rowL rfl _ 67 rfl rfl infoRc Tryz.underlying67 HCX.out.2.1 HCX.out.1 ?_)
           go_roundw
           case rel => exact ⟨j + 1, _, rfl, by omega, by go_num, by rw [HO1.out], HCJ.out.alloc _⟩
           case measure => simp [intOf]; omega
          ·have b2 : (x.seq != r.seq) = true := by simpa using hs1
           have HO1 := hid (show spO xs bs r (j + 1) = true by rw [spO_next HXI.out, HOI.out, HBI.out, pb_false (fun h => hs1 h.2)]; rfl)
           clear hk1 hs1
           go_wp2_with (refine load_rowL rfl _ 67 rfl rfl infoRc Tryz.underlying67 HCX.out.2.1 HCX.out.1 ?_)
           go_roundw
           case rel => exact ⟨j + 1, _, rfl, by omega, by go_num, by rw [HO1.out], HCJ.out.alloc _⟩
           case measure => simp [intOf]; omega
         ·have b1 : (x.kind != r.kind) = true := by simpa using hk1
          have HO1 := hid (show spO xs bs r (j + 1) = true by rw [spO_next HXI.out, HOI.out, HBI.out, pb_false (fun h => hk1 h.1)]; rfl)
          clear hk1
          go_wp2_with (refine load_rowL rfl _ 67 rfl rfl infoRc Tryz.underlying67 HCX.out.2.1 HCX.out.1 ?_)
          go_roundw
          case rel => exact ⟨j + 1, _, rfl, by omega, by go_num, by rw [HO1.out], HCJ.out.alloc _⟩
          case measure => simp [intOf]; omega
        ·have HBI := hid hbi
         have hcb := HBV.out _ hbi
         clear hbi
         have HO1 := hid (show spO xs bs r (j + 1) = true by rw [spO_next HXI.out, HOI.out, HBI.out]; rfl)
         go_wp2_with (refine load_rowL rfl _ 67 rfl rfl infoRc Tryz.underlying67 HCX.out.2.1 HCX.out.1 ?_)
         go_roundw
         case rel => exact ⟨j + 1, _, rfl, by omega, by go_num, by rw [HO1.out], HCJ.out.alloc _⟩
         case measure => simp [intOf]; omega
      ·have HCQ0 := hid (HCD.out.trans0 hcj); have HSQ := hid (recL.sl_ext HSD.out hcj); have HOSQ := hid (recL.os_ext HOSD.out hcj); have HXQ2 := hid (recL.ext HXSD.out hcj); have HBQ := hid (HBB.out.ext hcj)
       have HFL := hid (show ∀ y ∈ bb :: f, y < wq.heap.size from fun y hy => Nat.lt_of_lt_of_le (HFD.out y hy) hcj.size)
       have HOV := hid (show spO xs bs r k = ov by rw [hov, show j = k by omega])
       clear hcj hbr hov
       cases ov
       ·have HNX := hid (show (xs.take (i + 1)).filter (fun r => spO xs bs r k) = ys by rw [filt_no HXL.out HOV.out, HYS.out])
        go_wp2_with fail
        go_roundw
        case rel => exact ⟨i + 1, _, rfl, by omega, by go_num, by rw [HNX.out]; exact ⟨g0, fps, HOSQ.out, HG.out, HGF.out, HFP.out⟩, HBQ.out, HSQ.out, HCQ0.out⟩
        case measure => simp [intOf]; omega
       ·have HNX := hid (show (xs.take (i + 1)).filter (fun r => spO xs bs r k) = ys ++ [r] by rw [filt_yes HXL.out HOV.out, HYS.out])
        go_wp2_with (first | (at_builtin; refine recL.wpList_append rfl _ _ 44 rfl Tryz.underlying44 KR rfl (recL.os_ext HOSQ.out ((Chg.refl [] wq).alloc (.cells #[.int .i64 r.kind, .int .i64 r.seq, .string r.name, .int .i64 r.length, .int .i64 r.group, .int .i64 r.row, .slice a6 l6 c6, .slice a7 l7 c7, .slice a8 l8 c8] 67))) ⟨wq.heap.size, 0, none⟩ 1 1 [.int .i64 r.kind, .int .i64 r.seq, .string r.name, .int .i64 r.length, .int .i64 r.group, .int .i64 r.row, .slice a6 l6 c6, .slice a7 l7 c7, .slice a8 l8 c8] (ys := [r]) (f := fq) rfl rfl (new_cells wq #[.int .i64 r.kind, .int .i64 r.seq, .string r.name, .int .i64 r.length, .int .i64 r.group, .int .i64 r.row, .slice a6 l6 c6, .slice a7 l7 c7, .slice a8 l8 c8] 67) (recL.all_single (recL.ext HXQ2.out ((Chg.refl [] wq).alloc _))) HGQ.out HLL.out.1 HLL.out.2 ?_; intro v' w4 h' ho' hh' hc'; have HSH4 := hid (ShF.step2 HG.out HGF.out HFP.out HFQ.out (fun y hy => Nat.lt_of_lt_of_le (HFL.out y hy) ((Chg.refl [] wq).alloc (.cells #[.int .i64 r.kind, .int .i64 r.seq, .string r.name, .int .i64 r.length, .int .i64 r.group, .int .i64 r.row, .slice a6 l6 c6, .slice a7 l7 c7, .slice a8 l8 c8] 67)).size) (HCQ0.out.alloc (.cells #[.int .i64 r.kind, .int .i64 r.seq, .string r.name, .int .i64 r.length, .int .i64 r.group, .int .i64 r.row, .slice a6 l6 c6, .slice a7 l7 c7, .slice a8 l8 c8] 67)) ho' hh' hc'); clear ho' hh' hc') | (refine load_wide rfl _ 67 rfl rfl infoRc Tryz.underlying67 HBRQ.out rfl ?_))
        rw [← HNX.out] at HSH4
        go_roundw
        case rel => exact ⟨i + 1, _, rfl, by omega, by go_num, HSH4.out.1, HSH4.out.2.2.keepb (keep_alloc HBQ.out _) (fun hm => by rw [List.mem_singleton] at hm; exact HGF.out (by rw [← hm]; simp)), recL.sl_chg (recL.sl_ext HSQ.out ((Chg.refl [] wq).alloc _)) HSH4.out.2.2 (fun y hy hm => by rw [List.mem_singleton] at hm; exact HGF.out (by rw [← hm]; simp [hy])), HSH4.out.2.1⟩
        case measure => simp [intOf]; omega
    ·have hik : i = k := by omega
     rw [hik, List.take_of_length_le (by have := HL.out; omega)] at hsh
     have HE := hid (hsh.slr hc)
     clear hsh hs hc hbo
     go_wp2_with fail
     go_ret
     have h9 := HE.out
     rw [HBS.out, HX9.out] at h9
     have e9 : k = (cntL ts).length := by have := HL.out; rwa [HX9.out] at this
     rw [e9] at h9
     exact h9
set_option maxRecDepth 100000 in
set_option maxHeartbeats 4000000 in
theorem l6Newest_any (a : Option Addr) (l c : Nat) (xs : List Rec) (f : List Nat) (nm : ByteArray) (w : World) (ha : recL.sl w a l c xs f) :
  Calls Tryz.prog 205 #[.slice a l c, .string nm] w fun e w' => e = .returned (.int .i64 (nwI xs nm xs.length)) ∧ w = w' := by
 have hla := recL.sl_max ha
 have HA := hid ha; have HL := hid ha.1
 clear ha
 go_enter Tryz.func205, Tryz.ntmps205
 go_wp2_with fail
 go_loopw [5, 6] (fun vm vi wr => ∃ (k : Nat) (Wr : World), Wr = wr ∧ k ≤ l ∧ vi = .int .i64 k ∧ vm = .int .i64 (nwI xs nm k) ∧ Hid (w = wr)) (fun _ vi _ => l - (intOf vi).toNat)
 case atStart => exact ⟨0, _, rfl, by omega, rfl, rfl, hid rfl⟩
 case round =>
  obtain ⟨k, wr, rfl, hk, rfl, rfl, HW⟩ := hrel
  by_cases hlt : k < l
  ·obtain ⟨r, b2, off2, a6, l6, c6, a7, l7, c7, a8, l8, c8, fq, HR, rfl, hq0, hq1, hq2, hq3, hq4, hq5, hq6, hq7, hq8, HXS⟩ := rec_at (show recL.sl wr a l c xs f from HW.out ▸ HA.out) hlt
   have HR0 := hid HR.out.1
   clear HR HXS
   by_cases h1 : r.kind = 1
   ·have bh1 : (r.kind == 1) = true := by simp [h1]
    by_cases h2 : r.name = nm
    ·have bh2 : (r.name.toList == nm.toList) = true := by rw [h2]; simp
     have HK2 := hid (show nwI xs nm (k + 1) = (k : Int) by rw [nwI_next HR0.out, pb_true (P := r.kind = 1 ∧ r.name = nm) ⟨h1, h2⟩]; rfl)
     clear h1 h2
     go_wp2_with fail
     go_roundw
     case rel => exact ⟨k + 1, _, rfl, by omega, by go_num, by rw [HK2.out], HW⟩
     case measure => simp [intOf]; omega
    ·have bh2 : (r.name.toList == nm.toList) = false := by exact toList_ne h2
     have HK2 := hid (show nwI xs nm (k + 1) = nwI xs nm k by rw [nwI_next HR0.out, pb_false (P := r.kind = 1 ∧ r.name = nm) (fun h => h2 h.2)]; rfl)
     clear h1 h2
     go_wp2_with fail
     go_roundw
     case rel => exact ⟨k + 1, _, rfl, by omega, by go_num, by rw [HK2.out], HW⟩
     case measure => simp [intOf]; omega
   ·have bh1 : (r.kind == 1) = false := by simpa using h1
    have HK2 := hid (show nwI xs nm (k + 1) = nwI xs nm k by rw [nwI_next HR0.out, pb_false (P := r.kind = 1 ∧ r.name = nm) (fun h => h1 h.1)]; rfl)
    clear h1
    go_wp2_with fail
    go_roundw
    case rel => exact ⟨k + 1, _, rfl, by omega, by go_num, by rw [HK2.out], HW⟩
    case measure => simp [intOf]; omega
  ·have HR := hid (show nwI xs nm xs.length = nwI xs nm k by rw [← HL.out, show k = l by omega])
   go_wp2_with fail
   go_ret
   exact ⟨by rw [HR.out]; rfl, HW.out⟩
theorem l5AllS_any (s : Shp) (hs : s.ok) (w : World) :
  Calls Tryz.prog 100 #[.agg #[.int .i64 s.groups, .int .i64 s.column, .int .i64 s.data, .int .i64 s.spare, .int .i64 s.rows, .int .i64 s.cap, .int .i64 s.batch, .int .i64 s.queue, .int .i64 s.stage]] w fun e w' => e = .returned (.int .i64 (s.groups + s.column)) ∧ Chg [] w w' := l5All_any s hs w
set_option maxRecDepth 100000 in
set_option maxHeartbeats 4000000 in
theorem l6Settled_any (s : Shp) (hok : s.ok) (r : Rec) {b6 b7 b8 : Option Addr} {m6 d6 m7 d7 m8 d8 : Nat} (a : Option Addr) (l c : Nat) (xs : List Rec) (f : List Nat) (w : World) (hs : recL.sl w a l c xs f) :
  Calls Tryz.prog 241 #[.agg #[.int .i64 s.groups, .int .i64 s.column, .int .i64 s.data, .int .i64 s.spare, .int .i64 s.rows, .int .i64 s.cap, .int .i64 s.batch, .int .i64 s.queue, .int .i64 s.stage], .slice a l c, .agg #[.int .i64 r.kind, .int .i64 r.seq, .string r.name, .int .i64 r.length, .int .i64 r.group, .int .i64 r.row, .slice b6 m6 d6, .slice b7 m7 d7, .slice b8 m8 d8]] w fun e w' => e = .returned (.bool (setB s.groups xs r s.column.toNat)) ∧ Chg [] w w' := by
 obtain ⟨W, hW⟩ : ∃ W, W = (w.alloc (.cells #[.int .i64 s.groups, .int .i64 s.column, .int .i64 s.data, .int .i64 s.spare, .int .i64 s.rows, .int .i64 s.cap, .int .i64 s.batch, .int .i64 s.queue, .int .i64 s.stage] 30)).alloc (.cells #[.int .i64 r.kind, .int .i64 r.seq, .string r.name, .int .i64 r.length, .int .i64 r.group, .int .i64 r.row, .slice b6 m6 d6, .slice b7 m7 d7, .slice b8 m8 d8] 67) := ⟨_, rfl⟩
 have g0 : Chg [] w W := by rw [hW]; exact ((Chg.refl [] w).alloc _).alloc _
 have hbs : W.heap[w.heap.size]? = some (.cells #[.int .i64 s.groups, .int .i64 s.column, .int .i64 s.data, .int .i64 s.spare, .int .i64 s.rows, .int .i64 s.cap, .int .i64 s.batch, .int .i64 s.queue, .int .i64 s.stage] 30 (0, 0)) := by rw [hW]; exact keep_alloc (new_alloc w _) _
 have hbr : W.heap[w.heap.size + 1]? = some (.cells #[.int .i64 r.kind, .int .i64 r.seq, .string r.name, .int .i64 r.length, .int .i64 r.group, .int .i64 r.row, .slice b6 m6 d6, .slice b7 m7 d7, .slice b8 m8 d8] 67 (0, 0)) := by rw [hW]; exact new_at (by simp) _
 have HB := hid hbs; have HB1 := hid hbr; have HS := hid (recL.sl_ext hs g0); have G0 := hid g0
 have hak := hok.all; have hg4 := hok.groups
 simp only [Shp.all] at hak
 obtain ⟨A, hA⟩ : ∃ A, A = s.groups + s.column := ⟨_, rfl⟩
 have hcl : 0 ≤ s.column := by have h := hok; unfold Shp.ok at h; omega
 have HAL := hid (fun w => by have h := l5AllS_any s hok w; rw [← hA] at h; exact h)
 have HA := hid hA
 rw [← hA] at hak
 have HD0 := hid (l6Done_any a l c xs f r.seq r.group W HS.out)
 clear hs g0 hA hbs hbr
 go_enter Tryz.func241, Tryz.ntmps241
 go_wp2_with fail
 rw [← hW]
 have cb := cellsOf HB.out; have lb := ltOf HB.out; have cr := cellsOf HB1.out; have lr := ltOf HB1.out
 clear hW
 refine HD0.out.mono ?_
 rintro e w2 ⟨rfl, rfl⟩
 go_wp2_with fail
 go_loopw [7, 8] (fun vk vg wr => ∃ (k : Nat) (gv : Int) (Wr : World), Wr = wr ∧ (s.groups ≤ gv ∧ gv ≤ A) ∧ Hid (gv = s.groups + k) ∧ vg = .int .i64 gv ∧ vk = .bool (setB s.groups xs r k) ∧ Chg [] W wr) (fun _ vg _ => (A - intOf vg).toNat)
 case atStart => exact ⟨0, s.groups, _, rfl, ⟨by omega, by have := HA.out; omega⟩, hid (by simp), rfl, rfl, Chg.refl _ _⟩
 case round =>
  clear cb lb cr lr
  obtain ⟨k, gv, wr, rfl, hgv, HK, rfl, rfl, hc⟩ := hrel
  have hb := hc.keep0 HB.out; have hr := hc.keep0 HB1.out
  have cb := cellsOf hb; have lb := ltOf hb; have cr := cellsOf hr; have lr := ltOf hr
  have HC := hid hc; have HBR := hid hr
  obtain ⟨ov, hov⟩ : ∃ ov, ov = setB s.groups xs r k := ⟨_, rfl⟩
  rw [← hov]
  have HOV := hid hov
  clear hb hr hc hov
  go_wp2_with fail
  refine (HAL.out wr).mono ?_
  rintro e w2 ⟨rfl, hc2⟩
  have hr := hc2.keep0 HBR.out
  clear cb lb cr lr
  have cr := cellsOf hr; have lr := ltOf hr
  have HC2 := hid (HC.out.trans0 hc2)
  clear hc2 hr
  by_cases hlt : gv < A
  ·have HNX := hid (show setB s.groups xs r (k + 1) = (ov && donB xs r.seq gv) by rw [HOV.out, HK.out]; rfl)
   cases ov
   ·go_wp2_with fail
    go_roundw
    case rel => exact ⟨k + 1, gv + 1, _, rfl, ⟨by omega, by omega⟩, hid (by have := HK.out; omega), by go_num, by rw [HNX.out]; rfl, HC2.out⟩
    case measure => simp [intOf]; omega
   ·have HDN := hid (l6Done_any a l c xs f r.seq gv w2 (recL.sl_ext HS.out HC2.out))
    go_wp2_with fail
    refine HDN.out.mono ?_
    rintro e w3 ⟨rfl, rfl⟩
    go_wp2_with fail
    go_roundw
    case rel => exact ⟨k + 1, gv + 1, _, rfl, ⟨by omega, by omega⟩, hid (by have := HK.out; omega), by go_num, by rw [HNX.out]; rfl, HC2.out⟩
    case measure => simp [intOf]; omega
  ·have HR := hid (show setB s.groups xs r s.column.toNat = ov by rw [HOV.out]; congr 1; have := HA.out; have := HK.out; omega)
   go_wp2_with fail
   go_ret
   exact ⟨by rw [HR.out]; rfl, G0.out.trans0 HC2.out⟩
set_option maxRecDepth 100000 in
set_option maxHeartbeats 4000000 in
theorem isSpent_a (s : Shp) (_hok : s.ok) (a : Option Addr) (l c : Nat) (xs : List Rec) (f : List Nat) (k : Nat) (r : Rec) (w : World) (hs : recL.sl w a l c xs f) (hk : xs[k]? = some r) (hkd : r.kind = 1) :
  Calls Tryz.prog 183 #[.agg #[.int .i64 s.groups, .int .i64 s.column, .int .i64 s.data, .int .i64 s.spare, .int .i64 s.rows, .int .i64 s.cap, .int .i64 s.batch, .int .i64 s.queue, .int .i64 s.stage], .slice a l c, .int .i64 k] w fun e w' => e = .returned (.bool (spB s.groups s.column.toNat xs k r)) ∧ Chg [] w w' := by
 have hkl : k < l := by have h1 := (List.getElem?_eq_some_iff.1 hk).1; have h2 := hs.1; omega
 obtain ⟨r', b2, off2, cy, fq, HR, rfl, HCE, HXS⟩ := rec_at2 hs hkl
 obtain rfl : r = r' := Option.some.inj (hk.symm.trans HR.out.1)
 obtain ⟨a6, l6, c6, f6, a7, l7, c7, f7, a8, l8, c8, f8, hcy, -⟩ := recL_iff.1 HXS.out
 subst hcy
 obtain ⟨W1, hW1⟩ : ∃ W1, W1 = w.alloc (.cells #[.int .i64 s.groups, .int .i64 s.column, .int .i64 s.data, .int .i64 s.spare, .int .i64 s.rows, .int .i64 s.cap, .int .i64 s.batch, .int .i64 s.queue, .int .i64 s.stage] 30) := ⟨_, rfl⟩
 have HCE1 := hid (show Celled W1 b2 (off2 + k * 9) 9 [.int .i64 r.kind, .int .i64 r.seq, .string r.name, .int .i64 r.length, .int .i64 r.group, .int .i64 r.row, .slice a6 l6 c6, .slice a7 l7 c7, .slice a8 l8 c8] by rw [hW1]; exact HCE.out.ext ((Chg.refl [] w).alloc _) (recL.sl_lt hs _ HR.out.2.1))
 obtain ⟨W, hW⟩ : ∃ W, W = W1.alloc (.cells #[.int .i64 r.kind, .int .i64 r.seq, .string r.name, .int .i64 r.length, .int .i64 r.group, .int .i64 r.row, .slice a6 l6 c6, .slice a7 l7 c7, .slice a8 l8 c8] 67) := ⟨_, rfl⟩
 have g0 : Chg [] w W := by rw [hW, hW1]; exact ((Chg.refl [] w).alloc _).alloc _
 have HBS := hid (show W.heap[w.heap.size]? = some (.cells #[.int .i64 s.groups, .int .i64 s.column, .int .i64 s.data, .int .i64 s.spare, .int .i64 s.rows, .int .i64 s.cap, .int .i64 s.batch, .int .i64 s.queue, .int .i64 s.stage] 30 (0, 0)) by rw [hW, hW1]; exact keep_alloc (new_alloc w _) _)
 have HBR := hid (show W.heap[W1.heap.size]? = some (.cells #[.int .i64 r.kind, .int .i64 r.seq, .string r.name, .int .i64 r.length, .int .i64 r.group, .int .i64 r.row, .slice a6 l6 c6, .slice a7 l7 c7, .slice a8 l8 c8] 67 (0, 0)) by rw [hW]; exact new_alloc W1 _)
 have HS := hid (recL.sl_ext hs g0); have G0 := hid g0; have HL := hid hs.1
 have hlm := recL.sl_max hs
 have HN := hid (l6Newest_any (some ⟨b2, off2, none⟩) l c xs f r.name W HS.out)
 have hiff := nwI_is hk ⟨hkd, rfl⟩ xs.length (List.getElem?_eq_some_iff.1 hk).1 (Nat.le_refl _)
 rw [List.take_length] at hiff
 obtain ⟨nv, hnv⟩ : ∃ nv, nv = nwI xs r.name xs.length := ⟨_, rfl⟩
 rw [← hnv] at HN hiff
 have HRB := hid (show spB s.groups s.column.toNat xs k r = (nv != (k : Int)) by
  unfold spB
  rw [if_pos hkd]
  by_cases h5 : nv = (k : Int)
  ·rw [hiff.1 h5]; simp [h5]
  ·have h6 : ¬ (xs.drop (k + 1)).any (fun x => pb (x.kind = 1 ∧ x.name = r.name)) = false := fun h => h5 (hiff.2 h)
   rw [Bool.not_eq_false] at h6
   rw [h6]; symm; simpa using h5)
 clear hiff hnv
 have hb1 : (r.kind == 1) = true := by simp [hkd]
 clear hkd
 clear hs hk g0 HR HXS HCE
 go_enter Tryz.func183, Tryz.ntmps183
 go_upto_region 1 with fail
 rw [← hW1]
 clear hW1
 go_upto_region 2 with (refine load_rowL rfl _ 67 rfl rfl infoRc Tryz.underlying67 HCE1.out.2.1 HCE1.out.1 ?_)
 rw [← hW]
 have cb := cellsOf HBS.out; have lb := ltOf HBS.out; have cr := cellsOf HBR.out; have lr := ltOf HBR.out
 clear hW
 go_wp2_with fail
 refine HN.out.mono ?_
 rintro e w2 ⟨rfl, rfl⟩
 go_wp2_with fail
 go_ret
 exact ⟨by rw [HRB.out]; rfl, G0.out⟩
set_option maxRecDepth 100000 in
set_option maxHeartbeats 4000000 in
theorem isSpent_b (s : Shp) (hok : s.ok) (a : Option Addr) (l c : Nat) (xs : List Rec) (f : List Nat) (k : Nat) (r : Rec) (w : World) (hs : recL.sl w a l c xs f) (hk : xs[k]? = some r) (hkd : r.kind = 2) :
  Calls Tryz.prog 183 #[.agg #[.int .i64 s.groups, .int .i64 s.column, .int .i64 s.data, .int .i64 s.spare, .int .i64 s.rows, .int .i64 s.cap, .int .i64 s.batch, .int .i64 s.queue, .int .i64 s.stage], .slice a l c, .int .i64 k] w fun e w' => e = .returned (.bool (spB s.groups s.column.toNat xs k r)) ∧ Chg [] w w' := by
 have hkl : k < l := by have h1 := (List.getElem?_eq_some_iff.1 hk).1; have h2 := hs.1; omega
 obtain ⟨r', b2, off2, cy, fq, HR, rfl, HCE, HXS⟩ := rec_at2 hs hkl
 obtain rfl : r = r' := Option.some.inj (hk.symm.trans HR.out.1)
 obtain ⟨a6, l6, c6, f6, a7, l7, c7, f7, a8, l8, c8, f8, hcy, -⟩ := recL_iff.1 HXS.out
 subst hcy
 obtain ⟨W1, hW1⟩ : ∃ W1, W1 = w.alloc (.cells #[.int .i64 s.groups, .int .i64 s.column, .int .i64 s.data, .int .i64 s.spare, .int .i64 s.rows, .int .i64 s.cap, .int .i64 s.batch, .int .i64 s.queue, .int .i64 s.stage] 30) := ⟨_, rfl⟩
 have HCE1 := hid (show Celled W1 b2 (off2 + k * 9) 9 [.int .i64 r.kind, .int .i64 r.seq, .string r.name, .int .i64 r.length, .int .i64 r.group, .int .i64 r.row, .slice a6 l6 c6, .slice a7 l7 c7, .slice a8 l8 c8] by rw [hW1]; exact HCE.out.ext ((Chg.refl [] w).alloc _) (recL.sl_lt hs _ HR.out.2.1))
 obtain ⟨W, hW⟩ : ∃ W, W = W1.alloc (.cells #[.int .i64 r.kind, .int .i64 r.seq, .string r.name, .int .i64 r.length, .int .i64 r.group, .int .i64 r.row, .slice a6 l6 c6, .slice a7 l7 c7, .slice a8 l8 c8] 67) := ⟨_, rfl⟩
 have g0 : Chg [] w W := by rw [hW, hW1]; exact ((Chg.refl [] w).alloc _).alloc _
 have HBS := hid (show W.heap[w.heap.size]? = some (.cells #[.int .i64 s.groups, .int .i64 s.column, .int .i64 s.data, .int .i64 s.spare, .int .i64 s.rows, .int .i64 s.cap, .int .i64 s.batch, .int .i64 s.queue, .int .i64 s.stage] 30 (0, 0)) by rw [hW, hW1]; exact keep_alloc (new_alloc w _) _)
 have HBR := hid (show W.heap[W1.heap.size]? = some (.cells #[.int .i64 r.kind, .int .i64 r.seq, .string r.name, .int .i64 r.length, .int .i64 r.group, .int .i64 r.row, .slice a6 l6 c6, .slice a7 l7 c7, .slice a8 l8 c8] 67 (0, 0)) by rw [hW]; exact new_alloc W1 _)
 have HS := hid (recL.sl_ext hs g0); have G0 := hid g0; have HL := hid hs.1
 have hlm := recL.sl_max hs
 have HN := hid (l6Settled_any s hok r (b6 := a6) (b7 := a7) (b8 := a8) (m6 := l6) (d6 := c6) (m7 := l7) (d7 := c7) (m8 := l8) (d8 := c8) (some ⟨b2, off2, none⟩) l c xs f W HS.out)
 have HRB := hid (show spB s.groups s.column.toNat xs k r = setB s.groups xs r s.column.toNat by unfold spB; rw [if_neg (by omega), if_pos hkd])
 have hb1 : (r.kind == 1) = false := by simp [hkd]
 have hb2 : (r.kind == 2) = true := by simp [hkd]
 clear hkd
 clear hs hk g0 HR HXS HCE
 go_enter Tryz.func183, Tryz.ntmps183
 go_upto_region 1 with fail
 rw [← hW1]
 clear hW1
 go_upto_region 2 with (refine load_rowL rfl _ 67 rfl rfl infoRc Tryz.underlying67 HCE1.out.2.1 HCE1.out.1 ?_)
 rw [← hW]
 have cb := cellsOf HBS.out; have lb := ltOf HBS.out; have cr := cellsOf HBR.out; have lr := ltOf HBR.out
 clear hW
 go_wp2_with fail
 refine HN.out.mono ?_
 rintro e w2 ⟨rfl, hc2⟩
 have HC2 := hid (G0.out.trans0 hc2)
 clear hc2
 go_wp2_with fail
 go_ret
 exact ⟨by rw [HRB.out]; rfl, HC2.out⟩
set_option maxRecDepth 100000 in
set_option maxHeartbeats 4000000 in
theorem isSpent_c (s : Shp) (_hok : s.ok) (a : Option Addr) (l c : Nat) (xs : List Rec) (f : List Nat) (k : Nat) (r : Rec) (w : World) (hs : recL.sl w a l c xs f) (hk : xs[k]? = some r) (hkd : r.kind = 3) :
  Calls Tryz.prog 183 #[.agg #[.int .i64 s.groups, .int .i64 s.column, .int .i64 s.data, .int .i64 s.spare, .int .i64 s.rows, .int .i64 s.cap, .int .i64 s.batch, .int .i64 s.queue, .int .i64 s.stage], .slice a l c, .int .i64 k] w fun e w' => e = .returned (.bool (spB s.groups s.column.toNat xs k r)) ∧ Chg [] w w' := by
 have hkl : k < l := by have h1 := (List.getElem?_eq_some_iff.1 hk).1; have h2 := hs.1; omega
 obtain ⟨r', b2, off2, cy, fq, HR, rfl, HCE, HXS⟩ := rec_at2 hs hkl
 obtain rfl : r = r' := Option.some.inj (hk.symm.trans HR.out.1)
 obtain ⟨a6, l6, c6, f6, a7, l7, c7, f7, a8, l8, c8, f8, hcy, -⟩ := recL_iff.1 HXS.out
 subst hcy
 obtain ⟨W1, hW1⟩ : ∃ W1, W1 = w.alloc (.cells #[.int .i64 s.groups, .int .i64 s.column, .int .i64 s.data, .int .i64 s.spare, .int .i64 s.rows, .int .i64 s.cap, .int .i64 s.batch, .int .i64 s.queue, .int .i64 s.stage] 30) := ⟨_, rfl⟩
 have HCE1 := hid (show Celled W1 b2 (off2 + k * 9) 9 [.int .i64 r.kind, .int .i64 r.seq, .string r.name, .int .i64 r.length, .int .i64 r.group, .int .i64 r.row, .slice a6 l6 c6, .slice a7 l7 c7, .slice a8 l8 c8] by rw [hW1]; exact HCE.out.ext ((Chg.refl [] w).alloc _) (recL.sl_lt hs _ HR.out.2.1))
 obtain ⟨W, hW⟩ : ∃ W, W = W1.alloc (.cells #[.int .i64 r.kind, .int .i64 r.seq, .string r.name, .int .i64 r.length, .int .i64 r.group, .int .i64 r.row, .slice a6 l6 c6, .slice a7 l7 c7, .slice a8 l8 c8] 67) := ⟨_, rfl⟩
 have g0 : Chg [] w W := by rw [hW, hW1]; exact ((Chg.refl [] w).alloc _).alloc _
 have HBS := hid (show W.heap[w.heap.size]? = some (.cells #[.int .i64 s.groups, .int .i64 s.column, .int .i64 s.data, .int .i64 s.spare, .int .i64 s.rows, .int .i64 s.cap, .int .i64 s.batch, .int .i64 s.queue, .int .i64 s.stage] 30 (0, 0)) by rw [hW, hW1]; exact keep_alloc (new_alloc w _) _)
 have HBR := hid (show W.heap[W1.heap.size]? = some (.cells #[.int .i64 r.kind, .int .i64 r.seq, .string r.name, .int .i64 r.length, .int .i64 r.group, .int .i64 r.row, .slice a6 l6 c6, .slice a7 l7 c7, .slice a8 l8 c8] 67 (0, 0)) by rw [hW]; exact new_alloc W1 _)
 have HS := hid (recL.sl_ext hs g0); have G0 := hid g0; have HL := hid hs.1
 have hlm := recL.sl_max hs
 have HSB := hid (show spB s.groups s.column.toNat xs k r = !xs.any (fun x => pb (x.kind = 2 ∧ x.seq = r.seq)) by unfold spB; rw [if_neg (by omega), if_neg (by omega), if_pos hkd])
 have hb1 : (r.kind == 1) = false := by simp [hkd]
 have hb2 : (r.kind == 2) = false := by simp [hkd]
 have hb3 : (r.kind == 3) = true := by simp [hkd]
 have hb4 : (r.kind == 4) = false := by simp [hkd]
 clear hkd
 clear hs hk g0 HR HXS HCE
 go_enter Tryz.func183, Tryz.ntmps183
 go_upto_region 1 with fail
 rw [← hW1]
 clear hW1
 go_upto_region 2 with (refine load_rowL rfl _ 67 rfl rfl infoRc Tryz.underlying67 HCE1.out.2.1 HCE1.out.1 ?_)
 rw [← hW]
 have cb := cellsOf HBS.out; have lb := ltOf HBS.out; have cr := cellsOf HBR.out; have lr := ltOf HBR.out
 clear hW
 go_wp2_with fail
 go_loopw [8] (fun vi wr => ∃ (j : Nat) (Wr : World), Wr = wr ∧ j ≤ l ∧ vi = .int .i64 j ∧ Hid (∀ x ∈ xs.take j, (pb (x.kind = 2 ∧ x.seq = r.seq)) = false) ∧ Chg [] W wr) (fun vi _ => l - (intOf vi).toNat)
 case atStart => exact ⟨0, _, rfl, by omega, rfl, hid (show ∀ x ∈ xs.take 0, (pb (x.kind = 2 ∧ x.seq = r.seq)) = false from fun x hx => by simp at hx), Chg.refl _ _⟩
 case round =>
  clear cb lb cr lr
  obtain ⟨j, wr, rfl, hj, rfl, HK, hc⟩ := hrel
  have HC := hid hc
  have hbr := hc.keep0 HBR.out
  have cr := cellsOf hbr; have lr := ltOf hbr
  clear hbr
  by_cases hlt : j < l
  ·obtain ⟨q, b3, off3, cq, fq3, HQ, ha3, HQE, HQX⟩ := rec_at2 (recL.sl_ext HS.out hc) hlt
   obtain ⟨rfl, rfl⟩ : b2 = b3 ∧ off2 = off3 := by simpa using ha3
   obtain ⟨b6, m6, d6, g6, b7, m7, d7, g7, b8, m8, d8, g8, hcq, -⟩ := recL_iff.1 HQX.out
   subst hcq
   have HQ0 := hid (show xs[j]? = some q from HQ.out.1)
   clear hc HQ HQX ha3
   by_cases h2 : q.kind = 2
   ·have bh2 : (q.kind == 2) = true := by simp [h2]
    by_cases h3 : q.seq = r.seq
    ·have bh3 : (q.seq == r.seq) = true := by simp [h3]
     have HRB := hid (show spB s.groups s.column.toNat xs k r = false by rw [HSB.out]; exact by rw [show xs.any (fun x => pb (x.kind = 2 ∧ x.seq = r.seq)) = true from List.any_eq_true.2 ⟨q, List.mem_of_getElem? HQ0.out, pb_true ⟨h2, h3⟩⟩]; rfl)
     clear h2 h3
     go_upto_region 10 with (refine load_rowL rfl _ 67 rfl rfl infoRc Tryz.underlying67 HQE.out.2.1 HQE.out.1 ?_)
     go_wp2_with fail
     go_ret
     exact ⟨by rw [HRB.out]; rfl, (G0.out.trans0 HC.out).alloc _⟩
    ·have bh3 : (q.seq == r.seq) = false := by simpa using h3
     have HK2 := hid (show ∀ x ∈ xs.take (j + 1), (pb (x.kind = 2 ∧ x.seq = r.seq)) = false from fun x hx => by
      rw [take_next HQ0.out] at hx
      rcases List.mem_append.1 hx with hx | hx
      ·exact HK.out x hx
      ·rw [List.mem_singleton] at hx; rw [hx]; exact pb_false (fun h => h3 h.2))
     clear h2 h3
     go_upto_region 10 with (refine load_rowL rfl _ 67 rfl rfl infoRc Tryz.underlying67 HQE.out.2.1 HQE.out.1 ?_)
     go_wp2_with fail
     go_roundw
     case rel => exact ⟨j + 1, _, rfl, by omega, rfl, HK2, HC.out.alloc _⟩
     case measure => simp [intOf]; omega
   ·have bh2 : (q.kind == 2) = false := by simpa using h2
    have HK2 := hid (show ∀ x ∈ xs.take (j + 1), (pb (x.kind = 2 ∧ x.seq = r.seq)) = false from fun x hx => by
     rw [take_next HQ0.out] at hx
     rcases List.mem_append.1 hx with hx | hx
     ·exact HK.out x hx
     ·rw [List.mem_singleton] at hx; rw [hx]; exact pb_false (fun h => h2 h.1))
    clear h2
    go_upto_region 10 with (refine load_rowL rfl _ 67 rfl rfl infoRc Tryz.underlying67 HQE.out.2.1 HQE.out.1 ?_)
    go_wp2_with fail
    go_roundw
    case rel => exact ⟨j + 1, _, rfl, by omega, rfl, HK2, HC.out.alloc _⟩
    case measure => simp [intOf]; omega
  ·have HRB := hid (show spB s.groups s.column.toNat xs k r = true by
    rw [HSB.out]
    rw [show xs.any (fun x => pb (x.kind = 2 ∧ x.seq = r.seq)) = false from List.any_eq_false.2 (fun x hx => by
     rw [HK.out x (by rw [List.take_of_length_le (by have := HL.out; omega)]; exact hx)]; simp)]; rfl)
   clear hc
   go_wp2_with fail
   go_ret
   exact ⟨by rw [HRB.out]; rfl, G0.out.trans0 HC.out⟩
set_option maxRecDepth 100000 in
set_option maxHeartbeats 4000000 in
theorem isSpent_d (s : Shp) (_hok : s.ok) (a : Option Addr) (l c : Nat) (xs : List Rec) (f : List Nat) (k : Nat) (r : Rec) (w : World) (hs : recL.sl w a l c xs f) (hk : xs[k]? = some r) (hkd : r.kind = 4) :
  Calls Tryz.prog 183 #[.agg #[.int .i64 s.groups, .int .i64 s.column, .int .i64 s.data, .int .i64 s.spare, .int .i64 s.rows, .int .i64 s.cap, .int .i64 s.batch, .int .i64 s.queue, .int .i64 s.stage], .slice a l c, .int .i64 k] w fun e w' => e = .returned (.bool (spB s.groups s.column.toNat xs k r)) ∧ Chg [] w w' := by
 have hkl : k < l := by have h1 := (List.getElem?_eq_some_iff.1 hk).1; have h2 := hs.1; omega
 obtain ⟨r', b2, off2, cy, fq, HR, rfl, HCE, HXS⟩ := rec_at2 hs hkl
 obtain rfl : r = r' := Option.some.inj (hk.symm.trans HR.out.1)
 obtain ⟨a6, l6, c6, f6, a7, l7, c7, f7, a8, l8, c8, f8, hcy, -⟩ := recL_iff.1 HXS.out
 subst hcy
 obtain ⟨W1, hW1⟩ : ∃ W1, W1 = w.alloc (.cells #[.int .i64 s.groups, .int .i64 s.column, .int .i64 s.data, .int .i64 s.spare, .int .i64 s.rows, .int .i64 s.cap, .int .i64 s.batch, .int .i64 s.queue, .int .i64 s.stage] 30) := ⟨_, rfl⟩
 have HCE1 := hid (show Celled W1 b2 (off2 + k * 9) 9 [.int .i64 r.kind, .int .i64 r.seq, .string r.name, .int .i64 r.length, .int .i64 r.group, .int .i64 r.row, .slice a6 l6 c6, .slice a7 l7 c7, .slice a8 l8 c8] by rw [hW1]; exact HCE.out.ext ((Chg.refl [] w).alloc _) (recL.sl_lt hs _ HR.out.2.1))
 obtain ⟨W, hW⟩ : ∃ W, W = W1.alloc (.cells #[.int .i64 r.kind, .int .i64 r.seq, .string r.name, .int .i64 r.length, .int .i64 r.group, .int .i64 r.row, .slice a6 l6 c6, .slice a7 l7 c7, .slice a8 l8 c8] 67) := ⟨_, rfl⟩
 have g0 : Chg [] w W := by rw [hW, hW1]; exact ((Chg.refl [] w).alloc _).alloc _
 have HBS := hid (show W.heap[w.heap.size]? = some (.cells #[.int .i64 s.groups, .int .i64 s.column, .int .i64 s.data, .int .i64 s.spare, .int .i64 s.rows, .int .i64 s.cap, .int .i64 s.batch, .int .i64 s.queue, .int .i64 s.stage] 30 (0, 0)) by rw [hW, hW1]; exact keep_alloc (new_alloc w _) _)
 have HBR := hid (show W.heap[W1.heap.size]? = some (.cells #[.int .i64 r.kind, .int .i64 r.seq, .string r.name, .int .i64 r.length, .int .i64 r.group, .int .i64 r.row, .slice a6 l6 c6, .slice a7 l7 c7, .slice a8 l8 c8] 67 (0, 0)) by rw [hW]; exact new_alloc W1 _)
 have HS := hid (recL.sl_ext hs g0); have G0 := hid g0; have HL := hid hs.1
 have hlm := recL.sl_max hs
 have HSB := hid (show spB s.groups s.column.toNat xs k r = xs.any (fun x => pb ((x.kind = 3 ∧ x.seq = r.seq) ∨ (x.kind = 4 ∧ x.group = r.group ∧ x.row = r.row ∧ r.seq < x.seq))) by unfold spB; rw [if_neg (by omega), if_neg (by omega), if_neg (by omega)])
 have hb1 : (r.kind == 1) = false := by simp [hkd]
 have hb2 : (r.kind == 2) = false := by simp [hkd]
 have hb3 : (r.kind == 3) = false := by simp [hkd]
 have hb4 : (r.kind == 4) = true := by simp [hkd]
 clear hkd
 clear hs hk g0 HR HXS HCE
 go_enter Tryz.func183, Tryz.ntmps183
 go_upto_region 1 with fail
 rw [← hW1]
 clear hW1
 go_upto_region 2 with (refine load_rowL rfl _ 67 rfl rfl infoRc Tryz.underlying67 HCE1.out.2.1 HCE1.out.1 ?_)
 rw [← hW]
 have cb := cellsOf HBS.out; have lb := ltOf HBS.out; have cr := cellsOf HBR.out; have lr := ltOf HBR.out
 clear hW
 go_wp2_with fail
 go_loopw [8] (fun vi wr => ∃ (j : Nat) (Wr : World), Wr = wr ∧ j ≤ l ∧ vi = .int .i64 j ∧ Hid (∀ x ∈ xs.take j, (pb ((x.kind = 3 ∧ x.seq = r.seq) ∨ (x.kind = 4 ∧ x.group = r.group ∧ x.row = r.row ∧ r.seq < x.seq))) = false) ∧ Chg [] W wr) (fun vi _ => l - (intOf vi).toNat)
 case atStart => exact ⟨0, _, rfl, by omega, rfl, hid (show ∀ x ∈ xs.take 0, (pb ((x.kind = 3 ∧ x.seq = r.seq) ∨ (x.kind = 4 ∧ x.group = r.group ∧ x.row = r.row ∧ r.seq < x.seq))) = false from fun x hx => by simp at hx), Chg.refl _ _⟩
 case round =>
  clear cb lb cr lr
  obtain ⟨j, wr, rfl, hj, rfl, HK, hc⟩ := hrel
  have HC := hid hc
  have hbr := hc.keep0 HBR.out
  have cr := cellsOf hbr; have lr := ltOf hbr
  clear hbr
  by_cases hlt : j < l
  ·obtain ⟨q, b3, off3, cq, fq3, HQ, ha3, HQE, HQX⟩ := rec_at2 (recL.sl_ext HS.out hc) hlt
   obtain ⟨rfl, rfl⟩ : b2 = b3 ∧ off2 = off3 := by simpa using ha3
   obtain ⟨b6, m6, d6, g6, b7, m7, d7, g7, b8, m8, d8, g8, hcq, -⟩ := recL_iff.1 HQX.out
   subst hcq
   have HQ0 := hid (show xs[j]? = some q from HQ.out.1)
   clear hc HQ HQX ha3
   by_cases h1 : q.kind = 3
   ·have bh1 : (q.kind == 3) = true := by simp [h1]
    by_cases h2 : q.seq = r.seq
    ·have bh2 : (q.seq == r.seq) = true := by simp [h2]
     have HRB := hid (show spB s.groups s.column.toNat xs k r = true by rw [HSB.out]; exact List.any_eq_true.2 ⟨q, List.mem_of_getElem? HQ0.out, pb_true (.inl ⟨h1, h2⟩)⟩)
     clear h1 h2
     go_upto_region 10 with (refine load_rowL rfl _ 67 rfl rfl infoRc Tryz.underlying67 HQE.out.2.1 HQE.out.1 ?_)
     go_wp2_with fail
     go_ret
     exact ⟨by rw [HRB.out]; rfl, (G0.out.trans0 HC.out).alloc _⟩
    ·have bh2 : (q.seq == r.seq) = false := by simpa using h2
     have b4 : (q.kind == 4) = false := by simp [h1]
     have HK2 := hid (show ∀ x ∈ xs.take (j + 1), (pb ((x.kind = 3 ∧ x.seq = r.seq) ∨ (x.kind = 4 ∧ x.group = r.group ∧ x.row = r.row ∧ r.seq < x.seq))) = false from fun x hx => by
      rw [take_next HQ0.out] at hx
      rcases List.mem_append.1 hx with hx | hx
      ·exact HK.out x hx
      ·rw [List.mem_singleton] at hx; rw [hx]; exact pb_false (fun h => h.elim (fun h => h2 h.2) (fun h => by omega)))
     clear h1 h2
     go_upto_region 10 with (refine load_rowL rfl _ 67 rfl rfl infoRc Tryz.underlying67 HQE.out.2.1 HQE.out.1 ?_)
     go_wp2_with fail
     go_roundw
     case rel => exact ⟨j + 1, _, rfl, by omega, rfl, HK2, HC.out.alloc _⟩
     case measure => simp [intOf]; omega
   ·have bh1 : (q.kind == 3) = false := by simpa using h1
    by_cases h4 : q.kind = 4
    ·have bh4 : (q.kind == 4) = true := by simp [h4]
     by_cases h5 : q.group = r.group
     ·have bh5 : (q.group == r.group) = true := by simp [h5]
      by_cases h6 : q.row = r.row
      ·have bh6 : (q.row == r.row) = true := by simp [h6]
       by_cases h7 : r.seq < q.seq
       ·have bh7 : decide (q.seq > r.seq) = true := by simp [h7]
        have HRB := hid (show spB s.groups s.column.toNat xs k r = true by rw [HSB.out]; exact List.any_eq_true.2 ⟨q, List.mem_of_getElem? HQ0.out, pb_true (.inr ⟨h4, h5, h6, h7⟩)⟩)
        clear h1 h4 h5 h6
        go_upto_region 10 with (refine load_rowL rfl _ 67 rfl rfl infoRc Tryz.underlying67 HQE.out.2.1 HQE.out.1 ?_)
        go_wp2_with fail
        go_ret
        exact ⟨by rw [HRB.out]; rfl, (G0.out.trans0 HC.out).alloc _⟩
       ·have bh7 : decide (q.seq > r.seq) = false := by simpa using h7
        have HK2 := hid (show ∀ x ∈ xs.take (j + 1), (pb ((x.kind = 3 ∧ x.seq = r.seq) ∨ (x.kind = 4 ∧ x.group = r.group ∧ x.row = r.row ∧ r.seq < x.seq))) = false from fun x hx => by
         rw [take_next HQ0.out] at hx
         rcases List.mem_append.1 hx with hx | hx
         ·exact HK.out x hx
         ·rw [List.mem_singleton] at hx; rw [hx]; exact pb_false (fun h => h.elim (fun h => h1 h.1) (fun h => h7 h.2.2.2)))
        clear h1 h4 h5 h6
        go_upto_region 10 with (refine load_rowL rfl _ 67 rfl rfl infoRc Tryz.underlying67 HQE.out.2.1 HQE.out.1 ?_)
        go_wp2_with fail
        go_roundw
        case rel => exact ⟨j + 1, _, rfl, by omega, rfl, HK2, HC.out.alloc _⟩
        case measure => simp [intOf]; omega
      ·have bh6 : (q.row == r.row) = false := by simpa using h6
       have HK2 := hid (show ∀ x ∈ xs.take (j + 1), (pb ((x.kind = 3 ∧ x.seq = r.seq) ∨ (x.kind = 4 ∧ x.group = r.group ∧ x.row = r.row ∧ r.seq < x.seq))) = false from fun x hx => by
        rw [take_next HQ0.out] at hx
        rcases List.mem_append.1 hx with hx | hx
        ·exact HK.out x hx
        ·rw [List.mem_singleton] at hx; rw [hx]; exact pb_false (fun h => h.elim (fun h => h1 h.1) (fun h => h6 h.2.2.1)))
       clear h1 h4 h5 h6
       go_upto_region 10 with (refine load_rowL rfl _ 67 rfl rfl infoRc Tryz.underlying67 HQE.out.2.1 HQE.out.1 ?_)
       go_wp2_with fail
       go_roundw
       case rel => exact ⟨j + 1, _, rfl, by omega, rfl, HK2, HC.out.alloc _⟩
       case measure => simp [intOf]; omega
     ·have bh5 : (q.group == r.group) = false := by simpa using h5
      have HK2 := hid (show ∀ x ∈ xs.take (j + 1), (pb ((x.kind = 3 ∧ x.seq = r.seq) ∨ (x.kind = 4 ∧ x.group = r.group ∧ x.row = r.row ∧ r.seq < x.seq))) = false from fun x hx => by
       rw [take_next HQ0.out] at hx
       rcases List.mem_append.1 hx with hx | hx
       ·exact HK.out x hx
       ·rw [List.mem_singleton] at hx; rw [hx]; exact pb_false (fun h => h.elim (fun h => h1 h.1) (fun h => h5 h.2.1)))
      clear h1 h4 h5
      go_upto_region 10 with (refine load_rowL rfl _ 67 rfl rfl infoRc Tryz.underlying67 HQE.out.2.1 HQE.out.1 ?_)
      go_wp2_with fail
      go_roundw
      case rel => exact ⟨j + 1, _, rfl, by omega, rfl, HK2, HC.out.alloc _⟩
      case measure => simp [intOf]; omega
    ·have bh4 : (q.kind == 4) = false := by simpa using h4
     have HK2 := hid (show ∀ x ∈ xs.take (j + 1), (pb ((x.kind = 3 ∧ x.seq = r.seq) ∨ (x.kind = 4 ∧ x.group = r.group ∧ x.row = r.row ∧ r.seq < x.seq))) = false from fun x hx => by
      rw [take_next HQ0.out] at hx
      rcases List.mem_append.1 hx with hx | hx
      ·exact HK.out x hx
      ·rw [List.mem_singleton] at hx; rw [hx]; exact pb_false (fun h => h.elim (fun h => h1 h.1) (fun h => h4 h.1)))
     clear h1 h4
     go_upto_region 10 with (refine load_rowL rfl _ 67 rfl rfl infoRc Tryz.underlying67 HQE.out.2.1 HQE.out.1 ?_)
     go_wp2_with fail
     go_roundw
     case rel => exact ⟨j + 1, _, rfl, by omega, rfl, HK2, HC.out.alloc _⟩
     case measure => simp [intOf]; omega
  ·have HRB := hid (show spB s.groups s.column.toNat xs k r = false by
    rw [HSB.out]
    rw [show xs.any (fun x => pb ((x.kind = 3 ∧ x.seq = r.seq) ∨ (x.kind = 4 ∧ x.group = r.group ∧ x.row = r.row ∧ r.seq < x.seq))) = false from List.any_eq_false.2 (fun x hx => by
     rw [HK.out x (by rw [List.take_of_length_le (by have := HL.out; omega)]; exact hx)]; simp)])
   clear hc
   go_wp2_with fail
   go_ret
   exact ⟨by rw [HRB.out]; rfl, G0.out.trans0 HC.out⟩
theorem isSpent_any (s : Shp) (hok : s.ok) (a : Option Addr) (l c : Nat) (xs : List Rec) (f : List Nat) (k : Nat) (r : Rec) (w : World) (hs : recL.sl w a l c xs f) (hk : xs[k]? = some r) (hr : 1 ≤ r.kind ∧ r.kind ≤ 4) :
  Calls Tryz.prog 183 #[.agg #[.int .i64 s.groups, .int .i64 s.column, .int .i64 s.data, .int .i64 s.spare, .int .i64 s.rows, .int .i64 s.cap, .int .i64 s.batch, .int .i64 s.queue, .int .i64 s.stage], .slice a l c, .int .i64 k] w fun e w' => e = .returned (.bool (spB s.groups s.column.toNat xs k r)) ∧ Chg [] w w' := by
 by_cases h1 : r.kind = 1
 ·exact isSpent_a s hok a l c xs f k r w hs hk h1
 ·by_cases h2 : r.kind = 2
  ·exact isSpent_b s hok a l c xs f k r w hs hk h2
  ·by_cases h3 : r.kind = 3
   ·exact isSpent_c s hok a l c xs f k r w hs hk h3
   ·exact isSpent_d s hok a l c xs f k r w hs hk (by omega)
theorem badR9 {w w1 w9 : World} {b : Nat} (q : Int) (hq : i64ok q) (r : RRes) (hr : r = ⟨q, []⟩) (hc : Chg [] w w1) (hc9 : Chg [b] w1 w9) (hb : w.heap.size ≤ b) :
  NewAgg rrsL r w (.returned (.agg #[.int .i64 q, .slice none 0 0])) w9 :=
 ⟨_, [], rfl, by rw [hr]; exact rrsL_iff.2 ⟨none, 0, 0, rfl, hq, nil_sl0 _ _⟩, Fresh.nil _ _, hc.trans hc9 (fun y hy => .inr (by rw [List.mem_singleton] at hy; omega))⟩
theorem finR9 {w w1 w9 : World} {b : Nat} {y : List Rec} {f : List Nat} {a : Option Addr} {l c : Nat} (r : RRes) (hrr : r = ⟨0, y⟩) (hs : recL.sl w1 a l c y f) (hf : Fresh w.heap.size w1 f) (hc : Chg [] w w1) (hc9 : Chg [b] w1 w9) (hn : b ∉ f) (hb : w.heap.size ≤ b) :
  NewAgg rrsL r w (.returned (.agg #[.int .i64 0, .slice a l c])) w9 :=
 ⟨_, f, rfl, by rw [hrr]; exact rrsL_iff.2 ⟨a, l, c, rfl, i64z, recL.sl_chg hs hc9 (fun y hy hm => hn (by rw [List.mem_singleton] at hm; exact hm ▸ hy))⟩, hf.chg hc9, hc.trans hc9 (fun y hy => .inr (by rw [List.mem_singleton] at hy; omega))⟩
end Go.Proofs.YtphmpimgbmedbaaGreat
