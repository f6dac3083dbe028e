/- Several texts in one. -/
import Derived.Test.YtphmpimgbmedbaaGreatRows
import Derived.Test.YtphmpimgbmedbaaGreatQaa
import Derived.Laws.BytesArg
import Derived.Deep.RegionLaw
import Derived.Deep.RegionHeld
import Derived.Deep.QuietTactic
import Derived.BigQuiet
import Derived.IntWalk
import Derived.Test.YtphmpimgbmedbaaGreatQac
import Derived.Deep.DeepCutAuto
set_option maxRecDepth 100000
set_option maxHeartbeats 8000000
namespace Go.Proofs.YtphmpimgbmedbaaGreat
open Go.RowKit
open Go.Lib (hid)
theorem take_ne {α : Type} {xs ys : List α} {k : Nat} {x y : α} (hx : xs[k]? = some x) (hy : ys[k]? = some y) (h : x ≠ y) : xs ≠ ys := fun e => by
 subst e; exact h (Option.some.inj (hx.symm.trans hy))
noncomputable def q2m {α : Type} (x y : α) : Bool := @decide (x = y) (Classical.propDecidable _)
theorem q1z {α : Type} {x y : α} (h : x = y) : q2m x y = true := by unfold q2m; simp [h]
theorem q1f {α : Type} {x y : α} (h : x ≠ y) : q2m x y = false := by unfold q2m; simp [h]
theorem slEq_any (a b : Option Addr) (la ca lb cb : Nat) (xs ys : List Int) (f g : List Nat) (w : World) (ha : intL.sl w a la ca xs f) (hb : intL.sl w b lb cb ys g) :
  Calls Tryz.prog 203 #[.slice a la ca, .slice b lb cb] w fun e w' => e = .returned (.bool (q2m xs ys)) ∧ Chg [] w w' := by
 have hma := intL.sl_max ha
 have hmb := intL.sl_max hb
 have HLA := hid ha.1
 have HLB := hid hb.1
 have HA := hid ha
 have HB := hid hb
 clear ha hb
 by_cases hl : la = lb
 ·subst hl
  have hne : ((la : Int) != (la : Int)) = false := by simp
  go_enter Tryz.func203, Tryz.ntmps203
  go_wp2
  go_loopw [13] (fun i wr => ∃ k : Nat, k ≤ la ∧ i = .int .i64 k ∧ Chg [] w wr ∧ Hid (xs.take k = ys.take k)) (fun i _ => la - (intOf i).toNat)
  case atStart => exact ⟨0, by omega, rfl, Chg.refl _ _, rfl⟩
  case round =>
   obtain ⟨k, hk, rfl, hc, HT⟩ := hrel
   by_cases hlt : k < la
   ·obtain ⟨x, b1, o1, HX, rfl, hcx, _⟩ := q2y (intL.sl_ext HA.out hc) hlt
    obtain ⟨y, b2, o2, HY, rfl, hcy, _⟩ := q2y (intL.sl_ext HB.out hc) hlt
    by_cases heq : x = y
    ·have HT2 := hid (show xs.take (k + 1) = ys.take (k + 1) by rw [q2b HX.out.1, q2b HY.out.1, HT.out, heq])
     subst heq
     have hxx : (x != x) = false := by simp
     have HC := hid hc
     clear hc
     go_wp2_with fail
     go_region
     all_goals (try go_wp2)
     all_goals
      go_roundw
      case rel => exact ⟨k + 1, by omega, by go_num, HC.out.drew, HT2⟩
      case measure => simp [intOf]; omega
    ·have HF := hid (q1f (take_ne HX.out.1 HY.out.1 heq))
     have hxx : (x != y) = true := by rw [bne_iff_ne]; exact heq
     have HC := hid hc
     clear hc heq
     go_wp2_with fail
     go_region
     all_goals (try go_wp2)
     all_goals
      go_ret
      exact ⟨by rw [HF.out]; rfl, HC.out.drew⟩
   ·have hkl : k = la := by omega
    subst hkl
    have HF := hid (q1z (show xs = ys by rw [← List.take_of_length_le (l := xs) (i := k) (by have := HLA.out; omega), HT.out, List.take_of_length_le (by have := HLB.out; omega)]))
    have HC := hid hc
    clear hc
    go_wp2
    go_ret
    exact ⟨by rw [HF.out]; rfl, HC.out⟩
 ·have hne : ((la : Int) != (lb : Int)) = true := by rw [bne_iff_ne]; omega
  have HF := hid (q1f (show xs ≠ ys from fun e => hl (by rw [HLA.out, HLB.out, e])))
  clear hl
  go_enter Tryz.func203, Tryz.ntmps203
  go_wp2
  go_ret
  exact ⟨by rw [HF.out]; rfl, Chg.refl _ _⟩
theorem toList_inj {s t : ByteArray} (h : s.toList = t.toList) : s = t := by
 rw [ByteArray.toList_eq, ByteArray.toList_eq] at h
 exact ByteArray.ext (Array.toList_inj.1 h)
theorem q8c {P : Program} {w : World} {a : Option Addr} {la ca : Nat} {xs : List UInt8} {f : List Nat} (h : q0p.sl w a la ca xs f) (src e dst : TypeId)
  (hs : P.underlying src = some (.slice e)) (he : P.underlying e = some (.int .u8)) (hd : P.underlying dst = some .string) :
  (convert src dst (.slice a la ca)).run P w = .ok (.string ⟨xs.toArray⟩) w := by
 have hl := h.1
 by_cases h0 : la = 0
 ·subst h0
  obtain rfl : xs = [] := List.eq_nil_of_length_eq_zero hl.symm
  rw [run_convert_bytes_string w src dst e _ 0 ca hs he hd]
  cases a <;> simp [Conv.bytesToString, loadCells]
  all_goals rfl
 ·obtain ⟨x, X, b, o, _, rfl, _, _, _⟩ := q4z h (i := 0) (by omega)
  have := run_convert_bytes_arg (P := P) w src e hs he b o la ca (xs.map fun x => (x.toNat : Int)) (by simp [hl]) (fun i hi => by
   obtain ⟨y, Y, b', o', HY, e', hc, _, _⟩ := q4z h hi
   obtain ⟨rfl, rfl⟩ : b = b' ∧ o = o' := by simpa using e'
   rw [hc, HY.out.2.1, List.getD_eq_getElem?_getD, List.getElem?_map, HY.out.1]
   rfl) dst hd
  rw [this]
  congr 3
  unfold strOfNums
  congr 2
  rw [List.map_map]
  exact List.map_id'' (fun y => by simp) xs
theorem byEq_any (a b : Option Addr) (la ca lb cb : Nat) (xs ys : List UInt8) (f g : List Nat) (w : World) (ha : q0p.sl w a la ca xs f) (hb : q0p.sl w b lb cb ys g) :
  Calls Tryz.prog 204 #[.slice a la ca, .slice b lb cb] w fun e w' => e = .returned (.bool (q2m xs ys)) ∧ Chg [] w w' := by
 have h1 := q8c ha 62 5 9 Tryz.underlying62 Tryz.underlying5 Tryz.underlying9
 have h2 := q8c hb 62 5 9 Tryz.underlying62 Tryz.underlying5 Tryz.underlying9
 obtain ⟨s, hs⟩ : ∃ s : ByteArray, (⟨xs.toArray⟩ : ByteArray) = s := ⟨_, rfl⟩
 obtain ⟨t, ht⟩ : ∃ s : ByteArray, (⟨ys.toArray⟩ : ByteArray) = s := ⟨_, rfl⟩
 have hst : s = t ↔ xs = ys := by
  rw [← hs, ← ht]
  constructor
  ·intro h; have h2 := congrArg (fun z : ByteArray => z.data.toList) h; exact h2
  ·intro h; rw [h]
 rw [hs] at h1
 rw [ht] at h2
 have HST := hid hst
 clear ha hb hs ht hst
 by_cases heq : s = t
 ·have HF := hid (q1z (HST.out.1 heq))
  subst heq
  go_enter Tryz.func204, Tryz.ntmps204
  go_wp2
  go_ret
  exact ⟨by rw [HF.out]; first | rfl | simp, Chg.refl _ _⟩
 ·have hbt : (s.toList == t.toList) = false := by rw [beq_eq_false_iff_ne]; exact fun h => heq (toList_inj h)
  have HF := hid (q1f (fun h => heq (HST.out.2 h)))
  go_enter Tryz.func204, Tryz.ntmps204
  go_wp2
  go_ret
  exact ⟨by rw [HF.out]; first | rfl | simp, Chg.refl _ _⟩
theorem new_two (w : World) (x y : Obj) : ((w.alloc x).alloc y).heap[w.heap.size + 1]? = some y := by
 have h := q0o (w.alloc x) y
 simpa using h
theorem toList_ne {s t : ByteArray} (h : s ≠ t) : (s.toList == t.toList) = false := by
 rw [beq_eq_false_iff_ne]; exact fun e => h (toList_inj e)
theorem sameV_rec {kx sx : Int} {nx : ByteArray} {lx gx rx : Int} {Rx Ry : List Int} {Dx Dy Ex Ey : List UInt8} : q2m (Rec.mk kx sx nx lx gx rx Rx Dx Ex) (Rec.mk kx sx nx lx gx rx Ry Dy Ey) = (q2m Rx Ry && (q2m Dx Dy && q2m Ex Ey)) := by
 by_cases h1 : Rx = Ry
 ·by_cases h2 : Dx = Dy
  ·by_cases h3 : Ex = Ey
   ·rw [q1z h1, q1z h2, q1z h3, q1z (by rw [h1, h2, h3])]; rfl
   ·rw [q1z h1, q1z h2, q1f h3, q1f (fun h => h3 (congrArg Rec.delta h))]; rfl
  ·rw [q1z h1, q1f h2, q1f (fun h => h2 (congrArg Rec.data h))]; rfl
 ·rw [q1f h1, q1f (fun h => h1 (congrArg Rec.rows h))]; rfl
theorem sameRec_k (kx : Int) (sx : Int) (nx : ByteArray) (lx : Int) (gx : Int) (rx : Int) (ky : Int) (sy : Int) (ny : ByteArray) (ly : Int) (gy : Int) (ry : Int) (a6x : Option Addr) (l6x c6x : Nat) (a7x : Option Addr) (l7x c7x : Nat) (a8x : Option Addr) (l8x c8x : Nat) (a6y : Option Addr) (l6y c6y : Nat) (a7y : Option Addr) (l7y c7y : Nat) (a8y : Option Addr) (l8y c8y : Nat) (e : kx ≠ ky) (w : World) :
  Calls Tryz.prog 123 #[.agg #[.int .i64 kx, .int .i64 sx, .string nx, .int .i64 lx, .int .i64 gx, .int .i64 rx, .slice a6x l6x c6x, .slice a7x l7x c7x, .slice a8x l8x c8x], .agg #[.int .i64 ky, .int .i64 sy, .string ny, .int .i64 ly, .int .i64 gy, .int .i64 ry, .slice a6y l6y c6y, .slice a7y l7y c7y, .slice a8y l8y c8y]] w fun e w' => e = .returned (.bool false) ∧ Chg [] w w' := by
 have t1 : (kx == ky) = false := by rw [beq_eq_false_iff_ne]; exact e
 clear e
 go_enter Tryz.func123, Tryz.ntmps123
 go_wp2_with fail
 go_ret
 exact ⟨rfl, by repeat (first | exact Chg.refl _ _ | refine Chg.alloc ?_ _)⟩
theorem sameRec_s (kx : Int) (sx : Int) (nx : ByteArray) (lx : Int) (gx : Int) (rx : Int) (sy : Int) (ny : ByteArray) (ly : Int) (gy : Int) (ry : Int) (a6x : Option Addr) (l6x c6x : Nat) (a7x : Option Addr) (l7x c7x : Nat) (a8x : Option Addr) (l8x c8x : Nat) (a6y : Option Addr) (l6y c6y : Nat) (a7y : Option Addr) (l7y c7y : Nat) (a8y : Option Addr) (l8y c8y : Nat) (e : sx ≠ sy) (w : World) :
  Calls Tryz.prog 123 #[.agg #[.int .i64 kx, .int .i64 sx, .string nx, .int .i64 lx, .int .i64 gx, .int .i64 rx, .slice a6x l6x c6x, .slice a7x l7x c7x, .slice a8x l8x c8x], .agg #[.int .i64 kx, .int .i64 sy, .string ny, .int .i64 ly, .int .i64 gy, .int .i64 ry, .slice a6y l6y c6y, .slice a7y l7y c7y, .slice a8y l8y c8y]] w fun e w' => e = .returned (.bool false) ∧ Chg [] w w' := by
 have t1 : (sx == sy) = false := by rw [beq_eq_false_iff_ne]; exact e
 clear e
 go_enter Tryz.func123, Tryz.ntmps123
 go_wp2_with fail
 go_ret
 exact ⟨rfl, by repeat (first | exact Chg.refl _ _ | refine Chg.alloc ?_ _)⟩
theorem sameRec_n (kx : Int) (sx : Int) (nx : ByteArray) (lx : Int) (gx : Int) (rx : Int) (ny : ByteArray) (ly : Int) (gy : Int) (ry : Int) (a6x : Option Addr) (l6x c6x : Nat) (a7x : Option Addr) (l7x c7x : Nat) (a8x : Option Addr) (l8x c8x : Nat) (a6y : Option Addr) (l6y c6y : Nat) (a7y : Option Addr) (l7y c7y : Nat) (a8y : Option Addr) (l8y c8y : Nat) (e : nx ≠ ny) (w : World) :
  Calls Tryz.prog 123 #[.agg #[.int .i64 kx, .int .i64 sx, .string nx, .int .i64 lx, .int .i64 gx, .int .i64 rx, .slice a6x l6x c6x, .slice a7x l7x c7x, .slice a8x l8x c8x], .agg #[.int .i64 kx, .int .i64 sx, .string ny, .int .i64 ly, .int .i64 gy, .int .i64 ry, .slice a6y l6y c6y, .slice a7y l7y c7y, .slice a8y l8y c8y]] w fun e w' => e = .returned (.bool false) ∧ Chg [] w w' := by
 have t1 : (nx.toList == ny.toList) = false := toList_ne e
 clear e
 go_enter Tryz.func123, Tryz.ntmps123
 go_wp2_with fail
 go_ret
 exact ⟨rfl, by repeat (first | exact Chg.refl _ _ | refine Chg.alloc ?_ _)⟩
theorem sameRec_l (kx : Int) (sx : Int) (nx : ByteArray) (lx : Int) (gx : Int) (rx : Int) (ly : Int) (gy : Int) (ry : Int) (a6x : Option Addr) (l6x c6x : Nat) (a7x : Option Addr) (l7x c7x : Nat) (a8x : Option Addr) (l8x c8x : Nat) (a6y : Option Addr) (l6y c6y : Nat) (a7y : Option Addr) (l7y c7y : Nat) (a8y : Option Addr) (l8y c8y : Nat) (e : lx ≠ ly) (w : World) :
  Calls Tryz.prog 123 #[.agg #[.int .i64 kx, .int .i64 sx, .string nx, .int .i64 lx, .int .i64 gx, .int .i64 rx, .slice a6x l6x c6x, .slice a7x l7x c7x, .slice a8x l8x c8x], .agg #[.int .i64 kx, .int .i64 sx, .string nx, .int .i64 ly, .int .i64 gy, .int .i64 ry, .slice a6y l6y c6y, .slice a7y l7y c7y, .slice a8y l8y c8y]] w fun e w' => e = .returned (.bool false) ∧ Chg [] w w' := by
 have t1 : (lx == ly) = false := by rw [beq_eq_false_iff_ne]; exact e
 clear e
 go_enter Tryz.func123, Tryz.ntmps123
 go_wp2_with fail
 go_ret
 exact ⟨rfl, by repeat (first | exact Chg.refl _ _ | refine Chg.alloc ?_ _)⟩
theorem sameRec_g (kx : Int) (sx : Int) (nx : ByteArray) (lx : Int) (gx : Int) (rx : Int) (gy : Int) (ry : Int) (a6x : Option Addr) (l6x c6x : Nat) (a7x : Option Addr) (l7x c7x : Nat) (a8x : Option Addr) (l8x c8x : Nat) (a6y : Option Addr) (l6y c6y : Nat) (a7y : Option Addr) (l7y c7y : Nat) (a8y : Option Addr) (l8y c8y : Nat) (e : gx ≠ gy) (w : World) :
  Calls Tryz.prog 123 #[.agg #[.int .i64 kx, .int .i64 sx, .string nx, .int .i64 lx, .int .i64 gx, .int .i64 rx, .slice a6x l6x c6x, .slice a7x l7x c7x, .slice a8x l8x c8x], .agg #[.int .i64 kx, .int .i64 sx, .string nx, .int .i64 lx, .int .i64 gy, .int .i64 ry, .slice a6y l6y c6y, .slice a7y l7y c7y, .slice a8y l8y c8y]] w fun e w' => e = .returned (.bool false) ∧ Chg [] w w' := by
 have t1 : (gx == gy) = false := by rw [beq_eq_false_iff_ne]; exact e
 clear e
 go_enter Tryz.func123, Tryz.ntmps123
 go_wp2_with fail
 go_ret
 exact ⟨rfl, by repeat (first | exact Chg.refl _ _ | refine Chg.alloc ?_ _)⟩
theorem sameRec_r (kx : Int) (sx : Int) (nx : ByteArray) (lx : Int) (gx : Int) (rx : Int) (ry : Int) (a6x : Option Addr) (l6x c6x : Nat) (a7x : Option Addr) (l7x c7x : Nat) (a8x : Option Addr) (l8x c8x : Nat) (a6y : Option Addr) (l6y c6y : Nat) (a7y : Option Addr) (l7y c7y : Nat) (a8y : Option Addr) (l8y c8y : Nat) (e : rx ≠ ry) (w : World) :
  Calls Tryz.prog 123 #[.agg #[.int .i64 kx, .int .i64 sx, .string nx, .int .i64 lx, .int .i64 gx, .int .i64 rx, .slice a6x l6x c6x, .slice a7x l7x c7x, .slice a8x l8x c8x], .agg #[.int .i64 kx, .int .i64 sx, .string nx, .int .i64 lx, .int .i64 gx, .int .i64 ry, .slice a6y l6y c6y, .slice a7y l7y c7y, .slice a8y l8y c8y]] w fun e w' => e = .returned (.bool false) ∧ Chg [] w w' := by
 have t1 : (rx == ry) = false := by rw [beq_eq_false_iff_ne]; exact e
 clear e
 go_enter Tryz.func123, Tryz.ntmps123
 go_wp2_with fail
 go_ret
 exact ⟨rfl, by repeat (first | exact Chg.refl _ _ | refine Chg.alloc ?_ _)⟩
theorem q8v (kx : Int) (sx : Int) (nx : ByteArray) (lx : Int) (gx : Int) (rx : Int) (a6x : Option Addr) (l6x c6x : Nat) (a7x : Option Addr) (l7x c7x : Nat) (a8x : Option Addr) (l8x c8x : Nat) (a6y : Option Addr) (l6y c6y : Nat) (a7y : Option Addr) (l7y c7y : Nat) (a8y : Option Addr) (l8y c8y : Nat) (Rx Ry : List Int) (Dx Dy Ex Ey : List UInt8) (f6x f7x f8x f6y f7y f8y : List Nat) (w : World) (h6x : intL.sl w a6x l6x c6x Rx f6x) (h7x : q0p.sl w a7x l7x c7x Dx f7x) (h8x : q0p.sl w a8x l8x c8x Ex f8x) (h6y : intL.sl w a6y l6y c6y Ry f6y) (h7y : q0p.sl w a7y l7y c7y Dy f7y) (h8y : q0p.sl w a8y l8y c8y Ey f8y) :
  Calls Tryz.prog 123 #[.agg #[.int .i64 kx, .int .i64 sx, .string nx, .int .i64 lx, .int .i64 gx, .int .i64 rx, .slice a6x l6x c6x, .slice a7x l7x c7x, .slice a8x l8x c8x], .agg #[.int .i64 kx, .int .i64 sx, .string nx, .int .i64 lx, .int .i64 gx, .int .i64 rx, .slice a6y l6y c6y, .slice a7y l7y c7y, .slice a8y l8y c8y]] w fun e w' => e = .returned (.bool (q2m Rx Ry && (q2m Dx Dy && q2m Ex Ey))) ∧ Chg [] w w' := by
 have hc0 := ((Chg.refl [] w).alloc (.cells #[.int .i64 kx, .int .i64 sx, .string nx, .int .i64 lx, .int .i64 gx, .int .i64 rx, .slice a6x l6x c6x, .slice a7x l7x c7x, .slice a8x l8x c8x] 67)).alloc (.cells #[.int .i64 kx, .int .i64 sx, .string nx, .int .i64 lx, .int .i64 gx, .int .i64 rx, .slice a6y l6y c6y, .slice a7y l7y c7y, .slice a8y l8y c8y] 67)
 have HC0 := hid hc0
 have H7x := hid h7x; have H8x := hid h8x; have H7y := hid h7y; have H8y := hid h8y
 have HI := hid (slEq_any a6x a6y l6x c6x l6y c6y Rx Ry f6x f6y _ (intL.sl_ext h6x hc0) (intL.sl_ext h6y hc0))
 clear hc0 h6x h7x h8x h6y h7y h8y
 have tn : (nx.toList == nx.toList) = true := by simp
 cases h6 : q2m Rx Ry
 ·rw [h6] at HI
  clear h6
  go_enter Tryz.func123, Tryz.ntmps123
  go_wp2_with fail
  refine HI.out.mono ?_
  rintro e w1 ⟨rfl, hc⟩
  have HC1 := hid (HC0.out.trans0 hc)
  clear hc
  go_wp2_with fail
  go_ret
  exact ⟨rfl, HC1.out⟩
 ·rw [h6] at HI
  clear h6
  generalize hv7 : q2m Dx Dy = v7
  generalize hv8 : q2m Ex Ey = v8
  have V7 := hid hv7
  have V8 := hid hv8
  clear hv7 hv8
  have HK := hid (fun w1 (hc : Chg [] ((w.alloc (.cells #[.int .i64 kx, .int .i64 sx, .string nx, .int .i64 lx, .int .i64 gx, .int .i64 rx, .slice a6x l6x c6x, .slice a7x l7x c7x, .slice a8x l8x c8x] 67)).alloc (.cells #[.int .i64 kx, .int .i64 sx, .string nx, .int .i64 lx, .int .i64 gx, .int .i64 rx, .slice a6y l6y c6y, .slice a7y l7y c7y, .slice a8y l8y c8y] 67)) w1) => And.intro (hc.keep0 (q0b (q0o w (.cells #[.int .i64 kx, .int .i64 sx, .string nx, .int .i64 lx, .int .i64 gx, .int .i64 rx, .slice a6x l6x c6x, .slice a7x l7x c7x, .slice a8x l8x c8x] 67)) (.cells #[.int .i64 kx, .int .i64 sx, .string nx, .int .i64 lx, .int .i64 gx, .int .i64 rx, .slice a6y l6y c6y, .slice a7y l7y c7y, .slice a8y l8y c8y] 67))) (hc.keep0 (new_two w (.cells #[.int .i64 kx, .int .i64 sx, .string nx, .int .i64 lx, .int .i64 gx, .int .i64 rx, .slice a6x l6x c6x, .slice a7x l7x c7x, .slice a8x l8x c8x] 67) (.cells #[.int .i64 kx, .int .i64 sx, .string nx, .int .i64 lx, .int .i64 gx, .int .i64 rx, .slice a6y l6y c6y, .slice a7y l7y c7y, .slice a8y l8y c8y] 67))))
  go_enter Tryz.func123, Tryz.ntmps123
  go_wp2_with fail
  refine HI.out.mono ?_
  rintro e w1 ⟨rfl, hc⟩
  have HC1 := hid (HC0.out.trans0 hc)
  obtain ⟨hB2, hB3⟩ := HK.out w1 hc
  have c2 := cellsOf hB2; have l2 := ltOf hB2; have P2 := hid hB2
  have c3 := cellsOf hB3; have l3 := ltOf hB3; have P3 := hid hB3
  clear hB2 hB3 hc HK HI
  go_wp2_with fail
  refine (byEq_any a7x a7y l7x c7x l7y c7y Dx Dy f7x f7y _ (q0p.sl_ext H7x.out HC1.out) (q0p.sl_ext H7y.out HC1.out)).mono ?_
  rintro e w2 ⟨rfl, hc⟩
  rw [V7.out]
  have HC2 := hid (HC1.out.trans0 hc)
  have hB2 := hc.keep0 P2.out; have hB3 := hc.keep0 P3.out
  clear c2 l2 c3 l3 P2 P3
  have c2 := cellsOf hB2; have l2 := ltOf hB2; have P2 := hid hB2
  have c3 := cellsOf hB3; have l3 := ltOf hB3; have P3 := hid hB3
  clear hB2 hB3 hc
  cases v7
  ·go_wp2_with fail
   go_ret
   exact ⟨rfl, HC2.out⟩
  ·go_wp2_with fail
   refine (byEq_any a8x a8y l8x c8x l8y c8y Ex Ey f8x f8y _ (q0p.sl_ext H8x.out HC2.out) (q0p.sl_ext H8y.out HC2.out)).mono ?_
   rintro e w3 ⟨rfl, hc⟩
   rw [V8.out]
   have HC3 := hid (HC2.out.trans0 hc)
   clear hc
   go_wp2_with fail
   go_ret
   exact ⟨by simp, HC3.out⟩
theorem q7d (x y : Rec) (cx cy : Array Value) (fx fy : List Nat) (w : World) (hx : recL.rep w cx.toList x fx) (hy : recL.rep w cy.toList y fy) :
  Calls Tryz.prog 123 #[.agg cx, .agg cy] w fun e w' => e = .returned (.bool (q2m x y)) ∧ Chg [] w w' := by
 obtain ⟨a6x, l6x, c6x, f6x, a7x, l7x, c7x, f7x, a8x, l8x, c8x, f8x, ex, -, -, -, -, -, -, h6x, h7x, h8x, -⟩ := q0v.1 hx
 obtain ⟨a6y, l6y, c6y, f6y, a7y, l7y, c7y, f7y, a8y, l8y, c8y, f8y, ey, -, -, -, -, -, -, h6y, h7y, h8y, -⟩ := q0v.1 hy
 obtain ⟨kx, sx, nx, lx, gx, rx, Rx, Dx, Ex⟩ := x
 obtain ⟨ky, sy, ny, ly, gy, ry, Ry, Dy, Ey⟩ := y
 simp only at ex ey h6x h7x h8x h6y h7y h8y
 obtain rfl : cx = #[.int .i64 kx, .int .i64 sx, .string nx, .int .i64 lx, .int .i64 gx, .int .i64 rx, .slice a6x l6x c6x, .slice a7x l7x c7x, .slice a8x l8x c8x] := Array.toList_inj.1 ex
 obtain rfl : cy = #[.int .i64 ky, .int .i64 sy, .string ny, .int .i64 ly, .int .i64 gy, .int .i64 ry, .slice a6y l6y c6y, .slice a7y l7y c7y, .slice a8y l8y c8y] := Array.toList_inj.1 ey
 clear ex ey hx hy
 by_cases e : kx = ky
 ·subst e
  by_cases e : sx = sy
  ·subst e
   by_cases e : nx = ny
   ·subst e
    by_cases e : lx = ly
    ·subst e
     by_cases e : gx = gy
     ·subst e
      by_cases e : rx = ry
      ·subst e
       rw [show q2m (Rec.mk kx sx nx lx gx rx Rx Dx Ex) (Rec.mk kx sx nx lx gx rx Ry Dy Ey) = (q2m Rx Ry && (q2m Dx Dy && q2m Ex Ey)) from sameV_rec]
       exact q8v _ _ _ _ _ _ _ _ _ _ _ _ _ _ _ _ _ _ _ _ _ _ _ _ Rx Ry Dx Dy Ex Ey _ _ _ _ _ _ w h6x h7x h8x h6y h7y h8y
      ·rw [q1f (show Rec.mk kx sx nx lx gx rx Rx Dx Ex ≠ Rec.mk kx sx nx lx gx ry Ry Dy Ey from fun h => e (congrArg Rec.row h))]
       exact sameRec_r _ _ _ _ _ _ _ _ _ _ _ _ _ _ _ _ _ _ _ _ _ _ _ _ _ e w
     ·rw [q1f (show Rec.mk kx sx nx lx gx rx Rx Dx Ex ≠ Rec.mk kx sx nx lx gy ry Ry Dy Ey from fun h => e (congrArg Rec.group h))]
      exact sameRec_g _ _ _ _ _ _ _ _ _ _ _ _ _ _ _ _ _ _ _ _ _ _ _ _ _ _ e w
    ·rw [q1f (show Rec.mk kx sx nx lx gx rx Rx Dx Ex ≠ Rec.mk kx sx nx ly gy ry Ry Dy Ey from fun h => e (congrArg Rec.length h))]
     exact sameRec_l _ _ _ _ _ _ _ _ _ _ _ _ _ _ _ _ _ _ _ _ _ _ _ _ _ _ _ e w
   ·rw [q1f (show Rec.mk kx sx nx lx gx rx Rx Dx Ex ≠ Rec.mk kx sx ny ly gy ry Ry Dy Ey from fun h => e (congrArg Rec.name h))]
    exact sameRec_n _ _ _ _ _ _ _ _ _ _ _ _ _ _ _ _ _ _ _ _ _ _ _ _ _ _ _ _ e w
  ·rw [q1f (show Rec.mk kx sx nx lx gx rx Rx Dx Ex ≠ Rec.mk kx sy ny ly gy ry Ry Dy Ey from fun h => e (congrArg Rec.seq h))]
   exact sameRec_s _ _ _ _ _ _ _ _ _ _ _ _ _ _ _ _ _ _ _ _ _ _ _ _ _ _ _ _ _ e w
 ·rw [q1f (show Rec.mk kx sx nx lx gx rx Rx Dx Ex ≠ Rec.mk ky sy ny ly gy ry Ry Dy Ey from fun h => e (congrArg Rec.kind h))]
  exact sameRec_k _ _ _ _ _ _ _ _ _ _ _ _ _ _ _ _ _ _ _ _ _ _ _ _ _ _ _ _ _ _ e w
end Go.Proofs.YtphmpimgbmedbaaGreat
namespace Go.Proofs.YtphmpimgbmedbaaGreat
open Go.RowKit
open Go.Lib (hid)
def Know (b : Nat) (cs : Array Value) (w : World) : Prop := ∀ j, w.cell? ⟨b, j, none⟩ = cs[j]?
theorem Know.of {w : World} {b : Nat} {cs : Array Value} {E : TypeId} {fr : Nat × Nat} (hb : w.heap[b]? = some (.cells cs E fr)) : Know b cs w := fun j => cell_of_row w b j cs E fr hb
theorem q0h {w w' : World} (hc : Chg [] w w') {b o : Nat} {v : Value} (h : w.cell? ⟨b, o, none⟩ = some v) (hb : b < w.heap.size) : w'.cell? ⟨b, o, none⟩ = some v := (hc.facts.1 b o hb).trans h
section
variable {P : Program} {ops : Array Oper} {Q : Exit → Act → World → Prop} {md : Region.Mode} {S : World → Prop} {fuel : Nat} {listed : Array Bool} {a : Act} {w : World}
theorem q0k {id : Nat} (S : World → Prop) (hm : P.follows .mixedOrders = true) (hS : S w.drew) (h : wpAnyH P .any ops Q S ops.size (Array.replicate ops.size false) a w.drew) : (Code.region id ops true).wp P Q a w :=
 wp_region_held_drew hm hS (fun _ => h)
theorem q2f {i : Nat} {oi : Oper} (h : ops.toList[i]? = some oi) : ops[i]? = some oi := by simpa using h
theorem rg_take (i : Nat) {oi : Oper} {v : Value} (hi : ops.toList[i]? = some oi) (hc : (Region.noSelect ops && Region.free md ops listed i && (Region.ready md ops listed).contains i) = true)
  (hQ : ∀ c a w, Q (.panic c) (a.put oi.dst v) w → Q (.panic c) a w) (hS : S w) (hw : Region.wanted oi (yielded ops a.tmps) = true) (hy : ∀ w, S w → (execOp a.eval oi).run P w = .ok (.value v) w)
  (h : wpAnyH P md ops Q S fuel (listed.setIfInBounds i true) (a.put oi.dst v) w) : wpAnyH P md ops Q S (fuel + 1) listed a w := by
 simp only [Bool.and_eq_true] at hc
 exact wpAnyH_take (q2f hi) hc.1.1 hc.1.2 hc.2 hQ (.inl ⟨hw, hy⟩) hS h
theorem rg_skip (i : Nat) {oi : Oper} (hi : ops.toList[i]? = some oi) (hc : (Region.noSelect ops && Region.free md ops listed i && (Region.ready md ops listed).contains i) = true)
  (hQ : ∀ c a w, Q (.panic c) (a.put oi.dst undef) w → Q (.panic c) a w) (hS : S w) (hw : Region.wanted oi (yielded ops a.tmps) = false)
  (h : wpAnyH P md ops Q S fuel (listed.setIfInBounds i true) (a.put oi.dst undef) w) : wpAnyH P md ops Q S (fuel + 1) listed a w := by
 simp only [Bool.and_eq_true] at hc
 exact wpAnyH_take (q2f hi) hc.1.1 hc.1.2 hc.2 hQ (.inr ⟨hw, rfl⟩) hS h
theorem q0d (i : Nat) {oi : Oper} (hi : ops.toList[i]? = some oi) (hr : Region.ready md ops listed = [i])
  (h : ∀ K' : Act → World → Prop, Shut (∀ a w, S w → (S w → wpAnyH P md ops Q S fuel (listed.setIfInBounds i true) a w) → K' a w) → if Region.wanted oi (yielded ops a.tmps) = true then Oper.wp P oi a w K' Q else K' (a.put oi.dst undef) w) :
  wpAnyH P md ops Q S (fuel + 1) listed a w :=
 wpAnyH_ready hr (by simp) (AllReadyH.cons (q2f hi) h AllReadyH.nil)
theorem rgT (i : Nat) {oi : Oper} {v : Value} {a' : Act} (hS : S w) (h : wpAnyH P md ops Q S fuel (listed.setIfInBounds i true) a' w) (hi : ops.toList[i]? = some oi := by rfl)
  (hc : (Region.noSelect ops && Region.free md ops listed i && (Region.ready md ops listed).contains i) = true := by kernel_rfl)
  (hQ : ∀ c a w, Q (.panic c) (a.put oi.dst v) w → Q (.panic c) a w := by exact fun _ _ _ h => h) (hw : Region.wanted oi (yielded ops a.tmps) = true := by rfl)
  (hy : ∀ w : World, (execOp a.eval oi).run P w = .ok (.value v) w := by intro w; go_simp; (try with_reducible rfl))
  (ha : a.put oi.dst v = a' := by (try simp only [Act.put, pA, pB, pC]); (try rfl)) : wpAnyH P md ops Q S (fuel + 1) listed a w :=
 rg_take i hi hc hQ hS hw (fun w _ => hy w) (ha ▸ h)
theorem rgL (i : Nat) {S' : World → Prop} {oi : Oper} {v : Value} {a' : Act} (hS : S w) (hSO : Hid (∀ w, S w → S' w)) (h : wpAnyH P md ops Q S fuel (listed.setIfInBounds i true) a' w) (hi : ops.toList[i]? = some oi := by rfl)
  (hc : (Region.noSelect ops && Region.free md ops listed i && (Region.ready md ops listed).contains i) = true := by kernel_rfl)
  (hQ : ∀ c a w, Q (.panic c) (a.put oi.dst v) w → Q (.panic c) a w := by exact fun _ _ _ h => h) (hw : Region.wanted oi (yielded ops a.tmps) = true := by rfl)
  (hy : ∀ w : World, S' w → (execOp a.eval oi).run P w = .ok (.value v) w := by intro w hSw; (try unfold Know at hSw); go_simp; (try with_reducible rfl))
  (ha : a.put oi.dst v = a' := by (try simp only [Act.put, pA, pB, pC]); (try rfl)) : wpAnyH P md ops Q S (fuel + 1) listed a w :=
 rg_take i hi hc hQ hS hw (fun w h => hy w (hSO.out w h)) (ha ▸ h)
theorem rgS (i : Nat) {oi : Oper} {a' : Act} (hS : S w) (h : wpAnyH P md ops Q S fuel (listed.setIfInBounds i true) a' w) (hi : ops.toList[i]? = some oi := by rfl)
  (hc : (Region.noSelect ops && Region.free md ops listed i && (Region.ready md ops listed).contains i) = true := by kernel_rfl)
  (hQ : ∀ c a w, Q (.panic c) (a.put oi.dst undef) w → Q (.panic c) a w := by exact fun _ _ _ h => h) (hw : Region.wanted oi (yielded ops a.tmps) = false := by rfl)
  (ha : a.put oi.dst undef = a' := by (try simp only [Act.put, pA, pB, pC]); (try rfl)) : wpAnyH P md ops Q S (fuel + 1) listed a w :=
 rg_skip i hi hc hQ hS hw (ha ▸ h)
theorem q0j (S : World → Prop) : ∃ S1 : World → Prop, Hid (∀ w, S w → S1 w) ∧ Hid (∀ w, S1 w → S w) := ⟨S, fun _ h => h, fun _ h => h⟩
/-! short words for what is kept behind a call -/
theorem bk {S : List Nat} {w w' : World} {b : Nat} {cs : Array Value} {E : TypeId} (hc : Chg S w w') (h : w.heap[b]? = some (.cells cs E (0, 0))) (hS : b ∉ S) : (∀ j, w'.cell? ⟨b, j, none⟩ = cs[j]?) ∧ b < w'.heap.size ∧ Hid (w'.heap[b]? = some (.cells cs E (0, 0))) :=
 ⟨cellsOf (hc.keepb h hS), ltOf (hc.keepb h hS), hc.keepb h hS⟩
theorem bk0 {w w' : World} {b : Nat} {cs : Array Value} {E : TypeId} (hc : Chg [] w w') (h : w.heap[b]? = some (.cells cs E (0, 0))) : (∀ j, w'.cell? ⟨b, j, none⟩ = cs[j]?) ∧ b < w'.heap.size ∧ Hid (w'.heap[b]? = some (.cells cs E (0, 0))) := bk hc h (by simp)
theorem hct {a b c : World} (h : Hid (Chg [] a b)) (hc : Chg [] b c) : Hid (Chg [] a c) := h.out.trans0 hc
theorem hsl {α : Type} {L : Lay α} {w w' : World} {a : Option Addr} {len cap : Nat} {xs : List α} {fp : List Nat} (h : Hid (L.sl w a len cap xs fp)) (hc : Chg [] w w') : Hid (L.sl w' a len cap xs fp) := L.sl_ext h.out hc
end
end Go.Proofs.YtphmpimgbmedbaaGreat
namespace Go.Proofs.YtphmpimgbmedbaaGreat
open Go.RowKit
open Go.Lib (hid)
def q3v (P : Program) (md : Region.Mode) (ops : Array Oper) (Q : Exit → Act → World → Prop) (S : Array Bool → World → Prop) : Nat → Array Bool → Act → World → Prop
 | 0, listed, a, w => Region.ready md ops listed = [] ∧ Q .normal a w
 | fuel + 1, listed, a, w =>
  (Region.ready md ops listed = [] → Q .normal a w) ∧
  ∀ i ∈ Region.ready md ops listed, wpOp P ops Q i (fun a' w' => S (listed.setIfInBounds i true) w' ∧ q3v P md ops Q S fuel (listed.setIfInBounds i true) a' w') a w
def Till (M : List Nat) (C : World → Prop) (l : Array Bool) (w : World) : Prop := (∀ m ∈ M, l.getD m false = false) → C w
def q2c (md : Region.Mode) (ops : Array Oper) (l : Array Bool) : Prop := ∀ (j : Nat) (o : Oper), ops[j]? = some o → l.getD j false = true → ∀ e ∈ o.after, Region.binds md e = true → l.getD e.on false = true
def waits (md : Region.Mode) (ops : Array Oper) : Nat → Nat → Nat → Bool
 | 0, m, i => m == i
 | n + 1, m, i => m == i || (match ops[m]? with
  | none => false
  | some o => o.after.toList.any (fun e => Region.binds md e && waits md ops n e.on i))
section
variable {P : Program} {ops : Array Oper} {Q : Exit → Act → World → Prop} {md : Region.Mode} {M : List Nat} {C : World → Prop} {fuel : Nat} {listed : Array Bool} {a : Act} {w : World}
theorem q6n (hc : q2c md ops listed) : ∀ (n m i : Nat), waits md ops n m i = true → listed.getD m false = true → listed.getD i false = true
 | 0, m, i, h, hm => by simp [waits] at h; subst h; exact hm
 | n + 1, m, i, h, hm => by
  unfold waits at h
  rw [Bool.or_eq_true] at h
  rcases h with h | h
  ·simp at h; subst h; exact hm
  ·cases ho : ops[m]? with
   | none => rw [ho] at h; cases h
   | some o =>
    rw [ho] at h
    simp only [List.any_eq_true, Bool.and_eq_true] at h
    obtain ⟨e, he, hb, hw⟩ := h
    exact q6n hc n e.on i hw (hc m o ho hm e (by simpa using he) hb)
theorem q2c.next (hc : q2c md ops listed) {j : Nat} (hj : j ∈ Region.ready md ops listed) : q2c md ops (listed.setIfInBounds j true) := by
 intro k o ho hk e he hb
 obtain ⟨_, oj, hoj, hall⟩ := mem_ready.1 hj
 by_cases h : j = k
 ·subst h
  rw [hoj] at ho
  cases ho
  exact getD_set_true (hall e he hb)
 ·rw [getD_set_ne false h] at hk
  exact getD_set_true (hc k o ho hk e he hb)
theorem q2c.none : q2c md ops (Array.replicate ops.size false) := by
 intro k o ho hk
 rw [Array.getD_eq_getD_getElem?, Array.getElem?_replicate] at hk
 split at hk <;> cases hk
theorem unl {i : Nat} (h : i ∈ Region.ready md ops listed) : listed.getD i false = false := by
 have h0 := (mem_ready.1 h).1
 rw [Array.getD_eq_getD_getElem?] at h0 ⊢
 cases e : listed[i]? with
 | none => rfl
 | some b => rw [e] at h0; exact h0
theorem q7z {S : Array Bool → World → Prop} : ∀ (fuel : Nat) (listed : Array Bool) (a : Act) (w : World), q3v P md ops Q S fuel listed a w → wpAny P md ops Q fuel listed a w
 | 0, _, _, _, h => h
 | fuel + 1, _, _, _, h => ⟨h.1, fun i hi => wpOp_mono (fun a' w' h' => q7z fuel _ a' w' h'.2) (h.2 i hi)⟩
theorem Till.now {i n : Nat} (hS : Till M C listed w) (hcl : q2c md ops listed) (hi : listed.getD i false = false) (hM : ∀ m ∈ M, waits md ops n m i = true) : C w :=
 hS (fun m hm => by
  cases e : listed.getD m false
  ·rfl
  ·rw [q6n hcl n m i (hM m hm) e] at hi; cases hi)
theorem Till.more (hS : Till M C listed w) (j : Nat) : Till M C (listed.setIfInBounds j true) w := fun hm => hS (fun m hmM => by
  have := hm m hmM
  cases e : listed.getD m false
  ·rfl
  ·rw [getD_set_true e] at this; cases this)
theorem q4t {i : Nat} {oi : Oper} {v : Value} (hi : ops[i]? = some oi) (hsel : ∀ (j : Nat) (o : Oper) cs b, ops[j]? = some o → o.op ≠ .select cs b)
  (hQ : ∀ c a w, Q (.panic c) (a.put oi.dst v) w → Q (.panic c) a w) {D : World → Prop} (hD : ∀ (l : Array Bool) w, q2c md ops l → l.getD i false = false → Till M C l w → D w) (hiM : i ∉ M) :
  ∀ (fuel : Nat) (listed : Array Bool) (a : Act) (w : World),
   (∀ j oj, ops[j]? = some oj → j ≠ i → listed.getD j true = false → (∀ e ∈ oj.after, Region.binds md e = true → e.on ≠ i) → oi.apart ops oj = true) →
   i ∈ Region.ready md ops listed → q2c md ops listed → YieldsIf P ops D oi v a → Till M C listed w →
   q3v P md ops Q (Till M C) fuel (listed.setIfInBounds i true) (a.put oi.dst v) w → q3v P md ops Q (Till M C) (fuel + 1) listed a w := by
 intro fuel
 induction fuel with
 | zero =>
  intro listed a w _ hr hcl hy hS H
  refine ⟨fun h => (by rw [h] at hr; cases hr), fun j hj => ?_⟩
  by_cases hji : j = i
  ·subst hji
   exact hy.wpOp hi (hD _ _ hcl (unl hr) hS) ⟨hS.more j, H⟩
  ·have := ready_mono hj hji
   rw [H.1] at this
   cases this
 | succ fuel ih =>
  intro listed a w hfree hr hcl hy hS H
  refine ⟨fun h => (by rw [h] at hr; cases hr), fun j hj => ?_⟩
  by_cases hji : j = i
  ·subst hji
   exact hy.wpOp hi (hD _ _ hcl (unl hr) hS) ⟨hS.more j, H⟩
  ·have h1 := H.2 j (ready_mono hj hji)
   obtain ⟨hjun, oj, hoj, hall⟩ := mem_ready.1 hj
   have hnot : ∀ e ∈ oj.after, Region.binds md e = true → e.on ≠ i := fun e he hb heq => by
    have h1 := hall e he hb
    rw [heq, unl hr] at h1
    cases h1
   have h2 := wpOp_putIf hoj (hfree j oj hoj hji hjun hnot) (fun cs b => hsel i oi cs b hi) (fun cs b => hsel j oj cs b hoj) hQ hy h1
   have hfree' : ∀ k ok, ops[k]? = some ok → k ≠ i → (listed.setIfInBounds j true).getD k true = false →
     (∀ e ∈ ok.after, Region.binds md e = true → e.on ≠ i) → oi.apart ops ok = true := fun k ok hk hki hun hno => by
    refine hfree k ok hk hki ?_ hno
    by_cases hjk : j = k
    ·subst hjk; exact hjun
    ·rw [getD_set_ne true hjk] at hun; exact hun
   refine wpOp_mono (fun a' w' h3 => ?_) h2
   obtain ⟨hy', hS', hW⟩ := h3
   have hTl : Till M C (listed.setIfInBounds j true) w' := fun hm => hS' (fun m hmM => by
    have hne : i ≠ m := fun e => hiM (by rw [e]; exact hmM)
    rw [Array.setIfInBounds_comm _ _ (Ne.symm hji), getD_set_ne false hne]
    exact hm m hmM)
   refine ⟨hTl, ih (listed.setIfInBounds j true) a' w' hfree' (ready_mono hr (Ne.symm hji)) (hcl.next hj) hy' hTl ?_⟩
   rw [Array.setIfInBounds_comm _ _ hji]
   exact hW
theorem q1j {id : Nat} (M : List Nat) (C : World → Prop) (hm : P.follows .mixedOrders = true) (hC : C w.drew) (h : q2c .any ops (Array.replicate ops.size false) → Till M C (Array.replicate ops.size false) w.drew → q3v P .any ops Q (Till M C) ops.size (Array.replicate ops.size false) a w.drew) : (Code.region id ops true).wp P Q a w :=
 wp_region_any hm (q7z _ _ _ _ (h q2c.none (fun _ => hC)))
theorem ggT (i : Nat) {oi : Oper} {v : Value} {a' : Act} (hcl : q2c md ops listed) (hS : Till M C listed w)
  (h : q2c md ops (listed.setIfInBounds i true) → Till M C (listed.setIfInBounds i true) w → q3v P md ops Q (Till M C) fuel (listed.setIfInBounds i true) a' w) (hi : ops.toList[i]? = some oi := by rfl)
  (hc : (Region.noSelect ops && Region.free md ops listed i && (Region.ready md ops listed).contains i && !M.contains i) = true := by kernel_rfl)
  (hQ : ∀ c a w, Q (.panic c) (a.put oi.dst v) w → Q (.panic c) a w := by exact fun _ _ _ h => h) (hw : Region.wanted oi (yielded ops a.tmps) = true := by rfl)
  (hy : ∀ w : World, (execOp a.eval oi).run P w = .ok (.value v) w := by intro w; go_simp; (try with_reducible rfl))
  (ha : a.put oi.dst v = a' := by (try simp only [Act.put, pA, pB, pC]); (try rfl)) : q3v P md ops Q (Till M C) (fuel + 1) listed a w := by
 simp only [Bool.and_eq_true, Bool.not_eq_true'] at hc
 have hr : i ∈ Region.ready md ops listed := by simpa using hc.1.2
 exact q4t (D := fun _ => True) (q2f hi) (Region.noSelect_spec hc.1.1.1) hQ (fun _ _ _ _ _ => trivial) (by simpa using hc.2) fuel listed a w (Region.free_spec (q2f hi) hc.1.1.2) hr hcl (.inl ⟨hw, fun w _ => hy w⟩) hS (ha ▸ h (hcl.next hr) (hS.more i))
theorem ggL (i : Nat) {oi : Oper} {v : Value} {a' : Act} {D : World → Prop} (hcl : q2c md ops listed) (hS : Till M C listed w) (hCD : Hid (∀ w, C w → D w))
  (h : q2c md ops (listed.setIfInBounds i true) → Till M C (listed.setIfInBounds i true) w → q3v P md ops Q (Till M C) fuel (listed.setIfInBounds i true) a' w) (hi : ops.toList[i]? = some oi := by rfl)
  (hc : (Region.noSelect ops && Region.free md ops listed i && (Region.ready md ops listed).contains i && M.all (fun m => waits md ops ops.size m i) && !M.contains i) = true := by kernel_rfl)
  (hQ : ∀ c a w, Q (.panic c) (a.put oi.dst v) w → Q (.panic c) a w := by exact fun _ _ _ h => h) (hw : Region.wanted oi (yielded ops a.tmps) = true := by rfl)
  (hy : ∀ w : World, D w → (execOp a.eval oi).run P w = .ok (.value v) w := by intro w hSw; (try unfold Know at hSw); go_simp; (try with_reducible rfl))
  (ha : a.put oi.dst v = a' := by (try simp only [Act.put, pA, pB, pC]); (try rfl)) : q3v P md ops Q (Till M C) (fuel + 1) listed a w := by
 simp only [Bool.and_eq_true, List.all_eq_true, Bool.not_eq_true'] at hc
 have hr : i ∈ Region.ready md ops listed := by simpa using hc.1.1.2
 exact q4t (D := D) (q2f hi) (Region.noSelect_spec hc.1.1.1.1) hQ (fun l w h1 h2 h3 => hCD.out w (h3.now h1 h2 hc.1.2)) (by simpa using hc.2) fuel listed a w (Region.free_spec (q2f hi) hc.1.1.1.2) hr hcl (.inl ⟨hw, hy⟩) hS (ha ▸ h (hcl.next hr) (hS.more i))
theorem ggS (i : Nat) {oi : Oper} {a' : Act} (hcl : q2c md ops listed) (hS : Till M C listed w)
  (h : q2c md ops (listed.setIfInBounds i true) → Till M C (listed.setIfInBounds i true) w → q3v P md ops Q (Till M C) fuel (listed.setIfInBounds i true) a' w) (hi : ops.toList[i]? = some oi := by rfl)
  (hc : (Region.noSelect ops && Region.free md ops listed i && (Region.ready md ops listed).contains i && !M.contains i) = true := by kernel_rfl)
  (hQ : ∀ c a w, Q (.panic c) (a.put oi.dst undef) w → Q (.panic c) a w := by exact fun _ _ _ h => h) (hw : Region.wanted oi (yielded ops a.tmps) = false := by rfl)
  (ha : a.put oi.dst undef = a' := by (try simp only [Act.put, pA, pB, pC]); (try rfl)) : q3v P md ops Q (Till M C) (fuel + 1) listed a w := by
 simp only [Bool.and_eq_true, Bool.not_eq_true'] at hc
 have hr : i ∈ Region.ready md ops listed := by simpa using hc.1.2
 exact q4t (D := fun _ => True) (q2f hi) (Region.noSelect_spec hc.1.1.1) hQ (fun _ _ _ _ _ => trivial) (by simpa using hc.2) fuel listed a w (Region.free_spec (q2f hi) hc.1.1.2) hr hcl (.inr ⟨hw, rfl⟩) hS (ha ▸ h (hcl.next hr) (hS.more i))
theorem ggC (i : Nat) {oi : Oper} (hcl : q2c md ops listed) (hi : ops.toList[i]? = some oi) (hr : Region.ready md ops listed = [i])
  (h : ∀ K' : Act → World → Prop, Shut (∀ a w, Till M C (listed.setIfInBounds i true) w → (q2c md ops (listed.setIfInBounds i true) → Till M C (listed.setIfInBounds i true) w → q3v P md ops Q (Till M C) fuel (listed.setIfInBounds i true) a w) → K' a w) → if Region.wanted oi (yielded ops a.tmps) = true then Oper.wp P oi a w K' Q else K' (a.put oi.dst undef) w) :
  q3v P md ops Q (Till M C) (fuel + 1) listed a w := by
 refine ⟨fun h0 => (by rw [hr] at h0; cases h0), fun j hj => ?_⟩
 have hji : j = i := by rw [hr] at hj; simpa using hj
 subst hji
 exact wpOp_step (q2f hi) (fun K' hK => h K' (fun a w hS hW => hK a w ⟨hS, hW (hcl.next hj) hS⟩))
theorem q3i {a : Act} (hr : Region.ready md ops listed = []) (h : Q .normal a w) : ∀ fuel, q3v P md ops Q (Till M C) fuel listed a w
 | 0 => ⟨hr, h⟩
 | _ + 1 => ⟨fun _ => h, by rw [hr]; simp⟩
theorem Till.done {m : Nat} (hm : m ∈ M) (h : listed.getD m false = true) : Till M C listed w := fun hall => by rw [hall m hm] at h; cases h
end
end Go.Proofs.YtphmpimgbmedbaaGreat
namespace Go.Proofs.YtphmpimgbmedbaaGreat
open Go.RowKit
open Go.Lib (hid)
def q7y (n v : Int) : Prop := 0 ≤ v ∧ (1 ≤ n → v < n) ∧ (n < 1 → v = 0)
theorem q7y.zero {n : Int} (h : n < 1) : q7y n 0 := ⟨by omega, by omega, fun _ => rfl⟩
theorem q7y.emod {n v : Int} (h : 1 ≤ n) : q7y n (v % n) := ⟨Int.emod_nonneg _ (by omega), fun _ => Int.emod_lt_of_pos _ (by omega), by omega⟩
theorem q5j {v : Int} (h : 0 ≤ v) (h2 : v ≤ 9223372036854775807) : IntKind.i64.wrap v = v := IntWalk.i64_in _ (by omega)
theorem q5f (b : Nat) (a : Option Addr) (la ca : Nat) (xs : List UInt8) (f : List Nat) (t n : Int) (w : World) (hb : w.heap[b]? = some (.cells #[.slice a la ca, .int .i64 t] 180)) (ha : q0p.sl w a la ca xs f) (hbf : b ∉ f)
  (hla : la ≤ 1048576) (ht : 0 ≤ t) (ht2 : t ≤ 1073741824) (hn : -1099511627776 ≤ n) (hn2 : n ≤ 1099511627776) :
  Calls Tryz.prog 131 #[.pointer (some ⟨b, 0, none⟩), .int .i64 n] w fun e w' => ∃ v, e = .returned (.int .i64 v) ∧ q7y n v ∧ w'.heap[b]? = some (.cells #[.slice a la ca, .int .i64 (t + 1)] 180) ∧ Chg [b] w w' := by
 have cb := cellsOf hb; have lb := ltOf hb; have fb := q0c hb
 have hb2 := q0m (o := 1) (v := .int .i64 (t + 1)) (cur' := #[.slice a la ca, .int .i64 (t + 1)]) hb rfl
 have hc2 := Chg.setCell (Chg.refl [b] w) ⟨b, 1, none⟩ (.int .i64 (t + 1)) (.inl (by simp))
 have ha2 := q0p.sl_chg ha hc2 (fun x hx he => hbf (by simp at he; exact he ▸ hx))
 have HB := hid hb; have HB2 := hid hb2; have HC2 := hid hc2; have HA := hid ha2
 clear hb hb2 hc2 ha ha2 hbf
 by_cases h1 : n < 1
 ·go_enter Tryz.func131, Tryz.ntmps131
  go_wp2_with fail
  go_ret
  exact ⟨0, rfl, q7y.zero h1, HB2.out, HC2.out⟩
 have hp : (0 : Int) < n := by omega
 by_cases h2 : la = 0
 ·subst h2
  have HD := hid (q7y.emod (n := n) (v := t * 7) (by omega))
  go_enter Tryz.func131, Tryz.ntmps131
  go_wp2_with fail
  go_ret
  exact ⟨_, rfl, HD.out, HB2.out, HC2.out⟩
 have hk : (0 : Int) < (la : Int) := by omega
 obtain ⟨j, hj⟩ : ∃ j : Nat, t.tmod la = (j : Int) := ⟨(t.tmod la).toNat, by have := Int.tmod_nonneg (la : Int) ht; omega⟩
 obtain ⟨i, hi⟩ : ∃ i : Nat, (t + 1).tmod la = (i : Int) := ⟨((t + 1).tmod la).toNat, by have := Int.tmod_nonneg (la : Int) (show 0 ≤ t + 1 by omega); omega⟩
 have hjl : j < la := by have := Int.tmod_lt_of_pos t hk; omega
 have hil : i < la := by have := Int.tmod_lt_of_pos (t + 1) hk; omega
 obtain ⟨q, hq⟩ : ∃ q, t.tdiv la = q := ⟨_, rfl⟩
 have hq0 : 0 ≤ q := by rw [← hq]; exact Int.tdiv_nonneg ht (by omega)
 have hq1 : q ≤ t := by rw [← hq, Int.tdiv_eq_ediv_of_nonneg ht]; exact Int.ediv_le_self _ ht
 obtain ⟨x, X, B, o, HX, rfl, hcx, hx0, hx1⟩ := q4z HA.out hjl
 obtain ⟨y, Y, B', o', HY, e', hcy, hy0, hy1⟩ := q4z HA.out hil
 simp only [Option.some.injEq, Addr.mk.injEq, and_true] at e'
 obtain ⟨rfl, rfl⟩ := e'
 have e1 : IntKind.i64.wrap (t + 1) = t + 1 := q5j (by omega) (by omega)
 have e2 : IntKind.i64.wrap (q * 37) = q * 37 := q5j (by omega) (by omega)
 have e3 : IntKind.i64.wrap (X + q * 37) = X + q * 37 := q5j (by omega) (by omega)
 have hj1 : (j : Int) < (la : Int) := by omega
 have hi1 : (i : Int) < (la : Int) := by omega
 by_cases h3 : 200 < n
 ·have e4 : IntKind.i64.wrap ((X + q * 37) * 251) = (X + q * 37) * 251 := q5j (by omega) (by omega)
  have e5 : IntKind.i64.wrap (Y * 13) = Y * 13 := q5j (by omega) (by omega)
  have e6 : IntKind.i64.wrap ((X + q * 37) * 251 + Y * 13) = (X + q * 37) * 251 + Y * 13 := q5j (by omega) (by omega)
  have e7 : IntKind.i64.wrap ((X + q * 37) * 251 + Y * 13 + t) = (X + q * 37) * 251 + Y * 13 + t := q5j (by omega) (by omega)
  have HD := hid (q7y.emod (n := n) (v := (X + q * 37) * 251 + Y * 13 + t) (by omega))
  go_enter Tryz.func131, Tryz.ntmps131
  go_wp2_with fail
  go_quiet (fail)
  go_wp2_with fail
  go_quiet (fail)
  go_wp2_with fail
  go_ret
  exact ⟨_, rfl, HD.out, HB2.out, HC2.out.drewN _⟩
 ·have HD := hid (q7y.emod (n := n) (v := X + q * 37) (by omega))
  go_enter Tryz.func131, Tryz.ntmps131
  go_wp2_with fail
  go_quiet (fail)
  go_wp2_with fail
  go_ret
  exact ⟨_, rfl, HD.out, HB2.out, HC2.out.drewN _⟩
theorem int_rowL {w : World} : ∀ {xs : List Int}, (∀ x ∈ xs, q0u x) → intL.all w (xs.map (Value.int IntKind.i64)) xs []
 | [], _ => ⟨rfl, rfl⟩
 | x :: xs, h => ⟨[.int .i64 x], xs.map (Value.int IntKind.i64), [], [], rfl, rfl, ⟨rfl, h x (by simp), rfl⟩, int_rowL (fun y hy => h y (by simp [hy]))⟩
theorem int_rowS {w : World} {b : Nat} {E : TypeId} {xs : List Int} (hb : w.heap[b]? = some (.cells (xs.map (Value.int IntKind.i64)).toArray E)) (h : ∀ x ∈ xs, q0u x) (hl : xs.length ≤ 1048576) :
  intL.sl w (some ⟨b, 0, none⟩) xs.length xs.length xs [b] :=
 ⟨rfl, Nat.le_refl _, by unfold maxLen; omega, (fun h => by cases h), .inr ⟨b, 0, _, E, (0, 0), [], rfl, hb, by
  have h1 := int_rowL (w := w) h
  rw [List.drop_zero, List.take_of_length_le (by simp [intL])]
  exact h1, rfl⟩⟩
theorem u8_mod (v : Int) : ∃ x : UInt8, v % 256 = (x.toNat : Int) := ⟨UInt8.ofNat (v % 256).toNat, by rw [UInt8.toNat_ofNat']; omega⟩
theorem q8i (b : Nat) (a : Option Addr) (la ca : Nat) (xs : List UInt8) (f : List Nat) (t : Int) (pa : Option Addr) (pl pc : Nat) (ys : List Int) (g : List Nat) (w : World) (hb : w.heap[b]? = some (.cells #[.slice a la ca, .int .i64 t] 180)) (ha : q0p.sl w a la ca xs f) (hbf : b ∉ f)
  (hla : la ≤ 1048576) (ht : 0 ≤ t) (ht2 : t ≤ 1073741824) (hp : intL.sl w pa pl pc ys g) (hbg : b ∉ g) (hpl : 1 ≤ pl) (hpl2 : pl ≤ 1000) :
  Calls Tryz.prog 130 #[.pointer (some ⟨b, 0, none⟩), .slice pa pl pc] w fun e w' => ∃ v, e = .returned (.int .i64 v) ∧ v ∈ ys ∧ w'.heap[b]? = some (.cells #[.slice a la ca, .int .i64 (t + 1)] 180) ∧ Chg [b] w w' := by
 have HN := hid (q5f b a la ca xs f t (pl : Int) w hb ha hbf hla ht (by omega) (by omega) (by omega))
 have HP := hid (And.intro hp hbg)
 clear hb ha hbf hp hbg
 go_enter Tryz.func130, Tryz.ntmps130
 go_wp2_with fail
 refine HN.out.mono ?_
 rintro e w1 ⟨v, rfl, hD, hb1, hc⟩
 obtain ⟨j, rfl⟩ : ∃ j : Nat, v = (j : Int) := ⟨v.toNat, by have := hD.1; omega⟩
 have hjl : j < pl := by have := hD.2.1 (by omega); omega
 obtain ⟨y, B, o, HX, rfl, hcx, hok⟩ := q2y (intL.sl_chg HP.out.1 hc (fun x hx he => HP.out.2 (by simp at he; exact he ▸ hx))) hjl
 have HB := hid hb1; have HC := hid hc; have HD := hid hD
 clear hb1 hc hD
 go_wp2_with fail
 go_ret
 exact ⟨y, rfl, List.mem_of_getElem? HX.out.1, HB.out, HC.out⟩
theorem l1Byte_any (b : Nat) (a : Option Addr) (la ca : Nat) (xs : List UInt8) (f : List Nat) (t : Int) (w : World) (hb : w.heap[b]? = some (.cells #[.slice a la ca, .int .i64 t] 180)) (ha : q0p.sl w a la ca xs f) (hbf : b ∉ f)
  (hla : la ≤ 1048576) (ht : 0 ≤ t) (ht2 : t ≤ 1073741800) :
  Calls Tryz.prog 211 #[.pointer (some ⟨b, 0, none⟩)] w fun e w' => ∃ x : UInt8, e = .returned (.int .u8 x.toNat) ∧ w'.heap[b]? = some (.cells #[.slice a la ca, .int .i64 (t + 3)] 180) ∧ Chg [b] w w' := by
 have HN := hid (q5f b a la ca xs f t 256 w hb ha hbf hla ht (by omega) (by omega) (by omega))
 have HA := hid ha; have HF := hid (fun x hx he => hbf (by simp at he; exact he ▸ hx) : ∀ x ∈ f, x ∉ [b])
 clear hb ha
 go_enter Tryz.func211, Tryz.ntmps211
 go_wp2_with fail
 refine HN.out.mono ?_
 rintro e w1 ⟨v1, rfl, hD1, hb1, hc1⟩
 have H1 := hid (And.intro hD1 (And.intro hb1 hc1))
 clear hD1 hb1 hc1
 go_wp2_with fail
 refine (q5f b a la ca xs f (t + 1) 256 w1 H1.out.2.1 (q0p.sl_chg HA.out H1.out.2.2 HF.out) hbf hla (by omega) (by omega) (by omega) (by omega)).mono ?_
 rintro e w2 ⟨v2, rfl, hD2, hb2, hc2⟩
 have H2 := hid (And.intro hD2 (And.intro hb2 hc2))
 have lb2 := ltOf hb2
 clear hD2 hb2 hc2
 go_wp2_with fail
 have hrow := int_rowS (w := w2.alloc (.cells #[.int .i64 v1, .int .i64 v2, .int .i64 0, .int .i64 1, .int .i64 2, .int .i64 255] 2)) (b := w2.heap.size) (xs := [v1, v2, 0, 1, 2, 255]) (q0e rfl _) (by
  have q1 := H1.out.1.1; have q2 := H1.out.1.2.1 (by omega); have q3 := H2.out.1.1; have q4 := H2.out.1.2.1 (by omega)
  intro x hx; simp at hx; unfold q0u; omega) (by simp)
 refine (q8i b a la ca xs f (t + 1 + 1) _ 6 6 [v1, v2, 0, 1, 2, 255] [w2.heap.size] _ (q0b H2.out.2.1 _) (q0p.sl_ext (q0p.sl_chg (q0p.sl_chg HA.out H1.out.2.2 HF.out) H2.out.2.2 HF.out) ((Chg.refl [] w2).alloc _)) hbf hla (by omega) (by omega) hrow (by simp; omega) (by omega) (by omega)).mono ?_
 rintro e w3 ⟨v, rfl, hv, hb3, hc3⟩
 have HC := hid ((H1.out.2.2.trans H2.out.2.2 (by simp)).alloc _ |>.trans hc3 (by simp))
 obtain ⟨x, hx⟩ := u8_mod v
 have HB := hid (show w3.heap[b]? = some (.cells #[.slice a la ca, .int .i64 (t + 3)] 180) by rw [hb3]; congr 6; omega)
 clear hb3 hc3 hrow
 go_wp2_with fail
 go_ret
 exact ⟨x, by simp [hx], HB.out, HC.out⟩
theorem l1Source_any (a : Option Addr) (la ca : Nat) (w : World) :
  Calls Tryz.prog 115 #[.slice a la ca] w fun e w' => e = .returned (.pointer (some ⟨w.heap.size, 0, none⟩)) ∧ w'.heap[w.heap.size]? = some (.cells #[.slice a la ca, .int .i64 0] 180) ∧ Chg [] w w' := by
 have HN := hid (q0o w (.cells #[.slice a la ca, .int .i64 0] 180))
 go_enter Tryz.func115, Tryz.ntmps115
 go_wp2_with fail
 go_ret
 exact ⟨rfl, HN.out, (Chg.refl [] w).alloc _⟩
theorem lwBig_any (a : Option Addr) (la ca : Nat) (w : World) :
  Calls Tryz.prog 45 #[.slice a la ca] w fun e w' => e = .returned (.bool (decide (1048576 < (la : Int)))) ∧ w = w' := by
 go_enter Tryz.func45, Tryz.ntmps45
 go_wp2_with fail
 go_ret
 exact ⟨rfl, rfl⟩
end Go.Proofs.YtphmpimgbmedbaaGreat
namespace Go.Proofs.YtphmpimgbmedbaaGreat
open Go.RowKit
open Go.Lib (hid)
def SrcB (b : Nat) (a : Option Addr) (la ca : Nat) (xs : List UInt8) (f : List Nat) (t : Int) (w : World) : Prop :=
 (∃ t', 0 ≤ t' ∧ t' ≤ t ∧ w.heap[b]? = some (.cells #[.slice a la ca, .int .i64 t'] 180 (0, 0))) ∧ q0p.sl w a la ca xs f ∧ b ∉ f ∧ la ≤ 1048576
section
variable {b : Nat} {a : Option Addr} {la ca : Nat} {xs : List UInt8} {f : List Nat} {t : Int} {w w' : World}
theorem SrcB.lt (h : SrcB b a la ca xs f t w) : b < w.heap.size := by obtain ⟨⟨_, _, _, h⟩, _⟩ := h; exact ltOf h
theorem SrcB.ext (h : SrcB b a la ca xs f t w) (hc : Chg [] w w') : SrcB b a la ca xs f t w' := by
 obtain ⟨⟨t', h1, h2, h3⟩, h4, h5, h6⟩ := h
 exact ⟨⟨t', h1, h2, hc.keep0 h3⟩, q0p.sl_ext h4 hc, h5, h6⟩
theorem SrcB.chg {S : List Nat} (h : SrcB b a la ca xs f t w) (hc : Chg S w w') (hb : b ∉ S) (hf : ∀ x ∈ f, x ∉ S) : SrcB b a la ca xs f t w' := by
 obtain ⟨⟨t', h1, h2, h3⟩, h4, h5, h6⟩ := h
 exact ⟨⟨t', h1, h2, hc.keepb h3 hb⟩, q0p.sl_chg h4 hc hf, h5, h6⟩
theorem SrcB.keep {n : Nat} (h : SrcB b a la ca xs f t w) (hk : ∀ k, k < n → w'.heap[k]? = w.heap[k]?) (hb : b < n) (hf : ∀ x ∈ f, x < n) : SrcB b a la ca xs f t w' := by
 obtain ⟨⟨t', h1, h2, h3⟩, h4, h5, h6⟩ := h
 exact ⟨⟨t', h1, h2, (hk b hb).trans h3⟩, q0p.sl_keep h4 (fun x hx => hk x (hf x hx)), h5, h6⟩
theorem SrcB.mono {t2 : Int} (h : SrcB b a la ca xs f t w) (ht : t ≤ t2) : SrcB b a la ca xs f t2 w := by
 obtain ⟨⟨t', h1, h2, h3⟩, h4⟩ := h
 exact ⟨⟨t', h1, by omega, h3⟩, h4⟩
end
theorem q1g (b : Nat) (a : Option Addr) (la ca : Nat) (xs : List UInt8) (f : List Nat) (t n : Int) (w : World) (h : SrcB b a la ca xs f t w) (ht : t ≤ 1073741700) (hn : -1099511627776 ≤ n) (hn2 : n ≤ 1099511627776) :
  Calls Tryz.prog 131 #[.pointer (some ⟨b, 0, none⟩), .int .i64 n] w fun e w' => ∃ v, e = .returned (.int .i64 v) ∧ q7y n v ∧ SrcB b a la ca xs f (t + 1) w' ∧ Chg [b] w w' := by
 obtain ⟨⟨t', h1, h2, h3⟩, h4, h5, h6⟩ := h
 refine (q5f b a la ca xs f t' n w h3 h4 h5 h6 h1 (by omega) hn hn2).mono ?_
 rintro e w' ⟨v, rfl, hd, hb, hc⟩
 exact ⟨v, rfl, hd, ⟨⟨t' + 1, by omega, by omega, hb⟩, q0p.sl_chg h4 hc (fun x hx hm => h5 (by rw [List.mem_singleton] at hm; exact hm ▸ hx)), h5, h6⟩, hc⟩
theorem pick_any (b : Nat) (a : Option Addr) (la ca : Nat) (xs : List UInt8) (f : List Nat) (t : Int) (pa : Option Addr) (pl pc : Nat) (ys : List Int) (g : List Nat) (w : World) (h : SrcB b a la ca xs f t w) (ht : t ≤ 1073741700) (hp : intL.sl w pa pl pc ys g) (hbg : b ∉ g) (hpl : 1 ≤ pl) (hpl2 : pl ≤ 1000) :
  Calls Tryz.prog 130 #[.pointer (some ⟨b, 0, none⟩), .slice pa pl pc] w fun e w' => ∃ v, e = .returned (.int .i64 v) ∧ v ∈ ys ∧ SrcB b a la ca xs f (t + 1) w' ∧ Chg [b] w w' := by
 obtain ⟨⟨t', h1, h2, h3⟩, h4, h5, h6⟩ := h
 refine (q8i b a la ca xs f t' pa pl pc ys g w h3 h4 h5 h6 h1 (by omega) hp hbg hpl hpl2).mono ?_
 rintro e w' ⟨v, rfl, hd, hb, hc⟩
 exact ⟨v, rfl, hd, ⟨⟨t' + 1, by omega, by omega, hb⟩, q0p.sl_chg h4 hc (fun x hx hm => h5 (by rw [List.mem_singleton] at hm; exact hm ▸ hx)), h5, h6⟩, hc⟩
theorem q0x (b : Nat) (a : Option Addr) (la ca : Nat) (xs : List UInt8) (f : List Nat) (t : Int) (pl : Nat) (ys : List Int) (w : World) (h : SrcB b a la ca xs f t w) (ht : t ≤ 1073741700) (hy : ∀ y ∈ ys, q0u y) (hl : pl = ys.length) (hpl : 1 ≤ pl) (hpl2 : pl ≤ 1000) (cs : Array Value) (hcs : cs = (ys.map (Value.int IntKind.i64)).toArray) (bn : Nat) (hbn : bn = w.heap.size) :
  Calls Tryz.prog 130 #[.pointer (some ⟨b, 0, none⟩), .slice (some ⟨bn, 0, none⟩) pl pl] (w.alloc (.cells cs 2)) fun e w' => ∃ v, e = .returned (.int .i64 v) ∧ v ∈ ys ∧ SrcB b a la ca xs f (t + 1) w' ∧ Chg [b] w w' := by
 subst hcs hl hbn
 refine (pick_any b a la ca xs f t _ ys.length ys.length ys [w.heap.size] _ (h.ext ((Chg.refl [] w).alloc _)) ht (int_rowS (q0o w _) hy (by omega)) (by have := h.lt; simp; omega) hpl hpl2).mono ?_
 rintro e w' ⟨v, rfl, hv, hs, hc⟩
 exact ⟨v, rfl, hv, hs, ((Chg.refl [b] w).alloc _).trans hc (fun x hx => .inl hx)⟩
theorem byte_any (b : Nat) (a : Option Addr) (la ca : Nat) (xs : List UInt8) (f : List Nat) (t : Int) (w : World) (h : SrcB b a la ca xs f t w) (ht : t ≤ 1073741700) :
  Calls Tryz.prog 211 #[.pointer (some ⟨b, 0, none⟩)] w fun e w' => ∃ x : UInt8, e = .returned (.int .u8 x.toNat) ∧ SrcB b a la ca xs f (t + 3) w' ∧ Chg [b] w w' := by
 obtain ⟨⟨t', h1, h2, h3⟩, h4, h5, h6⟩ := h
 refine (l1Byte_any b a la ca xs f t' w h3 h4 h5 h6 h1 (by omega)).mono ?_
 rintro e w' ⟨v, rfl, hb, hc⟩
 exact ⟨v, rfl, ⟨⟨t' + 3, by omega, by omega, hb⟩, q0p.sl_chg h4 hc (fun x hx hm => h5 (by rw [List.mem_singleton] at hm; exact hm ▸ hx)), h5, h6⟩, hc⟩
theorem source_any (a : Option Addr) (la ca : Nat) (xs : List UInt8) (f : List Nat) (w : World) (ha : q0p.sl w a la ca xs f) (hla : la ≤ 1048576) :
  Calls Tryz.prog 115 #[.slice a la ca] w fun e w' => e = .returned (.pointer (some ⟨w.heap.size, 0, none⟩)) ∧ SrcB w.heap.size a la ca xs f 0 w' ∧ Chg [] w w' := by
 refine (l1Source_any a la ca w).mono ?_
 rintro e w' ⟨rfl, hb, hc⟩
 exact ⟨rfl, ⟨⟨0, by omega, by omega, hb⟩, q0p.sl_ext ha hc, fun hm => Nat.lt_irrefl _ (q0p.sl_lt ha _ hm), hla⟩, hc⟩
theorem q1u (b : Nat) (a : Option Addr) (la ca : Nat) (xs : List UInt8) (f : List Nat) (t n : Int) (w : World) (h : SrcB b a la ca xs f t w) (ht : t ≤ 1073741700) (hn : -1099511627776 ≤ n) (hn2 : n ≤ 1099511627776) :
  Calls Tryz.prog 188 #[.pointer (some ⟨b, 0, none⟩), .int .i64 n] w fun e w' => ∃ v, e = .returned (.bool v) ∧ SrcB b a la ca xs f (t + 1) w' ∧ Chg [b] w w' := by
 have HN := hid (q1g b a la ca xs f t n w h ht hn hn2)
 clear h
 go_enter Tryz.func188, Tryz.ntmps188
 go_wp2_with fail
 refine HN.out.mono ?_
 rintro e w1 ⟨v, rfl, -, hs, hc⟩
 have HS := hid (And.intro hs hc)
 clear hs hc
 go_wp2_with fail
 go_ret
 exact ⟨_, rfl, HS.out⟩
/-! ### rows -/
def q6m (n Bd m : Nat) (w : World) (A : Option Addr) (C : Nat) (rows : List (List UInt8)) : Prop := ∃ g, q0p.slice.sl w A m C rows g ∧ q1p n w g ∧ ∀ b ∈ g, b < Bd
section
variable {n Bd m C : Nat} {w w' : World} {A : Option Addr} {rows : List (List UInt8)}
theorem q6m.chg {S : List Nat} (h : q6m n Bd m w A C rows) (hc : Chg S w w') (hS : ∀ x ∈ S, x < n) : q6m n Bd m w' A C rows := by
 obtain ⟨g, h1, h2, h3⟩ := h
 exact ⟨g, q0p.slice.sl_chg h1 hc (fun b hb hm => by have := (h2.2 b hb).1; have := hS b hm; omega), h2.chg hc, h3⟩
theorem q6m.up {Bd' : Nat} (h : q6m n Bd m w A C rows) (hB : Bd ≤ Bd') : q6m n Bd' m w A C rows := by
 obtain ⟨g, h1, h2, h3⟩ := h
 exact ⟨g, h1, h2, fun b hb => Nat.lt_of_lt_of_le (h3 b hb) hB⟩
theorem q6m.put {B o i C2 : Nat} {A2 : Option Addr} {y : List UInt8} {f2 : List Nat} (h : q6m n Bd m w (some ⟨B, o, none⟩) C rows) (hi : i < m) (hx : q0p.sl w A2 y.length C2 y f2) (ff : q1p Bd w f2) (hn : n ≤ Bd) :
  q6m n w.heap.size m (w.setCell ⟨B, o + i, none⟩ (.slice A2 y.length C2)) (some ⟨B, o, none⟩) C (rows.set i y) := by
 obtain ⟨g, h1, h2, h3⟩ := h
 obtain ⟨fp', k1, k2, k3⟩ := q0p.slice.sl_put rfl h1 h2.1 hi (v := .slice A2 y.length C2) (x' := y) (f' := f2) ⟨A2, y.length, C2, rfl, hx⟩ (fun b hb hg => by have := (ff.2 b hb).1; have := h3 b hg; omega) ff.1
 refine ⟨fp', k1, ⟨k3, fun b hb => ?_⟩, fun b hb => ?_⟩
 ·rcases k2 b hb with h | h
  ·exact ⟨(h2.2 b h).1, (h2.2 b h).2.setCell _ _⟩
  ·exact ⟨Nat.le_trans hn (ff.2 b h).1, (ff.2 b h).2.setCell _ _⟩
 ·rcases k2 b hb with h | h
  ·exact h2.lts b h
  ·exact ff.lts b h
theorem q6m.row (h : q6m n Bd m w A C rows) {i : Nat} (hi : i < m) : ∃ x b off X l c f, Hid (rows[i]? = some x ∧ n ≤ b ∧ q3z w b ∧ (∀ y ∈ f, n ≤ y ∧ y < Bd)) ∧ A = some ⟨b, off, none⟩ ∧ w.cell? ⟨b, off + i, none⟩ = some (.slice X l c) ∧ Hid (q0p.sl w X l c x f) := by
 obtain ⟨g, h1, h2, h3⟩ := h
 obtain ⟨x, b, off, X, l, c, f, HX, e, hc, HS⟩ := slc_at h1 hi
 exact ⟨x, b, off, X, l, c, f, ⟨HX.out.1, (h2.2 b HX.out.2.1).1, (h2.2 b HX.out.2.1).2, fun y hy => ⟨(h2.2 y (HX.out.2.2 y hy)).1, h3 y (HX.out.2.2 y hy)⟩⟩, e, hc, HS⟩
theorem q6m.len (h : q6m n Bd m w A C rows) : m = rows.length := by obtain ⟨g, h1, _⟩ := h; exact h1.1
end
theorem q7q {S : List Nat} {w w' : World} (hc : Chg S w w') {b o : Nat} {v : Value} (h : w.cell? ⟨b, o, none⟩ = some v) (hb : b < w.heap.size) (hS : b ∉ S) : w'.cell? ⟨b, o, none⟩ = some v := by
 have e := hc.block b hb hS
 simp only [World.cell?, e] at h ⊢
 exact h
end Go.Proofs.YtphmpimgbmedbaaGreat
namespace Go.Proofs.YtphmpimgbmedbaaGreat
open Go.RowKit
open Go.Lib (hid)
theorem name_any (b : Nat) (a : Option Addr) (la ca : Nat) (xs : List UInt8) (f : List Nat) (t : Int) (w : World) (h : SrcB b a la ca xs f t w) (ht : t ≤ 1073741700) :
  Calls Tryz.prog 246 #[.pointer (some ⟨b, 0, none⟩)] w fun e w' => ∃ nm, e = .returned (.string nm) ∧ nm.size ≤ 64 ∧ SrcB b a la ca xs f (t + 1) w' ∧ Chg [b] w w' := by
 have HS := hid h
 have HNB := hid (show w.heap.size ∉ [b] from fun hm => by rw [List.mem_singleton] at hm; have := h.lt; omega)
 clear h
 go_enter Tryz.func246, Tryz.ntmps246
 go_wp2_with fail
 refine (q1g b a la ca xs f t 6 _ (HS.out.ext ((Chg.refl [] w).alloc _)) ht (by omega) (by omega)).mono ?_
 rintro e w1 ⟨v, rfl, hd, hs, hc⟩
 have hb := hc.keepb (q0o w _) HNB.out
 have cb := cellsOf hb; have lb := ltOf hb
 have HN := hid (And.intro hs (((Chg.refl [b] w).alloc _).trans hc (fun x hx => .inl hx)))
 have hv : v = 0 ∨ v = 1 ∨ v = 2 ∨ v = 3 ∨ v = 4 ∨ v = 5 := by have := hd.1; have := hd.2.1 (by omega); omega
 clear hs hc hb hd
 rcases hv with rfl | rfl | rfl | rfl | rfl | rfl <;>
 ·go_wp2_with fail
  go_ret
  exact ⟨_, rfl, by decide, HN.out.1, HN.out.2⟩
theorem bentName_any (b : Nat) (a : Option Addr) (la ca : Nat) (xs : List UInt8) (f : List Nat) (t : Int) (w : World) (h : SrcB b a la ca xs f t w) (ht : t ≤ 1073741600) :
  Calls Tryz.prog 247 #[.pointer (some ⟨b, 0, none⟩)] w fun e w' => ∃ nm, e = .returned (.string nm) ∧ nm.size ≤ 64 ∧ SrcB b a la ca xs f (t + 2) w' ∧ Chg [b] w w' := by
 have HS := hid h
 have HLT := hid h.lt
 clear h
 go_enter Tryz.func247, Tryz.ntmps247
 go_wp2_with fail
 refine (q1u b a la ca xs f t 14 _ HS.out (by omega) (by omega) (by omega)).mono ?_
 rintro e w1 ⟨q, rfl, hs1, hc1⟩
 have HS1 := hid hs1; have HC1 := hid hc1
 have HNB := hid (show w1.heap.size ∉ [b] from fun hm => by rw [List.mem_singleton] at hm; have := hc1.size; have := HLT.out; omega)
 clear hs1 hc1
 cases q
 ·go_wp2_with fail
  refine (name_any b a la ca xs f (t + 1) _ HS1.out (by omega)).mono ?_
  rintro e w2 ⟨nm, rfl, hn, hs, hc⟩
  have HN := hid (And.intro hn (And.intro (hs.mono (t2 := t + 2) (by omega)) (HC1.out.trans hc (fun x hx => .inl hx))))
  clear hn hs hc
  go_wp2_with fail
  go_ret
  exact ⟨_, rfl, HN.out.1, HN.out.2.1, HN.out.2.2⟩
 ·go_wp2_with fail
  refine (q1g b a la ca xs f (t + 1) 7 _ (HS1.out.ext ((Chg.refl [] w1).alloc _)) (by omega) (by omega) (by omega)).mono ?_
  rintro e w2 ⟨v, rfl, hd, hs, hc⟩
  have hb := hc.keepb (q0o w1 _) HNB.out
  have cb := cellsOf hb; have lb := ltOf hb
  have HN := hid (And.intro (hs.mono (t2 := t + 2) (by omega)) ((HC1.out.alloc _).trans hc (fun x hx => .inl hx)))
  have hv : v = 0 ∨ v = 1 ∨ v = 2 ∨ v = 3 ∨ v = 4 ∨ v = 5 ∨ v = 6 := by have := hd.1; have := hd.2.1 (by omega); omega
  clear hs hc hb hd
  rcases hv with rfl | rfl | rfl | rfl | rfl | rfl | rfl <;>
  ·go_wp2_with fail
   go_ret
   exact ⟨_, rfl, by decide, HN.out.1, HN.out.2⟩

def q7t {α : Type} (q : α → Bool) (xs : List α) (r : Int) : Prop := (r = -1 ∧ xs.any q = false) ∨ ∃ j : Nat, r = j ∧ (∃ x, xs[j]? = some x ∧ q x = true) ∧ ∀ (i : Nat) x, i < j → xs[i]? = some x → q x = false
theorem q7t.ge {α : Type} {q : α → Bool} {xs : List α} {r : Int} (h : q7t q xs r) : decide (0 ≤ r) = xs.any q := by
 rcases h with ⟨rfl, h⟩ | ⟨j, rfl, ⟨x, hx, hq⟩, _⟩
 ·rw [h]; rfl
 ·rw [List.any_eq_true.2 ⟨x, List.mem_of_getElem? hx, hq⟩]; exact decide_eq_true (Int.natCast_nonneg j)
def q6l (k : Nat) (caps : Array Value) (q : Blk → Bool) (xs : List Blk) (w : World) : Prop :=
 ∀ (x : Blk) (a1 : Option Addr) (l1 c1 : Nat) (f : List Nat) (w1 : World), x ∈ xs → Chg [] w w1 → blkL.rep w1 [.int .i64 x.sM, .slice a1 l1 c1] x f → Calls Tryz.prog k (#[.agg #[.int .i64 x.sM, .slice a1 l1 c1]] ++ caps) w1 fun e w' => e = .returned (.bool (q x)) ∧ Chg [] w1 w'
theorem idxBlock_any (k : Nat) (caps : Array Value) (q : Blk → Bool) (a : Option Addr) (la ca : Nat) (xs : List Blk) (f : List Nat) (w : World) (ha : blkL.sl w a la ca xs f) (hcf : ∀ (args : Array Value) (w : World), (callFunc k args).run Tryz.prog w = .ok (.enter k args) w) (hq : q6l k caps q xs w) :
  Calls Tryz.prog 256 #[.slice a la ca, .func (.func k) #[] caps] w fun e w' => ∃ r : Int, e = .returned (.int .i64 r) ∧ Hid (q7t q xs r) ∧ Chg [] w w' := by
 have hla := blkL.sl_max ha
 have HA := hid ha
 have HL := hid ha.1
 have HQ := hid hq
 clear ha hq
 go_enter Tryz.func256, Tryz.ntmps256
 go_wp2
 go_loopw [5, 8] (fun _ i wr => ∃ (j : Nat) (Wr : World), Wr = wr ∧ j ≤ la ∧ i = .int .i64 j ∧ Hid (∀ (i : Nat) x, i < j → xs[i]? = some x → q x = false) ∧ Chg [] w wr) (fun _ i _ => la - (intOf i).toNat)
 case atStart => exact ⟨0, _, rfl, by omega, rfl, fun j x hj => by omega, Chg.refl _ _⟩
 case round =>
  obtain ⟨j, wr, rfl, hj, rfl, HK, hc⟩ := hrel
  have HC := hid hc
  by_cases hlt : j < la
  ·obtain ⟨x, b, off, a1, l1, c1, fx, HX, rfl, hc0, hc1, HXS⟩ := q9m (blkL.sl_ext HA.out hc) hlt
   have HT := hid (HQ.out x a1 l1 c1 fx wr (List.mem_of_getElem? HX.out.1) HC.out HXS.out)
   clear hc
   cases hqx : q x
   ·rw [hqx] at HT
    have HK2 := hid (show ∀ (i : Nat) y, i < j + 1 → xs[i]? = some y → q y = false from fun i y hi hy => by
     by_cases e : i = j
     ·subst e; rw [Option.some.inj (hy.symm.trans HX.out.1)]; exact hqx
     ·exact HK.out i y (by omega) hy)
    clear hqx
    go_wp2_with fail
    refine HT.out.mono ?_
    rintro e w1 ⟨rfl, hc1⟩
    have HC1 := hid (HC.out.trans0 hc1)
    clear hc1
    go_wp2_with fail
    go_roundw
    case rel => exact ⟨j + 1, _, rfl, by omega, by go_num, HK2, HC1.out⟩
    case measure => simp [intOf]; omega
   ·rw [hqx] at HT
    have HR := hid (show q7t q xs (j : Int) from .inr ⟨j, rfl, ⟨x, HX.out.1, hqx⟩, HK.out⟩)
    clear hqx
    go_wp2_with fail
    refine HT.out.mono ?_
    rintro e w1 ⟨rfl, hc1⟩
    have HC1 := hid (HC.out.trans0 hc1)
    clear hc1
    go_wp2_with fail
    go_ret
    exact ⟨_, rfl, HR, HC1.out⟩
  ·obtain rfl : j = la := by omega
   have HR := hid (show q7t q xs (-1) from .inl ⟨rfl, by
    rw [List.any_eq_false]
    intro x hx h1
    obtain ⟨i, hi, rfl⟩ := List.getElem_of_mem hx
    have h2 := HK.out i _ (by have := HL.out; omega) (List.getElem?_eq_getElem hi)
    rw [h2] at h1; cases h1⟩)
   clear hc
   go_wp2
   go_ret
   exact ⟨_, rfl, HR, HC.out⟩
theorem q6f (k : Nat) (caps : Array Value) (q : Blk → Bool) (a : Option Addr) (la ca : Nat) (xs : List Blk) (f : List Nat) (w : World) (ha : blkL.sl w a la ca xs f) (hcf : ∀ (args : Array Value) (w : World), (callFunc k args).run Tryz.prog w = .ok (.enter k args) w) (hq : q6l k caps q xs w) :
  Calls Tryz.prog 218 #[.slice a la ca, .func (.func k) #[] caps] w fun e w' => e = .returned (.bool (xs.any q)) ∧ Chg [] w w' := by
 have HI := hid (idxBlock_any k caps q a la ca xs f w ha hcf hq)
 clear ha hq hcf
 go_enter Tryz.func218, Tryz.ntmps218
 go_wp2_with fail
 refine HI.out.mono ?_
 rintro e w1 ⟨r, rfl, HR, hc1⟩
 have HC1 := hid hc1
 have HD := hid HR.out.ge
 clear hc1
 go_wp2_with fail
 go_ret
 refine ⟨?_, HC1.out⟩
 rw [← HD.out]
 rfl
def q6h (k : Nat) (caps : Array Value) (q : Tap → Bool) (xs : List Tap) (w : World) : Prop :=
 ∀ (x : Tap) (a1 : Option Addr) (l1 c1 : Nat) (f : List Nat) (w1 : World), x ∈ xs → Chg [] w w1 → tapL.rep w1 [.bool x.wiped, .slice a1 l1 c1] x f → Calls Tryz.prog k (#[.agg #[.bool x.wiped, .slice a1 l1 c1]] ++ caps) w1 fun e w' => e = .returned (.bool (q x)) ∧ Chg [] w1 w'
theorem idxTape_any (k : Nat) (caps : Array Value) (q : Tap → Bool) (a : Option Addr) (la ca : Nat) (xs : List Tap) (f : List Nat) (w : World) (ha : tapL.sl w a la ca xs f) (hcf : ∀ (args : Array Value) (w : World), (callFunc k args).run Tryz.prog w = .ok (.enter k args) w) (hq : q6h k caps q xs w) :
  Calls Tryz.prog 257 #[.slice a la ca, .func (.func k) #[] caps] w fun e w' => ∃ r : Int, e = .returned (.int .i64 r) ∧ Hid (q7t q xs r) ∧ Chg [] w w' := by
 have hla := tapL.sl_max ha
 have HA := hid ha
 have HL := hid ha.1
 have HQ := hid hq
 clear ha hq
 go_enter Tryz.func257, Tryz.ntmps257
 go_wp2
 go_loopw [5, 8] (fun _ i wr => ∃ (j : Nat) (Wr : World), Wr = wr ∧ j ≤ la ∧ i = .int .i64 j ∧ Hid (∀ (i : Nat) x, i < j → xs[i]? = some x → q x = false) ∧ Chg [] w wr) (fun _ i _ => la - (intOf i).toNat)
 case atStart => exact ⟨0, _, rfl, by omega, rfl, fun j x hj => by omega, Chg.refl _ _⟩
 case round =>
  obtain ⟨j, wr, rfl, hj, rfl, HK, hc⟩ := hrel
  have HC := hid hc
  by_cases hlt : j < la
  ·obtain ⟨x, b, off, a1, l1, c1, fx, HX, rfl, hc0, hc1, HXS⟩ := q2q (tapL.sl_ext HA.out hc) hlt
   have HT := hid (HQ.out x a1 l1 c1 fx wr (List.mem_of_getElem? HX.out.1) HC.out HXS.out)
   clear hc
   cases hqx : q x
   ·rw [hqx] at HT
    have HK2 := hid (show ∀ (i : Nat) y, i < j + 1 → xs[i]? = some y → q y = false from fun i y hi hy => by
     by_cases e : i = j
     ·subst e; rw [Option.some.inj (hy.symm.trans HX.out.1)]; exact hqx
     ·exact HK.out i y (by omega) hy)
    clear hqx
    go_wp2_with fail
    refine HT.out.mono ?_
    rintro e w1 ⟨rfl, hc1⟩
    have HC1 := hid (HC.out.trans0 hc1)
    clear hc1
    go_wp2_with fail
    go_roundw
    case rel => exact ⟨j + 1, _, rfl, by omega, by go_num, HK2, HC1.out⟩
    case measure => simp [intOf]; omega
   ·rw [hqx] at HT
    have HR := hid (show q7t q xs (j : Int) from .inr ⟨j, rfl, ⟨x, HX.out.1, hqx⟩, HK.out⟩)
    clear hqx
    go_wp2_with fail
    refine HT.out.mono ?_
    rintro e w1 ⟨rfl, hc1⟩
    have HC1 := hid (HC.out.trans0 hc1)
    clear hc1
    go_wp2_with fail
    go_ret
    exact ⟨_, rfl, HR, HC1.out⟩
  ·obtain rfl : j = la := by omega
   have HR := hid (show q7t q xs (-1) from .inl ⟨rfl, by
    rw [List.any_eq_false]
    intro x hx h1
    obtain ⟨i, hi, rfl⟩ := List.getElem_of_mem hx
    have h2 := HK.out i _ (by have := HL.out; omega) (List.getElem?_eq_getElem hi)
    rw [h2] at h1; cases h1⟩)
   clear hc
   go_wp2
   go_ret
   exact ⟨_, rfl, HR, HC.out⟩
theorem q3y (k : Nat) (caps : Array Value) (q : Tap → Bool) (a : Option Addr) (la ca : Nat) (xs : List Tap) (f : List Nat) (w : World) (ha : tapL.sl w a la ca xs f) (hcf : ∀ (args : Array Value) (w : World), (callFunc k args).run Tryz.prog w = .ok (.enter k args) w) (hq : q6h k caps q xs w) :
  Calls Tryz.prog 220 #[.slice a la ca, .func (.func k) #[] caps] w fun e w' => e = .returned (.bool (xs.any q)) ∧ Chg [] w w' := by
 have HI := hid (idxTape_any k caps q a la ca xs f w ha hcf hq)
 clear ha hq hcf
 go_enter Tryz.func220, Tryz.ntmps220
 go_wp2_with fail
 refine HI.out.mono ?_
 rintro e w1 ⟨r, rfl, HR, hc1⟩
 have HC1 := hid hc1
 have HD := hid HR.out.ge
 clear hc1
 go_wp2_with fail
 go_ret
 refine ⟨?_, HC1.out⟩
 rw [← HD.out]
 rfl
def TestsRec (k : Nat) (caps : Array Value) (q : Rec → Bool) (xs : List Rec) (w : World) : Prop :=
 ∀ (x : Rec) (a6 : Option Addr) (l6 c6 : Nat) (a7 : Option Addr) (l7 c7 : Nat) (a8 : Option Addr) (l8 c8 : Nat) (f : List Nat) (w1 : World), x ∈ xs → Chg [] w w1 → recL.rep w1 [.int .i64 x.kind, .int .i64 x.seq, .string x.name, .int .i64 x.length, .int .i64 x.group, .int .i64 x.row, .slice a6 l6 c6, .slice a7 l7 c7, .slice a8 l8 c8] x f → Calls Tryz.prog k (#[.agg #[.int .i64 x.kind, .int .i64 x.seq, .string x.name, .int .i64 x.length, .int .i64 x.group, .int .i64 x.row, .slice a6 l6 c6, .slice a7 l7 c7, .slice a8 l8 c8]] ++ caps) w1 fun e w' => e = .returned (.bool (q x)) ∧ Chg [] w1 w'
theorem idxRec_any (k : Nat) (caps : Array Value) (q : Rec → Bool) (a : Option Addr) (la ca : Nat) (xs : List Rec) (f : List Nat) (w : World) (ha : recL.sl w a la ca xs f) (hcf : ∀ (args : Array Value) (w : World), (callFunc k args).run Tryz.prog w = .ok (.enter k args) w) (hq : TestsRec k caps q xs w) :
  Calls Tryz.prog 201 #[.slice a la ca, .func (.func k) #[] caps] w fun e w' => ∃ r : Int, e = .returned (.int .i64 r) ∧ Hid (q7t q xs r) ∧ Chg [] w w' := by
 have hla := recL.sl_max ha
 have HA := hid ha
 have HL := hid ha.1
 have HQ := hid hq
 clear ha hq
 go_enter Tryz.func201, Tryz.ntmps201
 go_wp2
 go_loopw [5, 8] (fun _ i wr => ∃ (j : Nat) (Wr : World), Wr = wr ∧ j ≤ la ∧ i = .int .i64 j ∧ Hid (∀ (i : Nat) x, i < j → xs[i]? = some x → q x = false) ∧ Chg [] w wr) (fun _ i _ => la - (intOf i).toNat)
 case atStart => exact ⟨0, _, rfl, by omega, rfl, fun j x hj => by omega, Chg.refl _ _⟩
 case round =>
  obtain ⟨j, wr, rfl, hj, rfl, HK, hc⟩ := hrel
  have HC := hid hc
  by_cases hlt : j < la
  ·obtain ⟨x, b, off, a6, l6, c6, a7, l7, c7, a8, l8, c8, fx, HX, rfl, hc0, hc1, hc2, hc3, hc4, hc5, hc6, hc7, hc8, HXS⟩ := q7e (recL.sl_ext HA.out hc) hlt
   have HT := hid (HQ.out x a6 l6 c6 a7 l7 c7 a8 l8 c8 fx wr (List.mem_of_getElem? HX.out.1) HC.out HXS.out)
   clear hc
   cases hqx : q x
   ·rw [hqx] at HT
    have HK2 := hid (show ∀ (i : Nat) y, i < j + 1 → xs[i]? = some y → q y = false from fun i y hi hy => by
     by_cases e : i = j
     ·subst e; rw [Option.some.inj (hy.symm.trans HX.out.1)]; exact hqx
     ·exact HK.out i y (by omega) hy)
    clear hqx
    go_wp2_with fail
    refine HT.out.mono ?_
    rintro e w1 ⟨rfl, hc1⟩
    have HC1 := hid (HC.out.trans0 hc1)
    clear hc1
    go_wp2_with fail
    go_roundw
    case rel => exact ⟨j + 1, _, rfl, by omega, by go_num, HK2, HC1.out⟩
    case measure => simp [intOf]; omega
   ·rw [hqx] at HT
    have HR := hid (show q7t q xs (j : Int) from .inr ⟨j, rfl, ⟨x, HX.out.1, hqx⟩, HK.out⟩)
    clear hqx
    go_wp2_with fail
    refine HT.out.mono ?_
    rintro e w1 ⟨rfl, hc1⟩
    have HC1 := hid (HC.out.trans0 hc1)
    clear hc1
    go_wp2_with fail
    go_ret
    exact ⟨_, rfl, HR, HC1.out⟩
  ·obtain rfl : j = la := by omega
   have HR := hid (show q7t q xs (-1) from .inl ⟨rfl, by
    rw [List.any_eq_false]
    intro x hx h1
    obtain ⟨i, hi, rfl⟩ := List.getElem_of_mem hx
    have h2 := HK.out i _ (by have := HL.out; omega) (List.getElem?_eq_getElem hi)
    rw [h2] at h1; cases h1⟩)
   clear hc
   go_wp2
   go_ret
   exact ⟨_, rfl, HR, HC.out⟩
theorem contRec_any (k : Nat) (caps : Array Value) (q : Rec → Bool) (a : Option Addr) (la ca : Nat) (xs : List Rec) (f : List Nat) (w : World) (ha : recL.sl w a la ca xs f) (hcf : ∀ (args : Array Value) (w : World), (callFunc k args).run Tryz.prog w = .ok (.enter k args) w) (hq : TestsRec k caps q xs w) :
  Calls Tryz.prog 235 #[.slice a la ca, .func (.func k) #[] caps] w fun e w' => e = .returned (.bool (xs.any q)) ∧ Chg [] w w' := by
 have HI := hid (idxRec_any k caps q a la ca xs f w ha hcf hq)
 clear ha hq hcf
 go_enter Tryz.func235, Tryz.ntmps235
 go_wp2_with fail
 refine HI.out.mono ?_
 rintro e w1 ⟨r, rfl, HR, hc1⟩
 have HC1 := hid hc1
 have HD := hid HR.out.ge
 clear hc1
 go_wp2_with fail
 go_ret
 refine ⟨?_, HC1.out⟩
 rw [← HD.out]
 rfl
theorem q9e (x y : Rec) (cx cy : Array Value) (fx fy : List Nat) (w : World) (hx : recL.rep w cx.toList x fx) (hy : recL.rep w cy.toList y fy) :
  Calls Tryz.prog 52 #[.agg cx, .agg cy] w fun e w' => e = .returned (.bool (q2m x y)) ∧ Chg [] w w' := by
 have hc0 := ((Chg.refl [] w).alloc (.cells cx 67)).alloc (.cells cy 67)
 have HS := hid (q7d x y cx cy fx fy _ (recL.ext hx hc0) (recL.ext hy hc0))
 have HC := hid hc0
 obtain ⟨a6, l6, c6, f6, a7, l7, c7, f7, a8, l8, c8, f8, ex, -⟩ := q0v.1 hx
 obtain ⟨b6, m6, d6, g6, b7, m7, d7, g7, b8, m8, d8, g8, ey, -⟩ := q0v.1 hy
 clear hx hy hc0
 generalize q2m x y = r at HS ⊢
 obtain ⟨kx, sx, nx, lx, gx, rx, Rx, Dx, Ex⟩ := x
 obtain ⟨ky, sy, ny, ly, gy, ry, Ry, Dy, Ey⟩ := y
 simp only at ex ey
 obtain rfl := Array.toList_inj.1 (ex.trans (List.toList_toArray).symm)
 obtain rfl := Array.toList_inj.1 (ey.trans (List.toList_toArray).symm)
 clear ex ey
 go_enter Tryz.func52, Tryz.ntmps52
 go_wp2_with fail
 refine HS.out.mono ?_
 rintro e w1 ⟨rfl, hc⟩
 have HC1 := hid (HC.out.trans0 hc)
 clear hc
 go_wp2_with fail
 go_ret
 exact ⟨rfl, HC1.out⟩
end Go.Proofs.YtphmpimgbmedbaaGreat
