/- Several texts in one. -/
import Derived.Test.YtphmpimgbmedbaaGreatRows
import Derived.Test.YtphmpimgbmedbaaGreatYad
import Derived.Test.YtphmpimgbmedbaaGreatYac
namespace Go.Proofs.YtphmpimgbmedbaaGreat
open Go.RowKit
open Go.Lib (hid)
theorem toList_ne {s t : ByteArray} (h : s ≠ t) : (s.toList == t.toList) = false := by
 rw [beq_eq_false_iff_ne]; exact fun e => h (toList_inj e)
theorem sameV_rec {kx sx : Int} {nx : ByteArray} {lx gx rx : Int} {Rx Ry : List Int} {Dx Dy Ex Ey : List UInt8} : sameV (Rec.mk kx sx nx lx gx rx Rx Dx Ex) (Rec.mk kx sx nx lx gx rx Ry Dy Ey) = (sameV Rx Ry && (sameV Dx Dy && sameV Ex Ey)) := by
 by_cases h1 : Rx = Ry
 ·by_cases h2 : Dx = Dy
  ·by_cases h3 : Ex = Ey
   ·rw [sameV_true h1, sameV_true h2, sameV_true h3, sameV_true (by rw [h1, h2, h3])]; rfl
   ·rw [sameV_true h1, sameV_true h2, sameV_false h3, sameV_false (fun h => h3 (congrArg Rec.delta h))]; rfl
  ·rw [sameV_true h1, sameV_false h2, sameV_false (fun h => h2 (congrArg Rec.data h))]; rfl
 ·rw [sameV_false h1, sameV_false (fun h => h1 (congrArg Rec.rows h))]; rfl
set_option maxRecDepth 100000 in
set_option maxHeartbeats 1000000 in
theorem spec_same_k (kx : Int) (sx : Int) (nx : ByteArray) (lx : Int) (gx : Int) (rx : Int) (ky : Int) (sy : Int) (ny : ByteArray) (ly : Int) (gy : Int) (ry : Int) (a6x : Option Addr) (l6x c6x : Nat) (a7x : Option Addr) (l7x c7x : Nat) (a8x : Option Addr) (l8x c8x : Nat) (a6y : Option Addr) (l6y c6y : Nat) (a7y : Option Addr) (l7y c7y : Nat) (a8y : Option Addr) (l8y c8y : Nat) (e : kx ≠ ky) (w : World) :
  Calls Tryz.prog 234 #[.agg #[.int .i64 kx, .int .i64 sx, .string nx, .int .i64 lx, .int .i64 gx, .int .i64 rx, .slice a6x l6x c6x, .slice a7x l7x c7x, .slice a8x l8x c8x], .agg #[.int .i64 ky, .int .i64 sy, .string ny, .int .i64 ly, .int .i64 gy, .int .i64 ry, .slice a6y l6y c6y, .slice a7y l7y c7y, .slice a8y l8y c8y]] w fun e w' => e = .returned (.bool false) ∧ Chg [] w w' := by
 have t1 : (kx == ky) = false := by rw [beq_eq_false_iff_ne]; exact e
 clear e
 go_enter Tryz.func234, Tryz.ntmps234
 go_wp2_with fail
 go_ret
 exact ⟨rfl, by repeat (first | exact Chg.refl _ _ | refine Chg.alloc ?_ _)⟩
set_option maxRecDepth 100000 in
set_option maxHeartbeats 1000000 in
theorem spec_same_s (kx : Int) (sx : Int) (nx : ByteArray) (lx : Int) (gx : Int) (rx : Int) (sy : Int) (ny : ByteArray) (ly : Int) (gy : Int) (ry : Int) (a6x : Option Addr) (l6x c6x : Nat) (a7x : Option Addr) (l7x c7x : Nat) (a8x : Option Addr) (l8x c8x : Nat) (a6y : Option Addr) (l6y c6y : Nat) (a7y : Option Addr) (l7y c7y : Nat) (a8y : Option Addr) (l8y c8y : Nat) (e : sx ≠ sy) (w : World) :
  Calls Tryz.prog 234 #[.agg #[.int .i64 kx, .int .i64 sx, .string nx, .int .i64 lx, .int .i64 gx, .int .i64 rx, .slice a6x l6x c6x, .slice a7x l7x c7x, .slice a8x l8x c8x], .agg #[.int .i64 kx, .int .i64 sy, .string ny, .int .i64 ly, .int .i64 gy, .int .i64 ry, .slice a6y l6y c6y, .slice a7y l7y c7y, .slice a8y l8y c8y]] w fun e w' => e = .returned (.bool false) ∧ Chg [] w w' := by
 have t1 : (sx == sy) = false := by rw [beq_eq_false_iff_ne]; exact e
 clear e
 go_enter Tryz.func234, Tryz.ntmps234
 go_wp2_with fail
 go_ret
 exact ⟨rfl, by repeat (first | exact Chg.refl _ _ | refine Chg.alloc ?_ _)⟩
set_option maxRecDepth 100000 in
set_option maxHeartbeats 1000000 in
theorem spec_same_n (kx : Int) (sx : Int) (nx : ByteArray) (lx : Int) (gx : Int) (rx : Int) (ny : ByteArray) (ly : Int) (gy : Int) (ry : Int) (a6x : Option Addr) (l6x c6x : Nat) (a7x : Option Addr) (l7x c7x : Nat) (a8x : Option Addr) (l8x c8x : Nat) (a6y : Option Addr) (l6y c6y : Nat) (a7y : Option Addr) (l7y c7y : Nat) (a8y : Option Addr) (l8y c8y : Nat) (e : nx ≠ ny) (w : World) :
  Calls Tryz.prog 234 #[.agg #[.int .i64 kx, .int .i64 sx, .string nx, .int .i64 lx, .int .i64 gx, .int .i64 rx, .slice a6x l6x c6x, .slice a7x l7x c7x, .slice a8x l8x c8x], .agg #[.int .i64 kx, .int .i64 sx, .string ny, .int .i64 ly, .int .i64 gy, .int .i64 ry, .slice a6y l6y c6y, .slice a7y l7y c7y, .slice a8y l8y c8y]] w fun e w' => e = .returned (.bool false) ∧ Chg [] w w' := by
 have t1 : (nx.toList == ny.toList) = false := toList_ne e
 clear e
 go_enter Tryz.func234, Tryz.ntmps234
 go_wp2_with fail
 go_ret
 exact ⟨rfl, by repeat (first | exact Chg.refl _ _ | refine Chg.alloc ?_ _)⟩
set_option maxRecDepth 100000 in
set_option maxHeartbeats 1000000 in
theorem spec_same_l (kx : Int) (sx : Int) (nx : ByteArray) (lx : Int) (gx : Int) (rx : Int) (ly : Int) (gy : Int) (ry : Int) (a6x : Option Addr) (l6x c6x : Nat) (a7x : Option Addr) (l7x c7x : Nat) (a8x : Option Addr) (l8x c8x : Nat) (a6y : Option Addr) (l6y c6y : Nat) (a7y : Option Addr) (l7y c7y : Nat) (a8y : Option Addr) (l8y c8y : Nat) (e : lx ≠ ly) (w : World) :
  Calls Tryz.prog 234 #[.agg #[.int .i64 kx, .int .i64 sx, .string nx, .int .i64 lx, .int .i64 gx, .int .i64 rx, .slice a6x l6x c6x, .slice a7x l7x c7x, .slice a8x l8x c8x], .agg #[.int .i64 kx, .int .i64 sx, .string nx, .int .i64 ly, .int .i64 gy, .int .i64 ry, .slice a6y l6y c6y, .slice a7y l7y c7y, .slice a8y l8y c8y]] w fun e w' => e = .returned (.bool false) ∧ Chg [] w w' := by
 have t1 : (lx == ly) = false := by rw [beq_eq_false_iff_ne]; exact e
 clear e
 go_enter Tryz.func234, Tryz.ntmps234
 go_wp2_with fail
 go_ret
 exact ⟨rfl, by repeat (first | exact Chg.refl _ _ | refine Chg.alloc ?_ _)⟩
set_option maxRecDepth 100000 in
set_option maxHeartbeats 1000000 in
theorem spec_same_g (kx : Int) (sx : Int) (nx : ByteArray) (lx : Int) (gx : Int) (rx : Int) (gy : Int) (ry : Int) (a6x : Option Addr) (l6x c6x : Nat) (a7x : Option Addr) (l7x c7x : Nat) (a8x : Option Addr) (l8x c8x : Nat) (a6y : Option Addr) (l6y c6y : Nat) (a7y : Option Addr) (l7y c7y : Nat) (a8y : Option Addr) (l8y c8y : Nat) (e : gx ≠ gy) (w : World) :
  Calls Tryz.prog 234 #[.agg #[.int .i64 kx, .int .i64 sx, .string nx, .int .i64 lx, .int .i64 gx, .int .i64 rx, .slice a6x l6x c6x, .slice a7x l7x c7x, .slice a8x l8x c8x], .agg #[.int .i64 kx, .int .i64 sx, .string nx, .int .i64 lx, .int .i64 gy, .int .i64 ry, .slice a6y l6y c6y, .slice a7y l7y c7y, .slice a8y l8y c8y]] w fun e w' => e = .returned (.bool false) ∧ Chg [] w w' := by
 have t1 : (gx == gy) = false := by rw [beq_eq_false_iff_ne]; exact e
 clear e
 go_enter Tryz.func234, Tryz.ntmps234
 go_wp2_with fail
 go_ret
 exact ⟨rfl, by repeat (first | exact Chg.refl _ _ | refine Chg.alloc ?_ _)⟩
set_option maxRecDepth 100000 in
set_option maxHeartbeats 1000000 in
theorem spec_same_r (kx : Int) (sx : Int) (nx : ByteArray) (lx : Int) (gx : Int) (rx : Int) (ry : Int) (a6x : Option Addr) (l6x c6x : Nat) (a7x : Option Addr) (l7x c7x : Nat) (a8x : Option Addr) (l8x c8x : Nat) (a6y : Option Addr) (l6y c6y : Nat) (a7y : Option Addr) (l7y c7y : Nat) (a8y : Option Addr) (l8y c8y : Nat) (e : rx ≠ ry) (w : World) :
  Calls Tryz.prog 234 #[.agg #[.int .i64 kx, .int .i64 sx, .string nx, .int .i64 lx, .int .i64 gx, .int .i64 rx, .slice a6x l6x c6x, .slice a7x l7x c7x, .slice a8x l8x c8x], .agg #[.int .i64 kx, .int .i64 sx, .string nx, .int .i64 lx, .int .i64 gx, .int .i64 ry, .slice a6y l6y c6y, .slice a7y l7y c7y, .slice a8y l8y c8y]] w fun e w' => e = .returned (.bool false) ∧ Chg [] w w' := by
 have t1 : (rx == ry) = false := by rw [beq_eq_false_iff_ne]; exact e
 clear e
 go_enter Tryz.func234, Tryz.ntmps234
 go_wp2_with fail
 go_ret
 exact ⟨rfl, by repeat (first | exact Chg.refl _ _ | refine Chg.alloc ?_ _)⟩
set_option maxRecDepth 100000 in
set_option maxHeartbeats 2000000 in
theorem spec_same_lists (kx : Int) (sx : Int) (nx : ByteArray) (lx : Int) (gx : Int) (rx : Int) (a6x : Option Addr) (l6x c6x : Nat) (a7x : Option Addr) (l7x c7x : Nat) (a8x : Option Addr) (l8x c8x : Nat) (a6y : Option Addr) (l6y c6y : Nat) (a7y : Option Addr) (l7y c7y : Nat) (a8y : Option Addr) (l8y c8y : Nat) (Rx Ry : List Int) (Dx Dy Ex Ey : List UInt8) (f6x f7x f8x f6y f7y f8y : List Nat) (w : World) (h6x : intL.sl w a6x l6x c6x Rx f6x) (h7x : byteL.sl w a7x l7x c7x Dx f7x) (h8x : byteL.sl w a8x l8x c8x Ex f8x) (h6y : intL.sl w a6y l6y c6y Ry f6y) (h7y : byteL.sl w a7y l7y c7y Dy f7y) (h8y : byteL.sl w a8y l8y c8y Ey f8y) :
  Calls Tryz.prog 234 #[.agg #[.int .i64 kx, .int .i64 sx, .string nx, .int .i64 lx, .int .i64 gx, .int .i64 rx, .slice a6x l6x c6x, .slice a7x l7x c7x, .slice a8x l8x c8x], .agg #[.int .i64 kx, .int .i64 sx, .string nx, .int .i64 lx, .int .i64 gx, .int .i64 rx, .slice a6y l6y c6y, .slice a7y l7y c7y, .slice a8y l8y c8y]] w fun e w' => e = .returned (.bool (sameV Rx Ry && (sameV Dx Dy && sameV Ex Ey))) ∧ Chg [] w w' := by
 have hc0 := ((Chg.refl [] w).alloc (.cells #[.int .i64 kx, .int .i64 sx, .string nx, .int .i64 lx, .int .i64 gx, .int .i64 rx, .slice a6x l6x c6x, .slice a7x l7x c7x, .slice a8x l8x c8x] 67)).alloc (.cells #[.int .i64 kx, .int .i64 sx, .string nx, .int .i64 lx, .int .i64 gx, .int .i64 rx, .slice a6y l6y c6y, .slice a7y l7y c7y, .slice a8y l8y c8y] 67)
 have HC0 := hid hc0
 have H7x := hid h7x; have H8x := hid h8x; have H7y := hid h7y; have H8y := hid h8y
 have HI := hid (l6Nums_any a6x a6y l6x c6x l6y c6y Rx Ry f6x f6y _ (intL.sl_ext h6x hc0) (intL.sl_ext h6y hc0))
 clear hc0 h6x h7x h8x h6y h7y h8y
 have tn : (nx.toList == nx.toList) = true := by simp
 cases h6 : sameV Rx Ry
 ·rw [h6] at HI
  clear h6
  go_enter Tryz.func234, Tryz.ntmps234
  go_wp2_with fail
  refine HI.out.mono ?_
  rintro e w1 ⟨rfl, hc⟩
  have HC1 := hid (HC0.out.trans0 hc)
  clear hc
  go_wp2_with fail
  go_ret
  exact ⟨rfl, HC1.out⟩
 ·rw [h6] at HI
  clear h6
  generalize hv7 : sameV Dx Dy = v7
  generalize hv8 : sameV Ex Ey = v8
  have V7 := hid hv7
  have V8 := hid hv8
  clear hv7 hv8
  have HK := hid (fun w1 (hc : Chg [] ((w.alloc (.cells #[.int .i64 kx, .int .i64 sx, .string nx, .int .i64 lx, .int .i64 gx, .int .i64 rx, .slice a6x l6x c6x, .slice a7x l7x c7x, .slice a8x l8x c8x] 67)).alloc (.cells #[.int .i64 kx, .int .i64 sx, .string nx, .int .i64 lx, .int .i64 gx, .int .i64 rx, .slice a6y l6y c6y, .slice a7y l7y c7y, .slice a8y l8y c8y] 67)) w1) => And.intro (hc.keep0 (keep_alloc (new_alloc w (.cells #[.int .i64 kx, .int .i64 sx, .string nx, .int .i64 lx, .int .i64 gx, .int .i64 rx, .slice a6x l6x c6x, .slice a7x l7x c7x, .slice a8x l8x c8x] 67)) (.cells #[.int .i64 kx, .int .i64 sx, .string nx, .int .i64 lx, .int .i64 gx, .int .i64 rx, .slice a6y l6y c6y, .slice a7y l7y c7y, .slice a8y l8y c8y] 67))) (hc.keep0 (new_two w (.cells #[.int .i64 kx, .int .i64 sx, .string nx, .int .i64 lx, .int .i64 gx, .int .i64 rx, .slice a6x l6x c6x, .slice a7x l7x c7x, .slice a8x l8x c8x] 67) (.cells #[.int .i64 kx, .int .i64 sx, .string nx, .int .i64 lx, .int .i64 gx, .int .i64 rx, .slice a6y l6y c6y, .slice a7y l7y c7y, .slice a8y l8y c8y] 67))))
  go_enter Tryz.func234, Tryz.ntmps234
  go_wp2_with fail
  refine HI.out.mono ?_
  rintro e w1 ⟨rfl, hc⟩
  have HC1 := hid (HC0.out.trans0 hc)
  obtain ⟨hB2, hB3⟩ := HK.out w1 hc
  have c2 := cellsOf hB2; have l2 := ltOf hB2; have P2 := hid hB2
  have c3 := cellsOf hB3; have l3 := ltOf hB3; have P3 := hid hB3
  clear hB2 hB3 hc HK HI
  go_wp2_with fail
  refine (l2Same_any a7x a7y l7x c7x l7y c7y Dx Dy f7x f7y _ (byteL.sl_ext H7x.out HC1.out) (byteL.sl_ext H7y.out HC1.out)).mono ?_
  rintro e w2 ⟨rfl, hc⟩
  rw [V7.out]
  have HC2 := hid (HC1.out.trans0 hc)
  have hB2 := hc.keep0 P2.out; have hB3 := hc.keep0 P3.out
  clear c2 l2 c3 l3 P2 P3
  have c2 := cellsOf hB2; have l2 := ltOf hB2; have P2 := hid hB2
  have c3 := cellsOf hB3; have l3 := ltOf hB3; have P3 := hid hB3
  clear hB2 hB3 hc
  cases v7
  ·go_wp2_with fail
   go_ret
   exact ⟨rfl, HC2.out⟩
  ·go_wp2_with fail
   refine (l2Same_any a8x a8y l8x c8x l8y c8y Ex Ey f8x f8y _ (byteL.sl_ext H8x.out HC2.out) (byteL.sl_ext H8y.out HC2.out)).mono ?_
   rintro e w3 ⟨rfl, hc⟩
   rw [V8.out]
   have HC3 := hid (HC2.out.trans0 hc)
   clear hc
   go_wp2_with fail
   go_ret
   exact ⟨by simp, HC3.out⟩
set_option maxHeartbeats 400000 in
theorem spec_same_any (x y : Rec) (cx cy : Array Value) (fx fy : List Nat) (w : World) (hx : recL.rep w cx.toList x fx) (hy : recL.rep w cy.toList y fy) :
  Calls Tryz.prog 234 #[.agg cx, .agg cy] w fun e w' => e = .returned (.bool (sameV x y)) ∧ Chg [] w w' := by
 obtain ⟨a6x, l6x, c6x, f6x, a7x, l7x, c7x, f7x, a8x, l8x, c8x, f8x, ex, -, -, -, -, -, -, h6x, h7x, h8x, -⟩ := recL_iff.1 hx
 obtain ⟨a6y, l6y, c6y, f6y, a7y, l7y, c7y, f7y, a8y, l8y, c8y, f8y, ey, -, -, -, -, -, -, h6y, h7y, h8y, -⟩ := recL_iff.1 hy
 obtain ⟨kx, sx, nx, lx, gx, rx, Rx, Dx, Ex⟩ := x
 obtain ⟨ky, sy, ny, ly, gy, ry, Ry, Dy, Ey⟩ := y
 simp only at ex ey h6x h7x h8x h6y h7y h8y
 obtain rfl : cx = #[.int .i64 kx, .int .i64 sx, .string nx, .int .i64 lx, .int .i64 gx, .int .i64 rx, .slice a6x l6x c6x, .slice a7x l7x c7x, .slice a8x l8x c8x] := Array.toList_inj.1 ex
 obtain rfl : cy = #[.int .i64 ky, .int .i64 sy, .string ny, .int .i64 ly, .int .i64 gy, .int .i64 ry, .slice a6y l6y c6y, .slice a7y l7y c7y, .slice a8y l8y c8y] := Array.toList_inj.1 ey
 clear ex ey hx hy
 by_cases e : kx = ky
 ·subst e
  by_cases e : sx = sy
  ·subst e
   by_cases e : nx = ny
   ·subst e
    by_cases e : lx = ly
    ·subst e
     by_cases e : gx = gy
     ·subst e
      by_cases e : rx = ry
      ·subst e
       rw [show sameV (Rec.mk kx sx nx lx gx rx Rx Dx Ex) (Rec.mk kx sx nx lx gx rx Ry Dy Ey) = (sameV Rx Ry && (sameV Dx Dy && sameV Ex Ey)) from sameV_rec]
       exact spec_same_lists _ _ _ _ _ _ _ _ _ _ _ _ _ _ _ _ _ _ _ _ _ _ _ _ Rx Ry Dx Dy Ex Ey _ _ _ _ _ _ w h6x h7x h8x h6y h7y h8y
      ·rw [sameV_false (show Rec.mk kx sx nx lx gx rx Rx Dx Ex ≠ Rec.mk kx sx nx lx gx ry Ry Dy Ey from fun h => e (congrArg Rec.row h))]
       exact spec_same_r _ _ _ _ _ _ _ _ _ _ _ _ _ _ _ _ _ _ _ _ _ _ _ _ _ e w
     ·rw [sameV_false (show Rec.mk kx sx nx lx gx rx Rx Dx Ex ≠ Rec.mk kx sx nx lx gy ry Ry Dy Ey from fun h => e (congrArg Rec.group h))]
      exact spec_same_g _ _ _ _ _ _ _ _ _ _ _ _ _ _ _ _ _ _ _ _ _ _ _ _ _ _ e w
    ·rw [sameV_false (show Rec.mk kx sx nx lx gx rx Rx Dx Ex ≠ Rec.mk kx sx nx ly gy ry Ry Dy Ey from fun h => e (congrArg Rec.length h))]
     exact spec_same_l _ _ _ _ _ _ _ _ _ _ _ _ _ _ _ _ _ _ _ _ _ _ _ _ _ _ _ e w
   ·rw [sameV_false (show Rec.mk kx sx nx lx gx rx Rx Dx Ex ≠ Rec.mk kx sx ny ly gy ry Ry Dy Ey from fun h => e (congrArg Rec.name h))]
    exact spec_same_n _ _ _ _ _ _ _ _ _ _ _ _ _ _ _ _ _ _ _ _ _ _ _ _ _ _ _ _ e w
  ·rw [sameV_false (show Rec.mk kx sx nx lx gx rx Rx Dx Ex ≠ Rec.mk kx sy ny ly gy ry Ry Dy Ey from fun h => e (congrArg Rec.seq h))]
   exact spec_same_s _ _ _ _ _ _ _ _ _ _ _ _ _ _ _ _ _ _ _ _ _ _ _ _ _ _ _ _ _ e w
 ·rw [sameV_false (show Rec.mk kx sx nx lx gx rx Rx Dx Ex ≠ Rec.mk ky sy ny ly gy ry Ry Dy Ey from fun h => e (congrArg Rec.kind h))]
  exact spec_same_k _ _ _ _ _ _ _ _ _ _ _ _ _ _ _ _ _ _ _ _ _ _ _ _ _ _ _ _ _ _ e w
set_option maxRecDepth 100000 in
set_option maxHeartbeats 1000000 in
theorem sameRec_k (kx : Int) (sx : Int) (nx : ByteArray) (lx : Int) (gx : Int) (rx : Int) (ky : Int) (sy : Int) (ny : ByteArray) (ly : Int) (gy : Int) (ry : Int) (a6x : Option Addr) (l6x c6x : Nat) (a7x : Option Addr) (l7x c7x : Nat) (a8x : Option Addr) (l8x c8x : Nat) (a6y : Option Addr) (l6y c6y : Nat) (a7y : Option Addr) (l7y c7y : Nat) (a8y : Option Addr) (l8y c8y : Nat) (e : kx ≠ ky) (w : World) :
  Calls Tryz.prog 123 #[.agg #[.int .i64 kx, .int .i64 sx, .string nx, .int .i64 lx, .int .i64 gx, .int .i64 rx, .slice a6x l6x c6x, .slice a7x l7x c7x, .slice a8x l8x c8x], .agg #[.int .i64 ky, .int .i64 sy, .string ny, .int .i64 ly, .int .i64 gy, .int .i64 ry, .slice a6y l6y c6y, .slice a7y l7y c7y, .slice a8y l8y c8y]] w fun e w' => e = .returned (.bool false) ∧ Chg [] w w' := by
 have t1 : (kx == ky) = false := by rw [beq_eq_false_iff_ne]; exact e
 clear e
 go_enter Tryz.func123, Tryz.ntmps123
 go_wp2_with fail
 go_ret
 exact ⟨rfl, by repeat (first | exact Chg.refl _ _ | refine Chg.alloc ?_ _)⟩
set_option maxRecDepth 100000 in
set_option maxHeartbeats 1000000 in
theorem sameRec_s (kx : Int) (sx : Int) (nx : ByteArray) (lx : Int) (gx : Int) (rx : Int) (sy : Int) (ny : ByteArray) (ly : Int) (gy : Int) (ry : Int) (a6x : Option Addr) (l6x c6x : Nat) (a7x : Option Addr) (l7x c7x : Nat) (a8x : Option Addr) (l8x c8x : Nat) (a6y : Option Addr) (l6y c6y : Nat) (a7y : Option Addr) (l7y c7y : Nat) (a8y : Option Addr) (l8y c8y : Nat) (e : sx ≠ sy) (w : World) :
  Calls Tryz.prog 123 #[.agg #[.int .i64 kx, .int .i64 sx, .string nx, .int .i64 lx, .int .i64 gx, .int .i64 rx, .slice a6x l6x c6x, .slice a7x l7x c7x, .slice a8x l8x c8x], .agg #[.int .i64 kx, .int .i64 sy, .string ny, .int .i64 ly, .int .i64 gy, .int .i64 ry, .slice a6y l6y c6y, .slice a7y l7y c7y, .slice a8y l8y c8y]] w fun e w' => e = .returned (.bool false) ∧ Chg [] w w' := by
 have t1 : (sx == sy) = false := by rw [beq_eq_false_iff_ne]; exact e
 clear e
 go_enter Tryz.func123, Tryz.ntmps123
 go_wp2_with fail
 go_ret
 exact ⟨rfl, by repeat (first | exact Chg.refl _ _ | refine Chg.alloc ?_ _)⟩
set_option maxRecDepth 100000 in
set_option maxHeartbeats 1000000 in
theorem sameRec_n (kx : Int) (sx : Int) (nx : ByteArray) (lx : Int) (gx : Int) (rx : Int) (ny : ByteArray) (ly : Int) (gy : Int) (ry : Int) (a6x : Option Addr) (l6x c6x : Nat) (a7x : Option Addr) (l7x c7x : Nat) (a8x : Option Addr) (l8x c8x : Nat) (a6y : Option Addr) (l6y c6y : Nat) (a7y : Option Addr) (l7y c7y : Nat) (a8y : Option Addr) (l8y c8y : Nat) (e : nx ≠ ny) (w : World) :
  Calls Tryz.prog 123 #[.agg #[.int .i64 kx, .int .i64 sx, .string nx, .int .i64 lx, .int .i64 gx, .int .i64 rx, .slice a6x l6x c6x, .slice a7x l7x c7x, .slice a8x l8x c8x], .agg #[.int .i64 kx, .int .i64 sx, .string ny, .int .i64 ly, .int .i64 gy, .int .i64 ry, .slice a6y l6y c6y, .slice a7y l7y c7y, .slice a8y l8y c8y]] w fun e w' => e = .returned (.bool false) ∧ Chg [] w w' := by
 have t1 : (nx.toList == ny.toList) = false := toList_ne e
 clear e
 go_enter Tryz.func123, Tryz.ntmps123
 go_wp2_with fail
 go_ret
 exact ⟨rfl, by repeat (first | exact Chg.refl _ _ | refine Chg.alloc ?_ _)⟩
set_option maxRecDepth 100000 in
set_option maxHeartbeats 1000000 in
theorem sameRec_l (kx : Int) (sx : Int) (nx : ByteArray) (lx : Int) (gx : Int) (rx : Int) (ly : Int) (gy : Int) (ry : Int) (a6x : Option Addr) (l6x c6x : Nat) (a7x : Option Addr) (l7x c7x : Nat) (a8x : Option Addr) (l8x c8x : Nat) (a6y : Option Addr) (l6y c6y : Nat) (a7y : Option Addr) (l7y c7y : Nat) (a8y : Option Addr) (l8y c8y : Nat) (e : lx ≠ ly) (w : World) :
  Calls Tryz.prog 123 #[.agg #[.int .i64 kx, .int .i64 sx, .string nx, .int .i64 lx, .int .i64 gx, .int .i64 rx, .slice a6x l6x c6x, .slice a7x l7x c7x, .slice a8x l8x c8x], .agg #[.int .i64 kx, .int .i64 sx, .string nx, .int .i64 ly, .int .i64 gy, .int .i64 ry, .slice a6y l6y c6y, .slice a7y l7y c7y, .slice a8y l8y c8y]] w fun e w' => e = .returned (.bool false) ∧ Chg [] w w' := by
 have t1 : (lx == ly) = false := by rw [beq_eq_false_iff_ne]; exact e
 clear e
 go_enter Tryz.func123, Tryz.ntmps123
 go_wp2_with fail
 go_ret
 exact ⟨rfl, by repeat (first | exact Chg.refl _ _ | refine Chg.alloc ?_ _)⟩
set_option maxRecDepth 100000 in
set_option maxHeartbeats 1000000 in
theorem sameRec_g (kx : Int) (sx : Int) (nx : ByteArray) (lx : Int) (gx : Int) (rx : Int) (gy : Int) (ry : Int) (a6x : Option Addr) (l6x c6x : Nat) (a7x : Option Addr) (l7x c7x : Nat) (a8x : Option Addr) (l8x c8x : Nat) (a6y : Option Addr) (l6y c6y : Nat) (a7y : Option Addr) (l7y c7y : Nat) (a8y : Option Addr) (l8y c8y : Nat) (e : gx ≠ gy) (w : World) :
  Calls Tryz.prog 123 #[.agg #[.int .i64 kx, .int .i64 sx, .string nx, .int .i64 lx, .int .i64 gx, .int .i64 rx, .slice a6x l6x c6x, .slice a7x l7x c7x, .slice a8x l8x c8x], .agg #[.int .i64 kx, .int .i64 sx, .string nx, .int .i64 lx, .int .i64 gy, .int .i64 ry, .slice a6y l6y c6y, .slice a7y l7y c7y, .slice a8y l8y c8y]] w fun e w' => e = .returned (.bool false) ∧ Chg [] w w' := by
 have t1 : (gx == gy) = false := by rw [beq_eq_false_iff_ne]; exact e
 clear e
 go_enter Tryz.func123, Tryz.ntmps123
 go_wp2_with fail
 go_ret
 exact ⟨rfl, by repeat (first | exact Chg.refl _ _ | refine Chg.alloc ?_ _)⟩
set_option maxRecDepth 100000 in
set_option maxHeartbeats 1000000 in
theorem sameRec_r (kx : Int) (sx : Int) (nx : ByteArray) (lx : Int) (gx : Int) (rx : Int) (ry : Int) (a6x : Option Addr) (l6x c6x : Nat) (a7x : Option Addr) (l7x c7x : Nat) (a8x : Option Addr) (l8x c8x : Nat) (a6y : Option Addr) (l6y c6y : Nat) (a7y : Option Addr) (l7y c7y : Nat) (a8y : Option Addr) (l8y c8y : Nat) (e : rx ≠ ry) (w : World) :
  Calls Tryz.prog 123 #[.agg #[.int .i64 kx, .int .i64 sx, .string nx, .int .i64 lx, .int .i64 gx, .int .i64 rx, .slice a6x l6x c6x, .slice a7x l7x c7x, .slice a8x l8x c8x], .agg #[.int .i64 kx, .int .i64 sx, .string nx, .int .i64 lx, .int .i64 gx, .int .i64 ry, .slice a6y l6y c6y, .slice a7y l7y c7y, .slice a8y l8y c8y]] w fun e w' => e = .returned (.bool false) ∧ Chg [] w w' := by
 have t1 : (rx == ry) = false := by rw [beq_eq_false_iff_ne]; exact e
 clear e
 go_enter Tryz.func123, Tryz.ntmps123
 go_wp2_with fail
 go_ret
 exact ⟨rfl, by repeat (first | exact Chg.refl _ _ | refine Chg.alloc ?_ _)⟩
set_option maxRecDepth 100000 in
set_option maxHeartbeats 2000000 in
theorem sameRec_lists (kx : Int) (sx : Int) (nx : ByteArray) (lx : Int) (gx : Int) (rx : Int) (a6x : Option Addr) (l6x c6x : Nat) (a7x : Option Addr) (l7x c7x : Nat) (a8x : Option Addr) (l8x c8x : Nat) (a6y : Option Addr) (l6y c6y : Nat) (a7y : Option Addr) (l7y c7y : Nat) (a8y : Option Addr) (l8y c8y : Nat) (Rx Ry : List Int) (Dx Dy Ex Ey : List UInt8) (f6x f7x f8x f6y f7y f8y : List Nat) (w : World) (h6x : intL.sl w a6x l6x c6x Rx f6x) (h7x : byteL.sl w a7x l7x c7x Dx f7x) (h8x : byteL.sl w a8x l8x c8x Ex f8x) (h6y : intL.sl w a6y l6y c6y Ry f6y) (h7y : byteL.sl w a7y l7y c7y Dy f7y) (h8y : byteL.sl w a8y l8y c8y Ey f8y) :
  Calls Tryz.prog 123 #[.agg #[.int .i64 kx, .int .i64 sx, .string nx, .int .i64 lx, .int .i64 gx, .int .i64 rx, .slice a6x l6x c6x, .slice a7x l7x c7x, .slice a8x l8x c8x], .agg #[.int .i64 kx, .int .i64 sx, .string nx, .int .i64 lx, .int .i64 gx, .int .i64 rx, .slice a6y l6y c6y, .slice a7y l7y c7y, .slice a8y l8y c8y]] w fun e w' => e = .returned (.bool (sameV Rx Ry && (sameV Dx Dy && sameV Ex Ey))) ∧ Chg [] w w' := by
 have hc0 := ((Chg.refl [] w).alloc (.cells #[.int .i64 kx, .int .i64 sx, .string nx, .int .i64 lx, .int .i64 gx, .int .i64 rx, .slice a6x l6x c6x, .slice a7x l7x c7x, .slice a8x l8x c8x] 67)).alloc (.cells #[.int .i64 kx, .int .i64 sx, .string nx, .int .i64 lx, .int .i64 gx, .int .i64 rx, .slice a6y l6y c6y, .slice a7y l7y c7y, .slice a8y l8y c8y] 67)
 have HC0 := hid hc0
 have H7x := hid h7x; have H8x := hid h8x; have H7y := hid h7y; have H8y := hid h8y
 have HI := hid (slEq_any a6x a6y l6x c6x l6y c6y Rx Ry f6x f6y _ (intL.sl_ext h6x hc0) (intL.sl_ext h6y hc0))
 clear hc0 h6x h7x h8x h6y h7y h8y
 have tn : (nx.toList == nx.toList) = true := by simp
 cases h6 : sameV Rx Ry
 ·rw [h6] at HI
  clear h6
  go_enter Tryz.func123, Tryz.ntmps123
  go_wp2_with fail
  refine HI.out.mono ?_
  rintro e w1 ⟨rfl, hc⟩
  have HC1 := hid (HC0.out.trans0 hc)
  clear hc
  go_wp2_with fail
  go_ret
  exact ⟨rfl, HC1.out⟩
 ·rw [h6] at HI
  clear h6
  generalize hv7 : sameV Dx Dy = v7
  generalize hv8 : sameV Ex Ey = v8
  have V7 := hid hv7
  have V8 := hid hv8
  clear hv7 hv8
  have HK := hid (fun w1 (hc : Chg [] ((w.alloc (.cells #[.int .i64 kx, .int .i64 sx, .string nx, .int .i64 lx, .int .i64 gx, .int .i64 rx, .slice a6x l6x c6x, .slice a7x l7x c7x, .slice a8x l8x c8x] 67)).alloc (.cells #[.int .i64 kx, .int .i64 sx, .string nx, .int .i64 lx, .int .i64 gx, .int .i64 rx, .slice a6y l6y c6y, .slice a7y l7y c7y, .slice a8y l8y c8y] 67)) w1) => And.intro (hc.keep0 (keep_alloc (new_alloc w (.cells #[.int .i64 kx, .int .i64 sx, .string nx, .int .i64 lx, .int .i64 gx, .int .i64 rx, .slice a6x l6x c6x, .slice a7x l7x c7x, .slice a8x l8x c8x] 67)) (.cells #[.int .i64 kx, .int .i64 sx, .string nx, .int .i64 lx, .int .i64 gx, .int .i64 rx, .slice a6y l6y c6y, .slice a7y l7y c7y, .slice a8y l8y c8y] 67))) (hc.keep0 (new_two w (.cells #[.int .i64 kx, .int .i64 sx, .string nx, .int .i64 lx, .int .i64 gx, .int .i64 rx, .slice a6x l6x c6x, .slice a7x l7x c7x, .slice a8x l8x c8x] 67) (.cells #[.int .i64 kx, .int .i64 sx, .string nx, .int .i64 lx, .int .i64 gx, .int .i64 rx, .slice a6y l6y c6y, .slice a7y l7y c7y, .slice a8y l8y c8y] 67))))
  go_enter Tryz.func123, Tryz.ntmps123
  go_wp2_with fail
  refine HI.out.mono ?_
  rintro e w1 ⟨rfl, hc⟩
  have HC1 := hid (HC0.out.trans0 hc)
  obtain ⟨hB2, hB3⟩ := HK.out w1 hc
  have c2 := cellsOf hB2; have l2 := ltOf hB2; have P2 := hid hB2
  have c3 := cellsOf hB3; have l3 := ltOf hB3; have P3 := hid hB3
  clear hB2 hB3 hc HK HI
  go_wp2_with fail
  refine (byEq_any a7x a7y l7x c7x l7y c7y Dx Dy f7x f7y _ (byteL.sl_ext H7x.out HC1.out) (byteL.sl_ext H7y.out HC1.out)).mono ?_
  rintro e w2 ⟨rfl, hc⟩
  rw [V7.out]
  have HC2 := hid (HC1.out.trans0 hc)
  have hB2 := hc.keep0 P2.out; have hB3 := hc.keep0 P3.out
  clear c2 l2 c3 l3 P2 P3
  have c2 := cellsOf hB2; have l2 := ltOf hB2; have P2 := hid hB2
  have c3 := cellsOf hB3; have l3 := ltOf hB3; have P3 := hid hB3
  clear hB2 hB3 hc
  cases v7
  ·go_wp2_with fail
   go_ret
   exact ⟨rfl, HC2.out⟩
  ·go_wp2_with fail
   refine (byEq_any a8x a8y l8x c8x l8y c8y Ex Ey f8x f8y _ (byteL.sl_ext H8x.out HC2.out) (byteL.sl_ext H8y.out HC2.out)).mono ?_
   rintro e w3 ⟨rfl, hc⟩
   rw [V8.out]
   have HC3 := hid (HC2.out.trans0 hc)
   clear hc
   go_wp2_with fail
   go_ret
   exact ⟨by simp, HC3.out⟩
set_option maxHeartbeats 400000 in
theorem sameRec_any (x y : Rec) (cx cy : Array Value) (fx fy : List Nat) (w : World) (hx : recL.rep w cx.toList x fx) (hy : recL.rep w cy.toList y fy) :
  Calls Tryz.prog 123 #[.agg cx, .agg cy] w fun e w' => e = .returned (.bool (sameV x y)) ∧ Chg [] w w' := by
 obtain ⟨a6x, l6x, c6x, f6x, a7x, l7x, c7x, f7x, a8x, l8x, c8x, f8x, ex, -, -, -, -, -, -, h6x, h7x, h8x, -⟩ := recL_iff.1 hx
 obtain ⟨a6y, l6y, c6y, f6y, a7y, l7y, c7y, f7y, a8y, l8y, c8y, f8y, ey, -, -, -, -, -, -, h6y, h7y, h8y, -⟩ := recL_iff.1 hy
 obtain ⟨kx, sx, nx, lx, gx, rx, Rx, Dx, Ex⟩ := x
 obtain ⟨ky, sy, ny, ly, gy, ry, Ry, Dy, Ey⟩ := y
 simp only at ex ey h6x h7x h8x h6y h7y h8y
 obtain rfl : cx = #[.int .i64 kx, .int .i64 sx, .string nx, .int .i64 lx, .int .i64 gx, .int .i64 rx, .slice a6x l6x c6x, .slice a7x l7x c7x, .slice a8x l8x c8x] := Array.toList_inj.1 ex
 obtain rfl : cy = #[.int .i64 ky, .int .i64 sy, .string ny, .int .i64 ly, .int .i64 gy, .int .i64 ry, .slice a6y l6y c6y, .slice a7y l7y c7y, .slice a8y l8y c8y] := Array.toList_inj.1 ey
 clear ex ey hx hy
 by_cases e : kx = ky
 ·subst e
  by_cases e : sx = sy
  ·subst e
   by_cases e : nx = ny
   ·subst e
    by_cases e : lx = ly
    ·subst e
     by_cases e : gx = gy
     ·subst e
      by_cases e : rx = ry
      ·subst e
       rw [show sameV (Rec.mk kx sx nx lx gx rx Rx Dx Ex) (Rec.mk kx sx nx lx gx rx Ry Dy Ey) = (sameV Rx Ry && (sameV Dx Dy && sameV Ex Ey)) from sameV_rec]
       exact sameRec_lists _ _ _ _ _ _ _ _ _ _ _ _ _ _ _ _ _ _ _ _ _ _ _ _ Rx Ry Dx Dy Ex Ey _ _ _ _ _ _ w h6x h7x h8x h6y h7y h8y
      ·rw [sameV_false (show Rec.mk kx sx nx lx gx rx Rx Dx Ex ≠ Rec.mk kx sx nx lx gx ry Ry Dy Ey from fun h => e (congrArg Rec.row h))]
       exact sameRec_r _ _ _ _ _ _ _ _ _ _ _ _ _ _ _ _ _ _ _ _ _ _ _ _ _ e w
     ·rw [sameV_false (show Rec.mk kx sx nx lx gx rx Rx Dx Ex ≠ Rec.mk kx sx nx lx gy ry Ry Dy Ey from fun h => e (congrArg Rec.group h))]
      exact sameRec_g _ _ _ _ _ _ _ _ _ _ _ _ _ _ _ _ _ _ _ _ _ _ _ _ _ _ e w
    ·rw [sameV_false (show Rec.mk kx sx nx lx gx rx Rx Dx Ex ≠ Rec.mk kx sx nx ly gy ry Ry Dy Ey from fun h => e (congrArg Rec.length h))]
     exact sameRec_l _ _ _ _ _ _ _ _ _ _ _ _ _ _ _ _ _ _ _ _ _ _ _ _ _ _ _ e w
   ·rw [sameV_false (show Rec.mk kx sx nx lx gx rx Rx Dx Ex ≠ Rec.mk kx sx ny ly gy ry Ry Dy Ey from fun h => e (congrArg Rec.name h))]
    exact sameRec_n _ _ _ _ _ _ _ _ _ _ _ _ _ _ _ _ _ _ _ _ _ _ _ _ _ _ _ _ e w
  ·rw [sameV_false (show Rec.mk kx sx nx lx gx rx Rx Dx Ex ≠ Rec.mk kx sy ny ly gy ry Ry Dy Ey from fun h => e (congrArg Rec.seq h))]
   exact sameRec_s _ _ _ _ _ _ _ _ _ _ _ _ _ _ _ _ _ _ _ _ _ _ _ _ _ _ _ _ _ e w
 ·rw [sameV_false (show Rec.mk kx sx nx lx gx rx Rx Dx Ex ≠ Rec.mk ky sy ny ly gy ry Ry Dy Ey from fun h => e (congrArg Rec.kind h))]
  exact sameRec_k _ _ _ _ _ _ _ _ _ _ _ _ _ _ _ _ _ _ _ _ _ _ _ _ _ _ _ _ _ _ e w
end Go.Proofs.YtphmpimgbmedbaaGreat
namespace Go.Proofs.YtphmpimgbmedbaaGreat
open Go.RowKit
open Go.Lib (hid)
def wpAnyG (P : Program) (md : Region.Mode) (ops : Array Oper) (Q : Exit → Act → World → Prop) (S : Array Bool → World → Prop) : Nat → Array Bool → Act → World → Prop
 | 0, listed, a, w => Region.ready md ops listed = [] ∧ Q .normal a w
 | fuel + 1, listed, a, w =>
  (Region.ready md ops listed = [] → Q .normal a w) ∧
  ∀ i ∈ Region.ready md ops listed, wpOp P ops Q i (fun a' w' => S (listed.setIfInBounds i true) w' ∧ wpAnyG P md ops Q S fuel (listed.setIfInBounds i true) a' w') a w
def Till (M : List Nat) (C : World → Prop) (l : Array Bool) (w : World) : Prop := (∀ m ∈ M, l.getD m false = false) → C w
def LClosed (md : Region.Mode) (ops : Array Oper) (l : Array Bool) : Prop := ∀ (j : Nat) (o : Oper), ops[j]? = some o → l.getD j false = true → ∀ e ∈ o.after, Region.binds md e = true → l.getD e.on false = true
def waits (md : Region.Mode) (ops : Array Oper) : Nat → Nat → Nat → Bool
 | 0, m, i => m == i
 | n + 1, m, i => m == i || (match ops[m]? with
  | none => false
  | some o => o.after.toList.any (fun e => Region.binds md e && waits md ops n e.on i))
section
variable {P : Program} {ops : Array Oper} {Q : Exit → Act → World → Prop} {md : Region.Mode} {M : List Nat} {C : World → Prop} {fuel : Nat} {listed : Array Bool} {a : Act} {w : World}
theorem waits_listed (hc : LClosed md ops listed) : ∀ (n m i : Nat), waits md ops n m i = true → listed.getD m false = true → listed.getD i false = true
 | 0, m, i, h, hm => by simp [waits] at h; subst h; exact hm
 | n + 1, m, i, h, hm => by
  unfold waits at h
  rw [Bool.or_eq_true] at h
  rcases h with h | h
  ·simp at h; subst h; exact hm
  ·cases ho : ops[m]? with
   | none => rw [ho] at h; cases h
   | some o =>
    rw [ho] at h
    simp only [List.any_eq_true, Bool.and_eq_true] at h
    obtain ⟨e, he, hb, hw⟩ := h
    exact waits_listed hc n e.on i hw (hc m o ho hm e (by simpa using he) hb)
theorem LClosed.next (hc : LClosed md ops listed) {j : Nat} (hj : j ∈ Region.ready md ops listed) : LClosed md ops (listed.setIfInBounds j true) := by
 intro k o ho hk e he hb
 obtain ⟨_, oj, hoj, hall⟩ := mem_ready.1 hj
 by_cases h : j = k
 ·subst h
  rw [hoj] at ho
  cases ho
  exact getD_set_true (hall e he hb)
 ·rw [getD_set_ne false h] at hk
  exact getD_set_true (hc k o ho hk e he hb)
theorem LClosed.none : LClosed md ops (Array.replicate ops.size false) := by
 intro k o ho hk
 rw [Array.getD_eq_getD_getElem?, Array.getElem?_replicate] at hk
 split at hk <;> cases hk
theorem unl {i : Nat} (h : i ∈ Region.ready md ops listed) : listed.getD i false = false := by
 have h0 := (mem_ready.1 h).1
 rw [Array.getD_eq_getD_getElem?] at h0 ⊢
 cases e : listed[i]? with
 | none => rfl
 | some b => rw [e] at h0; exact h0
theorem wpAny_of_G {S : Array Bool → World → Prop} : ∀ (fuel : Nat) (listed : Array Bool) (a : Act) (w : World), wpAnyG P md ops Q S fuel listed a w → wpAny P md ops Q fuel listed a w
 | 0, _, _, _, h => h
 | fuel + 1, _, _, _, h => ⟨h.1, fun i hi => wpOp_mono (fun a' w' h' => wpAny_of_G fuel _ a' w' h'.2) (h.2 i hi)⟩
theorem Till.now {i n : Nat} (hS : Till M C listed w) (hcl : LClosed md ops listed) (hi : listed.getD i false = false) (hM : ∀ m ∈ M, waits md ops n m i = true) : C w :=
 hS (fun m hm => by
  cases e : listed.getD m false
  ·rfl
  ·rw [waits_listed hcl n m i (hM m hm) e] at hi; cases hi)
theorem Till.more (hS : Till M C listed w) (j : Nat) : Till M C (listed.setIfInBounds j true) w := fun hm => hS (fun m hmM => by
  have := hm m hmM
  cases e : listed.getD m false
  ·rfl
  ·rw [getD_set_true e] at this; cases this)
theorem wpAnyG_first {i : Nat} {oi : Oper} {v : Value} (hi : ops[i]? = some oi) (hsel : ∀ (j : Nat) (o : Oper) cs b, ops[j]? = some o → o.op ≠ .select cs b)
  (hQ : ∀ c a w, Q (.panic c) (a.put oi.dst v) w → Q (.panic c) a w) {D : World → Prop} (hD : ∀ (l : Array Bool) w, LClosed md ops l → l.getD i false = false → Till M C l w → D w) (hiM : i ∉ M) :
  ∀ (fuel : Nat) (listed : Array Bool) (a : Act) (w : World),
   (∀ j oj, ops[j]? = some oj → j ≠ i → listed.getD j true = false → (∀ e ∈ oj.after, Region.binds md e = true → e.on ≠ i) → oi.apart ops oj = true) →
   i ∈ Region.ready md ops listed → LClosed md ops listed → YieldsIf P ops D oi v a → Till M C listed w →
   wpAnyG P md ops Q (Till M C) fuel (listed.setIfInBounds i true) (a.put oi.dst v) w → wpAnyG P md ops Q (Till M C) (fuel + 1) listed a w := by
 intro fuel
 induction fuel with
 | zero =>
  intro listed a w _ hr hcl hy hS H
  refine ⟨fun h => (by rw [h] at hr; cases hr), fun j hj => ?_⟩
  by_cases hji : j = i
  ·subst hji
   exact hy.wpOp hi (hD _ _ hcl (unl hr) hS) ⟨hS.more j, H⟩
  ·have := ready_mono hj hji
   rw [H.1] at this
   cases this
 | succ fuel ih =>
  intro listed a w hfree hr hcl hy hS H
  refine ⟨fun h => (by rw [h] at hr; cases hr), fun j hj => ?_⟩
  by_cases hji : j = i
  ·subst hji
   exact hy.wpOp hi (hD _ _ hcl (unl hr) hS) ⟨hS.more j, H⟩
  ·have h1 := H.2 j (ready_mono hj hji)
   obtain ⟨hjun, oj, hoj, hall⟩ := mem_ready.1 hj
   have hnot : ∀ e ∈ oj.after, Region.binds md e = true → e.on ≠ i := fun e he hb heq => by
    have h1 := hall e he hb
    rw [heq, unl hr] at h1
    cases h1
   have h2 := wpOp_putIf hoj (hfree j oj hoj hji hjun hnot) (fun cs b => hsel i oi cs b hi) (fun cs b => hsel j oj cs b hoj) hQ hy h1
   have hfree' : ∀ k ok, ops[k]? = some ok → k ≠ i → (listed.setIfInBounds j true).getD k true = false →
     (∀ e ∈ ok.after, Region.binds md e = true → e.on ≠ i) → oi.apart ops ok = true := fun k ok hk hki hun hno => by
    refine hfree k ok hk hki ?_ hno
    by_cases hjk : j = k
    ·subst hjk; exact hjun
    ·rw [getD_set_ne true hjk] at hun; exact hun
   refine wpOp_mono (fun a' w' h3 => ?_) h2
   obtain ⟨hy', hS', hW⟩ := h3
   have hTl : Till M C (listed.setIfInBounds j true) w' := fun hm => hS' (fun m hmM => by
    have hne : i ≠ m := fun e => hiM (by rw [e]; exact hmM)
    rw [Array.setIfInBounds_comm _ _ (Ne.symm hji), getD_set_ne false hne]
    exact hm m hmM)
   refine ⟨hTl, ih (listed.setIfInBounds j true) a' w' hfree' (ready_mono hr (Ne.symm hji)) (hcl.next hj) hy' hTl ?_⟩
   rw [Array.setIfInBounds_comm _ _ hji]
   exact hW
theorem gg_start {id : Nat} (M : List Nat) (C : World → Prop) (hm : P.follows .mixedOrders = true) (hC : C w.drew) (h : LClosed .any ops (Array.replicate ops.size false) → Till M C (Array.replicate ops.size false) w.drew → wpAnyG P .any ops Q (Till M C) ops.size (Array.replicate ops.size false) a w.drew) : (Code.region id ops true).wp P Q a w :=
 wp_region_any hm (wpAny_of_G _ _ _ _ (h LClosed.none (fun _ => hC)))
theorem ggT (i : Nat) {oi : Oper} {v : Value} {a' : Act} (hcl : LClosed md ops listed) (hS : Till M C listed w)
  (h : LClosed md ops (listed.setIfInBounds i true) → Till M C (listed.setIfInBounds i true) w → wpAnyG P md ops Q (Till M C) fuel (listed.setIfInBounds i true) a' w) (hi : ops.toList[i]? = some oi := by rfl)
  (hc : (Region.noSelect ops && Region.free md ops listed i && (Region.ready md ops listed).contains i && !M.contains i) = true := by kernel_rfl)
  (hQ : ∀ c a w, Q (.panic c) (a.put oi.dst v) w → Q (.panic c) a w := by exact fun _ _ _ h => h) (hw : Region.wanted oi (yielded ops a.tmps) = true := by rfl)
  (hy : ∀ w : World, (execOp a.eval oi).run P w = .ok (.value v) w := by intro w; go_simp; (try with_reducible rfl))
  (ha : a.put oi.dst v = a' := by (try simp only [Act.put, pA, pB, pC]); (try rfl)) : wpAnyG P md ops Q (Till M C) (fuel + 1) listed a w := by
 simp only [Bool.and_eq_true, Bool.not_eq_true'] at hc
 have hr : i ∈ Region.ready md ops listed := by simpa using hc.1.2
 exact wpAnyG_first (D := fun _ => True) (get_toList hi) (Region.noSelect_spec hc.1.1.1) hQ (fun _ _ _ _ _ => trivial) (by simpa using hc.2) fuel listed a w (Region.free_spec (get_toList hi) hc.1.1.2) hr hcl (.inl ⟨hw, fun w _ => hy w⟩) hS (ha ▸ h (hcl.next hr) (hS.more i))
theorem ggL (i : Nat) {oi : Oper} {v : Value} {a' : Act} {D : World → Prop} (hcl : LClosed md ops listed) (hS : Till M C listed w) (hCD : Hid (∀ w, C w → D w))
  (h : LClosed md ops (listed.setIfInBounds i true) → Till M C (listed.setIfInBounds i true) w → wpAnyG P md ops Q (Till M C) fuel (listed.setIfInBounds i true) a' w) (hi : ops.toList[i]? = some oi := by rfl)
  (hc : (Region.noSelect ops && Region.free md ops listed i && (Region.ready md ops listed).contains i && M.all (fun m => waits md ops ops.size m i) && !M.contains i) = true := by kernel_rfl)
  (hQ : ∀ c a w, Q (.panic c) (a.put oi.dst v) w → Q (.panic c) a w := by exact fun _ _ _ h => h) (hw : Region.wanted oi (yielded ops a.tmps) = true := by rfl)
  (hy : ∀ w : World, D w → (execOp a.eval oi).run P w = .ok (.value v) w := by intro w hSw; (try unfold Know at hSw); go_simp; (try with_reducible rfl))
  (ha : a.put oi.dst v = a' := by (try simp only [Act.put, pA, pB, pC]); (try rfl)) : wpAnyG P md ops Q (Till M C) (fuel + 1) listed a w := by
 simp only [Bool.and_eq_true, List.all_eq_true, Bool.not_eq_true'] at hc
 have hr : i ∈ Region.ready md ops listed := by simpa using hc.1.1.2
 exact wpAnyG_first (D := D) (get_toList hi) (Region.noSelect_spec hc.1.1.1.1) hQ (fun l w h1 h2 h3 => hCD.out w (h3.now h1 h2 hc.1.2)) (by simpa using hc.2) fuel listed a w (Region.free_spec (get_toList hi) hc.1.1.1.2) hr hcl (.inl ⟨hw, hy⟩) hS (ha ▸ h (hcl.next hr) (hS.more i))
theorem ggC (i : Nat) {oi : Oper} (hcl : LClosed md ops listed) (hi : ops.toList[i]? = some oi) (hr : Region.ready md ops listed = [i])
  (h : ∀ K' : Act → World → Prop, Shut (∀ a w, Till M C (listed.setIfInBounds i true) w → (LClosed md ops (listed.setIfInBounds i true) → Till M C (listed.setIfInBounds i true) w → wpAnyG P md ops Q (Till M C) fuel (listed.setIfInBounds i true) a w) → K' a w) → if Region.wanted oi (yielded ops a.tmps) = true then Oper.wp P oi a w K' Q else K' (a.put oi.dst undef) w) :
  wpAnyG P md ops Q (Till M C) (fuel + 1) listed a w := by
 refine ⟨fun h0 => (by rw [hr] at h0; cases h0), fun j hj => ?_⟩
 have hji : j = i := by rw [hr] at hj; simpa using hj
 subst hji
 exact wpOp_step (get_toList hi) (fun K' hK => h K' (fun a w hS hW => hK a w ⟨hS, hW (hcl.next hj) hS⟩))
theorem ggEnd {a : Act} (hr : Region.ready md ops listed = []) (h : Q .normal a w) : ∀ fuel, wpAnyG P md ops Q (Till M C) fuel listed a w
 | 0 => ⟨hr, h⟩
 | _ + 1 => ⟨fun _ => h, by rw [hr]; simp⟩
theorem Till.done {m : Nat} (hm : m ∈ M) (h : listed.getD m false = true) : Till M C listed w := fun hall => by rw [hall m hm] at h; cases h
end
end Go.Proofs.YtphmpimgbmedbaaGreat
namespace Go.Proofs.YtphmpimgbmedbaaGreat
open Go.RowKit
open Go.Lib (hid)
set_option maxRecDepth 100000 in
set_option maxHeartbeats 2000000 in
theorem szBlock_any (x : Blk) (cx : Array Value) (fx : List Nat) (k : Int) (w : World) (hx : blkL.rep w cx.toList x fx) (hk : 0 ≤ k) (hk2 : k ≤ 1048576) :
  Calls Tryz.prog 287 #[.agg cx, .int .i64 k] w (SzPost (totBlk x) k w) := by
 obtain ⟨a1, l1, c1, f1, ex, o0, h1, -⟩ := blkL_iff.1 hx
 clear hx
 obtain ⟨v0, v1⟩ := x
 simp only at ex o0 h1
 obtain rfl := Array.toList_inj.1 (ex.trans (List.toList_toArray).symm)
 clear ex o0
 have H1 := hid h1; clear h1
 obtain ⟨t1, ht1⟩ : ∃ t, t = totBs v1 := ⟨_, rfl⟩
 have n1 : 0 ≤ t1 := by rw [ht1]; exact totBs_nonneg _
 have HT1 := hid ht1
 have HT := hid (show totBlk ⟨v0, v1⟩ = t1 by rw [ht1]; unfold totBlk; rfl)
 clear ht1
 go_enter Tryz.func287, Tryz.ntmps287
 go_wp2_with fail
 refine (szByteS_any a1 l1 c1 v1 f1 (k) _ (byteL.sl_ext H1.out (by refine Chg.alloc ?_ _; exact Chg.refl _ _)) (by omega) (by omega)).mono ?_
 rintro e w1 ⟨rfl, hc⟩
 rw [← HT1.out]
 have hP := hc.keep0 (b := w.heap.size) (new_at (by simp) _)
 have cP := cellsOf hP; have lP := ltOf hP; have fP := freeOf hP; have HBP := hid hP; clear hP
 have HC1 := hid hc; clear hc
 by_cases m1 : k - t1 < 0
 ·rw [if_pos m1]
  go_wp2_with fail
  go_ret
  exact ⟨ret_int (by rw [HT.out, if_pos (by omega)]), by refine Chg.trans0 ?_ HC1.out; refine Chg.alloc ?_ _; exact Chg.refl _ _⟩
 rw [if_neg m1]
 go_wp2_with fail
 go_ret
 exact ⟨ret_int (by rw [HT.out, if_neg (by omega)] <;> omega), by refine Chg.trans0 ?_ HC1.out; refine Chg.alloc ?_ _; exact Chg.refl _ _⟩
set_option maxRecDepth 100000 in
set_option maxHeartbeats 2000000 in
theorem eqBlock_any (x : Blk) (cx cy : Array Value) (fx fy : List Nat) (w : World) (hx : blkL.rep w cx.toList x fx) (hy : blkL.rep w cy.toList x fy) :
  Calls Tryz.prog 291 #[.agg cx, .agg cy] w fun e w' => e = .returned (.bool true) ∧ Chg [] w w' := by
 obtain ⟨a1, l1, c1, f1, ex, o0, h1, -⟩ := blkL_iff.1 hx
 obtain ⟨b1, m1, d1, g1, ey, q0, j1, -⟩ := blkL_iff.1 hy
 clear hx hy
 obtain ⟨v0, v1⟩ := x
 simp only at ex ey h1 j1
 obtain rfl := Array.toList_inj.1 (ex.trans (List.toList_toArray).symm)
 obtain rfl := Array.toList_inj.1 (ey.trans (List.toList_toArray).symm)
 clear ex ey o0 q0
 obtain rfl : l1 = m1 := h1.1.trans j1.1.symm
 have H1 := hid h1; have J1 := hid j1; clear h1 j1
 have e0 : ((v0 : Int) != v0) = false := by simp
 go_enter Tryz.func291, Tryz.ntmps291
 go_wp2_with fail
 refine (eqB_any a1 b1 l1 c1 d1 v1 f1 g1 _ (byteL.sl_ext H1.out (by refine Chg.alloc ?_ _; refine Chg.alloc ?_ _; exact Chg.refl _ _)) (byteL.sl_ext J1.out (by refine Chg.alloc ?_ _; refine Chg.alloc ?_ _; exact Chg.refl _ _))).mono ?_
 rintro e w1 ⟨rfl, hc⟩
 have hP := hc.keep0 (b := w.heap.size) (keep_alloc (new_at (by simp) _) _)
 have hQ := hc.keep0 (b := w.heap.size + 1) (new_at (by simp) _)
 have cP := cellsOf hP; have lP := ltOf hP; have fP := freeOf hP; have HBP := hid hP; clear hP
 have cQ := cellsOf hQ; have lQ := ltOf hQ; have fQ := freeOf hQ; have HBQ := hid hQ; clear hQ
 have HC1 := hid hc; clear hc
 go_wp2_with fail
 go_ret
 exact ⟨rfl, by refine Chg.trans0 ?_ HC1.out; refine Chg.alloc ?_ _; refine Chg.alloc ?_ _; exact Chg.refl _ _⟩
set_option maxRecDepth 100000 in
set_option maxHeartbeats 1000000 in
theorem szBlockS_any (a : Option Addr) (la ca : Nat) (xs : List (Blk)) (f : List Nat) (k : Int) (w : World) (ha : blkL.sl w a la ca xs f) (hk : 0 ≤ k) (hk2 : k ≤ 1048576) :
  Calls Tryz.prog 263 #[.slice a la ca, .int .i64 k] w (SzPost (totL (totBlk) xs) k w) := by
 have hm := blkL.sl_max ha
 have HL := hid ha.1
 have HA := hid ha
 have HN := hid (sumI_nonneg (f := totBlk) totBlk_nonneg xs)
 have HT := hid (show totL (totBlk) xs = (la : Int) + sumI (totBlk) xs by unfold totL; rw [ha.1])
 clear ha
 by_cases hn : k - (la : Int) < 0
 ·go_enter Tryz.func263, Tryz.ntmps263
  go_wp2
  go_ret
  exact ⟨ret_int (by rw [HT.out, if_pos (by have := HN.out; omega)]), Chg.refl _ _⟩
 go_enter Tryz.func263, Tryz.ntmps263
 go_wp2
 go_loopw [1, 5] (fun u v wr => ∃ (j : Nat) (z : Int), j ≤ la ∧ u = .int .i64 z ∧ v = .int .i64 j ∧ Hid (z = k - la - sumI (totBlk) (xs.take j)) ∧ 0 ≤ z ∧ z ≤ 1048576 ∧ Hid (Chg [] w wr)) (fun _ v _ => la - (intOf v).toNat)
 case atStart => exact ⟨0, k - la, by omega, rfl, rfl, by show k - la = k - la - 0; omega, by omega, by omega, Chg.refl _ _⟩
 case round =>
  obtain ⟨j, z, hj, rfl, rfl, HZ, hz0, hz1, HC⟩ := hrel
  by_cases hlt : j < la
  ·obtain ⟨x, b, o, a1, l1, c1, fx, HX, rfl, hc0, hc1, HXS⟩ := block_at (blkL.sl_ext HA.out HC.out) hlt
   have HS := hid (sumI_at (f := totBlk) totBlk_nonneg HX.out.1)
   have HSN := hid (sumI_take (f := totBlk) HX.out.1)
   obtain ⟨t, ht⟩ : ∃ t, t = (totBlk) x := ⟨_, rfl⟩
   have ht0 : 0 ≤ t := by rw [ht]; exact totBlk_nonneg x
   have HTX := hid ht
   clear ht
   go_wp2_with fail
   refine (szBlock_any x #[.int .i64 x.stamp, .slice a1 l1 c1] fx z _ HXS.out hz0 hz1).mono ?_
   rintro e w1 ⟨rfl, hc⟩
   have HC2 := hid (HC.out.trans0 hc)
   clear hc
   rw [← HTX.out]
   by_cases hneg : z - t < 0
   ·rw [if_pos hneg]
    go_wp2_with fail
    go_ret
    exact ⟨ret_int (by rw [HT.out, if_pos (by have h1 := HS.out; have h2 := HZ.out; have h3 := HTX.out; omega)]), HC2.out⟩
   ·rw [if_neg hneg]
    have HN2 := hid (show z - t = k - la - sumI (totBlk) (xs.take (j + 1)) by rw [HSN.out, HZ.out, HTX.out]; omega)
    go_wp2_with fail
    go_roundw
    case rel => exact ⟨j + 1, z - t, by omega, rfl, by go_num, HN2, by omega, by omega, HC2⟩
    case measure => simp [intOf]; omega
  ·have hjl : j = la := by omega
   subst hjl
   have HR := hid (show (if k - totL (totBlk) xs < 0 then -1 else k - totL (totBlk) xs) = z by
    have h1 := HZ.out
    rw [List.take_of_length_le (by have := HL.out; omega)] at h1
    rw [HT.out, if_neg (by omega)]; omega)
   go_wp2
   go_ret
   exact ⟨ret_int HR.out.symm, HC.out⟩
set_option maxRecDepth 100000 in
set_option maxHeartbeats 1000000 in
theorem eqBlockS_any (a b : Option Addr) (la ca cb : Nat) (xs : List (Blk)) (f g : List Nat) (w : World) (ha : blkL.sl w a la ca xs f) (hb : blkL.sl w b la cb xs g) :
  Calls Tryz.prog 267 #[.slice a la ca, .slice b la cb] w fun e w' => e = .returned (.bool true) ∧ Chg [] w w' := by
 have hm := blkL.sl_max ha
 have hne : ((la : Int) != (la : Int)) = false := by simp
 have HA := hid ha
 have HB := hid hb
 clear ha hb
 go_enter Tryz.func267, Tryz.ntmps267
 go_wp2
 go_loopw [5] (fun i wr => ∃ k : Nat, k ≤ la ∧ i = .int .i64 k ∧ Chg [] w wr) (fun i _ => la - (intOf i).toNat)
 case atStart => exact ⟨0, by omega, rfl, Chg.refl _ _⟩
 case round =>
  obtain ⟨k, hk, rfl, hc⟩ := hrel
  rename_i wr
  by_cases hlt : k < la
  ·obtain ⟨x, b1, o1, a1, l1, c1, fx, HX, rfl, hx0, hx1, HXS⟩ := block_at (blkL.sl_ext HA.out hc) hlt
   obtain ⟨y, b2, o2, bb1, m1, d1, fy, HY, rfl, hy0, hy1, HYS⟩ := block_at (blkL.sl_ext HB.out hc) hlt
   have hxy : x = y := by have := HX.out.1.symm.trans HY.out.1; exact Option.some.inj this
   subst hxy
   have HC := hid hc
   have HE := hid (eqBlock_any x #[.int .i64 x.stamp, .slice a1 l1 c1] #[.int .i64 x.stamp, .slice bb1 m1 d1] fx fy wr.drew (Lay.keep _ HXS.out (fun _ _ => rfl)) (Lay.keep _ HYS.out (fun _ _ => rfl)))
   clear hc
   go_wp2_with fail
   go_region_law (go_simp; go_at_call 291; refine HE.out.mono ?_; rintro e w' ⟨rfl, hc⟩)
   all_goals
    have HC2 := hid (HC.out.drew.trans0 hc)
    clear hc
    go_wp2
    go_roundw
    case rel => exact ⟨k + 1, by omega, by go_num, HC2.out⟩
    case measure => simp [intOf]; omega
  ·have HC := hid hc
   clear hc
   go_wp2
   go_ret
   exact ⟨rfl, HC.out⟩
set_option maxRecDepth 100000 in
set_option maxHeartbeats 2000000 in
theorem szDrive_any (x : Drv) (cx : Array Value) (fx : List Nat) (k : Int) (w : World) (hx : drvL.rep w cx.toList x fx) (hk : 0 ≤ k) (hk2 : k ≤ 1048576) :
  Calls Tryz.prog 226 #[.agg cx, .int .i64 k] w (SzPost (totDrv x) k w) := by
 obtain ⟨a1, l1, c1, f1, ex, h1, -⟩ := drvL_iff.1 hx
 clear hx
 obtain ⟨v0, v1⟩ := x
 simp only at ex h1
 obtain rfl := Array.toList_inj.1 (ex.trans (List.toList_toArray).symm)
 clear ex
 have H1 := hid h1; clear h1
 obtain ⟨t1, ht1⟩ : ∃ t, t = totL totBlk v1 := ⟨_, rfl⟩
 have n1 : 0 ≤ t1 := by rw [ht1]; exact totL_nonneg totBlk_nonneg _
 have HT1 := hid ht1
 have HT := hid (show totDrv ⟨v0, v1⟩ = t1 by rw [ht1]; unfold totDrv; rfl)
 clear ht1
 go_enter Tryz.func226, Tryz.ntmps226
 go_wp2_with fail
 refine (szBlockS_any a1 l1 c1 v1 f1 (k) _ (blkL.sl_ext H1.out (by refine Chg.alloc ?_ _; exact Chg.refl _ _)) (by omega) (by omega)).mono ?_
 rintro e w1 ⟨rfl, hc⟩
 rw [← HT1.out]
 have hP := hc.keep0 (b := w.heap.size) (new_at (by simp) _)
 have cP := cellsOf hP; have lP := ltOf hP; have fP := freeOf hP; have HBP := hid hP; clear hP
 have HC1 := hid hc; clear hc
 by_cases m1 : k - t1 < 0
 ·rw [if_pos m1]
  go_wp2_with fail
  go_ret
  exact ⟨ret_int (by rw [HT.out, if_pos (by omega)]), by refine Chg.trans0 ?_ HC1.out; refine Chg.alloc ?_ _; exact Chg.refl _ _⟩
 rw [if_neg m1]
 go_wp2_with fail
 go_ret
 exact ⟨ret_int (by rw [HT.out, if_neg (by omega)] <;> omega), by refine Chg.trans0 ?_ HC1.out; refine Chg.alloc ?_ _; exact Chg.refl _ _⟩
set_option maxRecDepth 100000 in
set_option maxHeartbeats 2000000 in
theorem eqDrive_any (x : Drv) (cx cy : Array Value) (fx fy : List Nat) (w : World) (hx : drvL.rep w cx.toList x fx) (hy : drvL.rep w cy.toList x fy) :
  Calls Tryz.prog 231 #[.agg cx, .agg cy] w fun e w' => e = .returned (.bool true) ∧ Chg [] w w' := by
 obtain ⟨a1, l1, c1, f1, ex, h1, -⟩ := drvL_iff.1 hx
 obtain ⟨b1, m1, d1, g1, ey, j1, -⟩ := drvL_iff.1 hy
 clear hx hy
 obtain ⟨v0, v1⟩ := x
 simp only at ex ey h1 j1
 obtain rfl := Array.toList_inj.1 (ex.trans (List.toList_toArray).symm)
 obtain rfl := Array.toList_inj.1 (ey.trans (List.toList_toArray).symm)
 clear ex ey
 obtain rfl : l1 = m1 := h1.1.trans j1.1.symm
 have H1 := hid h1; have J1 := hid j1; clear h1 j1
 have e0 : (v0 != v0) = false := by simp
 go_enter Tryz.func231, Tryz.ntmps231
 go_wp2_with fail
 refine (eqBlockS_any a1 b1 l1 c1 d1 v1 f1 g1 _ (blkL.sl_ext H1.out (by refine Chg.alloc ?_ _; refine Chg.alloc ?_ _; exact Chg.refl _ _)) (blkL.sl_ext J1.out (by refine Chg.alloc ?_ _; refine Chg.alloc ?_ _; exact Chg.refl _ _))).mono ?_
 rintro e w1 ⟨rfl, hc⟩
 have hP := hc.keep0 (b := w.heap.size) (keep_alloc (new_at (by simp) _) _)
 have hQ := hc.keep0 (b := w.heap.size + 1) (new_at (by simp) _)
 have cP := cellsOf hP; have lP := ltOf hP; have fP := freeOf hP; have HBP := hid hP; clear hP
 have cQ := cellsOf hQ; have lQ := ltOf hQ; have fQ := freeOf hQ; have HBQ := hid hQ; clear hQ
 have HC1 := hid hc; clear hc
 go_wp2_with fail
 go_ret
 exact ⟨rfl, by refine Chg.trans0 ?_ HC1.out; refine Chg.alloc ?_ _; refine Chg.alloc ?_ _; exact Chg.refl _ _⟩
set_option maxRecDepth 100000 in
set_option maxHeartbeats 1000000 in
theorem szDriveS_any (a : Option Addr) (la ca : Nat) (xs : List (Drv)) (f : List Nat) (k : Int) (w : World) (ha : drvL.sl w a la ca xs f) (hk : 0 ≤ k) (hk2 : k ≤ 1048576) :
  Calls Tryz.prog 150 #[.slice a la ca, .int .i64 k] w (SzPost (totL (totDrv) xs) k w) := by
 have hm := drvL.sl_max ha
 have HL := hid ha.1
 have HA := hid ha
 have HN := hid (sumI_nonneg (f := totDrv) totDrv_nonneg xs)
 have HT := hid (show totL (totDrv) xs = (la : Int) + sumI (totDrv) xs by unfold totL; rw [ha.1])
 clear ha
 by_cases hn : k - (la : Int) < 0
 ·go_enter Tryz.func150, Tryz.ntmps150
  go_wp2
  go_ret
  exact ⟨ret_int (by rw [HT.out, if_pos (by have := HN.out; omega)]), Chg.refl _ _⟩
 go_enter Tryz.func150, Tryz.ntmps150
 go_wp2
 go_loopw [1, 5] (fun u v wr => ∃ (j : Nat) (z : Int), j ≤ la ∧ u = .int .i64 z ∧ v = .int .i64 j ∧ Hid (z = k - la - sumI (totDrv) (xs.take j)) ∧ 0 ≤ z ∧ z ≤ 1048576 ∧ Hid (Chg [] w wr)) (fun _ v _ => la - (intOf v).toNat)
 case atStart => exact ⟨0, k - la, by omega, rfl, rfl, by show k - la = k - la - 0; omega, by omega, by omega, Chg.refl _ _⟩
 case round =>
  obtain ⟨j, z, hj, rfl, rfl, HZ, hz0, hz1, HC⟩ := hrel
  by_cases hlt : j < la
  ·obtain ⟨x, b, o, a1, l1, c1, fx, HX, rfl, hc0, hc1, HXS⟩ := drive_at (drvL.sl_ext HA.out HC.out) hlt
   have HS := hid (sumI_at (f := totDrv) totDrv_nonneg HX.out.1)
   have HSN := hid (sumI_take (f := totDrv) HX.out.1)
   obtain ⟨t, ht⟩ : ∃ t, t = (totDrv) x := ⟨_, rfl⟩
   have ht0 : 0 ≤ t := by rw [ht]; exact totDrv_nonneg x
   have HTX := hid ht
   clear ht
   go_wp2_with fail
   refine (szDrive_any x #[.bool x.wiped, .slice a1 l1 c1] fx z _ HXS.out hz0 hz1).mono ?_
   rintro e w1 ⟨rfl, hc⟩
   have HC2 := hid (HC.out.trans0 hc)
   clear hc
   rw [← HTX.out]
   by_cases hneg : z - t < 0
   ·rw [if_pos hneg]
    go_wp2_with fail
    go_ret
    exact ⟨ret_int (by rw [HT.out, if_pos (by have h1 := HS.out; have h2 := HZ.out; have h3 := HTX.out; omega)]), HC2.out⟩
   ·rw [if_neg hneg]
    have HN2 := hid (show z - t = k - la - sumI (totDrv) (xs.take (j + 1)) by rw [HSN.out, HZ.out, HTX.out]; omega)
    go_wp2_with fail
    go_roundw
    case rel => exact ⟨j + 1, z - t, by omega, rfl, by go_num, HN2, by omega, by omega, HC2⟩
    case measure => simp [intOf]; omega
  ·have hjl : j = la := by omega
   subst hjl
   have HR := hid (show (if k - totL (totDrv) xs < 0 then -1 else k - totL (totDrv) xs) = z by
    have h1 := HZ.out
    rw [List.take_of_length_le (by have := HL.out; omega)] at h1
    rw [HT.out, if_neg (by omega)]; omega)
   go_wp2
   go_ret
   exact ⟨ret_int HR.out.symm, HC.out⟩
set_option maxRecDepth 100000 in
set_option maxHeartbeats 1000000 in
theorem eqDriveS_any (a b : Option Addr) (la ca cb : Nat) (xs : List (Drv)) (f g : List Nat) (w : World) (ha : drvL.sl w a la ca xs f) (hb : drvL.sl w b la cb xs g) :
  Calls Tryz.prog 160 #[.slice a la ca, .slice b la cb] w fun e w' => e = .returned (.bool true) ∧ Chg [] w w' := by
 have hm := drvL.sl_max ha
 have hne : ((la : Int) != (la : Int)) = false := by simp
 have HA := hid ha
 have HB := hid hb
 clear ha hb
 go_enter Tryz.func160, Tryz.ntmps160
 go_wp2
 go_loopw [5] (fun i wr => ∃ k : Nat, k ≤ la ∧ i = .int .i64 k ∧ Chg [] w wr) (fun i _ => la - (intOf i).toNat)
 case atStart => exact ⟨0, by omega, rfl, Chg.refl _ _⟩
 case round =>
  obtain ⟨k, hk, rfl, hc⟩ := hrel
  rename_i wr
  by_cases hlt : k < la
  ·obtain ⟨x, b1, o1, a1, l1, c1, fx, HX, rfl, hx0, hx1, HXS⟩ := drive_at (drvL.sl_ext HA.out hc) hlt
   obtain ⟨y, b2, o2, bb1, m1, d1, fy, HY, rfl, hy0, hy1, HYS⟩ := drive_at (drvL.sl_ext HB.out hc) hlt
   have hxy : x = y := by have := HX.out.1.symm.trans HY.out.1; exact Option.some.inj this
   subst hxy
   have HC := hid hc
   have HE := hid (eqDrive_any x #[.bool x.wiped, .slice a1 l1 c1] #[.bool x.wiped, .slice bb1 m1 d1] fx fy wr.drew (Lay.keep _ HXS.out (fun _ _ => rfl)) (Lay.keep _ HYS.out (fun _ _ => rfl)))
   clear hc
   go_wp2_with fail
   go_region_law (go_simp; go_at_call 231; refine HE.out.mono ?_; rintro e w' ⟨rfl, hc⟩)
   all_goals
    have HC2 := hid (HC.out.drew.trans0 hc)
    clear hc
    go_wp2
    go_roundw
    case rel => exact ⟨k + 1, by omega, by go_num, HC2.out⟩
    case measure => simp [intOf]; omega
  ·have HC := hid hc
   clear hc
   go_wp2
   go_ret
   exact ⟨rfl, HC.out⟩
set_option maxRecDepth 100000 in
set_option maxHeartbeats 1000000 in
theorem szDriveSS_any (a : Option Addr) (la ca : Nat) (xs : List (List Drv)) (f : List Nat) (k : Int) (w : World) (ha : drvL.slice.sl w a la ca xs f) (hk : 0 ≤ k) (hk2 : k ≤ 1048576) :
  Calls Tryz.prog 66 #[.slice a la ca, .int .i64 k] w (SzPost (totL (totL totDrv) xs) k w) := by
 have hm := drvL.slice.sl_max ha
 have HL := hid ha.1
 have HA := hid ha
 have HN := hid (sumI_nonneg (f := totL totDrv) (totL_nonneg totDrv_nonneg) xs)
 have HT := hid (show totL (totL totDrv) xs = (la : Int) + sumI (totL totDrv) xs by unfold totL; rw [ha.1])
 clear ha
 by_cases hn : k - (la : Int) < 0
 ·go_enter Tryz.func66, Tryz.ntmps66
  go_wp2
  go_ret
  exact ⟨ret_int (by rw [HT.out, if_pos (by have := HN.out; omega)]), Chg.refl _ _⟩
 go_enter Tryz.func66, Tryz.ntmps66
 go_wp2
 go_loopw [1, 5] (fun u v wr => ∃ (j : Nat) (z : Int), j ≤ la ∧ u = .int .i64 z ∧ v = .int .i64 j ∧ Hid (z = k - la - sumI (totL totDrv) (xs.take j)) ∧ 0 ≤ z ∧ z ≤ 1048576 ∧ Hid (Chg [] w wr)) (fun _ v _ => la - (intOf v).toNat)
 case atStart => exact ⟨0, k - la, by omega, rfl, rfl, by show k - la = k - la - 0; omega, by omega, by omega, Chg.refl _ _⟩
 case round =>
  obtain ⟨j, z, hj, rfl, rfl, HZ, hz0, hz1, HC⟩ := hrel
  by_cases hlt : j < la
  ·obtain ⟨x, b, o, A, lx, C, fx, HX, rfl, hcx, HXS⟩ := slc_at (drvL.slice.sl_ext HA.out HC.out) hlt
   have HS := hid (sumI_at (f := totL totDrv) (totL_nonneg totDrv_nonneg) HX.out.1)
   have HSN := hid (sumI_take (f := totL totDrv) HX.out.1)
   obtain ⟨t, ht⟩ : ∃ t, t = (totL totDrv) x := ⟨_, rfl⟩
   have ht0 : 0 ≤ t := by rw [ht]; exact (totL_nonneg totDrv_nonneg) x
   have HTX := hid ht
   clear ht
   go_wp2_with fail
   refine (szDriveS_any A lx C x fx z _ HXS.out hz0 hz1).mono ?_
   rintro e w1 ⟨rfl, hc⟩
   have HC2 := hid (HC.out.trans0 hc)
   clear hc
   rw [← HTX.out]
   by_cases hneg : z - t < 0
   ·rw [if_pos hneg]
    go_wp2_with fail
    go_ret
    exact ⟨ret_int (by rw [HT.out, if_pos (by have h1 := HS.out; have h2 := HZ.out; have h3 := HTX.out; omega)]), HC2.out⟩
   ·rw [if_neg hneg]
    have HN2 := hid (show z - t = k - la - sumI (totL totDrv) (xs.take (j + 1)) by rw [HSN.out, HZ.out, HTX.out]; omega)
    go_wp2_with fail
    go_roundw
    case rel => exact ⟨j + 1, z - t, by omega, rfl, by go_num, HN2, by omega, by omega, HC2⟩
    case measure => simp [intOf]; omega
  ·have hjl : j = la := by omega
   subst hjl
   have HR := hid (show (if k - totL (totL totDrv) xs < 0 then -1 else k - totL (totL totDrv) xs) = z by
    have h1 := HZ.out
    rw [List.take_of_length_le (by have := HL.out; omega)] at h1
    rw [HT.out, if_neg (by omega)]; omega)
   go_wp2
   go_ret
   exact ⟨ret_int HR.out.symm, HC.out⟩
set_option maxRecDepth 100000 in
set_option maxHeartbeats 1000000 in
theorem eqDriveSS_any (a b : Option Addr) (la ca cb : Nat) (xs : List (List Drv)) (f g : List Nat) (w : World) (ha : drvL.slice.sl w a la ca xs f) (hb : drvL.slice.sl w b la cb xs g) :
  Calls Tryz.prog 84 #[.slice a la ca, .slice b la cb] w fun e w' => e = .returned (.bool true) ∧ Chg [] w w' := by
 have hm := drvL.slice.sl_max ha
 have hne : ((la : Int) != (la : Int)) = false := by simp
 have HA := hid ha
 have HB := hid hb
 clear ha hb
 go_enter Tryz.func84, Tryz.ntmps84
 go_wp2
 go_loopw [5] (fun i wr => ∃ k : Nat, k ≤ la ∧ i = .int .i64 k ∧ Chg [] w wr) (fun i _ => la - (intOf i).toNat)
 case atStart => exact ⟨0, by omega, rfl, Chg.refl _ _⟩
 case round =>
  obtain ⟨k, hk, rfl, hc⟩ := hrel
  rename_i wr
  by_cases hlt : k < la
  ·obtain ⟨x, b1, o1, A, lx, C, fx, HX, rfl, hcx, HXS⟩ := slc_at (drvL.slice.sl_ext HA.out hc) hlt
   obtain ⟨y, b2, o2, B, ly, D, fy, HY, rfl, hcy, HYS⟩ := slc_at (drvL.slice.sl_ext HB.out hc) hlt
   have hxy : x = y := by have := HX.out.1.symm.trans HY.out.1; exact Option.some.inj this
   subst hxy
   obtain rfl : lx = ly := HXS.out.1.trans HYS.out.1.symm
   have HC := hid hc
   have HE := hid (eqDriveS_any A B lx C D x fx fy wr.drew (Lay.sl_keep _ HXS.out (fun _ _ => rfl)) (Lay.sl_keep _ HYS.out (fun _ _ => rfl)))
   clear hc
   go_wp2_with fail
   go_region_law (go_simp; go_at_call 160; refine HE.out.mono ?_; rintro e w' ⟨rfl, hc⟩)
   all_goals
    have HC2 := hid (HC.out.drew.trans0 hc)
    clear hc
    go_wp2
    go_roundw
    case rel => exact ⟨k + 1, by omega, by go_num, HC2.out⟩
    case measure => simp [intOf]; omega
  ·have HC := hid hc
   clear hc
   go_wp2
   go_ret
   exact ⟨rfl, HC.out⟩
set_option maxRecDepth 100000 in
set_option maxHeartbeats 1000000 in
theorem szRecS_any (a : Option Addr) (la ca : Nat) (xs : List (Rec)) (f : List Nat) (k : Int) (w : World) (ha : recL.sl w a la ca xs f) (hk : 0 ≤ k) (hk2 : k ≤ 1048576) :
  Calls Tryz.prog 227 #[.slice a la ca, .int .i64 k] w (SzPost (totL (totRec) xs) k w) := by
 have hm := recL.sl_max ha
 have HL := hid ha.1
 have HA := hid ha
 have HN := hid (sumI_nonneg (f := totRec) totRec_nonneg xs)
 have HT := hid (show totL (totRec) xs = (la : Int) + sumI (totRec) xs by unfold totL; rw [ha.1])
 clear ha
 by_cases hn : k - (la : Int) < 0
 ·go_enter Tryz.func227, Tryz.ntmps227
  go_wp2
  go_ret
  exact ⟨ret_int (by rw [HT.out, if_pos (by have := HN.out; omega)]), Chg.refl _ _⟩
 go_enter Tryz.func227, Tryz.ntmps227
 go_wp2
 go_loopw [1, 5] (fun u v wr => ∃ (j : Nat) (z : Int), j ≤ la ∧ u = .int .i64 z ∧ v = .int .i64 j ∧ Hid (z = k - la - sumI (totRec) (xs.take j)) ∧ 0 ≤ z ∧ z ≤ 1048576 ∧ Hid (Chg [] w wr)) (fun _ v _ => la - (intOf v).toNat)
 case atStart => exact ⟨0, k - la, by omega, rfl, rfl, by show k - la = k - la - 0; omega, by omega, by omega, Chg.refl _ _⟩
 case round =>
  obtain ⟨j, z, hj, rfl, rfl, HZ, hz0, hz1, HC⟩ := hrel
  by_cases hlt : j < la
  ·obtain ⟨x, b, o, a6, l6, c6, a7, l7, c7, a8, l8, c8, fx, HX, rfl, hc0, hc1, hc2, hc3, hc4, hc5, hc6, hc7, hc8, HXS⟩ := rec_at (recL.sl_ext HA.out HC.out) hlt
   have HS := hid (sumI_at (f := totRec) totRec_nonneg HX.out.1)
   have HSN := hid (sumI_take (f := totRec) HX.out.1)
   obtain ⟨t, ht⟩ : ∃ t, t = (totRec) x := ⟨_, rfl⟩
   have ht0 : 0 ≤ t := by rw [ht]; exact totRec_nonneg x
   have HTX := hid ht
   clear ht
   go_wp2_with fail
   refine (szRec_any x #[.int .i64 x.kind, .int .i64 x.seq, .string x.name, .int .i64 x.length, .int .i64 x.group, .int .i64 x.row, .slice a6 l6 c6, .slice a7 l7 c7, .slice a8 l8 c8] fx z _ HXS.out hz0 hz1).mono ?_
   rintro e w1 ⟨rfl, hc⟩
   have HC2 := hid (HC.out.trans0 hc)
   clear hc
   rw [← HTX.out]
   by_cases hneg : z - t < 0
   ·rw [if_pos hneg]
    go_wp2_with fail
    go_ret
    exact ⟨ret_int (by rw [HT.out, if_pos (by have h1 := HS.out; have h2 := HZ.out; have h3 := HTX.out; omega)]), HC2.out⟩
   ·rw [if_neg hneg]
    have HN2 := hid (show z - t = k - la - sumI (totRec) (xs.take (j + 1)) by rw [HSN.out, HZ.out, HTX.out]; omega)
    go_wp2_with fail
    go_roundw
    case rel => exact ⟨j + 1, z - t, by omega, rfl, by go_num, HN2, by omega, by omega, HC2⟩
    case measure => simp [intOf]; omega
  ·have hjl : j = la := by omega
   subst hjl
   have HR := hid (show (if k - totL (totRec) xs < 0 then -1 else k - totL (totRec) xs) = z by
    have h1 := HZ.out
    rw [List.take_of_length_le (by have := HL.out; omega)] at h1
    rw [HT.out, if_neg (by omega)]; omega)
   go_wp2
   go_ret
   exact ⟨ret_int HR.out.symm, HC.out⟩
set_option maxRecDepth 100000 in
set_option maxHeartbeats 1000000 in
theorem eqRecS_any (a b : Option Addr) (la ca cb : Nat) (xs : List (Rec)) (f g : List Nat) (w : World) (ha : recL.sl w a la ca xs f) (hb : recL.sl w b la cb xs g) :
  Calls Tryz.prog 95 #[.slice a la ca, .slice b la cb] w fun e w' => e = .returned (.bool true) ∧ Chg [] w w' := by
 have hm := recL.sl_max ha
 have hne : ((la : Int) != (la : Int)) = false := by simp
 have HA := hid ha
 have HB := hid hb
 clear ha hb
 go_enter Tryz.func95, Tryz.ntmps95
 go_wp2
 go_loopw [5] (fun i wr => ∃ k : Nat, k ≤ la ∧ i = .int .i64 k ∧ Chg [] w wr) (fun i _ => la - (intOf i).toNat)
 case atStart => exact ⟨0, by omega, rfl, Chg.refl _ _⟩
 case round =>
  obtain ⟨k, hk, rfl, hc⟩ := hrel
  rename_i wr
  by_cases hlt : k < la
  ·obtain ⟨x, b1, o1, a6, l6, c6, a7, l7, c7, a8, l8, c8, fx, HX, rfl, hx0, hx1, hx2, hx3, hx4, hx5, hx6, hx7, hx8, HXS⟩ := rec_at (recL.sl_ext HA.out hc) hlt
   obtain ⟨y, b2, o2, bb6, m6, d6, bb7, m7, d7, bb8, m8, d8, fy, HY, rfl, hy0, hy1, hy2, hy3, hy4, hy5, hy6, hy7, hy8, HYS⟩ := rec_at (recL.sl_ext HB.out hc) hlt
   have hxy : x = y := by have := HX.out.1.symm.trans HY.out.1; exact Option.some.inj this
   subst hxy
   have HC := hid hc
   have HE := hid (eqRec_any x #[.int .i64 x.kind, .int .i64 x.seq, .string x.name, .int .i64 x.length, .int .i64 x.group, .int .i64 x.row, .slice a6 l6 c6, .slice a7 l7 c7, .slice a8 l8 c8] #[.int .i64 x.kind, .int .i64 x.seq, .string x.name, .int .i64 x.length, .int .i64 x.group, .int .i64 x.row, .slice bb6 m6 d6, .slice bb7 m7 d7, .slice bb8 m8 d8] fx fy wr.drew (Lay.keep _ HXS.out (fun _ _ => rfl)) (Lay.keep _ HYS.out (fun _ _ => rfl)))
   clear hc
   go_wp2_with fail
   go_region_law (go_simp; go_at_call 173; refine HE.out.mono ?_; rintro e w' ⟨rfl, hc⟩)
   all_goals
    have HC2 := hid (HC.out.drew.trans0 hc)
    clear hc
    go_wp2
    go_roundw
    case rel => exact ⟨k + 1, by omega, by go_num, HC2.out⟩
    case measure => simp [intOf]; omega
  ·have HC := hid hc
   clear hc
   go_wp2
   go_ret
   exact ⟨rfl, HC.out⟩
set_option maxRecDepth 100000 in
set_option maxHeartbeats 2000000 in
theorem szTape_any (x : Tap) (cx : Array Value) (fx : List Nat) (k : Int) (w : World) (hx : tapL.rep w cx.toList x fx) (hk : 0 ≤ k) (hk2 : k ≤ 1048576) :
  Calls Tryz.prog 151 #[.agg cx, .int .i64 k] w (SzPost (totTap x) k w) := by
 obtain ⟨a1, l1, c1, f1, ex, h1, -⟩ := tapL_iff.1 hx
 clear hx
 obtain ⟨v0, v1⟩ := x
 simp only at ex h1
 obtain rfl := Array.toList_inj.1 (ex.trans (List.toList_toArray).symm)
 clear ex
 have H1 := hid h1; clear h1
 obtain ⟨t1, ht1⟩ : ∃ t, t = totL totRec v1 := ⟨_, rfl⟩
 have n1 : 0 ≤ t1 := by rw [ht1]; exact totL_nonneg totRec_nonneg _
 have HT1 := hid ht1
 have HT := hid (show totTap ⟨v0, v1⟩ = t1 by rw [ht1]; unfold totTap; rfl)
 clear ht1
 go_enter Tryz.func151, Tryz.ntmps151
 go_wp2_with fail
 refine (szRecS_any a1 l1 c1 v1 f1 (k) _ (recL.sl_ext H1.out (by refine Chg.alloc ?_ _; exact Chg.refl _ _)) (by omega) (by omega)).mono ?_
 rintro e w1 ⟨rfl, hc⟩
 rw [← HT1.out]
 have hP := hc.keep0 (b := w.heap.size) (new_at (by simp) _)
 have cP := cellsOf hP; have lP := ltOf hP; have fP := freeOf hP; have HBP := hid hP; clear hP
 have HC1 := hid hc; clear hc
 by_cases m1 : k - t1 < 0
 ·rw [if_pos m1]
  go_wp2_with fail
  go_ret
  exact ⟨ret_int (by rw [HT.out, if_pos (by omega)]), by refine Chg.trans0 ?_ HC1.out; refine Chg.alloc ?_ _; exact Chg.refl _ _⟩
 rw [if_neg m1]
 go_wp2_with fail
 go_ret
 exact ⟨ret_int (by rw [HT.out, if_neg (by omega)] <;> omega), by refine Chg.trans0 ?_ HC1.out; refine Chg.alloc ?_ _; exact Chg.refl _ _⟩
set_option maxRecDepth 100000 in
set_option maxHeartbeats 2000000 in
theorem eqTape_any (x : Tap) (cx cy : Array Value) (fx fy : List Nat) (w : World) (hx : tapL.rep w cx.toList x fx) (hy : tapL.rep w cy.toList x fy) :
  Calls Tryz.prog 161 #[.agg cx, .agg cy] w fun e w' => e = .returned (.bool true) ∧ Chg [] w w' := by
 obtain ⟨a1, l1, c1, f1, ex, h1, -⟩ := tapL_iff.1 hx
 obtain ⟨b1, m1, d1, g1, ey, j1, -⟩ := tapL_iff.1 hy
 clear hx hy
 obtain ⟨v0, v1⟩ := x
 simp only at ex ey h1 j1
 obtain rfl := Array.toList_inj.1 (ex.trans (List.toList_toArray).symm)
 obtain rfl := Array.toList_inj.1 (ey.trans (List.toList_toArray).symm)
 clear ex ey
 obtain rfl : l1 = m1 := h1.1.trans j1.1.symm
 have H1 := hid h1; have J1 := hid j1; clear h1 j1
 have e0 : (v0 != v0) = false := by simp
 go_enter Tryz.func161, Tryz.ntmps161
 go_wp2_with fail
 refine (eqRecS_any a1 b1 l1 c1 d1 v1 f1 g1 _ (recL.sl_ext H1.out (by refine Chg.alloc ?_ _; refine Chg.alloc ?_ _; exact Chg.refl _ _)) (recL.sl_ext J1.out (by refine Chg.alloc ?_ _; refine Chg.alloc ?_ _; exact Chg.refl _ _))).mono ?_
 rintro e w1 ⟨rfl, hc⟩
 have hP := hc.keep0 (b := w.heap.size) (keep_alloc (new_at (by simp) _) _)
 have hQ := hc.keep0 (b := w.heap.size + 1) (new_at (by simp) _)
 have cP := cellsOf hP; have lP := ltOf hP; have fP := freeOf hP; have HBP := hid hP; clear hP
 have cQ := cellsOf hQ; have lQ := ltOf hQ; have fQ := freeOf hQ; have HBQ := hid hQ; clear hQ
 have HC1 := hid hc; clear hc
 go_wp2_with fail
 go_ret
 exact ⟨rfl, by refine Chg.trans0 ?_ HC1.out; refine Chg.alloc ?_ _; refine Chg.alloc ?_ _; exact Chg.refl _ _⟩
set_option maxRecDepth 100000 in
set_option maxHeartbeats 1000000 in
theorem szTapeS_any (a : Option Addr) (la ca : Nat) (xs : List (Tap)) (f : List Nat) (k : Int) (w : World) (ha : tapL.sl w a la ca xs f) (hk : 0 ≤ k) (hk2 : k ≤ 1048576) :
  Calls Tryz.prog 68 #[.slice a la ca, .int .i64 k] w (SzPost (totL (totTap) xs) k w) := by
 have hm := tapL.sl_max ha
 have HL := hid ha.1
 have HA := hid ha
 have HN := hid (sumI_nonneg (f := totTap) totTap_nonneg xs)
 have HT := hid (show totL (totTap) xs = (la : Int) + sumI (totTap) xs by unfold totL; rw [ha.1])
 clear ha
 by_cases hn : k - (la : Int) < 0
 ·go_enter Tryz.func68, Tryz.ntmps68
  go_wp2
  go_ret
  exact ⟨ret_int (by rw [HT.out, if_pos (by have := HN.out; omega)]), Chg.refl _ _⟩
 go_enter Tryz.func68, Tryz.ntmps68
 go_wp2
 go_loopw [1, 5] (fun u v wr => ∃ (j : Nat) (z : Int), j ≤ la ∧ u = .int .i64 z ∧ v = .int .i64 j ∧ Hid (z = k - la - sumI (totTap) (xs.take j)) ∧ 0 ≤ z ∧ z ≤ 1048576 ∧ Hid (Chg [] w wr)) (fun _ v _ => la - (intOf v).toNat)
 case atStart => exact ⟨0, k - la, by omega, rfl, rfl, by show k - la = k - la - 0; omega, by omega, by omega, Chg.refl _ _⟩
 case round =>
  obtain ⟨j, z, hj, rfl, rfl, HZ, hz0, hz1, HC⟩ := hrel
  by_cases hlt : j < la
  ·obtain ⟨x, b, o, a1, l1, c1, fx, HX, rfl, hc0, hc1, HXS⟩ := tape_at (tapL.sl_ext HA.out HC.out) hlt
   have HS := hid (sumI_at (f := totTap) totTap_nonneg HX.out.1)
   have HSN := hid (sumI_take (f := totTap) HX.out.1)
   obtain ⟨t, ht⟩ : ∃ t, t = (totTap) x := ⟨_, rfl⟩
   have ht0 : 0 ≤ t := by rw [ht]; exact totTap_nonneg x
   have HTX := hid ht
   clear ht
   go_wp2_with fail
   refine (szTape_any x #[.bool x.wiped, .slice a1 l1 c1] fx z _ HXS.out hz0 hz1).mono ?_
   rintro e w1 ⟨rfl, hc⟩
   have HC2 := hid (HC.out.trans0 hc)
   clear hc
   rw [← HTX.out]
   by_cases hneg : z - t < 0
   ·rw [if_pos hneg]
    go_wp2_with fail
    go_ret
    exact ⟨ret_int (by rw [HT.out, if_pos (by have h1 := HS.out; have h2 := HZ.out; have h3 := HTX.out; omega)]), HC2.out⟩
   ·rw [if_neg hneg]
    have HN2 := hid (show z - t = k - la - sumI (totTap) (xs.take (j + 1)) by rw [HSN.out, HZ.out, HTX.out]; omega)
    go_wp2_with fail
    go_roundw
    case rel => exact ⟨j + 1, z - t, by omega, rfl, by go_num, HN2, by omega, by omega, HC2⟩
    case measure => simp [intOf]; omega
  ·have hjl : j = la := by omega
   subst hjl
   have HR := hid (show (if k - totL (totTap) xs < 0 then -1 else k - totL (totTap) xs) = z by
    have h1 := HZ.out
    rw [List.take_of_length_le (by have := HL.out; omega)] at h1
    rw [HT.out, if_neg (by omega)]; omega)
   go_wp2
   go_ret
   exact ⟨ret_int HR.out.symm, HC.out⟩
set_option maxRecDepth 100000 in
set_option maxHeartbeats 1000000 in
theorem eqTapeS_any (a b : Option Addr) (la ca cb : Nat) (xs : List (Tap)) (f g : List Nat) (w : World) (ha : tapL.sl w a la ca xs f) (hb : tapL.sl w b la cb xs g) :
  Calls Tryz.prog 86 #[.slice a la ca, .slice b la cb] w fun e w' => e = .returned (.bool true) ∧ Chg [] w w' := by
 have hm := tapL.sl_max ha
 have hne : ((la : Int) != (la : Int)) = false := by simp
 have HA := hid ha
 have HB := hid hb
 clear ha hb
 go_enter Tryz.func86, Tryz.ntmps86
 go_wp2
 go_loopw [5] (fun i wr => ∃ k : Nat, k ≤ la ∧ i = .int .i64 k ∧ Chg [] w wr) (fun i _ => la - (intOf i).toNat)
 case atStart => exact ⟨0, by omega, rfl, Chg.refl _ _⟩
 case round =>
  obtain ⟨k, hk, rfl, hc⟩ := hrel
  rename_i wr
  by_cases hlt : k < la
  ·obtain ⟨x, b1, o1, a1, l1, c1, fx, HX, rfl, hx0, hx1, HXS⟩ := tape_at (tapL.sl_ext HA.out hc) hlt
   obtain ⟨y, b2, o2, bb1, m1, d1, fy, HY, rfl, hy0, hy1, HYS⟩ := tape_at (tapL.sl_ext HB.out hc) hlt
   have hxy : x = y := by have := HX.out.1.symm.trans HY.out.1; exact Option.some.inj this
   subst hxy
   have HC := hid hc
   have HE := hid (eqTape_any x #[.bool x.wiped, .slice a1 l1 c1] #[.bool x.wiped, .slice bb1 m1 d1] fx fy wr.drew (Lay.keep _ HXS.out (fun _ _ => rfl)) (Lay.keep _ HYS.out (fun _ _ => rfl)))
   clear hc
   go_wp2_with fail
   go_region_law (go_simp; go_at_call 161; refine HE.out.mono ?_; rintro e w' ⟨rfl, hc⟩)
   all_goals
    have HC2 := hid (HC.out.drew.trans0 hc)
    clear hc
    go_wp2
    go_roundw
    case rel => exact ⟨k + 1, by omega, by go_num, HC2.out⟩
    case measure => simp [intOf]; omega
  ·have HC := hid hc
   clear hc
   go_wp2
   go_ret
   exact ⟨rfl, HC.out⟩
def IdxOf {α : Type} (q : α → Bool) (xs : List α) (r : Int) : Prop := (r = -1 ∧ xs.any q = false) ∨ ∃ j : Nat, r = j ∧ (∃ x, xs[j]? = some x ∧ q x = true) ∧ ∀ (i : Nat) x, i < j → xs[i]? = some x → q x = false
theorem IdxOf.ge {α : Type} {q : α → Bool} {xs : List α} {r : Int} (h : IdxOf q xs r) : decide (0 ≤ r) = xs.any q := by
 rcases h with ⟨rfl, h⟩ | ⟨j, rfl, ⟨x, hx, hq⟩, _⟩
 ·rw [h]; rfl
 ·rw [List.any_eq_true.2 ⟨x, List.mem_of_getElem? hx, hq⟩]; exact decide_eq_true (Int.natCast_nonneg j)
def TestsBlock (k : Nat) (caps : Array Value) (q : Blk → Bool) (xs : List Blk) (w : World) : Prop :=
 ∀ (x : Blk) (a1 : Option Addr) (l1 c1 : Nat) (f : List Nat) (w1 : World), x ∈ xs → Chg [] w w1 → blkL.rep w1 [.int .i64 x.stamp, .slice a1 l1 c1] x f → Calls Tryz.prog k (#[.agg #[.int .i64 x.stamp, .slice a1 l1 c1]] ++ caps) w1 fun e w' => e = .returned (.bool (q x)) ∧ Chg [] w1 w'
set_option maxRecDepth 100000 in
set_option maxHeartbeats 1000000 in
theorem idxBlock_any (k : Nat) (caps : Array Value) (q : Blk → Bool) (a : Option Addr) (la ca : Nat) (xs : List Blk) (f : List Nat) (w : World) (ha : blkL.sl w a la ca xs f) (hcf : ∀ (args : Array Value) (w : World), (callFunc k args).run Tryz.prog w = .ok (.enter k args) w) (hq : TestsBlock k caps q xs w) :
  Calls Tryz.prog 256 #[.slice a la ca, .func (.func k) #[] caps] w fun e w' => ∃ r : Int, e = .returned (.int .i64 r) ∧ Hid (IdxOf q xs r) ∧ Chg [] w w' := by
 have hla := blkL.sl_max ha
 have HA := hid ha
 have HL := hid ha.1
 have HQ := hid hq
 clear ha hq
 go_enter Tryz.func256, Tryz.ntmps256
 go_wp2
 go_loopw [5, 8] (fun _ i wr => ∃ (j : Nat) (Wr : World), Wr = wr ∧ j ≤ la ∧ i = .int .i64 j ∧ Hid (∀ (i : Nat) x, i < j → xs[i]? = some x → q x = false) ∧ Chg [] w wr) (fun _ i _ => la - (intOf i).toNat)
 case atStart => exact ⟨0, _, rfl, by omega, rfl, fun j x hj => by omega, Chg.refl _ _⟩
 case round =>
  obtain ⟨j, wr, rfl, hj, rfl, HK, hc⟩ := hrel
  have HC := hid hc
  by_cases hlt : j < la
  ·obtain ⟨x, b, off, a1, l1, c1, fx, HX, rfl, hc0, hc1, HXS⟩ := block_at (blkL.sl_ext HA.out hc) hlt
   have HT := hid (HQ.out x a1 l1 c1 fx wr (List.mem_of_getElem? HX.out.1) HC.out HXS.out)
   clear hc
   cases hqx : q x
   ·rw [hqx] at HT
    have HK2 := hid (show ∀ (i : Nat) y, i < j + 1 → xs[i]? = some y → q y = false from fun i y hi hy => by
     by_cases e : i = j
     ·subst e; rw [Option.some.inj (hy.symm.trans HX.out.1)]; exact hqx
     ·exact HK.out i y (by omega) hy)
    clear hqx
    go_wp2_with fail
    refine HT.out.mono ?_
    rintro e w1 ⟨rfl, hc1⟩
    have HC1 := hid (HC.out.trans0 hc1)
    clear hc1
    go_wp2_with fail
    go_roundw
    case rel => exact ⟨j + 1, _, rfl, by omega, by go_num, HK2, HC1.out⟩
    case measure => simp [intOf]; omega
   ·rw [hqx] at HT
    have HR := hid (show IdxOf q xs (j : Int) from .inr ⟨j, rfl, ⟨x, HX.out.1, hqx⟩, HK.out⟩)
    clear hqx
    go_wp2_with fail
    refine HT.out.mono ?_
    rintro e w1 ⟨rfl, hc1⟩
    have HC1 := hid (HC.out.trans0 hc1)
    clear hc1
    go_wp2_with fail
    go_ret
    exact ⟨_, rfl, HR, HC1.out⟩
  ·obtain rfl : j = la := by omega
   have HR := hid (show IdxOf q xs (-1) from .inl ⟨rfl, by
    rw [List.any_eq_false]
    intro x hx h1
    obtain ⟨i, hi, rfl⟩ := List.getElem_of_mem hx
    have h2 := HK.out i _ (by have := HL.out; omega) (List.getElem?_eq_getElem hi)
    rw [h2] at h1; cases h1⟩)
   clear hc
   go_wp2
   go_ret
   exact ⟨_, rfl, HR, HC.out⟩
set_option maxHeartbeats 400000 in
theorem contBlock_any (k : Nat) (caps : Array Value) (q : Blk → Bool) (a : Option Addr) (la ca : Nat) (xs : List Blk) (f : List Nat) (w : World) (ha : blkL.sl w a la ca xs f) (hcf : ∀ (args : Array Value) (w : World), (callFunc k args).run Tryz.prog w = .ok (.enter k args) w) (hq : TestsBlock k caps q xs w) :
  Calls Tryz.prog 218 #[.slice a la ca, .func (.func k) #[] caps] w fun e w' => e = .returned (.bool (xs.any q)) ∧ Chg [] w w' := by
 have HI := hid (idxBlock_any k caps q a la ca xs f w ha hcf hq)
 clear ha hq hcf
 go_enter Tryz.func218, Tryz.ntmps218
 go_wp2_with fail
 refine HI.out.mono ?_
 rintro e w1 ⟨r, rfl, HR, hc1⟩
 have HC1 := hid hc1
 have HD := hid HR.out.ge
 clear hc1
 go_wp2_with fail
 go_ret
 refine ⟨?_, HC1.out⟩
 rw [← HD.out]
 rfl
def TestsTape (k : Nat) (caps : Array Value) (q : Tap → Bool) (xs : List Tap) (w : World) : Prop :=
 ∀ (x : Tap) (a1 : Option Addr) (l1 c1 : Nat) (f : List Nat) (w1 : World), x ∈ xs → Chg [] w w1 → tapL.rep w1 [.bool x.wiped, .slice a1 l1 c1] x f → Calls Tryz.prog k (#[.agg #[.bool x.wiped, .slice a1 l1 c1]] ++ caps) w1 fun e w' => e = .returned (.bool (q x)) ∧ Chg [] w1 w'
set_option maxRecDepth 100000 in
set_option maxHeartbeats 1000000 in
theorem idxTape_any (k : Nat) (caps : Array Value) (q : Tap → Bool) (a : Option Addr) (la ca : Nat) (xs : List Tap) (f : List Nat) (w : World) (ha : tapL.sl w a la ca xs f) (hcf : ∀ (args : Array Value) (w : World), (callFunc k args).run Tryz.prog w = .ok (.enter k args) w) (hq : TestsTape k caps q xs w) :
  Calls Tryz.prog 257 #[.slice a la ca, .func (.func k) #[] caps] w fun e w' => ∃ r : Int, e = .returned (.int .i64 r) ∧ Hid (IdxOf q xs r) ∧ Chg [] w w' := by
 have hla := tapL.sl_max ha
 have HA := hid ha
 have HL := hid ha.1
 have HQ := hid hq
 clear ha hq
 go_enter Tryz.func257, Tryz.ntmps257
 go_wp2
 go_loopw [5, 8] (fun _ i wr => ∃ (j : Nat) (Wr : World), Wr = wr ∧ j ≤ la ∧ i = .int .i64 j ∧ Hid (∀ (i : Nat) x, i < j → xs[i]? = some x → q x = false) ∧ Chg [] w wr) (fun _ i _ => la - (intOf i).toNat)
 case atStart => exact ⟨0, _, rfl, by omega, rfl, fun j x hj => by omega, Chg.refl _ _⟩
 case round =>
  obtain ⟨j, wr, rfl, hj, rfl, HK, hc⟩ := hrel
  have HC := hid hc
  by_cases hlt : j < la
  ·obtain ⟨x, b, off, a1, l1, c1, fx, HX, rfl, hc0, hc1, HXS⟩ := tape_at (tapL.sl_ext HA.out hc) hlt
   have HT := hid (HQ.out x a1 l1 c1 fx wr (List.mem_of_getElem? HX.out.1) HC.out HXS.out)
   clear hc
   cases hqx : q x
   ·rw [hqx] at HT
    have HK2 := hid (show ∀ (i : Nat) y, i < j + 1 → xs[i]? = some y → q y = false from fun i y hi hy => by
     by_cases e : i = j
     ·subst e; rw [Option.some.inj (hy.symm.trans HX.out.1)]; exact hqx
     ·exact HK.out i y (by omega) hy)
    clear hqx
    go_wp2_with fail
    refine HT.out.mono ?_
    rintro e w1 ⟨rfl, hc1⟩
    have HC1 := hid (HC.out.trans0 hc1)
    clear hc1
    go_wp2_with fail
    go_roundw
    case rel => exact ⟨j + 1, _, rfl, by omega, by go_num, HK2, HC1.out⟩
    case measure => simp [intOf]; omega
   ·rw [hqx] at HT
    have HR := hid (show IdxOf q xs (j : Int) from .inr ⟨j, rfl, ⟨x, HX.out.1, hqx⟩, HK.out⟩)
    clear hqx
    go_wp2_with fail
    refine HT.out.mono ?_
    rintro e w1 ⟨rfl, hc1⟩
    have HC1 := hid (HC.out.trans0 hc1)
    clear hc1
    go_wp2_with fail
    go_ret
    exact ⟨_, rfl, HR, HC1.out⟩
  ·obtain rfl : j = la := by omega
   have HR := hid (show IdxOf q xs (-1) from .inl ⟨rfl, by
    rw [List.any_eq_false]
    intro x hx h1
    obtain ⟨i, hi, rfl⟩ := List.getElem_of_mem hx
    have h2 := HK.out i _ (by have := HL.out; omega) (List.getElem?_eq_getElem hi)
    rw [h2] at h1; cases h1⟩)
   clear hc
   go_wp2
   go_ret
   exact ⟨_, rfl, HR, HC.out⟩
set_option maxHeartbeats 400000 in
theorem contTape_any (k : Nat) (caps : Array Value) (q : Tap → Bool) (a : Option Addr) (la ca : Nat) (xs : List Tap) (f : List Nat) (w : World) (ha : tapL.sl w a la ca xs f) (hcf : ∀ (args : Array Value) (w : World), (callFunc k args).run Tryz.prog w = .ok (.enter k args) w) (hq : TestsTape k caps q xs w) :
  Calls Tryz.prog 220 #[.slice a la ca, .func (.func k) #[] caps] w fun e w' => e = .returned (.bool (xs.any q)) ∧ Chg [] w w' := by
 have HI := hid (idxTape_any k caps q a la ca xs f w ha hcf hq)
 clear ha hq hcf
 go_enter Tryz.func220, Tryz.ntmps220
 go_wp2_with fail
 refine HI.out.mono ?_
 rintro e w1 ⟨r, rfl, HR, hc1⟩
 have HC1 := hid hc1
 have HD := hid HR.out.ge
 clear hc1
 go_wp2_with fail
 go_ret
 refine ⟨?_, HC1.out⟩
 rw [← HD.out]
 rfl
def TestsRec (k : Nat) (caps : Array Value) (q : Rec → Bool) (xs : List Rec) (w : World) : Prop :=
 ∀ (x : Rec) (a6 : Option Addr) (l6 c6 : Nat) (a7 : Option Addr) (l7 c7 : Nat) (a8 : Option Addr) (l8 c8 : Nat) (f : List Nat) (w1 : World), x ∈ xs → Chg [] w w1 → recL.rep w1 [.int .i64 x.kind, .int .i64 x.seq, .string x.name, .int .i64 x.length, .int .i64 x.group, .int .i64 x.row, .slice a6 l6 c6, .slice a7 l7 c7, .slice a8 l8 c8] x f → Calls Tryz.prog k (#[.agg #[.int .i64 x.kind, .int .i64 x.seq, .string x.name, .int .i64 x.length, .int .i64 x.group, .int .i64 x.row, .slice a6 l6 c6, .slice a7 l7 c7, .slice a8 l8 c8]] ++ caps) w1 fun e w' => e = .returned (.bool (q x)) ∧ Chg [] w1 w'
set_option maxRecDepth 100000 in
set_option maxHeartbeats 1000000 in
theorem idxRec_any (k : Nat) (caps : Array Value) (q : Rec → Bool) (a : Option Addr) (la ca : Nat) (xs : List Rec) (f : List Nat) (w : World) (ha : recL.sl w a la ca xs f) (hcf : ∀ (args : Array Value) (w : World), (callFunc k args).run Tryz.prog w = .ok (.enter k args) w) (hq : TestsRec k caps q xs w) :
  Calls Tryz.prog 201 #[.slice a la ca, .func (.func k) #[] caps] w fun e w' => ∃ r : Int, e = .returned (.int .i64 r) ∧ Hid (IdxOf q xs r) ∧ Chg [] w w' := by
 have hla := recL.sl_max ha
 have HA := hid ha
 have HL := hid ha.1
 have HQ := hid hq
 clear ha hq
 go_enter Tryz.func201, Tryz.ntmps201
 go_wp2
 go_loopw [5, 8] (fun _ i wr => ∃ (j : Nat) (Wr : World), Wr = wr ∧ j ≤ la ∧ i = .int .i64 j ∧ Hid (∀ (i : Nat) x, i < j → xs[i]? = some x → q x = false) ∧ Chg [] w wr) (fun _ i _ => la - (intOf i).toNat)
 case atStart => exact ⟨0, _, rfl, by omega, rfl, fun j x hj => by omega, Chg.refl _ _⟩
 case round =>
  obtain ⟨j, wr, rfl, hj, rfl, HK, hc⟩ := hrel
  have HC := hid hc
  by_cases hlt : j < la
  ·obtain ⟨x, b, off, a6, l6, c6, a7, l7, c7, a8, l8, c8, fx, HX, rfl, hc0, hc1, hc2, hc3, hc4, hc5, hc6, hc7, hc8, HXS⟩ := rec_at (recL.sl_ext HA.out hc) hlt
   have HT := hid (HQ.out x a6 l6 c6 a7 l7 c7 a8 l8 c8 fx wr (List.mem_of_getElem? HX.out.1) HC.out HXS.out)
   clear hc
   cases hqx : q x
   ·rw [hqx] at HT
    have HK2 := hid (show ∀ (i : Nat) y, i < j + 1 → xs[i]? = some y → q y = false from fun i y hi hy => by
     by_cases e : i = j
     ·subst e; rw [Option.some.inj (hy.symm.trans HX.out.1)]; exact hqx
     ·exact HK.out i y (by omega) hy)
    clear hqx
    go_wp2_with fail
    refine HT.out.mono ?_
    rintro e w1 ⟨rfl, hc1⟩
    have HC1 := hid (HC.out.trans0 hc1)
    clear hc1
    go_wp2_with fail
    go_roundw
    case rel => exact ⟨j + 1, _, rfl, by omega, by go_num, HK2, HC1.out⟩
    case measure => simp [intOf]; omega
   ·rw [hqx] at HT
    have HR := hid (show IdxOf q xs (j : Int) from .inr ⟨j, rfl, ⟨x, HX.out.1, hqx⟩, HK.out⟩)
    clear hqx
    go_wp2_with fail
    refine HT.out.mono ?_
    rintro e w1 ⟨rfl, hc1⟩
    have HC1 := hid (HC.out.trans0 hc1)
    clear hc1
    go_wp2_with fail
    go_ret
    exact ⟨_, rfl, HR, HC1.out⟩
  ·obtain rfl : j = la := by omega
   have HR := hid (show IdxOf q xs (-1) from .inl ⟨rfl, by
    rw [List.any_eq_false]
    intro x hx h1
    obtain ⟨i, hi, rfl⟩ := List.getElem_of_mem hx
    have h2 := HK.out i _ (by have := HL.out; omega) (List.getElem?_eq_getElem hi)
    rw [h2] at h1; cases h1⟩)
   clear hc
   go_wp2
   go_ret
   exact ⟨_, rfl, HR, HC.out⟩
set_option maxHeartbeats 400000 in
theorem contRec_any (k : Nat) (caps : Array Value) (q : Rec → Bool) (a : Option Addr) (la ca : Nat) (xs : List Rec) (f : List Nat) (w : World) (ha : recL.sl w a la ca xs f) (hcf : ∀ (args : Array Value) (w : World), (callFunc k args).run Tryz.prog w = .ok (.enter k args) w) (hq : TestsRec k caps q xs w) :
  Calls Tryz.prog 235 #[.slice a la ca, .func (.func k) #[] caps] w fun e w' => e = .returned (.bool (xs.any q)) ∧ Chg [] w w' := by
 have HI := hid (idxRec_any k caps q a la ca xs f w ha hcf hq)
 clear ha hq hcf
 go_enter Tryz.func235, Tryz.ntmps235
 go_wp2_with fail
 refine HI.out.mono ?_
 rintro e w1 ⟨r, rfl, HR, hc1⟩
 have HC1 := hid hc1
 have HD := hid HR.out.ge
 clear hc1
 go_wp2_with fail
 go_ret
 refine ⟨?_, HC1.out⟩
 rw [← HD.out]
 rfl
end Go.Proofs.YtphmpimgbmedbaaGreat
