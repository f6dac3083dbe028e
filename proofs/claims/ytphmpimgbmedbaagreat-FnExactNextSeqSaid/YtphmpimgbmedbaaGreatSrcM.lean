import Derived.Test.YtphmpimgbmedbaaGreatRows
import Derived.Test.YtphmpimgbmedbaaGreatSamM
/- The comparison of two records. -/
namespace Go.Proofs.YtphmpimgbmedbaaGreat
open Go.RowKit

theorem toList_ne {s t : ByteArray} (h : s ≠ t) : (s.toList == t.toList) = false := by
  rw [beq_eq_false_iff_ne]; exact fun e => h (toList_inj e)


theorem sameV_rec {kx sx : Int} {nx : ByteArray} {lx gx rx : Int} {Rx Ry : List Int} {Dx Dy Ex Ey : List UInt8} : sameV (Rec.mk kx sx nx lx gx rx Rx Dx Ex) (Rec.mk kx sx nx lx gx rx Ry Dy Ey) = (sameV Rx Ry && (sameV Dx Dy && sameV Ex Ey)) := by
  by_cases h1 : Rx = Ry
  · by_cases h2 : Dx = Dy
    · by_cases h3 : Ex = Ey
      · rw [sameV_true h1, sameV_true h2, sameV_true h3, sameV_true (by rw [h1, h2, h3])]; rfl
      · rw [sameV_true h1, sameV_true h2, sameV_false h3, sameV_false (fun h => h3 (congrArg Rec.delta h))]; rfl
    · rw [sameV_true h1, sameV_false h2, sameV_false (fun h => h2 (congrArg Rec.data h))]; rfl
  · rw [sameV_false h1, sameV_false (fun h => h1 (congrArg Rec.rows h))]; rfl


set_option maxRecDepth 100000 in
set_option maxHeartbeats 1000000 in
theorem spec_same_k (kx : Int) (sx : Int) (nx : ByteArray) (lx : Int) (gx : Int) (rx : Int) (ky : Int) (sy : Int) (ny : ByteArray) (ly : Int) (gy : Int) (ry : Int) (a6x : Option Addr) (l6x c6x : Nat) (a7x : Option Addr) (l7x c7x : Nat) (a8x : Option Addr) (l8x c8x : Nat) (a6y : Option Addr) (l6y c6y : Nat) (a7y : Option Addr) (l7y c7y : Nat) (a8y : Option Addr) (l8y c8y : Nat) (e : kx ≠ ky) (w : World) :
    Calls Tryz.prog 234 #[.agg #[.int .i64 kx, .int .i64 sx, .string nx, .int .i64 lx, .int .i64 gx, .int .i64 rx, .slice a6x l6x c6x, .slice a7x l7x c7x, .slice a8x l8x c8x], .agg #[.int .i64 ky, .int .i64 sy, .string ny, .int .i64 ly, .int .i64 gy, .int .i64 ry, .slice a6y l6y c6y, .slice a7y l7y c7y, .slice a8y l8y c8y]] w fun e w' => e = .returned (.bool false) ∧ Chg [] w w' := by
  have t1 : (kx == ky) = false := by rw [beq_eq_false_iff_ne]; exact e
  clear e
  go_enter Tryz.func234, Tryz.ntmps234
  go_wp2_with fail
  go_ret
  exact ⟨rfl, by repeat (first | exact Chg.refl _ _ | refine Chg.alloc ?_ _)⟩


set_option maxRecDepth 100000 in
set_option maxHeartbeats 1000000 in
theorem spec_same_s (kx : Int) (sx : Int) (nx : ByteArray) (lx : Int) (gx : Int) (rx : Int) (sy : Int) (ny : ByteArray) (ly : Int) (gy : Int) (ry : Int) (a6x : Option Addr) (l6x c6x : Nat) (a7x : Option Addr) (l7x c7x : Nat) (a8x : Option Addr) (l8x c8x : Nat) (a6y : Option Addr) (l6y c6y : Nat) (a7y : Option Addr) (l7y c7y : Nat) (a8y : Option Addr) (l8y c8y : Nat) (e : sx ≠ sy) (w : World) :
    Calls Tryz.prog 234 #[.agg #[.int .i64 kx, .int .i64 sx, .string nx, .int .i64 lx, .int .i64 gx, .int .i64 rx, .slice a6x l6x c6x, .slice a7x l7x c7x, .slice a8x l8x c8x], .agg #[.int .i64 kx, .int .i64 sy, .string ny, .int .i64 ly, .int .i64 gy, .int .i64 ry, .slice a6y l6y c6y, .slice a7y l7y c7y, .slice a8y l8y c8y]] w fun e w' => e = .returned (.bool false) ∧ Chg [] w w' := by
  have t1 : (sx == sy) = false := by rw [beq_eq_false_iff_ne]; exact e
  clear e
  go_enter Tryz.func234, Tryz.ntmps234
  go_wp2_with fail
  go_ret
  exact ⟨rfl, by repeat (first | exact Chg.refl _ _ | refine Chg.alloc ?_ _)⟩


set_option maxRecDepth 100000 in
set_option maxHeartbeats 1000000 in
theorem spec_same_n (kx : Int) (sx : Int) (nx : ByteArray) (lx : Int) (gx : Int) (rx : Int) (ny : ByteArray) (ly : Int) (gy : Int) (ry : Int) (a6x : Option Addr) (l6x c6x : Nat) (a7x : Option Addr) (l7x c7x : Nat) (a8x : Option Addr) (l8x c8x : Nat) (a6y : Option Addr) (l6y c6y : Nat) (a7y : Option Addr) (l7y c7y : Nat) (a8y : Option Addr) (l8y c8y : Nat) (e : nx ≠ ny) (w : World) :
    Calls Tryz.prog 234 #[.agg #[.int .i64 kx, .int .i64 sx, .string nx, .int .i64 lx, .int .i64 gx, .int .i64 rx, .slice a6x l6x c6x, .slice a7x l7x c7x, .slice a8x l8x c8x], .agg #[.int .i64 kx, .int .i64 sx, .string ny, .int .i64 ly, .int .i64 gy, .int .i64 ry, .slice a6y l6y c6y, .slice a7y l7y c7y, .slice a8y l8y c8y]] w fun e w' => e = .returned (.bool false) ∧ Chg [] w w' := by
  have t1 : (nx.toList == ny.toList) = false := toList_ne e
  clear e
  go_enter Tryz.func234, Tryz.ntmps234
  go_wp2_with fail
  go_ret
  exact ⟨rfl, by repeat (first | exact Chg.refl _ _ | refine Chg.alloc ?_ _)⟩


set_option maxRecDepth 100000 in
set_option maxHeartbeats 1000000 in
theorem spec_same_l (kx : Int) (sx : Int) (nx : ByteArray) (lx : Int) (gx : Int) (rx : Int) (ly : Int) (gy : Int) (ry : Int) (a6x : Option Addr) (l6x c6x : Nat) (a7x : Option Addr) (l7x c7x : Nat) (a8x : Option Addr) (l8x c8x : Nat) (a6y : Option Addr) (l6y c6y : Nat) (a7y : Option Addr) (l7y c7y : Nat) (a8y : Option Addr) (l8y c8y : Nat) (e : lx ≠ ly) (w : World) :
    Calls Tryz.prog 234 #[.agg #[.int .i64 kx, .int .i64 sx, .string nx, .int .i64 lx, .int .i64 gx, .int .i64 rx, .slice a6x l6x c6x, .slice a7x l7x c7x, .slice a8x l8x c8x], .agg #[.int .i64 kx, .int .i64 sx, .string nx, .int .i64 ly, .int .i64 gy, .int .i64 ry, .slice a6y l6y c6y, .slice a7y l7y c7y, .slice a8y l8y c8y]] w fun e w' => e = .returned (.bool false) ∧ Chg [] w w' := by
  have t1 : (lx == ly) = false := by rw [beq_eq_false_iff_ne]; exact e
  clear e
  go_enter Tryz.func234, Tryz.ntmps234
  go_wp2_with fail
  go_ret
  exact ⟨rfl, by repeat (first | exact Chg.refl _ _ | refine Chg.alloc ?_ _)⟩


set_option maxRecDepth 100000 in
set_option maxHeartbeats 1000000 in
theorem spec_same_g (kx : Int) (sx : Int) (nx : ByteArray) (lx : Int) (gx : Int) (rx : Int) (gy : Int) (ry : Int) (a6x : Option Addr) (l6x c6x : Nat) (a7x : Option Addr) (l7x c7x : Nat) (a8x : Option Addr) (l8x c8x : Nat) (a6y : Option Addr) (l6y c6y : Nat) (a7y : Option Addr) (l7y c7y : Nat) (a8y : Option Addr) (l8y c8y : Nat) (e : gx ≠ gy) (w : World) :
    Calls Tryz.prog 234 #[.agg #[.int .i64 kx, .int .i64 sx, .string nx, .int .i64 lx, .int .i64 gx, .int .i64 rx, .slice a6x l6x c6x, .slice a7x l7x c7x, .slice a8x l8x c8x], .agg #[.int .i64 kx, .int .i64 sx, .string nx, .int .i64 lx, .int .i64 gy, .int .i64 ry, .slice a6y l6y c6y, .slice a7y l7y c7y, .slice a8y l8y c8y]] w fun e w' => e = .returned (.bool false) ∧ Chg [] w w' := by
  have t1 : (gx == gy) = false := by rw [beq_eq_false_iff_ne]; exact e
  clear e
  go_enter Tryz.func234, Tryz.ntmps234
  go_wp2_with fail
  go_ret
  exact ⟨rfl, by repeat (first | exact Chg.refl _ _ | refine Chg.alloc ?_ _)⟩


set_option maxRecDepth 100000 in
set_option maxHeartbeats 1000000 in
theorem spec_same_r (kx : Int) (sx : Int) (nx : ByteArray) (lx : Int) (gx : Int) (rx : Int) (ry : Int) (a6x : Option Addr) (l6x c6x : Nat) (a7x : Option Addr) (l7x c7x : Nat) (a8x : Option Addr) (l8x c8x : Nat) (a6y : Option Addr) (l6y c6y : Nat) (a7y : Option Addr) (l7y c7y : Nat) (a8y : Option Addr) (l8y c8y : Nat) (e : rx ≠ ry) (w : World) :
    Calls Tryz.prog 234 #[.agg #[.int .i64 kx, .int .i64 sx, .string nx, .int .i64 lx, .int .i64 gx, .int .i64 rx, .slice a6x l6x c6x, .slice a7x l7x c7x, .slice a8x l8x c8x], .agg #[.int .i64 kx, .int .i64 sx, .string nx, .int .i64 lx, .int .i64 gx, .int .i64 ry, .slice a6y l6y c6y, .slice a7y l7y c7y, .slice a8y l8y c8y]] w fun e w' => e = .returned (.bool false) ∧ Chg [] w w' := by
  have t1 : (rx == ry) = false := by rw [beq_eq_false_iff_ne]; exact e
  clear e
  go_enter Tryz.func234, Tryz.ntmps234
  go_wp2_with fail
  go_ret
  exact ⟨rfl, by repeat (first | exact Chg.refl _ _ | refine Chg.alloc ?_ _)⟩


set_option maxRecDepth 100000 in
set_option maxHeartbeats 2000000 in
theorem spec_same_lists (kx : Int) (sx : Int) (nx : ByteArray) (lx : Int) (gx : Int) (rx : Int) (a6x : Option Addr) (l6x c6x : Nat) (a7x : Option Addr) (l7x c7x : Nat) (a8x : Option Addr) (l8x c8x : Nat) (a6y : Option Addr) (l6y c6y : Nat) (a7y : Option Addr) (l7y c7y : Nat) (a8y : Option Addr) (l8y c8y : Nat) (Rx Ry : List Int) (Dx Dy Ex Ey : List UInt8) (f6x f7x f8x f6y f7y f8y : List Nat) (w : World) (h6x : intL.sl w a6x l6x c6x Rx f6x) (h7x : byteL.sl w a7x l7x c7x Dx f7x) (h8x : byteL.sl w a8x l8x c8x Ex f8x) (h6y : intL.sl w a6y l6y c6y Ry f6y) (h7y : byteL.sl w a7y l7y c7y Dy f7y) (h8y : byteL.sl w a8y l8y c8y Ey f8y) :
    Calls Tryz.prog 234 #[.agg #[.int .i64 kx, .int .i64 sx, .string nx, .int .i64 lx, .int .i64 gx, .int .i64 rx, .slice a6x l6x c6x, .slice a7x l7x c7x, .slice a8x l8x c8x], .agg #[.int .i64 kx, .int .i64 sx, .string nx, .int .i64 lx, .int .i64 gx, .int .i64 rx, .slice a6y l6y c6y, .slice a7y l7y c7y, .slice a8y l8y c8y]] w fun e w' => e = .returned (.bool (sameV Rx Ry && (sameV Dx Dy && sameV Ex Ey))) ∧ Chg [] w w' := by
  have hc0 := ((Chg.refl [] w).alloc (.cells #[.int .i64 kx, .int .i64 sx, .string nx, .int .i64 lx, .int .i64 gx, .int .i64 rx, .slice a6x l6x c6x, .slice a7x l7x c7x, .slice a8x l8x c8x] 67)).alloc (.cells #[.int .i64 kx, .int .i64 sx, .string nx, .int .i64 lx, .int .i64 gx, .int .i64 rx, .slice a6y l6y c6y, .slice a7y l7y c7y, .slice a8y l8y c8y] 67)
  have HC0 := Lib.hid hc0
  have H7x := Lib.hid h7x; have H8x := Lib.hid h8x; have H7y := Lib.hid h7y; have H8y := Lib.hid h8y
  have HI := Lib.hid (l6Nums_any a6x a6y l6x c6x l6y c6y Rx Ry f6x f6y _ (intL.sl_ext h6x hc0) (intL.sl_ext h6y hc0))
  clear hc0 h6x h7x h8x h6y h7y h8y
  have tn : (nx.toList == nx.toList) = true := by simp
  cases h6 : sameV Rx Ry
  · rw [h6] at HI
    clear h6
    go_enter Tryz.func234, Tryz.ntmps234
    go_wp2_with fail
    refine HI.out.mono ?_
    rintro e w1 ⟨rfl, hc⟩
    have HC1 := Lib.hid (HC0.out.trans0 hc)
    clear hc
    go_wp2_with fail
    go_ret
    exact ⟨rfl, HC1.out⟩
  · rw [h6] at HI
    clear h6
    generalize hv7 : sameV Dx Dy = v7
    generalize hv8 : sameV Ex Ey = v8
    have V7 := Lib.hid hv7
    have V8 := Lib.hid hv8
    clear hv7 hv8
    have HK := Lib.hid (fun w1 (hc : Chg [] ((w.alloc (.cells #[.int .i64 kx, .int .i64 sx, .string nx, .int .i64 lx, .int .i64 gx, .int .i64 rx, .slice a6x l6x c6x, .slice a7x l7x c7x, .slice a8x l8x c8x] 67)).alloc (.cells #[.int .i64 kx, .int .i64 sx, .string nx, .int .i64 lx, .int .i64 gx, .int .i64 rx, .slice a6y l6y c6y, .slice a7y l7y c7y, .slice a8y l8y c8y] 67)) w1) => And.intro (hc.keep0 (keep_alloc (new_alloc w (.cells #[.int .i64 kx, .int .i64 sx, .string nx, .int .i64 lx, .int .i64 gx, .int .i64 rx, .slice a6x l6x c6x, .slice a7x l7x c7x, .slice a8x l8x c8x] 67)) (.cells #[.int .i64 kx, .int .i64 sx, .string nx, .int .i64 lx, .int .i64 gx, .int .i64 rx, .slice a6y l6y c6y, .slice a7y l7y c7y, .slice a8y l8y c8y] 67))) (hc.keep0 (new_two w (.cells #[.int .i64 kx, .int .i64 sx, .string nx, .int .i64 lx, .int .i64 gx, .int .i64 rx, .slice a6x l6x c6x, .slice a7x l7x c7x, .slice a8x l8x c8x] 67) (.cells #[.int .i64 kx, .int .i64 sx, .string nx, .int .i64 lx, .int .i64 gx, .int .i64 rx, .slice a6y l6y c6y, .slice a7y l7y c7y, .slice a8y l8y c8y] 67))))
    go_enter Tryz.func234, Tryz.ntmps234
    go_wp2_with fail
    refine HI.out.mono ?_
    rintro e w1 ⟨rfl, hc⟩
    have HC1 := Lib.hid (HC0.out.trans0 hc)
    obtain ⟨hB2, hB3⟩ := HK.out w1 hc
    have c2 := cellsOf hB2; have l2 := ltOf hB2; have P2 := Lib.hid hB2
    have c3 := cellsOf hB3; have l3 := ltOf hB3; have P3 := Lib.hid hB3
    clear hB2 hB3 hc HK HI
    go_wp2_with fail
    refine (l2Same_any a7x a7y l7x c7x l7y c7y Dx Dy f7x f7y _ (byteL.sl_ext H7x.out HC1.out) (byteL.sl_ext H7y.out HC1.out)).mono ?_
    rintro e w2 ⟨rfl, hc⟩
    rw [V7.out]
    have HC2 := Lib.hid (HC1.out.trans0 hc)
    have hB2 := hc.keep0 P2.out; have hB3 := hc.keep0 P3.out
    clear c2 l2 c3 l3 P2 P3
    have c2 := cellsOf hB2; have l2 := ltOf hB2; have P2 := Lib.hid hB2
    have c3 := cellsOf hB3; have l3 := ltOf hB3; have P3 := Lib.hid hB3
    clear hB2 hB3 hc
    cases v7
    · go_wp2_with fail
      go_ret
      exact ⟨rfl, HC2.out⟩
    · go_wp2_with fail
      refine (l2Same_any a8x a8y l8x c8x l8y c8y Ex Ey f8x f8y _ (byteL.sl_ext H8x.out HC2.out) (byteL.sl_ext H8y.out HC2.out)).mono ?_
      rintro e w3 ⟨rfl, hc⟩
      rw [V8.out]
      have HC3 := Lib.hid (HC2.out.trans0 hc)
      clear hc
      go_wp2_with fail
      go_ret
      exact ⟨by simp, HC3.out⟩


set_option maxHeartbeats 400000 in
theorem spec_same_any (x y : Rec) (cx cy : Array Value) (fx fy : List Nat) (w : World) (hx : recL.rep w cx.toList x fx) (hy : recL.rep w cy.toList y fy) :
    Calls Tryz.prog 234 #[.agg cx, .agg cy] w fun e w' => e = .returned (.bool (sameV x y)) ∧ Chg [] w w' := by
  obtain ⟨a6x, l6x, c6x, f6x, a7x, l7x, c7x, f7x, a8x, l8x, c8x, f8x, ex, -, -, -, -, -, -, h6x, h7x, h8x, -⟩ := recL_iff.1 hx
  obtain ⟨a6y, l6y, c6y, f6y, a7y, l7y, c7y, f7y, a8y, l8y, c8y, f8y, ey, -, -, -, -, -, -, h6y, h7y, h8y, -⟩ := recL_iff.1 hy
  obtain ⟨kx, sx, nx, lx, gx, rx, Rx, Dx, Ex⟩ := x
  obtain ⟨ky, sy, ny, ly, gy, ry, Ry, Dy, Ey⟩ := y
  simp only at ex ey h6x h7x h8x h6y h7y h8y
  obtain rfl : cx = #[.int .i64 kx, .int .i64 sx, .string nx, .int .i64 lx, .int .i64 gx, .int .i64 rx, .slice a6x l6x c6x, .slice a7x l7x c7x, .slice a8x l8x c8x] := Array.toList_inj.1 ex
  obtain rfl : cy = #[.int .i64 ky, .int .i64 sy, .string ny, .int .i64 ly, .int .i64 gy, .int .i64 ry, .slice a6y l6y c6y, .slice a7y l7y c7y, .slice a8y l8y c8y] := Array.toList_inj.1 ey
  clear ex ey hx hy
  by_cases e : kx = ky
  · subst e
    by_cases e : sx = sy
    · subst e
      by_cases e : nx = ny
      · subst e
        by_cases e : lx = ly
        · subst e
          by_cases e : gx = gy
          · subst e
            by_cases e : rx = ry
            · subst e
              rw [show sameV (Rec.mk kx sx nx lx gx rx Rx Dx Ex) (Rec.mk kx sx nx lx gx rx Ry Dy Ey) = (sameV Rx Ry && (sameV Dx Dy && sameV Ex Ey)) from sameV_rec]
              exact spec_same_lists _ _ _ _ _ _ _ _ _ _ _ _ _ _ _ _ _ _ _ _ _ _ _ _ Rx Ry Dx Dy Ex Ey _ _ _ _ _ _ w h6x h7x h8x h6y h7y h8y
            · rw [sameV_false (show Rec.mk kx sx nx lx gx rx Rx Dx Ex ≠ Rec.mk kx sx nx lx gx ry Ry Dy Ey from fun h => e (congrArg Rec.row h))]
              exact spec_same_r _ _ _ _ _ _ _ _ _ _ _ _ _ _ _ _ _ _ _ _ _ _ _ _ _ e w
          · rw [sameV_false (show Rec.mk kx sx nx lx gx rx Rx Dx Ex ≠ Rec.mk kx sx nx lx gy ry Ry Dy Ey from fun h => e (congrArg Rec.group h))]
            exact spec_same_g _ _ _ _ _ _ _ _ _ _ _ _ _ _ _ _ _ _ _ _ _ _ _ _ _ _ e w
        · rw [sameV_false (show Rec.mk kx sx nx lx gx rx Rx Dx Ex ≠ Rec.mk kx sx nx ly gy ry Ry Dy Ey from fun h => e (congrArg Rec.length h))]
          exact spec_same_l _ _ _ _ _ _ _ _ _ _ _ _ _ _ _ _ _ _ _ _ _ _ _ _ _ _ _ e w
      · rw [sameV_false (show Rec.mk kx sx nx lx gx rx Rx Dx Ex ≠ Rec.mk kx sx ny ly gy ry Ry Dy Ey from fun h => e (congrArg Rec.name h))]
        exact spec_same_n _ _ _ _ _ _ _ _ _ _ _ _ _ _ _ _ _ _ _ _ _ _ _ _ _ _ _ _ e w
    · rw [sameV_false (show Rec.mk kx sx nx lx gx rx Rx Dx Ex ≠ Rec.mk kx sy ny ly gy ry Ry Dy Ey from fun h => e (congrArg Rec.seq h))]
      exact spec_same_s _ _ _ _ _ _ _ _ _ _ _ _ _ _ _ _ _ _ _ _ _ _ _ _ _ _ _ _ _ e w
  · rw [sameV_false (show Rec.mk kx sx nx lx gx rx Rx Dx Ex ≠ Rec.mk ky sy ny ly gy ry Ry Dy Ey from fun h => e (congrArg Rec.kind h))]
    exact spec_same_k _ _ _ _ _ _ _ _ _ _ _ _ _ _ _ _ _ _ _ _ _ _ _ _ _ _ _ _ _ _ e w


set_option maxRecDepth 100000 in
set_option maxHeartbeats 1000000 in
theorem sameRec_k (kx : Int) (sx : Int) (nx : ByteArray) (lx : Int) (gx : Int) (rx : Int) (ky : Int) (sy : Int) (ny : ByteArray) (ly : Int) (gy : Int) (ry : Int) (a6x : Option Addr) (l6x c6x : Nat) (a7x : Option Addr) (l7x c7x : Nat) (a8x : Option Addr) (l8x c8x : Nat) (a6y : Option Addr) (l6y c6y : Nat) (a7y : Option Addr) (l7y c7y : Nat) (a8y : Option Addr) (l8y c8y : Nat) (e : kx ≠ ky) (w : World) :
    Calls Tryz.prog 123 #[.agg #[.int .i64 kx, .int .i64 sx, .string nx, .int .i64 lx, .int .i64 gx, .int .i64 rx, .slice a6x l6x c6x, .slice a7x l7x c7x, .slice a8x l8x c8x], .agg #[.int .i64 ky, .int .i64 sy, .string ny, .int .i64 ly, .int .i64 gy, .int .i64 ry, .slice a6y l6y c6y, .slice a7y l7y c7y, .slice a8y l8y c8y]] w fun e w' => e = .returned (.bool false) ∧ Chg [] w w' := by
  have t1 : (kx == ky) = false := by rw [beq_eq_false_iff_ne]; exact e
  clear e
  go_enter Tryz.func123, Tryz.ntmps123
  go_wp2_with fail
  go_ret
  exact ⟨rfl, by repeat (first | exact Chg.refl _ _ | refine Chg.alloc ?_ _)⟩


set_option maxRecDepth 100000 in
set_option maxHeartbeats 1000000 in
theorem sameRec_s (kx : Int) (sx : Int) (nx : ByteArray) (lx : Int) (gx : Int) (rx : Int) (sy : Int) (ny : ByteArray) (ly : Int) (gy : Int) (ry : Int) (a6x : Option Addr) (l6x c6x : Nat) (a7x : Option Addr) (l7x c7x : Nat) (a8x : Option Addr) (l8x c8x : Nat) (a6y : Option Addr) (l6y c6y : Nat) (a7y : Option Addr) (l7y c7y : Nat) (a8y : Option Addr) (l8y c8y : Nat) (e : sx ≠ sy) (w : World) :
    Calls Tryz.prog 123 #[.agg #[.int .i64 kx, .int .i64 sx, .string nx, .int .i64 lx, .int .i64 gx, .int .i64 rx, .slice a6x l6x c6x, .slice a7x l7x c7x, .slice a8x l8x c8x], .agg #[.int .i64 kx, .int .i64 sy, .string ny, .int .i64 ly, .int .i64 gy, .int .i64 ry, .slice a6y l6y c6y, .slice a7y l7y c7y, .slice a8y l8y c8y]] w fun e w' => e = .returned (.bool false) ∧ Chg [] w w' := by
  have t1 : (sx == sy) = false := by rw [beq_eq_false_iff_ne]; exact e
  clear e
  go_enter Tryz.func123, Tryz.ntmps123
  go_wp2_with fail
  go_ret
  exact ⟨rfl, by repeat (first | exact Chg.refl _ _ | refine Chg.alloc ?_ _)⟩


set_option maxRecDepth 100000 in
set_option maxHeartbeats 1000000 in
theorem sameRec_n (kx : Int) (sx : Int) (nx : ByteArray) (lx : Int) (gx : Int) (rx : Int) (ny : ByteArray) (ly : Int) (gy : Int) (ry : Int) (a6x : Option Addr) (l6x c6x : Nat) (a7x : Option Addr) (l7x c7x : Nat) (a8x : Option Addr) (l8x c8x : Nat) (a6y : Option Addr) (l6y c6y : Nat) (a7y : Option Addr) (l7y c7y : Nat) (a8y : Option Addr) (l8y c8y : Nat) (e : nx ≠ ny) (w : World) :
    Calls Tryz.prog 123 #[.agg #[.int .i64 kx, .int .i64 sx, .string nx, .int .i64 lx, .int .i64 gx, .int .i64 rx, .slice a6x l6x c6x, .slice a7x l7x c7x, .slice a8x l8x c8x], .agg #[.int .i64 kx, .int .i64 sx, .string ny, .int .i64 ly, .int .i64 gy, .int .i64 ry, .slice a6y l6y c6y, .slice a7y l7y c7y, .slice a8y l8y c8y]] w fun e w' => e = .returned (.bool false) ∧ Chg [] w w' := by
  have t1 : (nx.toList == ny.toList) = false := toList_ne e
  clear e
  go_enter Tryz.func123, Tryz.ntmps123
  go_wp2_with fail
  go_ret
  exact ⟨rfl, by repeat (first | exact Chg.refl _ _ | refine Chg.alloc ?_ _)⟩


set_option maxRecDepth 100000 in
set_option maxHeartbeats 1000000 in
theorem sameRec_l (kx : Int) (sx : Int) (nx : ByteArray) (lx : Int) (gx : Int) (rx : Int) (ly : Int) (gy : Int) (ry : Int) (a6x : Option Addr) (l6x c6x : Nat) (a7x : Option Addr) (l7x c7x : Nat) (a8x : Option Addr) (l8x c8x : Nat) (a6y : Option Addr) (l6y c6y : Nat) (a7y : Option Addr) (l7y c7y : Nat) (a8y : Option Addr) (l8y c8y : Nat) (e : lx ≠ ly) (w : World) :
    Calls Tryz.prog 123 #[.agg #[.int .i64 kx, .int .i64 sx, .string nx, .int .i64 lx, .int .i64 gx, .int .i64 rx, .slice a6x l6x c6x, .slice a7x l7x c7x, .slice a8x l8x c8x], .agg #[.int .i64 kx, .int .i64 sx, .string nx, .int .i64 ly, .int .i64 gy, .int .i64 ry, .slice a6y l6y c6y, .slice a7y l7y c7y, .slice a8y l8y c8y]] w fun e w' => e = .returned (.bool false) ∧ Chg [] w w' := by
  have t1 : (lx == ly) = false := by rw [beq_eq_false_iff_ne]; exact e
  clear e
  go_enter Tryz.func123, Tryz.ntmps123
  go_wp2_with fail
  go_ret
  exact ⟨rfl, by repeat (first | exact Chg.refl _ _ | refine Chg.alloc ?_ _)⟩


set_option maxRecDepth 100000 in
set_option maxHeartbeats 1000000 in
theorem sameRec_g (kx : Int) (sx : Int) (nx : ByteArray) (lx : Int) (gx : Int) (rx : Int) (gy : Int) (ry : Int) (a6x : Option Addr) (l6x c6x : Nat) (a7x : Option Addr) (l7x c7x : Nat) (a8x : Option Addr) (l8x c8x : Nat) (a6y : Option Addr) (l6y c6y : Nat) (a7y : Option Addr) (l7y c7y : Nat) (a8y : Option Addr) (l8y c8y : Nat) (e : gx ≠ gy) (w : World) :
    Calls Tryz.prog 123 #[.agg #[.int .i64 kx, .int .i64 sx, .string nx, .int .i64 lx, .int .i64 gx, .int .i64 rx, .slice a6x l6x c6x, .slice a7x l7x c7x, .slice a8x l8x c8x], .agg #[.int .i64 kx, .int .i64 sx, .string nx, .int .i64 lx, .int .i64 gy, .int .i64 ry, .slice a6y l6y c6y, .slice a7y l7y c7y, .slice a8y l8y c8y]] w fun e w' => e = .returned (.bool false) ∧ Chg [] w w' := by
  have t1 : (gx == gy) = false := by rw [beq_eq_false_iff_ne]; exact e
  clear e
  go_enter Tryz.func123, Tryz.ntmps123
  go_wp2_with fail
  go_ret
  exact ⟨rfl, by repeat (first | exact Chg.refl _ _ | refine Chg.alloc ?_ _)⟩


set_option maxRecDepth 100000 in
set_option maxHeartbeats 1000000 in
theorem sameRec_r (kx : Int) (sx : Int) (nx : ByteArray) (lx : Int) (gx : Int) (rx : Int) (ry : Int) (a6x : Option Addr) (l6x c6x : Nat) (a7x : Option Addr) (l7x c7x : Nat) (a8x : Option Addr) (l8x c8x : Nat) (a6y : Option Addr) (l6y c6y : Nat) (a7y : Option Addr) (l7y c7y : Nat) (a8y : Option Addr) (l8y c8y : Nat) (e : rx ≠ ry) (w : World) :
    Calls Tryz.prog 123 #[.agg #[.int .i64 kx, .int .i64 sx, .string nx, .int .i64 lx, .int .i64 gx, .int .i64 rx, .slice a6x l6x c6x, .slice a7x l7x c7x, .slice a8x l8x c8x], .agg #[.int .i64 kx, .int .i64 sx, .string nx, .int .i64 lx, .int .i64 gx, .int .i64 ry, .slice a6y l6y c6y, .slice a7y l7y c7y, .slice a8y l8y c8y]] w fun e w' => e = .returned (.bool false) ∧ Chg [] w w' := by
  have t1 : (rx == ry) = false := by rw [beq_eq_false_iff_ne]; exact e
  clear e
  go_enter Tryz.func123, Tryz.ntmps123
  go_wp2_with fail
  go_ret
  exact ⟨rfl, by repeat (first | exact Chg.refl _ _ | refine Chg.alloc ?_ _)⟩


set_option maxRecDepth 100000 in
set_option maxHeartbeats 2000000 in
theorem sameRec_lists (kx : Int) (sx : Int) (nx : ByteArray) (lx : Int) (gx : Int) (rx : Int) (a6x : Option Addr) (l6x c6x : Nat) (a7x : Option Addr) (l7x c7x : Nat) (a8x : Option Addr) (l8x c8x : Nat) (a6y : Option Addr) (l6y c6y : Nat) (a7y : Option Addr) (l7y c7y : Nat) (a8y : Option Addr) (l8y c8y : Nat) (Rx Ry : List Int) (Dx Dy Ex Ey : List UInt8) (f6x f7x f8x f6y f7y f8y : List Nat) (w : World) (h6x : intL.sl w a6x l6x c6x Rx f6x) (h7x : byteL.sl w a7x l7x c7x Dx f7x) (h8x : byteL.sl w a8x l8x c8x Ex f8x) (h6y : intL.sl w a6y l6y c6y Ry f6y) (h7y : byteL.sl w a7y l7y c7y Dy f7y) (h8y : byteL.sl w a8y l8y c8y Ey f8y) :
    Calls Tryz.prog 123 #[.agg #[.int .i64 kx, .int .i64 sx, .string nx, .int .i64 lx, .int .i64 gx, .int .i64 rx, .slice a6x l6x c6x, .slice a7x l7x c7x, .slice a8x l8x c8x], .agg #[.int .i64 kx, .int .i64 sx, .string nx, .int .i64 lx, .int .i64 gx, .int .i64 rx, .slice a6y l6y c6y, .slice a7y l7y c7y, .slice a8y l8y c8y]] w fun e w' => e = .returned (.bool (sameV Rx Ry && (sameV Dx Dy && sameV Ex Ey))) ∧ Chg [] w w' := by
  have hc0 := ((Chg.refl [] w).alloc (.cells #[.int .i64 kx, .int .i64 sx, .string nx, .int .i64 lx, .int .i64 gx, .int .i64 rx, .slice a6x l6x c6x, .slice a7x l7x c7x, .slice a8x l8x c8x] 67)).alloc (.cells #[.int .i64 kx, .int .i64 sx, .string nx, .int .i64 lx, .int .i64 gx, .int .i64 rx, .slice a6y l6y c6y, .slice a7y l7y c7y, .slice a8y l8y c8y] 67)
  have HC0 := Lib.hid hc0
  have H7x := Lib.hid h7x; have H8x := Lib.hid h8x; have H7y := Lib.hid h7y; have H8y := Lib.hid h8y
  have HI := Lib.hid (slEq_any a6x a6y l6x c6x l6y c6y Rx Ry f6x f6y _ (intL.sl_ext h6x hc0) (intL.sl_ext h6y hc0))
  clear hc0 h6x h7x h8x h6y h7y h8y
  have tn : (nx.toList == nx.toList) = true := by simp
  cases h6 : sameV Rx Ry
  · rw [h6] at HI
    clear h6
    go_enter Tryz.func123, Tryz.ntmps123
    go_wp2_with fail
    refine HI.out.mono ?_
    rintro e w1 ⟨rfl, hc⟩
    have HC1 := Lib.hid (HC0.out.trans0 hc)
    clear hc
    go_wp2_with fail
    go_ret
    exact ⟨rfl, HC1.out⟩
  · rw [h6] at HI
    clear h6
    generalize hv7 : sameV Dx Dy = v7
    generalize hv8 : sameV Ex Ey = v8
    have V7 := Lib.hid hv7
    have V8 := Lib.hid hv8
    clear hv7 hv8
    have HK := Lib.hid (fun w1 (hc : Chg [] ((w.alloc (.cells #[.int .i64 kx, .int .i64 sx, .string nx, .int .i64 lx, .int .i64 gx, .int .i64 rx, .slice a6x l6x c6x, .slice a7x l7x c7x, .slice a8x l8x c8x] 67)).alloc (.cells #[.int .i64 kx, .int .i64 sx, .string nx, .int .i64 lx, .int .i64 gx, .int .i64 rx, .slice a6y l6y c6y, .slice a7y l7y c7y, .slice a8y l8y c8y] 67)) w1) => And.intro (hc.keep0 (keep_alloc (new_alloc w (.cells #[.int .i64 kx, .int .i64 sx, .string nx, .int .i64 lx, .int .i64 gx, .int .i64 rx, .slice a6x l6x c6x, .slice a7x l7x c7x, .slice a8x l8x c8x] 67)) (.cells #[.int .i64 kx, .int .i64 sx, .string nx, .int .i64 lx, .int .i64 gx, .int .i64 rx, .slice a6y l6y c6y, .slice a7y l7y c7y, .slice a8y l8y c8y] 67))) (hc.keep0 (new_two w (.cells #[.int .i64 kx, .int .i64 sx, .string nx, .int .i64 lx, .int .i64 gx, .int .i64 rx, .slice a6x l6x c6x, .slice a7x l7x c7x, .slice a8x l8x c8x] 67) (.cells #[.int .i64 kx, .int .i64 sx, .string nx, .int .i64 lx, .int .i64 gx, .int .i64 rx, .slice a6y l6y c6y, .slice a7y l7y c7y, .slice a8y l8y c8y] 67))))
    go_enter Tryz.func123, Tryz.ntmps123
    go_wp2_with fail
    refine HI.out.mono ?_
    rintro e w1 ⟨rfl, hc⟩
    have HC1 := Lib.hid (HC0.out.trans0 hc)
    obtain ⟨hB2, hB3⟩ := HK.out w1 hc
    have c2 := cellsOf hB2; have l2 := ltOf hB2; have P2 := Lib.hid hB2
    have c3 := cellsOf hB3; have l3 := ltOf hB3; have P3 := Lib.hid hB3
    clear hB2 hB3 hc HK HI
    go_wp2_with fail
    refine (byEq_any a7x a7y l7x c7x l7y c7y Dx Dy f7x f7y _ (byteL.sl_ext H7x.out HC1.out) (byteL.sl_ext H7y.out HC1.out)).mono ?_
    rintro e w2 ⟨rfl, hc⟩
    rw [V7.out]
    have HC2 := Lib.hid (HC1.out.trans0 hc)
    have hB2 := hc.keep0 P2.out; have hB3 := hc.keep0 P3.out
    clear c2 l2 c3 l3 P2 P3
    have c2 := cellsOf hB2; have l2 := ltOf hB2; have P2 := Lib.hid hB2
    have c3 := cellsOf hB3; have l3 := ltOf hB3; have P3 := Lib.hid hB3
    clear hB2 hB3 hc
    cases v7
    · go_wp2_with fail
      go_ret
      exact ⟨rfl, HC2.out⟩
    · go_wp2_with fail
      refine (byEq_any a8x a8y l8x c8x l8y c8y Ex Ey f8x f8y _ (byteL.sl_ext H8x.out HC2.out) (byteL.sl_ext H8y.out HC2.out)).mono ?_
      rintro e w3 ⟨rfl, hc⟩
      rw [V8.out]
      have HC3 := Lib.hid (HC2.out.trans0 hc)
      clear hc
      go_wp2_with fail
      go_ret
      exact ⟨by simp, HC3.out⟩


set_option maxHeartbeats 400000 in
theorem sameRec_any (x y : Rec) (cx cy : Array Value) (fx fy : List Nat) (w : World) (hx : recL.rep w cx.toList x fx) (hy : recL.rep w cy.toList y fy) :
    Calls Tryz.prog 123 #[.agg cx, .agg cy] w fun e w' => e = .returned (.bool (sameV x y)) ∧ Chg [] w w' := by
  obtain ⟨a6x, l6x, c6x, f6x, a7x, l7x, c7x, f7x, a8x, l8x, c8x, f8x, ex, -, -, -, -, -, -, h6x, h7x, h8x, -⟩ := recL_iff.1 hx
  obtain ⟨a6y, l6y, c6y, f6y, a7y, l7y, c7y, f7y, a8y, l8y, c8y, f8y, ey, -, -, -, -, -, -, h6y, h7y, h8y, -⟩ := recL_iff.1 hy
  obtain ⟨kx, sx, nx, lx, gx, rx, Rx, Dx, Ex⟩ := x
  obtain ⟨ky, sy, ny, ly, gy, ry, Ry, Dy, Ey⟩ := y
  simp only at ex ey h6x h7x h8x h6y h7y h8y
  obtain rfl : cx = #[.int .i64 kx, .int .i64 sx, .string nx, .int .i64 lx, .int .i64 gx, .int .i64 rx, .slice a6x l6x c6x, .slice a7x l7x c7x, .slice a8x l8x c8x] := Array.toList_inj.1 ex
  obtain rfl : cy = #[.int .i64 ky, .int .i64 sy, .string ny, .int .i64 ly, .int .i64 gy, .int .i64 ry, .slice a6y l6y c6y, .slice a7y l7y c7y, .slice a8y l8y c8y] := Array.toList_inj.1 ey
  clear ex ey hx hy
  by_cases e : kx = ky
  · subst e
    by_cases e : sx = sy
    · subst e
      by_cases e : nx = ny
      · subst e
        by_cases e : lx = ly
        · subst e
          by_cases e : gx = gy
          · subst e
            by_cases e : rx = ry
            · subst e
              rw [show sameV (Rec.mk kx sx nx lx gx rx Rx Dx Ex) (Rec.mk kx sx nx lx gx rx Ry Dy Ey) = (sameV Rx Ry && (sameV Dx Dy && sameV Ex Ey)) from sameV_rec]
              exact sameRec_lists _ _ _ _ _ _ _ _ _ _ _ _ _ _ _ _ _ _ _ _ _ _ _ _ Rx Ry Dx Dy Ex Ey _ _ _ _ _ _ w h6x h7x h8x h6y h7y h8y
            · rw [sameV_false (show Rec.mk kx sx nx lx gx rx Rx Dx Ex ≠ Rec.mk kx sx nx lx gx ry Ry Dy Ey from fun h => e (congrArg Rec.row h))]
              exact sameRec_r _ _ _ _ _ _ _ _ _ _ _ _ _ _ _ _ _ _ _ _ _ _ _ _ _ e w
          · rw [sameV_false (show Rec.mk kx sx nx lx gx rx Rx Dx Ex ≠ Rec.mk kx sx nx lx gy ry Ry Dy Ey from fun h => e (congrArg Rec.group h))]
            exact sameRec_g _ _ _ _ _ _ _ _ _ _ _ _ _ _ _ _ _ _ _ _ _ _ _ _ _ _ e w
        · rw [sameV_false (show Rec.mk kx sx nx lx gx rx Rx Dx Ex ≠ Rec.mk kx sx nx ly gy ry Ry Dy Ey from fun h => e (congrArg Rec.length h))]
          exact sameRec_l _ _ _ _ _ _ _ _ _ _ _ _ _ _ _ _ _ _ _ _ _ _ _ _ _ _ _ e w
      · rw [sameV_false (show Rec.mk kx sx nx lx gx rx Rx Dx Ex ≠ Rec.mk kx sx ny ly gy ry Ry Dy Ey from fun h => e (congrArg Rec.name h))]
        exact sameRec_n _ _ _ _ _ _ _ _ _ _ _ _ _ _ _ _ _ _ _ _ _ _ _ _ _ _ _ _ e w
    · rw [sameV_false (show Rec.mk kx sx nx lx gx rx Rx Dx Ex ≠ Rec.mk kx sy ny ly gy ry Ry Dy Ey from fun h => e (congrArg Rec.seq h))]
      exact sameRec_s _ _ _ _ _ _ _ _ _ _ _ _ _ _ _ _ _ _ _ _ _ _ _ _ _ _ _ _ _ e w
  · rw [sameV_false (show Rec.mk kx sx nx lx gx rx Rx Dx Ex ≠ Rec.mk ky sy ny ly gy ry Ry Dy Ey from fun h => e (congrArg Rec.kind h))]
    exact sameRec_k _ _ _ _ _ _ _ _ _ _ _ _ _ _ _ _ _ _ _ _ _ _ _ _ _ _ _ _ _ _ e w


end Go.Proofs.YtphmpimgbmedbaaGreat
