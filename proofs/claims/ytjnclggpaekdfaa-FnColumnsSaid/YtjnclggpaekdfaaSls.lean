
/- The reference's l1Solve: the one solution of independent rows. -/
import Derived.Test.YtjnclggpaekdfaaStp
import Derived.Test.YtjnclggpaekdfaaSol
import Derived.Test.YtjnclggpaekdfaaReg
namespace Go.Proofs.Ytjnclggpaekdfaa
open Go.RowKit

theorem news_keep {w w' : World} (hc : Chg [] w w') {b o : Nat} {news : List Value} (h : ∀ j u, news[j]? = some u → w.cell? ((⟨b, o, none⟩ : Addr).add j) = some u) (hb : b < w.heap.size) :
    ∀ j u, news[j]? = some u → w'.cell? ((⟨b, o, none⟩ : Addr).add j) = some u := by
  intro j u hu
  have hadd : (⟨b, o, none⟩ : Addr).add j = ⟨b, o + j, none⟩ := by unfold Addr.add; split <;> simp_all
  have := h j u hu
  rw [hadd] at this ⊢
  exact cellKeep hc this hb
theorem news_keepS {S : List Nat} {w w' : World} (hc : Chg S w w') {b o : Nat} {news : List Value} (h : ∀ j u, news[j]? = some u → w.cell? ((⟨b, o, none⟩ : Addr).add j) = some u) (hb : b < w.heap.size) (hS : b ∉ S) :
    ∀ j u, news[j]? = some u → w'.cell? ((⟨b, o, none⟩ : Addr).add j) = some u := by
  intro j u hu
  have hadd : (⟨b, o, none⟩ : Addr).add j = ⟨b, o + j, none⟩ := by unfold Addr.add; split <;> simp_all
  have := h j u hu
  rw [hadd] at this ⊢
  rw [← this]
  unfold World.cell?
  rw [hc.block b hb hS]
theorem new_cellN {w : World} {n : Nat} (hn : n = w.heap.size) (x : Value) (E : TypeId) : ∀ j u, [x][j]? = some u → (w.alloc (.cells #[x] E)).cell? ((⟨n, 0, none⟩ : Addr).add j) = some u := by subst hn; exact new_cell w x E
theorem os_madeN {α : Type} {L : Lay α} {E : TypeId} {w : World} {n : Nat} (hn : n = w.heap.size) : L.os E (w.alloc (.cells #[] E)) (.slice (some ⟨n, 0, none⟩) 0 0) [] (some n) [] := by
  subst hn; exact L.os_made _ _ #[] 0 (by simp [maxLen]) (by simp)
section
variable {P : Program} {ops : Array Oper} {Q : Exit → Act → World → Prop} {md : Region.Mode} {S : World → Prop} {fuel : Nat} {listed : Array Bool} {a : Act} {w : World}
theorem rg_call2 (i j : Nat) {oi oj : Oper} (hi : ops.toList[i]? = some oi) (hj : ops.toList[j]? = some oj) (hr : Region.ready md ops listed = [i, j])
    (h : ∀ K' : Act → World → Prop, Shut (∀ a w, S w → (S w → wpAnyH P md ops Q S fuel (listed.setIfInBounds i true) a w) → K' a w) → if Region.wanted oi (yielded ops a.tmps) = true then Oper.wp P oi a w K' Q else K' (a.put oi.dst undef) w)
    (h2 : ∀ K' : Act → World → Prop, Shut (∀ a w, S w → (S w → wpAnyH P md ops Q S fuel (listed.setIfInBounds j true) a w) → K' a w) → if Region.wanted oj (yielded ops a.tmps) = true then Oper.wp P oj a w K' Q else K' (a.put oj.dst undef) w) :
    wpAnyH P md ops Q S (fuel + 1) listed a w :=
  wpAnyH_ready hr (by simp) (AllReadyH.cons (get_toList hi) h (AllReadyH.cons (get_toList hj) h2 AllReadyH.nil))
end

set_option maxRecDepth 100000 in
set_option maxHeartbeats 4000000 in
theorem l1Solve_any (a b : Option Addr) (n ca cb : Nat) (rows : List (List UInt8)) (right : List UInt8) (f g : List Nat) (w : World) (ha : byteL.slice.sl w a n ca rows f) (hb : byteL.sl w b n cb right g) (hn : 1 ≤ n) (hn16 : n ≤ 16) (hw : RowKit.Hid (Wide n rows)) :
    Calls Try.prog 79 #[.slice a n ca, .slice b n cb] w (NewOpt (solV rows right) w) := by
  obtain ⟨KB, _⟩ := kindB
  obtain ⟨K2, _⟩ := kindLL
  have HA := Lib.hid ha
  have HB := Lib.hid hb
  have HL := Lib.hid ha.1
  have HLB := Lib.hid hb.1
  clear ha hb
  have HAUL := Lib.hid (show (augm rows right).length = n by rw [augm_length (by have := HL.out; have := HLB.out; omega), HL.out])
  obtain ⟨R, hR⟩ : ∃ R, R = augm rows right := ⟨_, rfl⟩
  have HR := Lib.hid hR
  rw [← hR] at HAUL
  clear hR
  go_enter Try.func79, Try.ntmps79
  go_wp2_with fail
  go_loopw [6, 7] (fun vo vk wr => ∃ (k : Nat) (Wr : World), Wr = wr ∧ k ≤ n ∧ vk = .int .i64 k ∧ Grow byteL.slice 22 w wr vo (R.take k)) (fun _ vk _ => n - (intOf vk).toNat)
  case atStart => exact ⟨0, _, rfl, by omega, rfl, Grow.madeN (Chg.refl [] _) (by simp)⟩
  case round =>
    obtain ⟨k, wr, rfl, hk, rfl, hg⟩ := hrel
    by_cases hlt : k < n
    · obtain ⟨x, b1, o1, A, lx, C, fx, HX, rfl, hcxw, HXSw⟩ := slc_at HA.out hlt
      obtain ⟨y, Y, b2, o2, HY, rfl, hcyw, hy1, hy2⟩ := byte_at HB.out hlt
      have hb1 := byteL.slice.sl_lt HA.out _ HX.out.2.1
      have hb2 := byteL.sl_lt HB.out _ HY.out.2.2
      have HXM := Lib.hid (show x.length = n from hw.out.at HX.out.1)
      have HRX := Lib.hid (show R[k]? = some (x ++ [y]) by rw [HR.out]; exact augm_at HX.out.1 HY.out.1)
      have HTN := Lib.hid (take_next HRX.out)
      rw [HY.out.2.1] at hcyw
      have hmx := byteL.sl_max HXSw.out
      have HLX := Lib.hid HXSw.out.1
      obtain ⟨x0, X0, b3, o3, HX0, rfl, -, -, -⟩ := byte_at HXSw.out (i := 0) (by have := HLX.out; have := HXM.out; omega)
      have hb3w := byteL.sl_lt HXSw.out _ HX0.out.2.2
      obtain ⟨news, fy, hnews, hall, hsub⟩ := byteL.sl_cells HXSw.out
      obtain rfl := Lay.flat_all byte_flat hall
      have HG := Lib.hid hg
      have hszw := hg.chg.size
      have HNW := Lib.hid (news_keep hg.chg hnews hb3w)
      have HALL := Lib.hid hall
      have hb3 : b3 < wr.heap.size := by omega
      have hb1w : b1 < w.heap.size := hb1
      have hb2w : b2 < w.heap.size := hb2
      clear hb1 hb2
      have hb1 : b1 < wr.heap.size := by omega
      have hb2 : b2 < wr.heap.size := by omega
      have HCXW := Lib.hid hcxw; have HCYW := Lib.hid hcyw
      have HCX := Lib.hid (cellKeep hg.chg hcxw hb1w); have HCY := Lib.hid (cellKeep hg.chg hcyw hb2w)
      have HC0 : RowKit.Hid (Chg [] wr wr.drew) := (Chg.refl [] wr).drew
      obtain ⟨z, hz⟩ : ∃ z, z = x ++ [y] := ⟨_, rfl⟩
      rw [← hz] at HTN HRX
      have HZ := Lib.hid hz
      have HL1 : RowKit.Hid (([] : List UInt8).length + x.length ≤ maxLen ∧ (([] : List UInt8).length + x.length) * 1 ≤ 140737488355328) := by
        have := HXM.out
        refine ⟨?_, ?_⟩ <;> simp only [List.length_nil, maxLen] <;> omega
      have HL2 : RowKit.Hid (x.length + [y].length ≤ maxLen ∧ (x.length + [y].length) * 1 ≤ 140737488355328) := by
        have := HXM.out
        refine ⟨?_, ?_⟩ <;> simp only [List.length_cons, List.length_nil, maxLen] <;> omega
      have HL3 : RowKit.Hid ((R.take k).length + [z].length ≤ maxLen ∧ ((R.take k).length + [z].length) * 24 ≤ 140737488355328) := by
        have := List.length_take_le k R
        refine ⟨?_, ?_⟩ <;> simp only [List.length_cons, List.length_nil, maxLen] <;> omega
      clear hg hnews hall hsub hcxw hcyw hy1 hy2 hz
      go_wp2_with fail
      obtain ⟨SS, hSS⟩ : ∃ S : World → Prop, S = fun w' => w'.cell? ⟨b1, o1 + k, none⟩ = some (.slice (some ⟨b3, o3, none⟩) lx C) ∧ w'.cell? ⟨b2, o2 + k, none⟩ = some (.int .u8 ((y.toNat : Nat) : Int)) := ⟨_, rfl⟩
      have HSI := Lib.hid (fun w' (h : w'.cell? ⟨b1, o1 + k, none⟩ = some (.slice (some ⟨b3, o3, none⟩) lx C) ∧ w'.cell? ⟨b2, o2 + k, none⟩ = some (.int .u8 ((y.toNat : Nat) : Int))) => (by rw [hSS]; exact h : SS w'))
      have HSO := Lib.hid (fun w' (h : SS w') => (by rw [hSS] at h; exact h : w'.cell? ⟨b1, o1 + k, none⟩ = some (.slice (some ⟨b3, o3, none⟩) lx C) ∧ w'.cell? ⟨b2, o2 + k, none⟩ = some (.int .u8 ((y.toNat : Nat) : Int))))
      clear hSS
      have hS0 := HSI.out wr.drew ⟨HCX.out, HCY.out⟩
      refine rg_start SS (by kernel_rfl) hS0 ?_
      refine rg_take 0 (v := ?_) rfl (by kernel_rfl) (fun _ _ _ h => h) hS0 (by rfl) ?_ ?_
      rotate_left
      · intro w hSw; clear hSw; go_simp; (try with_reducible rfl)
      simp only [Act.put, List.setIfInBounds_toArray, List.set_cons_zero, List.set_cons_succ]
      refine rg_take 2 (v := ?_) rfl (by kernel_rfl) (fun _ _ _ h => h) hS0 (by rfl) ?_ ?_
      rotate_left
      · intro w hSw; clear hSw; go_simp; (try with_reducible rfl)
      simp only [Act.put, List.setIfInBounds_toArray, List.set_cons_zero, List.set_cons_succ]
      refine rg_take 3 (v := ?_) rfl (by kernel_rfl) (fun _ _ _ h => h) hS0 (by rfl) ?_ ?_
      rotate_left
      · intro w hSw; clear hSw; go_simp; (try with_reducible rfl)
      simp only [Act.put, List.setIfInBounds_toArray, List.set_cons_zero, List.set_cons_succ]
      refine rg_take 4 (v := ?_) rfl (by kernel_rfl) (fun _ _ _ h => h) hS0 (by rfl) ?_ ?_
      rotate_left
      · intro w hSw; clear hSw; go_simp; (try with_reducible rfl)
      simp only [Act.put, List.setIfInBounds_toArray, List.set_cons_zero, List.set_cons_succ]
      refine rg_take 5 (v := ?_) rfl (by kernel_rfl) (fun _ _ _ h => h) hS0 (by rfl) ?_ ?_
      rotate_left
      · intro w hSw; obtain ⟨k0, k1⟩ := HSO.out w hSw; go_simp; (try with_reducible rfl)
      simp only [Act.put, List.setIfInBounds_toArray, List.set_cons_zero, List.set_cons_succ]
      refine rg_take 7 (v := ?_) rfl (by kernel_rfl) (fun _ _ _ h => h) hS0 (by rfl) ?_ ?_
      rotate_left
      · intro w hSw; clear hSw; go_simp; (try with_reducible rfl)
      simp only [Act.put, List.setIfInBounds_toArray, List.set_cons_zero, List.set_cons_succ]
      refine rg_take 8 (v := ?_) rfl (by kernel_rfl) (fun _ _ _ h => h) hS0 (by rfl) ?_ ?_
      rotate_left
      · intro w hSw; clear hSw; go_simp; (try with_reducible rfl)
      simp only [Act.put, List.setIfInBounds_toArray, List.set_cons_zero, List.set_cons_succ]
      refine rg_take 9 (v := ?_) rfl (by kernel_rfl) (fun _ _ _ h => h) hS0 (by rfl) ?_ ?_
      rotate_left
      · intro w hSw; clear hSw; go_simp; (try with_reducible rfl)
      simp only [Act.put, List.setIfInBounds_toArray, List.set_cons_zero, List.set_cons_succ]
      refine rg_take 10 (v := ?_) rfl (by kernel_rfl) (fun _ _ _ h => h) hS0 (by rfl) ?_ ?_
      rotate_left
      · intro w hSw; obtain ⟨k0, k1⟩ := HSO.out w hSw; go_simp; (try with_reducible rfl)
      simp only [Act.put, List.setIfInBounds_toArray, List.set_cons_zero, List.set_cons_succ]
      refine rg_call2 1 11 rfl rfl (by kernel_rfl) (fun K hK => ?_) (fun K hK => ?_)
      · go_simp
        have HA1 : RowKit.Hid (Chg [] wr (wr.drew.alloc (.cells #[] 5))) := HC0.out.alloc _
        have HO1 : RowKit.Hid (byteL.os 5 (wr.drew.alloc (.cells #[] 5)) (.slice (some ⟨wr.heap.size, 0, none⟩) 0 0) [] (some (wr.heap.size)) []) := os_madeN (by simp)
        have HH1 : RowKit.Hid (∀ g, some (wr.heap.size) = some g → wr.heap.size ≤ g) := by intro g hg; cases hg; omega
        refine hK.out _ _ (HSI.out _ ⟨cellKeep HA1.out HCX.out hb1, cellKeep HA1.out HCY.out hb2⟩) (fun hS1 => ?_)
        clear hK K
        try simp only [Act.put, List.setIfInBounds_toArray, List.set_cons_zero, List.set_cons_succ]
        refine rg_call2 6 11 rfl rfl (by kernel_rfl) (fun K hK => ?_) (fun K hK => ?_)
        · refine byteL.step_append rfl _ _ 22 rfl Try.underlying22 KB rfl HO1.out ⟨b3, o3, none⟩ lx C news (ys := x) (f := []) rfl HLX.out (news_keep HA1.out HNW.out hb3) (byteL.all_keep HALL.out (by simp)) (by simp) HL1.out.1 HL1.out.2 ?_
          intro v2 w2 h2 ho hh hc
          rw [List.nil_append, List.nil_append] at ho
          have HA2 := Lib.hid (os_chg HH1.out HA1.out hc); have HH2 := Lib.hid (os_head HH1.out HA1.out hh); have HO2 := Lib.hid ho; clear ho hh hc
          refine hK.out _ _ (HSI.out _ ⟨cellKeep HA2.out HCX.out hb1, cellKeep HA2.out HCY.out hb2⟩) (fun hS2 => ?_)
          clear hK K
          try simp only [Act.put, List.setIfInBounds_toArray, List.set_cons_zero, List.set_cons_succ]
          refine rg_call 11 rfl (by kernel_rfl) (fun K hK => ?_)
          go_simp
          have HA3 : RowKit.Hid (Chg [] wr (w2.alloc (.cells #[.int .u8 ((y.toNat : Nat) : Int)] 5))) := HA2.out.alloc _
          have HY3 := Lib.hid (new_cellN (w := w2) (n := w2.heap.size) (by simp) (.int .u8 ((y.toNat : Nat) : Int)) 5)
          refine hK.out _ _ (HSI.out _ ⟨cellKeep HA3.out HCX.out hb1, cellKeep HA3.out HCY.out hb2⟩) (fun hS3 => ?_)
          clear hK K
          try simp only [Act.put, List.setIfInBounds_toArray, List.set_cons_zero, List.set_cons_succ]
          refine rg_call 12 rfl (by kernel_rfl) (fun K hK => ?_)
          refine byteL.step_append rfl _ _ 22 rfl Try.underlying22 KB rfl (byteL.os_alloc HO2.out _) ⟨w2.heap.size, 0, none⟩ 1 1 [.int .u8 ((y.toNat : Nat) : Int)] (ys := [y]) (f := []) rfl rfl HY3.out (byte_all1 rfl) (by simp) HL2.out.1 HL2.out.2 ?_
          intro v4 w4 h4 ho hh hc
          obtain ⟨a4, c4, f4, e4, hs, hf, hc7⟩ := byteL.os_new ho byte_flat (os_chg HH2.out HA3.out hc) (os_head HH2.out HA3.out hh)
          obtain rfl := Ending.returned.inj e4
          rw [← HZ.out] at hs ⊢
          have HN4 := Lib.hid (And.intro hs (And.intro hf hc7)); clear ho hh hc hs hf hc7 e4
          refine hK.out _ _ (HSI.out _ ⟨cellKeep HN4.out.2.2 HCX.out hb1, cellKeep HN4.out.2.2 HCY.out hb2⟩) (fun hS4 => ?_)
          clear hK K
          try simp only [Act.put, List.setIfInBounds_toArray, List.set_cons_zero, List.set_cons_succ]
          refine rg_call 13 rfl (by kernel_rfl) (fun K hK => ?_)
          go_simp
          have HA5 : RowKit.Hid (Chg [] wr (w4.alloc (.cells #[.slice a4 z.length c4] 22))) := HN4.out.2.2.alloc _
          refine hK.out _ _ (HSI.out _ ⟨cellKeep HA5.out HCX.out hb1, cellKeep HA5.out HCY.out hb2⟩) (fun hS5 => ?_)
          clear hK K
          try simp only [Act.put, List.setIfInBounds_toArray, List.set_cons_zero, List.set_cons_succ]
          refine rg_call 14 rfl (by kernel_rfl) (fun K hK => ?_)
          refine byteL.slice.step_grow rfl _ _ 24 rfl Try.underlying24 K2 rfl HG.out HA5.out ⟨w4.heap.size, 0, none⟩ 1 1 [.slice a4 z.length c4] (ys := [z]) (f := f4) rfl rfl (new_cell _ _ _) (slc_all1 (byteL.sl_ext HN4.out.1 ((Chg.refl [] _).alloc _))) (HN4.out.2.1.chg ((Chg.refl [] _).alloc _)) HL3.out.1 HL3.out.2 ?_
          intro v6 w6 hg6
          rw [← HTN.out] at hg6; have HGN := Lib.hid hg6; have HCZ := Lib.hid (HG.out.chg.trans0 HA5.out); clear hg6
          refine hK.out _ _ (HSI.out _ ⟨cellKeep HGN.out.chg HCXW.out hb1w, cellKeep HGN.out.chg HCYW.out hb2w⟩) (fun hS6 => ?_)
          clear hK K
          try simp only [Act.put, List.setIfInBounds_toArray, List.set_cons_zero, List.set_cons_succ]
          refine rg_take 15 (v := ?_) rfl (by kernel_rfl) (fun _ _ _ h => h) hS6 (by rfl) ?_ ?_
          rotate_left
          · intro w hSw; clear hSw; go_simp; (try with_reducible rfl)
          simp only [Act.put, List.setIfInBounds_toArray, List.set_cons_zero, List.set_cons_succ]
          refine wpAnyH_done (by kernel_rfl) ?_ _
          go_wp2_with fail
          go_roundw
          case rel => exact ⟨k + 1, _, rfl, by omega, by go_num, HGN.out⟩
          case measure => simp [intOf]; omega
        · go_simp
          have HA7 : RowKit.Hid (Chg [] wr ((wr.drew.alloc (.cells #[] 5)).alloc (.cells #[.int .u8 ((y.toNat : Nat) : Int)] 5))) := HA1.out.alloc _
          have HY7 := Lib.hid (new_cellN (w := (wr.drew.alloc (.cells #[] 5))) (n := wr.heap.size + 1) (by simp) (.int .u8 ((y.toNat : Nat) : Int)) 5)
          refine hK.out _ _ (HSI.out _ ⟨cellKeep HA7.out HCX.out hb1, cellKeep HA7.out HCY.out hb2⟩) (fun hS7 => ?_)
          clear hK K
          try simp only [Act.put, List.setIfInBounds_toArray, List.set_cons_zero, List.set_cons_succ]
          refine rg_call 6 rfl (by kernel_rfl) (fun K hK => ?_)
          refine byteL.step_append rfl _ _ 22 rfl Try.underlying22 KB rfl (byteL.os_alloc HO1.out _) ⟨b3, o3, none⟩ lx C news (ys := x) (f := []) rfl HLX.out (news_keep HA7.out HNW.out hb3) (byteL.all_keep HALL.out (by simp)) (by simp) HL1.out.1 HL1.out.2 ?_
          intro v8 w8 h8 ho hh hc
          rw [List.nil_append, List.nil_append] at ho
          have HY8 := Lib.hid (news_keepS hc HY7.out (by simp <;> omega) (by simp <;> omega))
          have HA8 := Lib.hid (os_chg HH1.out HA7.out hc); have HH8 := Lib.hid (os_head HH1.out HA7.out hh); have HO8 := Lib.hid ho; clear ho hh hc
          refine hK.out _ _ (HSI.out _ ⟨cellKeep HA8.out HCX.out hb1, cellKeep HA8.out HCY.out hb2⟩) (fun hS8 => ?_)
          clear hK K
          try simp only [Act.put, List.setIfInBounds_toArray, List.set_cons_zero, List.set_cons_succ]
          refine rg_call 12 rfl (by kernel_rfl) (fun K hK => ?_)
          refine byteL.step_append rfl _ _ 22 rfl Try.underlying22 KB rfl HO8.out ⟨wr.heap.size + 1, 0, none⟩ 1 1 [.int .u8 ((y.toNat : Nat) : Int)] (ys := [y]) (f := []) rfl rfl HY8.out (byte_all1 rfl) (by simp) HL2.out.1 HL2.out.2 ?_
          intro v9 w9 h9 ho hh hc
          obtain ⟨a9, c9, f9, e9, hs, hf, hc7⟩ := byteL.os_new ho byte_flat (os_chg HH8.out HA8.out hc) (os_head HH8.out HA8.out hh)
          obtain rfl := Ending.returned.inj e9
          rw [← HZ.out] at hs ⊢
          have HN9 := Lib.hid (And.intro hs (And.intro hf hc7)); clear ho hh hc hs hf hc7 e9
          refine hK.out _ _ (HSI.out _ ⟨cellKeep HN9.out.2.2 HCX.out hb1, cellKeep HN9.out.2.2 HCY.out hb2⟩) (fun hS9 => ?_)
          clear hK K
          try simp only [Act.put, List.setIfInBounds_toArray, List.set_cons_zero, List.set_cons_succ]
          refine rg_call 13 rfl (by kernel_rfl) (fun K hK => ?_)
          go_simp
          have HA10 : RowKit.Hid (Chg [] wr (w9.alloc (.cells #[.slice a9 z.length c9] 22))) := HN9.out.2.2.alloc _
          refine hK.out _ _ (HSI.out _ ⟨cellKeep HA10.out HCX.out hb1, cellKeep HA10.out HCY.out hb2⟩) (fun hS10 => ?_)
          clear hK K
          try simp only [Act.put, List.setIfInBounds_toArray, List.set_cons_zero, List.set_cons_succ]
          refine rg_call 14 rfl (by kernel_rfl) (fun K hK => ?_)
          refine byteL.slice.step_grow rfl _ _ 24 rfl Try.underlying24 K2 rfl HG.out HA10.out ⟨w9.heap.size, 0, none⟩ 1 1 [.slice a9 z.length c9] (ys := [z]) (f := f9) rfl rfl (new_cell _ _ _) (slc_all1 (byteL.sl_ext HN9.out.1 ((Chg.refl [] _).alloc _))) (HN9.out.2.1.chg ((Chg.refl [] _).alloc _)) HL3.out.1 HL3.out.2 ?_
          intro v11 w11 hg11
          rw [← HTN.out] at hg11; have HGN := Lib.hid hg11; have HCZ := Lib.hid (HG.out.chg.trans0 HA10.out); clear hg11
          refine hK.out _ _ (HSI.out _ ⟨cellKeep HGN.out.chg HCXW.out hb1w, cellKeep HGN.out.chg HCYW.out hb2w⟩) (fun hS11 => ?_)
          clear hK K
          try simp only [Act.put, List.setIfInBounds_toArray, List.set_cons_zero, List.set_cons_succ]
          refine rg_take 15 (v := ?_) rfl (by kernel_rfl) (fun _ _ _ h => h) hS11 (by rfl) ?_ ?_
          rotate_left
          · intro w hSw; clear hSw; go_simp; (try with_reducible rfl)
          simp only [Act.put, List.setIfInBounds_toArray, List.set_cons_zero, List.set_cons_succ]
          refine wpAnyH_done (by kernel_rfl) ?_ _
          go_wp2_with fail
          go_roundw
          case rel => exact ⟨k + 1, _, rfl, by omega, by go_num, HGN.out⟩
          case measure => simp [intOf]; omega
      · go_simp
        have HA12 : RowKit.Hid (Chg [] wr (wr.drew.alloc (.cells #[.int .u8 ((y.toNat : Nat) : Int)] 5))) := HC0.out.alloc _
        have HY12 := Lib.hid (new_cellN (w := wr.drew) (n := wr.heap.size) (by simp) (.int .u8 ((y.toNat : Nat) : Int)) 5)
        refine hK.out _ _ (HSI.out _ ⟨cellKeep HA12.out HCX.out hb1, cellKeep HA12.out HCY.out hb2⟩) (fun hS12 => ?_)
        clear hK K
        try simp only [Act.put, List.setIfInBounds_toArray, List.set_cons_zero, List.set_cons_succ]
        refine rg_call 1 rfl (by kernel_rfl) (fun K hK => ?_)
        go_simp
        have HA13 : RowKit.Hid (Chg [] wr ((wr.drew.alloc (.cells #[.int .u8 ((y.toNat : Nat) : Int)] 5)).alloc (.cells #[] 5))) := HA12.out.alloc _
        have HO13 : RowKit.Hid (byteL.os 5 ((wr.drew.alloc (.cells #[.int .u8 ((y.toNat : Nat) : Int)] 5)).alloc (.cells #[] 5)) (.slice (some ⟨wr.heap.size + 1, 0, none⟩) 0 0) [] (some (wr.heap.size + 1)) []) := os_madeN (by simp)
        have HH13 : RowKit.Hid (∀ g, some (wr.heap.size + 1) = some g → wr.heap.size ≤ g) := by intro g hg; cases hg; omega
        refine hK.out _ _ (HSI.out _ ⟨cellKeep HA13.out HCX.out hb1, cellKeep HA13.out HCY.out hb2⟩) (fun hS13 => ?_)
        clear hK K
        try simp only [Act.put, List.setIfInBounds_toArray, List.set_cons_zero, List.set_cons_succ]
        refine rg_call 6 rfl (by kernel_rfl) (fun K hK => ?_)
        refine byteL.step_append rfl _ _ 22 rfl Try.underlying22 KB rfl HO13.out ⟨b3, o3, none⟩ lx C news (ys := x) (f := []) rfl HLX.out (news_keep HA13.out HNW.out hb3) (byteL.all_keep HALL.out (by simp)) (by simp) HL1.out.1 HL1.out.2 ?_
        intro v14 w14 h14 ho hh hc
        rw [List.nil_append, List.nil_append] at ho
        have HY14 := Lib.hid (news_keepS hc (news_keep (Chg.alloc (Chg.refl [] _) _) HY12.out (by simp <;> omega)) (by simp <;> omega) (by simp <;> omega))
        have HA14 := Lib.hid (os_chg HH13.out HA13.out hc); have HH14 := Lib.hid (os_head HH13.out HA13.out hh); have HO14 := Lib.hid ho; clear ho hh hc
        refine hK.out _ _ (HSI.out _ ⟨cellKeep HA14.out HCX.out hb1, cellKeep HA14.out HCY.out hb2⟩) (fun hS14 => ?_)
        clear hK K
        try simp only [Act.put, List.setIfInBounds_toArray, List.set_cons_zero, List.set_cons_succ]
        refine rg_call 12 rfl (by kernel_rfl) (fun K hK => ?_)
        refine byteL.step_append rfl _ _ 22 rfl Try.underlying22 KB rfl HO14.out ⟨wr.heap.size, 0, none⟩ 1 1 [.int .u8 ((y.toNat : Nat) : Int)] (ys := [y]) (f := []) rfl rfl HY14.out (byte_all1 rfl) (by simp) HL2.out.1 HL2.out.2 ?_
        intro v15 w15 h15 ho hh hc
        obtain ⟨a15, c15, f15, e15, hs, hf, hc7⟩ := byteL.os_new ho byte_flat (os_chg HH14.out HA14.out hc) (os_head HH14.out HA14.out hh)
        obtain rfl := Ending.returned.inj e15
        rw [← HZ.out] at hs ⊢
        have HN15 := Lib.hid (And.intro hs (And.intro hf hc7)); clear ho hh hc hs hf hc7 e15
        refine hK.out _ _ (HSI.out _ ⟨cellKeep HN15.out.2.2 HCX.out hb1, cellKeep HN15.out.2.2 HCY.out hb2⟩) (fun hS15 => ?_)
        clear hK K
        try simp only [Act.put, List.setIfInBounds_toArray, List.set_cons_zero, List.set_cons_succ]
        refine rg_call 13 rfl (by kernel_rfl) (fun K hK => ?_)
        go_simp
        have HA16 : RowKit.Hid (Chg [] wr (w15.alloc (.cells #[.slice a15 z.length c15] 22))) := HN15.out.2.2.alloc _
        refine hK.out _ _ (HSI.out _ ⟨cellKeep HA16.out HCX.out hb1, cellKeep HA16.out HCY.out hb2⟩) (fun hS16 => ?_)
        clear hK K
        try simp only [Act.put, List.setIfInBounds_toArray, List.set_cons_zero, List.set_cons_succ]
        refine rg_call 14 rfl (by kernel_rfl) (fun K hK => ?_)
        refine byteL.slice.step_grow rfl _ _ 24 rfl Try.underlying24 K2 rfl HG.out HA16.out ⟨w15.heap.size, 0, none⟩ 1 1 [.slice a15 z.length c15] (ys := [z]) (f := f15) rfl rfl (new_cell _ _ _) (slc_all1 (byteL.sl_ext HN15.out.1 ((Chg.refl [] _).alloc _))) (HN15.out.2.1.chg ((Chg.refl [] _).alloc _)) HL3.out.1 HL3.out.2 ?_
        intro v17 w17 hg17
        rw [← HTN.out] at hg17; have HGN := Lib.hid hg17; have HCZ := Lib.hid (HG.out.chg.trans0 HA16.out); clear hg17
        refine hK.out _ _ (HSI.out _ ⟨cellKeep HGN.out.chg HCXW.out hb1w, cellKeep HGN.out.chg HCYW.out hb2w⟩) (fun hS17 => ?_)
        clear hK K
        try simp only [Act.put, List.setIfInBounds_toArray, List.set_cons_zero, List.set_cons_succ]
        refine rg_take 15 (v := ?_) rfl (by kernel_rfl) (fun _ _ _ h => h) hS17 (by rfl) ?_ ?_
        rotate_left
        · intro w hSw; clear hSw; go_simp; (try with_reducible rfl)
        simp only [Act.put, List.setIfInBounds_toArray, List.set_cons_zero, List.set_cons_succ]
        refine wpAnyH_done (by kernel_rfl) ?_ _
        go_wp2_with fail
        go_roundw
        case rel => exact ⟨k + 1, _, rfl, by omega, by go_num, HGN.out⟩
        case measure => simp [intOf]; omega
    · obtain rfl : k = n := by omega
      have htk : R.take k = R := List.take_of_length_le (by have := HAUL.out; omega)
      rw [htk] at hg
      clear htk
      have HWD := Lib.hid (show Wide (k + 1) R by have := augm_wide (right := right) hw.out; rw [← HR.out] at this; exact this)
      obtain ⟨hd, fps, ho, hf, hc⟩ := hg
      have HSL := Lib.hid (byteL.slice.os_sl ho)
      have HLO := Lib.hid (byteL.slice.os_loose ho)
      rcases ho with ⟨_, hx, _, _⟩ | ⟨g1, cap, cur, rfl, rfl, hg1, h5, h6, h7, hall, hgf⟩
      · have := HAUL.out; rw [hx] at this; simp at this; omega
      obtain ⟨a9, c9, e9, hs9⟩ := HSL.out
      obtain ⟨rfl, -, rfl⟩ := Value.slice.inj e9
      have hRw : Rws wr g1 0 R.length R := Rws.of_sl (b := g1) hs9 hgf rfl
      have hLg := HLO.out g1 rfl
      have hgs : w.heap.size ≤ g1 := (hf.2 g1 (by simp)).1
      rw [HAUL.out] at hRw ⊢
      have HRD := Lib.hid (l1Step_any g1 0 k cap k (k + 1) R wr hRw hLg HWD.out (by omega) (by omega) (by omega))
      have HGI := Lib.hid (gauss_inv HWD.out k)
      have HSV := Lib.hid (show solV rows right = if (gauss k R).2 < k then none else some ((gauss k R).1.map (fun r => r.getD k 0)) by unfold solV solved; rw [← HR.out, ← HL.out])
      generalize gauss k R = G at HRD HGI HSV
      obtain ⟨G1, rk⟩ := G
      simp only at HRD HGI HSV
      have HC := Lib.hid hc
      clear hRw hLg hc hs9 hall h5 h6 h7 hgf HSL e9 hg1 HLO hf
      go_wp2_with fail
      refine HRD.out.mono ?_; rintro e w7 ⟨rfl, hR7, hLo7, hc7⟩
      have HR7 := Lib.hid hR7; have hH7 := hLo7.lt
      have HC7 := Lib.hid (HC.out.trans hc7 (fun x hx => .inr (by rw [List.mem_singleton] at hx; omega)))
      clear hR7 hLo7 hc7
      have hrk : rk ≤ k := HGI.out.2.2.2
      by_cases hlt2 : rk < k
      · have HS := Lib.hid (show solV rows right = none by rw [HSV.out, if_pos hlt2])
        have hri : (rk : Int) < (k : Int) := by omega
        clear hlt2
        go_wp2_with fail
        go_ret2
        rw [HS.out]
        exact ⟨none, 0, [], rfl, byteL.sl_none _ _, Fresh.nil _ _, HC7.out⟩
      · have HS := Lib.hid (show solV rows right = some (G1.map (fun r => r.getD k 0)) by rw [HSV.out, if_neg hlt2])
        have hri : ¬ (rk : Int) < (k : Int) := by omega
        have hdec : decide (rk < k) = false := decide_eq_false hlt2
        have HGL := Lib.hid (show G1.length = k by rw [HGI.out.1, HAUL.out])
        clear hlt2
        go_wp2_with fail
        go_loopw [9, 10] (fun vo vi w8 => ∃ (i : Nat) (W8 : World), W8 = w8 ∧ i ≤ k ∧ vi = .int .i64 i ∧ Grow byteL 5 w7 w8 vo ((G1.take i).map (fun r => r.getD k 0))) (fun _ vi _ => k - (intOf vi).toNat)
        case atStart => exact ⟨0, _, rfl, by omega, rfl, Grow.madeN (Chg.refl [] _) (by simp)⟩
        case round =>
          obtain ⟨i, w8, rfl, hi, rfl, hg8⟩ := hrel
          by_cases hlt3 : i < k
          · obtain ⟨x, A, C, f8, HX, hcx⟩ := (HR7.out.ext hH7 hg8.chg).at hlt3
            rw [Nat.zero_add] at hcx
            have HXM := Lib.hid (show x.length = k + 1 from Wide.at HGI.out.2.1 HX.out.1)
            have hxk : k < x.length := by have := HXM.out; omega
            obtain ⟨y, Y, b2, o2, HY, rfl, hcy, hy1, hy2⟩ := byte_at HX.out.2.1 hxk
            rw [HY.out.2.1] at hcy
            have HE := Lib.hid (show (G1.take (i + 1)).map (fun r => r.getD k 0) = (G1.take i).map (fun r => r.getD k 0) ++ [y] by
              rw [take_next HX.out.1, List.map_append]
              congr 1
              show [x.getD k 0] = [y]
              rw [List.getD_eq_getElem?_getD, HY.out.1]; rfl)
            have HL2 : RowKit.Hid (((G1.take i).map (fun r => r.getD k 0)).length + [y].length ≤ maxLen ∧ (((G1.take i).map (fun r => r.getD k 0)).length + [y].length) * 1 ≤ 140737488355328) := by
              have := List.length_take_le i G1
              refine ⟨?_, ?_⟩ <;> simp only [List.length_cons, List.length_nil, maxLen, List.length_map] <;> omega
            have HG8 := Lib.hid hg8
            clear hg8 hy1 hy2
            go_wp2_with (at_builtin; refine byteL.wpList_grow rfl _ _ 22 rfl Try.underlying22 KB rfl HG8.out ((Chg.refl [] w8).alloc _) ⟨w8.heap.size, 0, none⟩ 1 1 [.int .u8 ((y.toNat : Nat) : Int)] (ys := [y]) (f := []) rfl rfl (new_cell _ _ _) (byte_all1 rfl) (Fresh.nil _ _) HL2.out.1 HL2.out.2 ?_; intro v' w' hg'; rw [← HE.out] at hg'; have HN := Lib.hid hg'; clear hg')
            go_roundw
            case rel => exact ⟨i + 1, _, rfl, by omega, by go_num, HN.out⟩
            case measure => simp [intOf]; omega
          · obtain rfl : i = k := by omega
            rw [List.take_of_length_le (by have := HGL.out; omega)] at hg8
            obtain ⟨a9, c9, f9, rfl, hs9, hf9, hc9⟩ := (hg8.since HC7.out).bytes
            have HN := Lib.hid (And.intro hs9 (And.intro hf9 hc9))
            clear hg8 hs9 hf9 hc9 HSV
            generalize G1.map (fun r => r.getD i 0) = z at HN HS ⊢
            go_wp2_with fail
            go_ret2
            rw [HS.out]
            exact ⟨a9, c9, f9, rfl, HN.out.1, HN.out.2.1, HN.out.2.2⟩
end Go.Proofs.Ytjnclggpaekdfaa
