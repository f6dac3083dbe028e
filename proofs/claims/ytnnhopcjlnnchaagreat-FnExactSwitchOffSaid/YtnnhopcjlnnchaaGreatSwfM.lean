import Derived.Test.YtnnhopcjlnnchaaGreatMf
import Derived.Test.YtnnhopcjlnnchaaGreatMd
/- SwitchOff: both sides. -/
namespace Go.Proofs.YtnnhopcjlnnchaaGreat
open Go.RowKit

/-- the copy of a world, in a box m, whose list of what is on is another -/
theorem on_swap (x : Wld) (ys : List Int) {B m l c : Nat} {a : Option Addr} {S f' : List Nat} {wk w' : World} {p10 p11 p12 : Option Addr} {m10 d10 m11 d11 m12 d12 : Nat} {g10 g11 g12 : List Nat}
    (ho : i64ok x.shape.groups ∧ i64ok x.shape.column ∧ i64ok x.shape.data ∧ i64ok x.shape.spare ∧ i64ok x.shape.rows ∧ i64ok x.shape.cap ∧ i64ok x.shape.batch ∧ i64ok x.shape.queue ∧ i64ok x.shape.stage ∧ i64ok x.writes ∧ i64ok x.stop) (h10 : drvL.slice.sl wk p10 m10 d10 x.groups g10) (h12 : tapL.sl wk p12 m12 d12 x.tapes g12)
    (hf : Fresh B wk (g10 ++ (g11 ++ (g12 ++ [])))) (hB : B ≤ wk.heap.size) (hlt : ∀ y ∈ g10 ++ (g11 ++ (g12 ++ [])), y < m) (hm : wk.heap[m]? = some (.cells #[.int .i64 x.shape.groups, .int .i64 x.shape.column, .int .i64 x.shape.data, .int .i64 x.shape.spare, .int .i64 x.shape.rows, .int .i64 x.shape.cap, .int .i64 x.shape.batch, .int .i64 x.shape.queue, .int .i64 x.shape.stage, .slice p10 m10 d10, .slice p11 m11 d11, .slice p12 m12 d12, .int .i64 x.writes, .int .i64 x.stop, .bool x.down] 40 (0, 0)))
    (hw : Chg S wk w') (hS : ∀ y ∈ S, y ∈ g11) (hs : intL.sl w' a l c ys f') (hnd : f'.Nodup) (hn : ∀ y ∈ f', y ∈ g11 ∨ (wk.heap.size ≤ y ∧ Loose w' y)) :
    wldL.rep (w'.setCell ⟨m, 10, none⟩ (.slice a l c)) [.int .i64 x.shape.groups, .int .i64 x.shape.column, .int .i64 x.shape.data, .int .i64 x.shape.spare, .int .i64 x.shape.rows, .int .i64 x.shape.cap, .int .i64 x.shape.batch, .int .i64 x.shape.queue, .int .i64 x.shape.stage, .slice p10 m10 d10, .slice a l c, .slice p12 m12 d12, .int .i64 x.writes, .int .i64 x.stop, .bool x.down] { x with on := ys } (g10 ++ (f' ++ (g12 ++ []))) ∧ Fresh B (w'.setCell ⟨m, 10, none⟩ (.slice a l c)) (g10 ++ (f' ++ (g12 ++ []))) ∧ Chg (m :: S) wk (w'.setCell ⟨m, 10, none⟩ (.slice a l c)) ∧
      (w'.setCell ⟨m, 10, none⟩ (.slice a l c)).heap[m]? = some (.cells #[.int .i64 x.shape.groups, .int .i64 x.shape.column, .int .i64 x.shape.data, .int .i64 x.shape.spare, .int .i64 x.shape.rows, .int .i64 x.shape.cap, .int .i64 x.shape.batch, .int .i64 x.shape.queue, .int .i64 x.shape.stage, .slice p10 m10 d10, .slice a l c, .slice p12 m12 d12, .int .i64 x.writes, .int .i64 x.stop, .bool x.down] 40 (0, 0)) ∧ ∀ y ∈ S, y < m := by
  obtain ⟨o1, o2, o3, o4, o5, o6, o7, o8, o9, o13, o14⟩ := ho
  have nm := ltOf hm
  have nd := List.nodup_append.1 hf.1; have nd2 := List.nodup_append.1 nd.2.1
  have hSm : ∀ y ∈ S, y < m := fun y hy => hlt y (by simp [hS y hy])
  have hmS : m ∉ S := fun hk => Nat.lt_irrefl _ (hSm m hk)
  have hmf : m ∉ f' := fun hk => by
    rcases hn m hk with h1 | h1
    · have := hlt m (by simp [h1]); omega
    · omega
  have hcW : Chg (m :: S) wk (w'.setCell ⟨m, 10, none⟩ (.slice a l c)) := (hw.mono (T := m :: S) (fun y hy => .inl (by simp [hy]))).setCell _ _ (.inl (by simp))
  have hcm : Chg [m] w' (w'.setCell ⟨m, 10, none⟩ (.slice a l c)) := (Chg.refl _ _).setCell _ _ (.inl (by simp))
  have k10 := drvL.slice.sl_chg h10 hcW (fun y hy hm' => by
    rcases List.mem_cons.1 hm' with e | e
    · subst e; have := hlt _ (List.mem_append.2 (.inl hy)); omega
    · exact nd.2.2 y hy y (by simp [hS y e]) rfl)
  have k12 := tapL.sl_chg h12 hcW (fun y hy hm' => by
    rcases List.mem_cons.1 hm' with e | e
    · subst e; have := hlt y (by simp [hy]); omega
    · exact nd2.2.2 y (hS y e) y (by simp [hy]) rfl)
  have k11 := intL.sl_chg hs hcm (fun y hy hm' => by rw [List.mem_singleton] at hm'; subst hm'; exact hmf hy)
  have hrow : w'.heap[m]? = some (.cells #[.int .i64 x.shape.groups, .int .i64 x.shape.column, .int .i64 x.shape.data, .int .i64 x.shape.spare, .int .i64 x.shape.rows, .int .i64 x.shape.cap, .int .i64 x.shape.batch, .int .i64 x.shape.queue, .int .i64 x.shape.stage, .slice p10 m10 d10, .slice p11 m11 d11, .slice p12 m12 d12, .int .i64 x.writes, .int .i64 x.stop, .bool x.down] 40 (0, 0)) := hw.keepb hm hmS
  have fr : Fresh B (w'.setCell ⟨m, 10, none⟩ (.slice a l c)) (g10 ++ (f' ++ (g12 ++ []))) := (hf.chg hcW).swap2 hnd (fun y hy => by
    rcases hn y hy with h1 | h1
    · exact .inl h1
    · exact .inr ⟨fun h2 => by have := hlt y h2; omega, Nat.le_trans hB h1.1, hcm.loose y h1.2⟩)
  exact ⟨wldL_iff.2 ⟨p10, m10, d10, g10, a, l, c, f', p12, m12, d12, g12, rfl, o1, o2, o3, o4, o5, o6, o7, o8, o9, k10, k11, k12, o13, o14, rfl⟩, fr, hcW, heap_set_lit (cur := #[.int .i64 x.shape.groups, .int .i64 x.shape.column, .int .i64 x.shape.data, .int .i64 x.shape.spare, .int .i64 x.shape.rows, .int .i64 x.shape.cap, .int .i64 x.shape.batch, .int .i64 x.shape.queue, .int .i64 x.shape.stage, .slice p10 m10 d10, .slice p11 m11 d11, .slice p12 m12 d12, .int .i64 x.writes, .int .i64 x.stop, .bool x.down]) hrow rfl, hSm⟩
noncomputable def offQ (x : Wld) (g : Int) : Int := if pb (x.isGroup g) = false then 3 else if pb (g ∈ x.on) = false then 8 else 0
theorem offQ_out {x : Wld} {g : Int} (h2 : ¬ (0 ≤ g ∧ g ≤ x.shape.all - 1)) : offQ x g = 3 := if_pos (pb_false (P := x.isGroup g) h2)
theorem offQ_off {x : Wld} {g : Int} (h2 : 0 ≤ g ∧ g ≤ x.shape.all - 1) (h3 : ¬ g ∈ x.on) : offQ x g = 8 := by unfold offQ; rw [if_neg (by rw [pb_true (P := x.isGroup g) h2]; simp), if_pos (pb_false h3)]
theorem offQ_ok {x : Wld} {g : Int} (h2 : 0 ≤ g ∧ g ≤ x.shape.all - 1) (h3 : g ∈ x.on) : offQ x g = 0 := by unfold offQ; rw [if_neg (by rw [pb_true (P := x.isGroup g) h2]; simp), if_neg (by rw [pb_true h3]; simp)]
theorem offQ_on {x : Wld} {g : Int} (h : offQ x g = 0) : g ∈ x.on := by
  refine Classical.byContradiction (fun hn => ?_)
  unfold offQ at h
  rw [if_pos (pb_false (P := g ∈ x.on) hn)] at h
  split at h <;> omega
theorem offQ_i64 (x : Wld) (g : Int) : i64ok (offQ x g) := by
  unfold offQ i64ok
  repeat' split
  all_goals omega
theorem offR_bad {x : Wld} {g : Int} (h : ¬ x.up = 0) : offR x g = ⟨x.up, zWld⟩ := if_pos h
theorem offR_q {x : Wld} {g : Int} (h : x.up = 0) (h2 : ¬ offQ x g = 0) : offR x g = ⟨offQ x g, zWld⟩ := by
  unfold offR offQ at *
  rw [if_neg (fun g => g h)]
  split <;> rename_i h3
  · rfl
  · rw [if_neg h3] at h2
    split <;> rename_i h4
    · rfl
    · rw [if_neg h4] at h2; exact absurd rfl h2
theorem offR_ok {x : Wld} {g : Int} (h : x.up = 0) (h2 : offQ x g = 0) : offR x g = ⟨0, { x with on := x.on.filter (fun y => y != g) }⟩ := by
  unfold offR offQ at *
  rw [if_neg (fun g => g h)]
  split <;> rename_i h3
  · rw [if_pos h3] at h2; omega
  · rw [if_neg h3] at h2
    split <;> rename_i h4
    · rw [if_pos h4] at h2; omega
    · rfl
set_option maxHeartbeats 2000000 in
theorem groupFault_any (x : Wld) (hs : x.shape.ok) (b : Nat) {a10 a11 a12 : Option Addr} {l10 c10 l11 c11 l12 c12 : Nat} (f11 : List Nat) (g : Int) (w : World) (h : w.heap[b]? = some (.cells #[.int .i64 x.shape.groups, .int .i64 x.shape.column, .int .i64 x.shape.data, .int .i64 x.shape.spare, .int .i64 x.shape.rows, .int .i64 x.shape.cap, .int .i64 x.shape.batch, .int .i64 x.shape.queue, .int .i64 x.shape.stage, .slice a10 l10 c10, .slice a11 l11 c11, .slice a12 l12 c12, .int .i64 x.writes, .int .i64 x.stop, .bool x.down] 40 (0, 0))) (ha : intL.sl w a11 l11 c11 x.on f11) :
    Calls Tryz.prog 90 #[.pointer (some ⟨b, 0, none⟩), .int .i64 g] w fun e w' => e = .returned (.int .i64 (offQ x g)) ∧ Chg [] w w' := by
  have cb := cellsOf h; have nb := ltOf h
  have H := Lib.hid h; have HA := Lib.hid ha
  clear h ha
  go_enter Tryz.func90, Tryz.ntmps90
  go_wp2_with (first | (refine load_wide rfl _ 36 rfl rfl infoSh Tryz.underlying36 H.out rfl ?_) | fail)
  by_cases hg : 0 ≤ g ∧ g ≤ x.shape.all - 1
  · have HI := Lib.hid (show inB g 0 (x.shape.all - 1) = true by simp [inB, hg.1, hg.2])
    refine (st_isGroup_any x.shape hs g _).mono ?_
    rintro e w1 ⟨rfl, hc⟩
    rw [HI.out]
    clear cb nb
    obtain ⟨cb, nb, H1⟩ := bk hc H.out (by simp)
    have HC := Lib.hid hc
    clear hc
    by_cases hon : g ∈ x.on
    · go_wp2_with fail
      refine (st_isOn_any b a11 l11 c11 x.on f11 g _ H1.out (intL.sl_ext HA.out HC.out)).mono ?_
      rintro e w' ⟨rfl, rfl⟩
      rw [pb_true hon]
      go_wp2_with fail
      go_ret
      exact ⟨by rw [offQ_ok hg hon]; rfl, HC.out⟩
    · go_wp2_with fail
      refine (st_isOn_any b a11 l11 c11 x.on f11 g _ H1.out (intL.sl_ext HA.out HC.out)).mono ?_
      rintro e w' ⟨rfl, rfl⟩
      rw [pb_false hon]
      go_wp2_with fail
      go_ret
      exact ⟨by rw [offQ_off hg hon]; rfl, HC.out⟩
  · have HI := Lib.hid (show inB g 0 (x.shape.all - 1) = false by unfold inB; simp; omega)
    refine (st_isGroup_any x.shape hs g _).mono ?_
    rintro e w1 ⟨rfl, hc⟩
    rw [HI.out]
    have HC := Lib.hid hc
    clear hc
    go_wp2_with fail
    go_ret
    exact ⟨by rw [offQ_out hg]; rfl, HC.out⟩

set_option maxRecDepth 100000 in
set_option maxHeartbeats 8000000 in
theorem impl_SwitchOff (x : Wld) (cx : Array Value) (fx : List Nat) (g : Int) (w : World) (hx : wldL.rep w cx.toList x fx) (hz : totWld x ≤ 1048576) (_og : i64ok g) :
    Calls Tryz.prog 36 #[.agg cx, .int .i64 g] w (NewAgg wrsL (offR x g) w) := by
  obtain ⟨a10, l10, c10, _, a11, l11, c11, f11, a12, l12, c12, _, ex, -, -, -, -, -, -, -, -, -, h10, h11, h12, oo13, oo14, -⟩ := wldL_iff.1 hx
  obtain rfl := Array.toList_inj.1 (ex.trans (List.toList_toArray).symm)
  have HW := Lib.hid hx; have HZ := Lib.hid hz; have H10 := Lib.hid h10; have H11 := Lib.hid h11; have H12 := Lib.hid h12; have HOO := Lib.hid (And.intro oo13 oo14)
  have hl11 : l11 ≤ 1048576 := by have h := h11.1; have q10 := totL_nonneg (totL_nonneg totDrv_nonneg) x.groups; have q12 := totL_nonneg totTap_nonneg x.tapes; unfold totWld totIs at hz; omega
  clear hx ex hz h10 h11 h12 oo13 oo14
  have G0 := Lib.hid (show Chg [] w ((w.alloc (.cells #[.int .i64 x.shape.groups, .int .i64 x.shape.column, .int .i64 x.shape.data, .int .i64 x.shape.spare, .int .i64 x.shape.rows, .int .i64 x.shape.cap, .int .i64 x.shape.batch, .int .i64 x.shape.queue, .int .i64 x.shape.stage, .slice a10 l10 c10, .slice a11 l11 c11, .slice a12 l12 c12, .int .i64 x.writes, .int .i64 x.stop, .bool x.down] 40)).alloc (.cells #[.int .i64 0, .int .i64 0, .int .i64 0, .int .i64 0, .int .i64 0, .int .i64 0, .int .i64 0, .int .i64 0, .int .i64 0, .int .i64 0, .slice none 0 0, .slice none 0 0, .slice none 0 0, .int .i64 0, .int .i64 0, .bool false] 48)) from (Chg.alloc (Chg.alloc (Chg.refl [] w) _) _))
  have B0 := Lib.hid (show ((w.alloc (.cells #[.int .i64 x.shape.groups, .int .i64 x.shape.column, .int .i64 x.shape.data, .int .i64 x.shape.spare, .int .i64 x.shape.rows, .int .i64 x.shape.cap, .int .i64 x.shape.batch, .int .i64 x.shape.queue, .int .i64 x.shape.stage, .slice a10 l10 c10, .slice a11 l11 c11, .slice a12 l12 c12, .int .i64 x.writes, .int .i64 x.stop, .bool x.down] 40)).alloc (.cells #[.int .i64 0, .int .i64 0, .int .i64 0, .int .i64 0, .int .i64 0, .int .i64 0, .int .i64 0, .int .i64 0, .int .i64 0, .int .i64 0, .slice none 0 0, .slice none 0 0, .slice none 0 0, .int .i64 0, .int .i64 0, .bool false] 48)).heap[w.heap.size]? = some (.cells #[.int .i64 x.shape.groups, .int .i64 x.shape.column, .int .i64 x.shape.data, .int .i64 x.shape.spare, .int .i64 x.shape.rows, .int .i64 x.shape.cap, .int .i64 x.shape.batch, .int .i64 x.shape.queue, .int .i64 x.shape.stage, .slice a10 l10 c10, .slice a11 l11 c11, .slice a12 l12 c12, .int .i64 x.writes, .int .i64 x.stop, .bool x.down] 40 (0, 0)) from keep_alloc (new_alloc w _) _)
  have B1 := Lib.hid (show ((w.alloc (.cells #[.int .i64 x.shape.groups, .int .i64 x.shape.column, .int .i64 x.shape.data, .int .i64 x.shape.spare, .int .i64 x.shape.rows, .int .i64 x.shape.cap, .int .i64 x.shape.batch, .int .i64 x.shape.queue, .int .i64 x.shape.stage, .slice a10 l10 c10, .slice a11 l11 c11, .slice a12 l12 c12, .int .i64 x.writes, .int .i64 x.stop, .bool x.down] 40)).alloc (.cells #[.int .i64 0, .int .i64 0, .int .i64 0, .int .i64 0, .int .i64 0, .int .i64 0, .int .i64 0, .int .i64 0, .int .i64 0, .int .i64 0, .slice none 0 0, .slice none 0 0, .slice none 0 0, .int .i64 0, .int .i64 0, .bool false] 48)).heap[w.heap.size + 1]? = some (.cells #[.int .i64 0, .int .i64 0, .int .i64 0, .int .i64 0, .int .i64 0, .int .i64 0, .int .i64 0, .int .i64 0, .int .i64 0, .int .i64 0, .slice none 0 0, .slice none 0 0, .slice none 0 0, .int .i64 0, .int .i64 0, .bool false] 48 (0, 0)) from new_at (by simp) _)
  go_enter Tryz.func36, Tryz.ntmps36
  obtain ⟨q, hq⟩ : ∃ q, q = x.up := ⟨_, rfl⟩
  have HQ := Lib.hid hq; clear hq
  go_wp2_with (first | (refine load_wide rfl _ 40 rfl rfl infoWd Tryz.underlying40 B0.out rfl ?_))
  refine (upFault_any x #[.int .i64 x.shape.groups, .int .i64 x.shape.column, .int .i64 x.shape.data, .int .i64 x.shape.spare, .int .i64 x.shape.rows, .int .i64 x.shape.cap, .int .i64 x.shape.batch, .int .i64 x.shape.queue, .int .i64 x.shape.stage, .slice a10 l10 c10, .slice a11 l11 c11, .slice a12 l12 c12, .int .i64 x.writes, .int .i64 x.stop, .bool x.down] fx _ (wldL.ext HW.out G0.out)).mono ?_
  rintro e w1 ⟨rfl, hc⟩
  rw [← HQ.out]
  obtain ⟨c0, n0, A0_1⟩ := bk hc B0.out (by simp)
  obtain ⟨c1, n1, A1_1⟩ := bk hc B1.out (by simp)
  have G1 := Lib.hid (G0.out.trans0 hc)
  have fz := freeOf A1_1.out
  clear hc
  have hqk : i64ok q := by rw [HQ.out]; exact up_i64 x
  by_cases hq0 : q = 0
  · subst hq0
    have hf0 : x.up = 0 := HQ.out.symm
    obtain ⟨-, -, -, -, hok⟩ := up_parts hf0
    obtain ⟨q2, hq2⟩ : ∃ q, q = offQ x g := ⟨_, rfl⟩
    have HQ2 := Lib.hid hq2; clear hq2
    go_wp2_with (first | (refine load_wide rfl _ 40 rfl rfl infoWd Tryz.underlying40 A0_1.out rfl ?_))
    refine (groupFault_any x hok w.heap.size f11 g _ A0_1.out (intL.sl_ext H11.out G1.out)).mono ?_
    rintro e w2 ⟨rfl, hc⟩
    rw [← HQ2.out]
    clear c0 n0
    obtain ⟨c0, n0, A0_2⟩ := bk hc A0_1.out (by simp)
    clear c1 n1
    obtain ⟨c1, n1, A1_2⟩ := bk hc A1_1.out (by simp)
    have G2 := Lib.hid (G1.out.trans0 hc)
    clear fz; have fz := freeOf A1_2.out
    clear hc
    have hqk2 : i64ok q2 := by rw [HQ2.out]; exact offQ_i64 x g
    by_cases hq20 : q2 = 0
    · subst hq20
      have HQ0 := Lib.hid HQ2.out.symm
      go_wp2_with (first | (refine load_wide rfl _ 40 rfl rfl infoWd Tryz.underlying40 A0_2.out rfl ?_))
      refine (cloneWorld_any x #[.int .i64 x.shape.groups, .int .i64 x.shape.column, .int .i64 x.shape.data, .int .i64 x.shape.spare, .int .i64 x.shape.rows, .int .i64 x.shape.cap, .int .i64 x.shape.batch, .int .i64 x.shape.queue, .int .i64 x.shape.stage, .slice a10 l10 c10, .slice a11 l11 c11, .slice a12 l12 c12, .int .i64 x.writes, .int .i64 x.stop, .bool x.down] fx _ (wldL.ext HW.out G2.out) HZ.out).mono ?_
      rintro e w3 ⟨cs2, f2, rfl, hs, hf, hc⟩
      obtain ⟨p10, m10, d10, g10, p11, m11, d11, g11, p12, m12, d12, g12, ex, o1, o2, o3, o4, o5, o6, o7, o8, o9, K10, K11, K12, o13, o14, rfl⟩ := wldL_iff.1 hs
      obtain rfl := Array.toList_inj.1 (ex.trans (List.toList_toArray).symm)
      have HO := Lib.hid (And.intro o1 (And.intro o2 (And.intro o3 (And.intro o4 (And.intro o5 (And.intro o6 (And.intro o7 (And.intro o8 (And.intro o9 (And.intro o13 o14))))))))))
      have HK := Lib.hid (And.intro K10 (And.intro K11 K12)); have HF := Lib.hid hf; have HFn := Lib.hid (fun b hb => (hf.2 b hb).1); have nR0 := n1
      clear hs ex K10 K11 K12 o1 o2 o3 o4 o5 o6 o7 o8 o9 o13 o14 hf
      clear c0 n0
      obtain ⟨c0, n0, A0_3⟩ := bk hc A0_2.out (by simp)
      clear c1 n1
      obtain ⟨c1, n1, A1_3⟩ := bk hc A1_2.out (by simp)
      have G3 := Lib.hid (G2.out.trans0 hc)
      clear fz; have fz := freeOf A1_3.out
      clear hc
      go_upto_region 7 with (refine store_wide rfl _ _ 40 rfl rfl rfl infoWd (new_alloc _ _) rfl rfl rfl ?_; intro w4 hm hc0)
      have hc : Chg [] w3 w4 := ((Chg.refl [] w3).alloc _).trans hc0 (fun y hy => .inr (by rw [List.mem_singleton] at hy; omega)); clear hc0
      have HM := Lib.hid hm; have cm := cellsOf hm; have nm := ltOf hm; have fm := freeOf hm; have nR : w.heap.size + 1 < w3.heap.size := n1; clear hm
      have hF := HF.out.lts; have HKe := Lib.hid (And.intro (drvL.slice.sl_ext HK.out.1 hc) (And.intro (intL.sl_ext HK.out.2.1 hc) (tapL.sl_ext HK.out.2.2 hc))); have HFe := Lib.hid ((HF.out.mono (C := w.heap.size) G2.out.size).chg hc)
      have HFl := Lib.hid hF; clear hF
      clear c0 n0
      obtain ⟨c0, n0, A0_4⟩ := bk hc A0_3.out (by simp)
      clear c1 n1
      obtain ⟨c1, n1, A1_4⟩ := bk hc A1_3.out (by simp)
      have G4 := Lib.hid (G3.out.trans0 hc)
      clear fz; have fz := freeOf A1_4.out
      clear hc
      have hon := Lib.hid (offQ_on HQ0.out)
      obtain ⟨j, hj⟩ := List.getElem?_of_mem hon.out
      obtain ⟨y0, b, off, HX, e11, -, -⟩ := int_at HKe.out.2.1 (show j < m11 by have h1 := (List.getElem?_eq_some_iff.1 hj).1; have h2 := HKe.out.2.1.1; omega)
      subst e11
      have hb11 := HX.out.2.2
      have e11 := isl_fp HKe.out.2.1 (show 0 < m11 by have h1 := (List.getElem?_eq_some_iff.1 hj).1; have h2 := HKe.out.2.1.1; omega)
      subst e11
      have hbm := HFl.out b (by simp); have hbn := HFn.out b (by simp)
      clear HX hj hb11
      go_wp2_with fail
      refine (turnOff_any w3.heap.size b off m11 d11 x.on g w4 HM.out HKe.out.2.1 (HFe.out.2 b (by simp)).2 (by omega) hon.out).mono ?_
      rintro e w8 ⟨rfl, w7, i, hs7, hc7, rfl⟩
      obtain ⟨hrep, hfr, hcW, hrow, hSm⟩ := on_swap x (x.on.filter (fun y => y != g)) HO.out HKe.out.1 HKe.out.2.2 HFe.out G4.out.size HFl.out HM.out hc7 (by simp) hs7 (by simp) (fun y hy => .inl hy)
      have hR7 := hc7.keepb A1_4.out (by simp; omega)
      have hRn : w.heap.size + 1 ∉ g10 ++ ([b] ++ (g12 ++ [])) := fun hy => by have := HFn.out _ hy; omega
      have HE := Lib.hid (And.intro (show wldL.rep (w7.setCell ⟨w3.heap.size, 10, none⟩ (.slice (some ⟨b, off, none⟩) i d11)) [.int .i64 x.shape.groups, .int .i64 x.shape.column, .int .i64 x.shape.data, .int .i64 x.shape.spare, .int .i64 x.shape.rows, .int .i64 x.shape.cap, .int .i64 x.shape.batch, .int .i64 x.shape.queue, .int .i64 x.shape.stage, .slice p10 m10 d10, .slice (some ⟨b, off, none⟩) i d11, .slice p12 m12 d12, .int .i64 x.writes, .int .i64 x.stop, .bool x.down] _ _ from hrep) (And.intro (show Fresh w.heap.size (w7.setCell ⟨w3.heap.size, 10, none⟩ (.slice (some ⟨b, off, none⟩) i d11)) (g10 ++ ([b] ++ (g12 ++ []))) from hfr) (And.intro (show Chg [] w (w7.setCell ⟨w3.heap.size, 10, none⟩ (.slice (some ⟨b, off, none⟩) i d11)) from G4.out.trans hcW (fun y hy => .inr (by rcases List.mem_cons.1 hy with h | h; omega; rw [List.mem_singleton] at h; subst h; have := G2.out.size; omega))) (show w.heap.size + 1 ∉ g10 ++ ([b] ++ (g12 ++ [])) from hRn))))
      have HRR := Lib.hid (keep_set hR7 ⟨w3.heap.size, 10, none⟩ (.slice (some ⟨b, off, none⟩) i d11) (by show w.heap.size + 1 ≠ w3.heap.size; omega)); have HMR := Lib.hid (show (w7.setCell ⟨w3.heap.size, 10, none⟩ (.slice (some ⟨b, off, none⟩) i d11)).heap[w3.heap.size]? = some (.cells #[.int .i64 x.shape.groups, .int .i64 x.shape.column, .int .i64 x.shape.data, .int .i64 x.shape.spare, .int .i64 x.shape.rows, .int .i64 x.shape.cap, .int .i64 x.shape.batch, .int .i64 x.shape.queue, .int .i64 x.shape.stage, .slice p10 m10 d10, .slice (some ⟨b, off, none⟩) i d11, .slice p12 m12 d12, .int .i64 x.writes, .int .i64 x.stop, .bool x.down] 40 (0, 0)) from hrow)
      clear hrep hfr hcW hrow hSm hR7 hRn hs7 hc7 cm nm fm
      go_wp2_with (first | (refine load_wide rfl _ 40 rfl rfl infoWd Tryz.underlying40 HMR.out rfl ?_) | (refine store_wide rfl _ _ 48 rfl rfl rfl infoWR HRR.out rfl rfl rfl ?_; intro w9 hb9 hc9; have HB9 := Lib.hid hb9; have HC9 := Lib.hid hc9; clear hb9 hc9))
      refine bodyPost_ret (v := .agg #[.int .i64 0, .int .i64 x.shape.groups, .int .i64 x.shape.column, .int .i64 x.shape.data, .int .i64 x.shape.spare, .int .i64 x.shape.rows, .int .i64 x.shape.cap, .int .i64 x.shape.batch, .int .i64 x.shape.queue, .int .i64 x.shape.stage, .slice p10 m10 d10, .slice (some ⟨b, off, none⟩) i d11, .slice p12 m12 d12, .int .i64 x.writes, .int .i64 x.stop, .bool x.down]) (results_wide _ _ Tryz.results36 rfl infoWR Tryz.underlying48 HB9.out rfl) rfl (fin9 (0) (i64z) (offR x g) (offR_ok hf0 HQ0.out) HE.out.1 rfl HE.out.2.1 HE.out.2.2.1 HC9.out HE.out.2.2.2 (by omega))
    · have hb2 : ((q2 : Int) != 0) = true := by simpa using hq20
      go_wp2_with (first | (refine store_wide rfl _ _ 48 rfl rfl rfl infoWR A1_2.out rfl rfl rfl ?_; intro w9 hb9 hc9; have HB9 := Lib.hid hb9; have HC9 := Lib.hid hc9; clear hb9 hc9))
      refine bodyPost_ret (v := .agg #[.int .i64 (q2), .int .i64 0, .int .i64 0, .int .i64 0, .int .i64 0, .int .i64 0, .int .i64 0, .int .i64 0, .int .i64 0, .int .i64 0, .slice none 0 0, .slice none 0 0, .slice none 0 0, .int .i64 0, .int .i64 0, .bool false]) (results_wide _ _ Tryz.results36 rfl infoWR Tryz.underlying48 HB9.out rfl) rfl (bad9 (q2) (hqk2) (offR x g) (by rw [offR_q hf0 (by rw [← HQ2.out]; exact hq20), ← HQ2.out]) G2.out HC9.out (by omega))
  · have hb : ((q : Int) != 0) = true := by simpa using hq0
    have hbe : ((q : Int) == 0) = false := by simpa using hq0
    go_wp2_with (first | (refine store_wide rfl _ _ 48 rfl rfl rfl infoWR A1_1.out rfl rfl rfl ?_; intro w9 hb9 hc9; have HB9 := Lib.hid hb9; have HC9 := Lib.hid hc9; clear hb9 hc9))
    refine bodyPost_ret (v := .agg #[.int .i64 (q), .int .i64 0, .int .i64 0, .int .i64 0, .int .i64 0, .int .i64 0, .int .i64 0, .int .i64 0, .int .i64 0, .int .i64 0, .slice none 0 0, .slice none 0 0, .slice none 0 0, .int .i64 0, .int .i64 0, .bool false]) (results_wide _ _ Tryz.results36 rfl infoWR Tryz.underlying48 HB9.out rfl) rfl (bad9 (q) (hqk) (offR x g) (by rw [offR_bad (by rw [← HQ.out]; exact hq0), ← HQ.out]) G1.out HC9.out (by omega))
set_option maxRecDepth 100000 in
set_option maxHeartbeats 8000000 in
theorem spec_SwitchOff (x : Wld) (cx : Array Value) (fx : List Nat) (g : Int) (w : World) (hx : wldL.rep w cx.toList x fx) (hz : totWld x ≤ 1048576) (_og : i64ok g) :
    Calls Tryz.prog 35 #[.agg cx, .int .i64 g] w (NewAgg wrsL (offR x g) w) := by
  obtain ⟨a10, l10, c10, _, a11, l11, c11, f11, a12, l12, c12, _, ex, -, -, -, -, -, -, -, -, -, h10, h11, h12, oo13, oo14, -⟩ := wldL_iff.1 hx
  obtain rfl := Array.toList_inj.1 (ex.trans (List.toList_toArray).symm)
  have HW := Lib.hid hx; have HZ := Lib.hid hz; have H10 := Lib.hid h10; have H11 := Lib.hid h11; have H12 := Lib.hid h12; have HOO := Lib.hid (And.intro oo13 oo14)
  have hl11 : l11 ≤ 1048576 := by have h := h11.1; have q10 := totL_nonneg (totL_nonneg totDrv_nonneg) x.groups; have q12 := totL_nonneg totTap_nonneg x.tapes; unfold totWld totIs at hz; omega
  clear hx ex hz h10 h11 h12 oo13 oo14
  have G0 := Lib.hid (show Chg [] w ((w.alloc (.cells #[.int .i64 x.shape.groups, .int .i64 x.shape.column, .int .i64 x.shape.data, .int .i64 x.shape.spare, .int .i64 x.shape.rows, .int .i64 x.shape.cap, .int .i64 x.shape.batch, .int .i64 x.shape.queue, .int .i64 x.shape.stage, .slice a10 l10 c10, .slice a11 l11 c11, .slice a12 l12 c12, .int .i64 x.writes, .int .i64 x.stop, .bool x.down] 40)).alloc (.cells #[.int .i64 0, .int .i64 0, .int .i64 0, .int .i64 0, .int .i64 0, .int .i64 0, .int .i64 0, .int .i64 0, .int .i64 0, .int .i64 0, .slice none 0 0, .slice none 0 0, .slice none 0 0, .int .i64 0, .int .i64 0, .bool false] 48)) from (Chg.alloc (Chg.alloc (Chg.refl [] w) _) _))
  have B0 := Lib.hid (show ((w.alloc (.cells #[.int .i64 x.shape.groups, .int .i64 x.shape.column, .int .i64 x.shape.data, .int .i64 x.shape.spare, .int .i64 x.shape.rows, .int .i64 x.shape.cap, .int .i64 x.shape.batch, .int .i64 x.shape.queue, .int .i64 x.shape.stage, .slice a10 l10 c10, .slice a11 l11 c11, .slice a12 l12 c12, .int .i64 x.writes, .int .i64 x.stop, .bool x.down] 40)).alloc (.cells #[.int .i64 0, .int .i64 0, .int .i64 0, .int .i64 0, .int .i64 0, .int .i64 0, .int .i64 0, .int .i64 0, .int .i64 0, .int .i64 0, .slice none 0 0, .slice none 0 0, .slice none 0 0, .int .i64 0, .int .i64 0, .bool false] 48)).heap[w.heap.size]? = some (.cells #[.int .i64 x.shape.groups, .int .i64 x.shape.column, .int .i64 x.shape.data, .int .i64 x.shape.spare, .int .i64 x.shape.rows, .int .i64 x.shape.cap, .int .i64 x.shape.batch, .int .i64 x.shape.queue, .int .i64 x.shape.stage, .slice a10 l10 c10, .slice a11 l11 c11, .slice a12 l12 c12, .int .i64 x.writes, .int .i64 x.stop, .bool x.down] 40 (0, 0)) from keep_alloc (new_alloc w _) _)
  have B1 := Lib.hid (show ((w.alloc (.cells #[.int .i64 x.shape.groups, .int .i64 x.shape.column, .int .i64 x.shape.data, .int .i64 x.shape.spare, .int .i64 x.shape.rows, .int .i64 x.shape.cap, .int .i64 x.shape.batch, .int .i64 x.shape.queue, .int .i64 x.shape.stage, .slice a10 l10 c10, .slice a11 l11 c11, .slice a12 l12 c12, .int .i64 x.writes, .int .i64 x.stop, .bool x.down] 40)).alloc (.cells #[.int .i64 0, .int .i64 0, .int .i64 0, .int .i64 0, .int .i64 0, .int .i64 0, .int .i64 0, .int .i64 0, .int .i64 0, .int .i64 0, .slice none 0 0, .slice none 0 0, .slice none 0 0, .int .i64 0, .int .i64 0, .bool false] 48)).heap[w.heap.size + 1]? = some (.cells #[.int .i64 0, .int .i64 0, .int .i64 0, .int .i64 0, .int .i64 0, .int .i64 0, .int .i64 0, .int .i64 0, .int .i64 0, .int .i64 0, .slice none 0 0, .slice none 0 0, .slice none 0 0, .int .i64 0, .int .i64 0, .bool false] 48 (0, 0)) from new_at (by simp) _)
  go_enter Tryz.func35, Tryz.ntmps35
  obtain ⟨q, hq⟩ : ∃ q, q = x.up := ⟨_, rfl⟩
  have HQ := Lib.hid hq; clear hq
  go_wp2_with (first | (refine load_wide rfl _ 40 rfl rfl infoWd Tryz.underlying40 B0.out rfl ?_))
  refine (l5Asked_any x #[.int .i64 x.shape.groups, .int .i64 x.shape.column, .int .i64 x.shape.data, .int .i64 x.shape.spare, .int .i64 x.shape.rows, .int .i64 x.shape.cap, .int .i64 x.shape.batch, .int .i64 x.shape.queue, .int .i64 x.shape.stage, .slice a10 l10 c10, .slice a11 l11 c11, .slice a12 l12 c12, .int .i64 x.writes, .int .i64 x.stop, .bool x.down] fx _ (wldL.ext HW.out G0.out)).mono ?_
  rintro e w1 ⟨rfl, hc⟩
  rw [← HQ.out]
  obtain ⟨c0, n0, A0_1⟩ := bk hc B0.out (by simp)
  obtain ⟨c1, n1, A1_1⟩ := bk hc B1.out (by simp)
  have G1 := Lib.hid (G0.out.trans0 hc)
  have fz := freeOf A1_1.out
  clear hc
  have hqk : i64ok q := by rw [HQ.out]; exact up_i64 x
  by_cases hq0 : q = 0
  · subst hq0
    have hf0 : x.up = 0 := HQ.out.symm
    obtain ⟨-, -, -, -, hok⟩ := up_parts hf0
    by_cases hg : 0 ≤ g ∧ g ≤ x.shape.all - 1
    · have HI := Lib.hid (show inB g 0 (x.shape.all - 1) = true by simp [inB, hg.1, hg.2])
      go_wp2_with (first | (refine load_wide rfl _ 40 rfl rfl infoWd Tryz.underlying40 A0_1.out rfl ?_))
      refine (l5All_any x.shape hok _).mono ?_
      rintro e w2 ⟨rfl, hc⟩
      clear c0 n0
      obtain ⟨c0, n0, A0_2⟩ := bk hc A0_1.out (by simp)
      clear c1 n1
      obtain ⟨c1, n1, A1_2⟩ := bk hc A1_1.out (by simp)
      have G2 := Lib.hid (G1.out.trans0 hc)
      clear fz; have fz := freeOf A1_2.out
      clear hc
      have hak := hok.all
      go_wp2_with (first | (refine load_wide rfl _ 40 rfl rfl infoWd Tryz.underlying40 A0_2.out rfl ?_))
      refine (l1In_any g 0 (x.shape.all - 1) _).mono ?_
      rintro e w' ⟨rfl, rfl⟩
      rw [HI.out]
      by_cases hon0 : g ∈ x.on
      · go_wp2_with (first | (refine load_wide rfl _ 40 rfl rfl infoWd Tryz.underlying40 A0_2.out rfl ?_))
        refine (l1Has_any a11 l11 c11 x.on f11 g _ (intL.sl_ext H11.out G2.out)).mono ?_
        rintro e w' ⟨rfl, rfl⟩
        rw [pb_true hon0]
        have HQ0 := Lib.hid (offQ_ok hg hon0)
        go_wp2_with (first | (refine load_wide rfl _ 40 rfl rfl infoWd Tryz.underlying40 A0_2.out rfl ?_))
        refine (l5Copy_any x #[.int .i64 x.shape.groups, .int .i64 x.shape.column, .int .i64 x.shape.data, .int .i64 x.shape.spare, .int .i64 x.shape.rows, .int .i64 x.shape.cap, .int .i64 x.shape.batch, .int .i64 x.shape.queue, .int .i64 x.shape.stage, .slice a10 l10 c10, .slice a11 l11 c11, .slice a12 l12 c12, .int .i64 x.writes, .int .i64 x.stop, .bool x.down] fx _ (wldL.ext HW.out G2.out) HZ.out).mono ?_
        rintro e w3 ⟨cs2, f2, rfl, hs, hf, hc⟩
        obtain ⟨p10, m10, d10, g10, p11, m11, d11, g11, p12, m12, d12, g12, ex, o1, o2, o3, o4, o5, o6, o7, o8, o9, K10, K11, K12, o13, o14, rfl⟩ := wldL_iff.1 hs
        obtain rfl := Array.toList_inj.1 (ex.trans (List.toList_toArray).symm)
        have HO := Lib.hid (And.intro o1 (And.intro o2 (And.intro o3 (And.intro o4 (And.intro o5 (And.intro o6 (And.intro o7 (And.intro o8 (And.intro o9 (And.intro o13 o14))))))))))
        have HK := Lib.hid (And.intro K10 (And.intro K11 K12)); have HF := Lib.hid hf; have HFn := Lib.hid (fun b hb => (hf.2 b hb).1); have nR0 := n1
        clear hs ex K10 K11 K12 o1 o2 o3 o4 o5 o6 o7 o8 o9 o13 o14 hf
        clear c0 n0
        obtain ⟨c0, n0, A0_3⟩ := bk hc A0_2.out (by simp)
        clear c1 n1
        obtain ⟨c1, n1, A1_3⟩ := bk hc A1_2.out (by simp)
        have G3 := Lib.hid (G2.out.trans0 hc)
        clear fz; have fz := freeOf A1_3.out
        clear hc
        go_upto_region 9 with (refine store_wide rfl _ _ 40 rfl rfl rfl infoWd (new_alloc _ _) rfl rfl rfl ?_; intro w4 hm hc0)
        have hc : Chg [] w3 w4 := ((Chg.refl [] w3).alloc _).trans hc0 (fun y hy => .inr (by rw [List.mem_singleton] at hy; omega)); clear hc0
        have HM := Lib.hid hm; have cm := cellsOf hm; have nm := ltOf hm; have fm := freeOf hm; have nR : w.heap.size + 1 < w3.heap.size := n1; clear hm
        have hF := HF.out.lts; have HKe := Lib.hid (And.intro (drvL.slice.sl_ext HK.out.1 hc) (And.intro (intL.sl_ext HK.out.2.1 hc) (tapL.sl_ext HK.out.2.2 hc))); have HFe := Lib.hid ((HF.out.mono (C := w.heap.size) G2.out.size).chg hc)
        have HFl := Lib.hid hF; clear hF
        clear c0 n0
        obtain ⟨c0, n0, A0_4⟩ := bk hc A0_3.out (by simp)
        clear c1 n1
        obtain ⟨c1, n1, A1_4⟩ := bk hc A1_3.out (by simp)
        have G4 := Lib.hid (G3.out.trans0 hc)
        clear fz; have fz := freeOf A1_4.out
        clear hc
        have hon := Lib.hid (offQ_on HQ0.out)
        go_wp2_with fail
        refine (l5Off_any w3.heap.size p11 m11 d11 x.on g11 g w4 HM.out HKe.out.2.1 (by have h1 := HKe.out.2.1.1; have h2 := H11.out.1; omega)).mono ?_
        rintro e w8 ⟨rfl, w7, v, hg7, rfl⟩
        obtain ⟨a, c, f', rfl, hs7, hf7, hc7⟩ := hg7.sl
        obtain ⟨hrep, hfr, hcW, hrow, hSm⟩ := on_swap x (x.on.filter (fun y => y != g)) HO.out HKe.out.1 HKe.out.2.2 HFe.out G4.out.size HFl.out HM.out hc7 (by simp) hs7 hf7.1 (fun y hy => .inr (hf7.2 y hy))
        have hR7 := hc7.keepb A1_4.out (by simp)
        have hRn : w.heap.size + 1 ∉ g10 ++ (f' ++ (g12 ++ [])) := fun hy => by
          have hk := nm
          rcases List.mem_append.1 hy with h | h
          · have := HFn.out (w.heap.size + 1) (List.mem_append.2 (.inl h)); omega
          · rcases List.mem_append.1 h with h | h
            · have := (hf7.2 _ h).1; omega
            · have := HFn.out (w.heap.size + 1) (List.mem_append.2 (.inr (List.mem_append.2 (.inr h)))); omega
        have HE := Lib.hid (And.intro (show wldL.rep (w7.setCell ⟨w3.heap.size, 10, none⟩ (.slice a (x.on.filter (fun y => y != g)).length c)) [.int .i64 x.shape.groups, .int .i64 x.shape.column, .int .i64 x.shape.data, .int .i64 x.shape.spare, .int .i64 x.shape.rows, .int .i64 x.shape.cap, .int .i64 x.shape.batch, .int .i64 x.shape.queue, .int .i64 x.shape.stage, .slice p10 m10 d10, .slice a (x.on.filter (fun y => y != g)).length c, .slice p12 m12 d12, .int .i64 x.writes, .int .i64 x.stop, .bool x.down] _ _ from hrep) (And.intro (show Fresh w.heap.size (w7.setCell ⟨w3.heap.size, 10, none⟩ (.slice a (x.on.filter (fun y => y != g)).length c)) (g10 ++ (f' ++ (g12 ++ []))) from hfr) (And.intro (show Chg [] w (w7.setCell ⟨w3.heap.size, 10, none⟩ (.slice a (x.on.filter (fun y => y != g)).length c)) from G4.out.trans hcW (fun y hy => .inr (by rcases List.mem_cons.1 hy with h | h; omega; cases h))) (show w.heap.size + 1 ∉ g10 ++ (f' ++ (g12 ++ [])) from hRn))))
        have HRR := Lib.hid (keep_set hR7 ⟨w3.heap.size, 10, none⟩ (.slice a (x.on.filter (fun y => y != g)).length c) (by show w.heap.size + 1 ≠ w3.heap.size; omega)); have HMR := Lib.hid (show (w7.setCell ⟨w3.heap.size, 10, none⟩ (.slice a (x.on.filter (fun y => y != g)).length c)).heap[w3.heap.size]? = some (.cells #[.int .i64 x.shape.groups, .int .i64 x.shape.column, .int .i64 x.shape.data, .int .i64 x.shape.spare, .int .i64 x.shape.rows, .int .i64 x.shape.cap, .int .i64 x.shape.batch, .int .i64 x.shape.queue, .int .i64 x.shape.stage, .slice p10 m10 d10, .slice a (x.on.filter (fun y => y != g)).length c, .slice p12 m12 d12, .int .i64 x.writes, .int .i64 x.stop, .bool x.down] 40 (0, 0)) from hrow)
        clear hrep hfr hcW hrow hSm hR7 hRn hs7 hc7 cm nm fm hf7
        go_wp2_with (first | (refine load_wide rfl _ 40 rfl rfl infoWd Tryz.underlying40 HMR.out rfl ?_) | (refine store_wide rfl _ _ 48 rfl rfl rfl infoWR HRR.out rfl rfl rfl ?_; intro w9 hb9 hc9; have HB9 := Lib.hid hb9; have HC9 := Lib.hid hc9; clear hb9 hc9))
        refine bodyPost_ret (v := .agg #[.int .i64 0, .int .i64 x.shape.groups, .int .i64 x.shape.column, .int .i64 x.shape.data, .int .i64 x.shape.spare, .int .i64 x.shape.rows, .int .i64 x.shape.cap, .int .i64 x.shape.batch, .int .i64 x.shape.queue, .int .i64 x.shape.stage, .slice p10 m10 d10, .slice a (x.on.filter (fun y => y != g)).length c, .slice p12 m12 d12, .int .i64 x.writes, .int .i64 x.stop, .bool x.down]) (results_wide _ _ Tryz.results35 rfl infoWR Tryz.underlying48 HB9.out rfl) rfl (fin9 (0) (i64z) (offR x g) (offR_ok hf0 HQ0.out) HE.out.1 rfl HE.out.2.1 HE.out.2.2.1 HC9.out HE.out.2.2.2 (by omega))
      · go_wp2_with (first | (refine load_wide rfl _ 40 rfl rfl infoWd Tryz.underlying40 A0_2.out rfl ?_))
        refine (l1Has_any a11 l11 c11 x.on f11 g _ (intL.sl_ext H11.out G2.out)).mono ?_
        rintro e w' ⟨rfl, rfl⟩
        rw [pb_false hon0]
        go_wp2_with (first | (refine store_wide rfl _ _ 48 rfl rfl rfl infoWR A1_2.out rfl rfl rfl ?_; intro w9 hb9 hc9; have HB9 := Lib.hid hb9; have HC9 := Lib.hid hc9; clear hb9 hc9))
        refine bodyPost_ret (v := .agg #[.int .i64 (8), .int .i64 0, .int .i64 0, .int .i64 0, .int .i64 0, .int .i64 0, .int .i64 0, .int .i64 0, .int .i64 0, .int .i64 0, .slice none 0 0, .slice none 0 0, .slice none 0 0, .int .i64 0, .int .i64 0, .bool false]) (results_wide _ _ Tryz.results35 rfl infoWR Tryz.underlying48 HB9.out rfl) rfl (bad9 (8) (⟨by omega, by omega⟩) (offR x g) (by rw [offR_q hf0 (by rw [offQ_off hg hon0]; omega), offQ_off hg hon0]) G2.out HC9.out (by omega))
    · have HI := Lib.hid (show inB g 0 (x.shape.all - 1) = false by unfold inB; simp; omega)
      go_wp2_with (first | (refine load_wide rfl _ 40 rfl rfl infoWd Tryz.underlying40 A0_1.out rfl ?_))
      refine (l5All_any x.shape hok _).mono ?_
      rintro e w2 ⟨rfl, hc⟩
      clear c0 n0
      obtain ⟨c0, n0, A0_2⟩ := bk hc A0_1.out (by simp)
      clear c1 n1
      obtain ⟨c1, n1, A1_2⟩ := bk hc A1_1.out (by simp)
      have G2 := Lib.hid (G1.out.trans0 hc)
      clear fz; have fz := freeOf A1_2.out
      clear hc
      have hak := hok.all
      go_wp2_with (first | (refine load_wide rfl _ 40 rfl rfl infoWd Tryz.underlying40 A0_2.out rfl ?_))
      refine (l1In_any g 0 (x.shape.all - 1) _).mono ?_
      rintro e w' ⟨rfl, rfl⟩
      rw [HI.out]
      go_wp2_with (first | (refine store_wide rfl _ _ 48 rfl rfl rfl infoWR A1_2.out rfl rfl rfl ?_; intro w9 hb9 hc9; have HB9 := Lib.hid hb9; have HC9 := Lib.hid hc9; clear hb9 hc9))
      refine bodyPost_ret (v := .agg #[.int .i64 (3), .int .i64 0, .int .i64 0, .int .i64 0, .int .i64 0, .int .i64 0, .int .i64 0, .int .i64 0, .int .i64 0, .int .i64 0, .slice none 0 0, .slice none 0 0, .slice none 0 0, .int .i64 0, .int .i64 0, .bool false]) (results_wide _ _ Tryz.results35 rfl infoWR Tryz.underlying48 HB9.out rfl) rfl (bad9 (3) (⟨by omega, by omega⟩) (offR x g) (by rw [offR_q hf0 (by rw [offQ_out hg]; omega), offQ_out hg]) G2.out HC9.out (by omega))
  · have hb : ((q : Int) != 0) = true := by simpa using hq0
    go_wp2_with (first | (refine store_wide rfl _ _ 48 rfl rfl rfl infoWR A1_1.out rfl rfl rfl ?_; intro w9 hb9 hc9; have HB9 := Lib.hid hb9; have HC9 := Lib.hid hc9; clear hb9 hc9))
    refine bodyPost_ret (v := .agg #[.int .i64 (q), .int .i64 0, .int .i64 0, .int .i64 0, .int .i64 0, .int .i64 0, .int .i64 0, .int .i64 0, .int .i64 0, .int .i64 0, .slice none 0 0, .slice none 0 0, .slice none 0 0, .int .i64 0, .int .i64 0, .bool false]) (results_wide _ _ Tryz.results35 rfl infoWR Tryz.underlying48 HB9.out rfl) rfl (bad9 (q) (hqk) (offR x g) (by rw [offR_bad (by rw [← HQ.out]; exact hq0), ← HQ.out]) G1.out HC9.out (by omega))
end Go.Proofs.YtnnhopcjlnnchaaGreat
