
/- What is read at the types of this program lies as the layouts say. -/
import Derived.Test.YtnnhopcjlnnchaaRows
import Derived.Test.YtnnhopcjlnnchaaWld
namespace Go.Proofs.Ytnnhopcjlnnchaa
open Go.RowKit

theorem u8_of_wf {v : Int} (h : (Lit.int .u8 v).wf = true) : ∃ x : UInt8, v = x.toNat := by
  simp only [Lit.wf, Bool.and_eq_true, decide_eq_true_eq] at h
  have h1 : (0 : Int) ≤ v := h.1
  have h2 : v ≤ 255 := h.2
  refine ⟨UInt8.ofNat v.toNat, ?_⟩
  rw [UInt8.toNat_ofNat']
  omega
theorem i64_of_wf {v : Int} (h : (Lit.int .i64 v).wf = true) : i64ok v := by
  simp only [Lit.wf, Bool.and_eq_true, decide_eq_true_eq] at h
  exact ⟨h.1, h.2⟩

theorem op_byte : Opens Try.prog 5 byteL := opens_byte Try.underlying5 (by kernel_rfl)
theorem op_int : Opens Try.prog 2 intL := opens_int Try.underlying2 (by kernel_rfl)
theorem op_bool : Opens Try.prog 4 boolL := opens_bool Try.underlying4 (by kernel_rfl)
theorem op_str : Opens Try.prog 9 strL := opens_str Try.underlying9 (by kernel_rfl)
theorem op_bytes : Opens Try.prog 64 byteL.slice := opens_slice Try.underlying64 (by kernel_rfl) op_byte
theorem op_ints : Opens Try.prog 26 intL.slice := opens_slice Try.underlying26 (by kernel_rfl) op_int
theorem op_shp : Opens Try.prog 23 shpL :=
  opens_via (opens_struct Try.underlying23 (by kernel_rfl) (opensF_cons op_int (opensF_cons op_int (opensF_cons op_int (opensF_cons op_int (opensF_cons op_int (opensF_cons op_int (opensF_cons op_int (opensF_cons op_int (opensF_last op_int)))))))))) shpT shpU (fun _ => rfl)
theorem op_rec : Opens Try.prog 126 recL :=
  opens_via (opens_struct Try.underlying126 (by kernel_rfl) (opensF_cons op_int (opensF_cons op_int (opensF_cons op_str (opensF_cons op_int (opensF_cons op_int (opensF_cons op_int (opensF_cons op_ints (opensF_cons op_bytes (opensF_last op_bytes)))))))))) recT recU (fun _ => rfl)
theorem op_blk : Opens Try.prog 135 blkL := opens_via (opens_struct Try.underlying135 (by kernel_rfl) (opensF_cons op_int (opensF_last op_bytes))) blkT blkU (fun _ => rfl)
theorem op_blks : Opens Try.prog 106 blkL.slice := opens_slice Try.underlying106 (by kernel_rfl) op_blk
theorem op_drv : Opens Try.prog 108 drvL := opens_via (opens_struct Try.underlying108 (by kernel_rfl) (opensF_cons op_bool (opensF_last op_blks))) drvT drvU (fun _ => rfl)
theorem op_drvs : Opens Try.prog 82 drvL.slice := opens_slice Try.underlying82 (by kernel_rfl) op_drv
theorem op_drvss : Opens Try.prog 37 drvL.slice.slice := opens_slice Try.underlying37 (by kernel_rfl) op_drvs
theorem op_recs : Opens Try.prog 84 recL.slice := opens_slice Try.underlying84 (by kernel_rfl) op_rec
theorem op_tap : Opens Try.prog 86 tapL := opens_via (opens_struct Try.underlying86 (by kernel_rfl) (opensF_cons op_bool (opensF_last op_recs))) tapT tapU (fun _ => rfl)
theorem op_taps : Opens Try.prog 38 tapL.slice := opens_slice Try.underlying38 (by kernel_rfl) op_tap
theorem op_wld : Opens Try.prog 40 wldL := opens_via (opens_struct Try.underlying40 (by kernel_rfl) (opensF_cons op_shp (opensF_cons op_drvss (opensF_cons op_ints (opensF_cons op_taps (opensF_cons op_int (opensF_cons op_int (opensF_last op_bool)))))))) wldT wldU (fun _ => rfl)
end Go.Proofs.Ytnnhopcjlnnchaa
