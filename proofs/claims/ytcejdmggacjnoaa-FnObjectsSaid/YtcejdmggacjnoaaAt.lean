
/- What is read at the types of this program lies as the layouts say. -/
import Derived.Test.YtcejdmggacjnoaaRows
import Derived.Test.YtcejdmggacjnoaaWld
namespace Go.Proofs.Ytcejdmggacjnoaa
open Go.RowKit

theorem u8_of_wf {v : Int} (h : (Lit.int .u8 v).wf = true) : ∃ x : UInt8, v = x.toNat := by
  simp only [Lit.wf, Bool.and_eq_true, decide_eq_true_eq] at h
  have h1 : (0 : Int) ≤ v := h.1
  have h2 : v ≤ 255 := h.2
  refine ⟨UInt8.ofNat v.toNat, ?_⟩
  rw [UInt8.toNat_ofNat']
  omega
theorem i64_of_wf {v : Int} (h : (Lit.int .i64 v).wf = true) : i64ok v := by
  simp only [Lit.wf, Bool.and_eq_true, decide_eq_true_eq] at h
  exact ⟨h.1, h.2⟩

theorem op_byte : Opens Try.prog 5 byteL := opens_byte Try.underlying5 (by kernel_rfl)
theorem op_int : Opens Try.prog 2 intL := opens_int Try.underlying2 (by kernel_rfl)
theorem op_bool : Opens Try.prog 4 boolL := opens_bool Try.underlying4 (by kernel_rfl)
theorem op_str : Opens Try.prog 9 strL := opens_str Try.underlying9 (by kernel_rfl)
theorem op_bytes : Opens Try.prog 24 byteL.slice := opens_slice Try.underlying24 (by kernel_rfl) op_byte
theorem op_lists : Opens Try.prog 25 byteL.slice.slice := opens_slice Try.underlying25 (by kernel_rfl) op_bytes
theorem op_ints : Opens Try.prog 77 intL.slice := opens_slice Try.underlying77 (by kernel_rfl) op_int
theorem op_shp : Opens Try.prog 23 shpL :=
  opens_via (opens_struct Try.underlying23 (by kernel_rfl) (opensF_cons op_int (opensF_cons op_int (opensF_cons op_int (opensF_cons op_int (opensF_cons op_int (opensF_cons op_int (opensF_cons op_int (opensF_cons op_int (opensF_last op_int)))))))))) shpT shpU (fun _ => rfl)
end Go.Proofs.Ytcejdmggacjnoaa
