/- The arguments of these laws, opened all the way. -/
import Derived.Test.YthejafdkimbddaaGreatDoorAbnC
import Derived.Test.YthejafdkimbddaaGreatDoorDecT
namespace Go.Proofs.YthejafdkimbddaaGreatDoor
open Go.Abs
theorem opens_dig : Opens Tryz.prog 23 (cA (n:=32) .u8) (fun _=>True):=(opens_arr (n:=32) Tryz.underlying23 Tryz.underlying5 (by kernel_rfl) (by kernel_rfl)).mono fun _ _=>trivial
theorem opens_int3 : Opens Tryz.prog 3 (cI .i64) (fun _=>True):=(opens_int Tryz.underlying3).mono fun _ _=>trivial
theorem opens_pending : Opens Tryz.prog 46 cPending (fun _=>True) :=
 (opens_struct (fun p : Int×Int×Int×Int×Arr 32×Arr 32=>(⟨p.1,p.2.1,p.2.2.1,p.2.2.2.1,p.2.2.2.2.1,p.2.2.2.2.2⟩ : Pending)) (fun p=>by simp only [cPending,List.append_assoc]) Tryz.underlying46
  (opF_cons opens_int3 (opF_cons opens_int3 (opF_cons opens_int3 (opF_cons opens_int3 (opF_cons opens_dig (opF_last opens_dig ⟨rfl,by kernel_rfl⟩) ⟨rfl,by kernel_rfl⟩) ⟨rfl,by kernel_rfl⟩) ⟨rfl,by kernel_rfl⟩) ⟨rfl,by kernel_rfl⟩) ⟨rfl,by kernel_rfl⟩)).mono fun _ _=>trivial
end Go.Proofs.YthejafdkimbddaaGreatDoor
