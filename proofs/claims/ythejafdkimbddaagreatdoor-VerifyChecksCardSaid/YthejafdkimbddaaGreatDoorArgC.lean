/- The argument of VerifyChecks, opened all the way. -/
import Derived.Test.YthejafdkimbddaaGreatDoorArg
import Derived.Test.YthejafdkimbddaaGreatDoorDecC
namespace Go.Proofs.YthejafdkimbddaaGreatDoor
open Go.Abs
theorem cell_pend (p : Pending) : ∀ a∈cPending p,a.isCell=true:=by
 intro a ha
 simp only [cPending,cI,cA,List.mem_append,List.mem_singleton,List.mem_map] at ha
 rcases ha with ((((rfl|rfl)|rfl)|rfl)|⟨_,_,rfl⟩)|⟨_,_,rfl⟩<;>rfl
theorem opens_pends : Opens Tryz.prog 26 (cL cPending) (fun _=>True) :=
 (opens_slice Tryz.underlying26 opens_pending len_cPending (by kernel_rfl) (by decide) cell_pend).mono fun _ _=>trivial
theorem opens_str9 : Opens Tryz.prog 9 cS (fun s=>s.length≤maxLen):=opens_str Tryz.underlying9
theorem opens_submit : Opens Tryz.prog 25 cSubmit (fun _=>True) :=
 (opens_struct (fun p : Int×Int×Int×List UInt8×Arr 32×Arr 32=>(⟨p.1,p.2.1,p.2.2.1,p.2.2.2.1,p.2.2.2.2.1,p.2.2.2.2.2⟩ : Submit)) (fun p=>by simp only [cSubmit,List.append_assoc]) Tryz.underlying25
  (opF_cons opens_int3 (opF_cons opens_int3 (opF_cons opens_int3 (opF_cons opens_str9 (opF_cons opens_dig (opF_last opens_dig ⟨rfl,by kernel_rfl⟩) ⟨rfl,by kernel_rfl⟩) ⟨rfl,by kernel_rfl⟩) ⟨rfl,by kernel_rfl⟩) ⟨rfl,by kernel_rfl⟩) ⟨rfl,by kernel_rfl⟩)).mono fun _ _=>trivial
theorem opens_reply : Opens Tryz.prog 28 cReply (fun r=>r.View.length≤maxLen∧r.Seen.length≤maxLen) :=
 (opens_struct (fun p : Int×Int×List UInt8×Arr 32×Sl Pending×Int×List UInt8×Arr 32×List UInt8×Arr 32=>(⟨p.1,p.2.1,p.2.2.1,p.2.2.2.1,p.2.2.2.2.1,p.2.2.2.2.2.1,p.2.2.2.2.2.2.1,p.2.2.2.2.2.2.2.1,p.2.2.2.2.2.2.2.2.1,p.2.2.2.2.2.2.2.2.2⟩ : Reply)) (fun p=>by simp only [cReply,List.append_assoc]) Tryz.underlying28
  (opF_cons opens_int3 (opF_cons opens_int3 (opF_cons opens_str9 (opF_cons opens_dig (opF_cons opens_pends (opF_cons opens_int3 (opF_cons opens_str9 (opF_cons opens_dig (opF_cons opens_str9 (opF_last opens_dig ⟨rfl,by kernel_rfl⟩) ⟨rfl,by kernel_rfl⟩) ⟨rfl,by kernel_rfl⟩) ⟨rfl,by kernel_rfl⟩) ⟨rfl,by kernel_rfl⟩) ⟨rfl,by kernel_rfl⟩) ⟨rfl,by kernel_rfl⟩) ⟨rfl,by kernel_rfl⟩) ⟨rfl,by kernel_rfl⟩) ⟨rfl,by kernel_rfl⟩)).mono fun r h=>by
   obtain ⟨p,rfl,_,_,h3,_,_,_,_,_,h9,_⟩:=h
   exact ⟨h3,h9⟩
theorem opens_case : Opens Tryz.prog 30 cAffidavitlaw14_Case (fun c=>c.Y.View.length≤maxLen∧c.Y.Seen.length≤maxLen) :=
 (opens_struct (fun p : Int×List UInt8×Submit×Reply=>(⟨p.1,p.2.1,p.2.2.1,p.2.2.2⟩ : Affidavitlaw14_Case)) (fun p=>by simp only [cAffidavitlaw14_Case,List.append_assoc]) Tryz.underlying30
  (opF_cons opens_int3 (opF_cons opens_str9 (opF_cons opens_submit (opF_last opens_reply ⟨rfl,by kernel_rfl⟩) ⟨rfl,by kernel_rfl⟩) ⟨rfl,by kernel_rfl⟩) ⟨rfl,by kernel_rfl⟩)).mono fun c h=>by
   obtain ⟨p,rfl,_,_,_,h4⟩:=h
   exact h4
theorem cell_case (c : Affidavitlaw14_Case) : ∀ a∈cAffidavitlaw14_Case c,a.isCell=true:=by
 intro a ha
 simp only [cAffidavitlaw14_Case,cSubmit,cReply,cI,cS,cA,cL,List.mem_append,List.mem_singleton,List.mem_map] at ha
 have : ∀ {α : Type} {f : α→AV} {l : List α},(∀ x,(f x).isCell=true)→(∃ x∈l,f x=a)→a.isCell=true:=fun hf ⟨x,_,e⟩=>e ▸ hf x
 rcases ha with ((ha|ha)|ha)|ha
 ·rw [ha]; rfl
 ·rw [ha]; rfl
 ·rcases ha with ((((ha|ha)|ha)|ha)|⟨_,_,ha⟩)|⟨_,_,ha⟩<;>(first|rw [ha]|rw [← ha])<;>rfl
 ·rcases ha with ((((((((ha|ha)|ha)|⟨_,_,ha⟩)|ha)|ha)|ha)|⟨_,_,ha⟩)|ha)|⟨_,_,ha⟩<;>(first|rw [ha]|rw [← ha])<;>rfl
end Go.Proofs.YthejafdkimbddaaGreatDoor
