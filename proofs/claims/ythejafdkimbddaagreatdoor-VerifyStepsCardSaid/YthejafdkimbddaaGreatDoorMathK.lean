/- Steps, by both. -/
import Derived.Test.YthejafdkimbddaaGreatDoorMathM
import Derived.Test.YthejafdkimbddaaGreatDoorDecL
namespace Go.Proofs.YthejafdkimbddaaGreatDoor
open Go.Abs
theorem is_eq (c : Int) (s : List UInt8) (m : Mp Ring_tagged Int) : verify_is c s ringK m = some (decide (0 ≤ c) && decide (c < 3)) := by
  unfold verify_is ring_Ring_Clients verify_is_J1
  have hl : ((ringK.l.length : Nat) : Int) = 3 := rfl
  rw [Option.bind_some, hl, geB, ltB]
  by_cases h : 0 ≤ c <;> simp [h]
theorem r14_is_eq (c : Int) (b : Sl Affidavitref04_Line) : r14_is c (ringR b) = some (decide (0 ≤ c) && decide (c < 3)) := by
  unfold r14_is r14_is_J1
  have hl : (ringR b).N = 3 := rfl
  rw [hl, geB, ltB]
  by_cases h : 0 ≤ c <;> simp [h]
theorem holds_eq (c d : Int) (t : List UInt8) (g : Arr 32) (s : List UInt8) (m : Mp Ring_tagged Int) : verify_holds ⟨c, d, t, g⟩ s ringK m = some (isTag c d t g) := by
  unfold verify_holds
  rw [check_eq, Option.bind_some]
theorem tagged_eq (c d : Int) (t : List UInt8) (g : Arr 32) (b : Sl Affidavitref04_Line) : r14_tagged c d t g (ringR b) = some (isTag c d t g) := by
  unfold r14_tagged
  rw [r04_check_eq, Option.bind_some]
theorem step_eq (d : List UInt8) (p : Pending) (hd : d.length < 1000000) (s : List UInt8) (m : Mp Ring_tagged Int) (b : Sl Affidavitref04_Line) : ∃ r, verify_Step d p s ringK m = some r ∧ r14_Step d p (ringR b) = some r := by
  unfold verify_Step r14_Step
  rw [is_eq, is_eq, r14_is_eq, r14_is_eq, Option.bind_some, Option.bind_some, Option.bind_some, Option.bind_some]
  by_cases hc : (decide (0 ≤ p.Client) && decide (p.Client < 3)) = true
  case neg => rw [if_neg hc, if_neg hc]; exact ⟨_, rfl, rfl⟩
  rw [if_pos hc, if_pos hc]
  by_cases ht : (decide (0 ≤ p.Target) && decide (p.Target < 3)) = true
  case neg => rw [if_neg ht, if_neg ht]; exact ⟨_, rfl, rfl⟩
  rw [if_pos ht, if_pos ht]
  by_cases hn1 : iLt p.Number 1 = true
  · rw [if_pos hn1, if_pos hn1]; exact ⟨_, rfl, rfl⟩
  rw [if_neg hn1, if_neg hn1]
  by_cases hn2 : iGt p.Number 512 = true
  · rw [if_pos hn2, if_pos hn2]; exact ⟨_, rfl, rfl⟩
  rw [if_neg hn2, if_neg hn2]
  rw [ltB] at hn1
  rw [gtB] at hn2
  simp only [Bool.and_eq_true, decide_eq_true_eq] at hc ht hn1 hn2
  by_cases hk : p.Kind = 1 ∨ p.Kind = 2
  case neg =>
    refine ⟨([], 2), ?_, ?_⟩
    · rw [if_pos (by simp; omega), if_pos (by simp; omega)]
    · by_cases h : p.Kind < 1
      · rw [if_pos (by rw [ltB]; simp; omega)]
      · rw [if_neg (by rw [ltB]; simp; omega), if_pos (by rw [gtB]; simp; omega)]
  have hJ : ∃ r, verify_Step_J1 d p s ringK m = some r ∧ ((r09_Count d p.Client).bind fun y151 => if (iAdd .i64 y151 1 != p.Number) = true then some ([], 8) else (r10_Ints (⟨false, true, [p.Client, p.Number, p.Kind, p.Target]⟩ : Sl Int)).bind fun y158 => (r14_tagged p.Client 1 y158 p.Asked (ringR b)).bind fun y159 => if y159 = true then if iGt p.Number 1 = true then (r09_Upto d p.Client).bind fun y178 => (r14_tagged p.Client 3 y178 p.Proof (ringR b)).bind fun y179 => if y179 = true then r14_Step_J1 d p else some ([], 7) else r14_Step_J1 d p else some ([], 7)) = some r := by
    unfold verify_Step_J1
    have hnum : ∀ n ∈ [p.Client, p.Number, p.Kind, p.Target], numOkI n := fun n hn => by
      simp only [List.mem_cons, List.not_mem_nil, or_false] at hn
      rcases hn with rfl | rfl | rfl | rfl <;> constructor <;> omega
    rw [asked_eq p.Client ⟨p.Number, p.Kind, p.Target, [], Arr.zero 32, Arr.zero 32⟩ hnum, Option.bind_some, count_eq (by omega), Option.bind_some, r09_count_eq (by omega), Option.bind_some, r10_ints_eq _ (by simp) hnum, Option.bind_some, holds_eq, Option.bind_some, tagged_eq, Option.bind_some]
    have hcl := cntI_le d p.Client
    rw [add1 (by omega) (by omega)]
    by_cases hN : p.Number = (cntI d p.Client : Int) + 1
    case neg =>
      have q1 : (p.Number != (cntI d p.Client : Int) + 1) = true := by simp; omega
      have q2 : ((cntI d p.Client : Int) + 1 != p.Number) = true := by simp; omega
      rw [if_pos q1, if_pos q2]; exact ⟨_, rfl, rfl⟩
    have q1 : ¬ (p.Number != (cntI d p.Client : Int) + 1) = true := by simp; omega
    have q2 : ¬ ((cntI d p.Client : Int) + 1 != p.Number) = true := by simp; omega
    rw [if_neg q1, if_neg q2]
    have hend : ∃ r, (if iGe (d.length : Int) 512 = true then some ([], 11) else verify_Step_J2 d p) = some r ∧ r14_Step_J1 d p = some r := by
      unfold r14_Step_J1 verify_Step_J2 r14_add
      by_cases h : iGe (d.length : Int) 512 = true
      · rw [if_pos h, if_pos h]; exact ⟨_, rfl, rfl⟩
      · rw [if_neg h, if_neg h, catS_in (by simp [bytesS]; omega)]
        exact ⟨_, rfl, rfl⟩
    simp only
    by_cases h1 : isTag p.Client 1 (numsB [p.Client, p.Number, p.Kind, p.Target]) p.Asked = true
    case neg => rw [if_neg h1, if_neg h1]; exact ⟨_, rfl, rfl⟩
    rw [if_pos h1, if_pos h1]
    by_cases h2 : iGt p.Number 1 = true
    case neg => rw [if_neg h2, if_neg h2]; exact hend
    rw [if_pos h2, if_pos h2]
    obtain ⟨o, ho⟩ := upto_ex d p.Client
    rw [upto_eq ho (by omega), Option.bind_some, r09_upto_eq ho (by omega), Option.bind_some, holds_eq, Option.bind_some, tagged_eq, Option.bind_some]
    by_cases h3 : isTag p.Client 3 o p.Proof = true
    case neg => rw [if_neg h3, if_neg h3]; exact ⟨_, rfl, rfl⟩
    rw [if_pos h3, if_pos h3]
    exact hend
  obtain ⟨r, e1, e2⟩ := hJ
  have k1 : ¬ iLt p.Kind 1 = true := by rw [ltB]; simp; omega
  have k2 : ¬ iGt p.Kind 2 = true := by rw [gtB]; simp; omega
  rw [if_neg k1, if_neg k2, e2]
  refine ⟨r, ?_, rfl⟩
  rcases hk with hk | hk
  · rw [if_neg (by simp [hk]), e1]
  · rw [if_pos (by simp [hk]), if_neg (by simp [hk]), e1]
theorem steps_true (d : List UInt8) (p : Pending) (hA : awakeF = some true) : l14_VerifySteps d p = some true := by
  unfold l14_VerifySteps
  rw [ring_New_eq, Option.bind_some]
  unfold r04_New
  rw [Option.bind_some, hA, gtB]
  by_cases h : d.length ≤ 600
  · rw [if_neg (by simp; omega)]
    obtain ⟨r, e1, e2⟩ := step_eq d p (by omega) seedB Mp.none ⟨true, true, []⟩
    have e2' : r14_Step d p (⟨[115, 101, 101, 100], 3, (⟨true, true, []⟩ : Sl Affidavitref04_Line)⟩ : Affidavitref04_Ring) = some r := e2
    simp only
    rw [e1, Option.bind_some, e2', Option.bind_some, Option.bind_some, if_pos rfl, if_pos (by simp)]
    simp [l14_VerifySteps_J1]
  · rw [if_pos (by simp; omega)]
    rfl
end Go.Proofs.YthejafdkimbddaaGreatDoor
