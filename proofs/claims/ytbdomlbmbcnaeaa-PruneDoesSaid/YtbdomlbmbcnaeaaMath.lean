/- The plain law, first part: loops over lists; what the printed functions of the law PruneNeeds come to. The plain law, second part: fits, many, in, Has, put, Held. The plain law, third part: Add, of both. The plain law, fourth part: what maps and rising lists hold; both Adds are one. The plain law, fifth part: both Adds say the same, and keep what must hold. The plain law, sixth part: Prune, of both. The plain law, seventh part: both Prunes tell the same, and keep what must hold. The plain law, eighth part: a call of both; what the law PruneNeeds answers. The plain law of PruneOnce: each blob is told once at most, and at last. The plain law: Compact on any sorted row; what is held, by both. The plain law: how numbers and books are laid, by both. The plain law: how numbers and lists are read. The plain law: how lists and books are read. The plain law: what was laid is read again; both books say the same; PruneDoes. -/
import Derived.Test.YtbdomlbmbcnaeaaDecA
import Derived.Test.YtbdomlbmbcnaeaaDecO
import Derived.Test.YtbdomlbmbcnaeaaDecD
namespace Go.Proofs.Ytbdomlbmbcnaeaa
open Go.Abs
/-! ### numbers -/
theorem add1 {x : Int} (h0 : 0 ≤ x) (h1 : x < 4611686018427387904) : iAdd .i64 x 1 = x + 1 := by
  simp [iAdd, IntKind.wrap, IntKind.bits, IntKind.signed]; omega
theorem inc {i n : Nat} (h : i < n) (hn : n < 4611686018427387904) : iAdd .i64 (i : Int) 1 = (i : Int) + 1 := add1 (by omega) (by omega)
theorem sub1 {x : Int} (h0 : 0 ≤ x) (h1 : x < 4611686018427387904) : iSub .i64 x 1 = x - 1 := by
  simp [iSub, IntKind.wrap, IntKind.bits, IntKind.signed]; omega
theorem addw {x y : Int} (h0 : -4611686018427387904 ≤ x + y) (h1 : x + y < 4611686018427387904) : iAdd .i64 x y = x + y := by
  simp [iAdd, IntKind.wrap, IntKind.bits, IntKind.signed]; omega
theorem subw {x y : Int} (h0 : -4611686018427387904 ≤ x - y) (h1 : x - y < 4611686018427387904) : iSub .i64 x y = x - y := by
  simp [iSub, IntKind.wrap, IntKind.bits, IntKind.signed]; omega
theorem ltB (x y : Int) : iLt x y = decide (x < y) := by unfold iLt; rw [Bool.eq_iff_iff]; simp [ile_eq]
theorem leB (x y : Int) : iLe x y = decide (x ≤ y) := by unfold iLe; exact ile_eq x y
theorem gtB (x y : Int) : iGt x y = decide (y < x) := by unfold iGt; rw [Bool.eq_iff_iff]; simp [ile_eq]
theorem geB (x y : Int) : iGe x y = decide (y ≤ x) := by unfold iGe; exact ile_eq y x
/-! ### loops -/
theorem loop_by {σ ρ : Type} {B : (σ → Option ρ) → σ → Option ρ} (P : σ → Prop) (rank : σ → Nat) (spec : σ → Option ρ) (h : ∀ k x, P x → (∀ y, P y → rank y < rank x → k y = spec y) → B k x = spec x) : ∀ (d : Nat) (x : σ), P x → rank x < d → loopN B d x = spec x
  | 0, _, _, hd => by omega
  | d + 1, x, hp, hd => h (loopN B d) x hp fun y hy hr => loop_by P rank spec h d y hy (by omega)
theorem loop_fuel {σ ρ : Type} {B : (σ → Option ρ) → σ → Option ρ} (P : σ → Prop) (rank : σ → Nat) (spec : σ → Option ρ) (h : ∀ k x, P x → (∀ y, P y → rank y < rank x → k y = spec y) → B k x = spec x) (x : σ) (hp : P x) (hr : rank x < 18446744073709551616) : loopN B FUEL x = spec x := loop_by P rank spec h FUEL x hp hr
theorem idx_in {α : Type} {l : List α} {i : Nat} (h : i < l.length) : idxL l (i : Int) = some l[i] := by simp [idxL, h]
/-- A loop that runs over a list by its index: what is left of the list says what comes. -/
theorem loop_list {σ ρ α : Type} {B : (σ × Int → Option ρ) → σ × Int → Option ρ} (l : List α) (hl : l.length < 4611686018427387904) (spec : List α → σ → Option ρ)
    (hnil : ∀ k s, B k (s, (l.length : Int)) = spec [] s)
    (hcons : ∀ k s (i : Nat) (h : i < l.length), (∀ s', k (s', (i : Int) + 1) = spec (l.drop (i + 1)) s') → B k (s, (i : Int)) = spec (l.drop i) s) (s : σ) : loopN B FUEL (s, 0) = spec l s := by
  have := loop_fuel (B := B) (fun x => ∃ i : Nat, x.2 = i ∧ i ≤ l.length) (fun x => l.length - x.2.toNat) (fun x => spec (l.drop x.2.toNat) x.1) (fun k x ⟨i, hi, hle⟩ hk => by
    obtain ⟨s, j⟩ := x
    simp only at hi
    subst hi
    simp only [Int.toNat_natCast]
    rcases Nat.lt_or_ge i l.length with h | h
    · refine hcons k s i h fun s' => ?_
      have := hk (s', (i : Int) + 1) ⟨i + 1, by simp, h⟩ (by simp only [Int.toNat_natCast]; omega)
      rw [this]
      simp only
      congr 2
      try omega
    · have : i = l.length := by omega
      subst this
      rw [hnil, List.drop_length]) (s, 0) ⟨0, rfl, Nat.zero_le _⟩ (by simp; omega)
  simpa using this
/-- The same, of a loop whose state is the index alone. -/
theorem loop_idx {ρ α : Type} {B : (Int → Option ρ) → Int → Option ρ} (l : List α) (hl : l.length < 4611686018427387904) (spec : List α → Option ρ)
    (hnil : ∀ k, B k (l.length : Int) = spec [])
    (hcons : ∀ k (i : Nat) (h : i < l.length), k ((i : Int) + 1) = spec (l.drop (i + 1)) → B k (i : Int) = spec (l.drop i)) : loopN B FUEL 0 = spec l := by
  have := loop_fuel (B := B) (fun x => ∃ i : Nat, x = i ∧ i ≤ l.length) (fun x => l.length - x.toNat) (fun x => spec (l.drop x.toNat)) (fun k x ⟨i, hi, hle⟩ hk => by
    subst hi
    simp only [Int.toNat_natCast]
    rcases Nat.lt_or_ge i l.length with h | h
    · refine hcons k i h ?_
      have := hk ((i : Int) + 1) ⟨i + 1, by simp, h⟩ (by simp only [Int.toNat_natCast]; omega)
      rw [this]
      congr 2
      try omega
    · have : i = l.length := by omega
      subst this
      rw [hnil, List.drop_length]) 0 ⟨0, rfl, Nat.zero_le _⟩ (by simp; omega)
  simpa using this
theorem drop_at {α : Type} {l : List α} {i : Nat} (h : i < l.length) : l.drop i = l[i] :: l.drop (i + 1) := List.drop_eq_getElem_cons h
/-- The same, told by the index. -/
theorem loop_nat {ρ : Type} {B : (Int → Option ρ) → Int → Option ρ} (n : Nat) (hl : n < 4611686018427387904) (spec : Nat → Option ρ)
    (hnil : ∀ k, B k (n : Int) = spec n)
    (hcons : ∀ k (i : Nat) (_ : i < n), k ((i : Int) + 1) = spec (i + 1) → B k (i : Int) = spec i) : loopN B FUEL 0 = spec 0 := by
  have := loop_fuel (B := B) (fun x => ∃ i : Nat, x = i ∧ i ≤ n) (fun x => n - x.toNat) (fun x => spec x.toNat) (fun k x ⟨i, hi, hle⟩ hk => by
    subst hi
    simp only [Int.toNat_natCast]
    rcases Nat.lt_or_ge i n with h | h
    · refine hcons k i h ?_
      have := hk ((i : Int) + 1) ⟨i + 1, by simp, h⟩ (by simp only [Int.toNat_natCast]; omega)
      rw [this]
      congr 1
    · have : i = n := by omega
      subst this
      exact hnil k) 0 ⟨0, rfl, Nat.zero_le _⟩ (by simp; omega)
  simpa using this
/-! ### what a state says -/
abbrev AS := Int × List Held
def absP (s : Prune_state) : AS := (s.number, s.l.l)
def absR (s : Affidavitref24_State) : AS := (s.N, s.L.l)
/-- How long things may be. -/
def Few (S : List AS) : Prop := S.length < 4611686018427387904 ∧ ∀ s ∈ S, s.2.length < 4611686018427387904
def putS (m : Mp Int Int) (y : Held) : Mp Int Int := Mp.put m y.Number (iAdd .i64 y.Size 1)
def sizesM (S : List AS) : Mp Int Int := S.foldl (fun m s => s.2.foldl putS m) Mp.none
theorem sizes_in (k : (Mp Int Int) × Int → Option (Mp Int Int)) (x : (Mp Int Int) × Int) (y : Prune_state) (m : Mp Int Int) (h : y.l.l.length < 4611686018427387904) :
    loopN (prune_Book_sizes_B242 k x y) FUEL (m, 0) = prune_Book_sizes_J7 k x (y.l.l.foldl putS m) := by
  refine loop_list y.l.l h (fun l m => prune_Book_sizes_J7 k x (l.foldl putS m)) ?_ ?_ m
  · intro k' s
    unfold prune_Book_sizes_B242
    simp [ltB]
  · intro k' s i hi hk
    unfold prune_Book_sizes_B242
    rw [if_pos (by simp [ltB, hi])]
    simp only [idx_in hi, Option.bind_some]
    rw [inc hi h, hk, drop_at hi]
    rfl
theorem sizes_eq (p : Sl Prune_state) (D : Sl Held) {S : List AS} (hS : p.l.map absP = S) (hf : Few S) : prune_Book_sizes p D = some (sizesM S) := by
  subst hS
  have hlen : p.l.length < 4611686018427387904 := by have := hf.1; simpa using this
  unfold prune_Book_sizes sizesM
  rw [loop_list p.l hlen (fun l m => some ((l.map absP).foldl (fun m s => s.2.foldl putS m) m))]
  · intro k s
    unfold prune_Book_sizes_B215
    simp [ltB, prune_Book_sizes_J4]
  · intro k s i hi hk
    unfold prune_Book_sizes_B215
    rw [if_pos (by simp [ltB, hi])]
    simp only [idx_in hi, Option.bind_some]
    rw [sizes_in _ _ _ _ (by have := hf.2 (absP p.l[i]) (List.mem_map_of_mem (List.getElem_mem hi)); simpa [absP] using this)]
    unfold prune_Book_sizes_J7
    rw [inc hi hlen, hk, drop_at hi]
    rfl
/-! ### plain, Rise -/
def okH (x : Held) : Bool := decide (0 ≤ x.Number) && decide (x.Number ≤ 1099511627776) && decide (0 ≤ x.Size) && decide (x.Size ≤ 4096)
def risesB : Option Int → List Held → Bool
  | _, [] => true
  | o, x :: r => okH x && (match o with | none => true | some p => decide (p < x.Number)) && risesB (some x.Number) r
def prevN (l : List Held) (i : Nat) : Option Int := if i = 0 then none else (l[i - 1]?).map (·.Number)
theorem prevN_succ {l : List Held} {i : Nat} (h : i < l.length) : prevN l (i + 1) = some l[i].Number := by simp [prevN, h]
theorem plain_eq (l : Sl Held) (h : l.l.length < 4611686018427387904) : prune_plain l = some (risesB none l.l) := by
  unfold prune_plain
  rw [loop_nat l.l.length h (fun i => some (risesB (prevN l.l i) (l.l.drop i)))]
  · simp [prevN]
  · intro k
    unfold prune_plain_B1299
    simp [ltB, prune_plain_J4, risesB]
  · intro k i hi hk
    unfold prune_plain_B1299
    rw [if_pos (by simp [ltB, hi]), drop_at hi]
    simp only [idx_in hi, Option.bind_some, risesB, okH, ltB, gtB, leB, prune_plain_J7]
    rw [prevN_succ hi] at hk
    by_cases h1 : l.l[i].Number < 0
    · simp [h1, show ¬ (0 ≤ l.l[i].Number) by omega]
    · rw [if_neg (by simpa using h1)]
      by_cases h2 : 1099511627776 < l.l[i].Number
      · simp [h2, show ¬ (l.l[i].Number ≤ 1099511627776) by omega]
      · rw [if_neg (by simpa using h2)]
        by_cases h3 : l.l[i].Size < 0
        · simp [h3, show ¬ (0 ≤ l.l[i].Size) by omega]
        · rw [if_neg (by simpa using h3)]
          by_cases h4 : 4096 < l.l[i].Size
          · simp [h4, show ¬ (l.l[i].Size ≤ 4096) by omega]
          · rw [if_neg (by simpa using h4)]
            have e1 : decide (0 ≤ l.l[i].Number) = true := by simp; omega
            have e2 : decide (l.l[i].Number ≤ 1099511627776) = true := by simp; omega
            have e3 : decide (0 ≤ l.l[i].Size) = true := by simp; omega
            have e4 : decide (l.l[i].Size ≤ 4096) = true := by simp; omega
            rw [e1, e2, e3, e4, inc hi h, hk]
            by_cases h0 : i = 0
            · subst h0
              simp [prevN]
            · rw [if_pos (by simp; omega)]
              have hs : iSub .i64 (i : Int) 1 = ((i - 1 : Nat) : Int) := by rw [sub1 (by omega) (by omega)]; omega
              have hp : prevN l.l i = some (l.l[i - 1]'(by omega)).Number := by simp [prevN, h0, show i - 1 < l.l.length by omega]
              rw [hs, idx_in (show i - 1 < l.l.length by omega), Option.bind_some, hp]
              by_cases h5 : l.l[i].Number ≤ (l.l[i - 1]'(by omega)).Number
              · simp [h5, show ¬ ((l.l[i - 1]'(by omega)).Number < l.l[i].Number) by omega]
              · rw [if_neg (by simpa using h5)]
                simp [show ((l.l[i - 1]'(by omega)).Number < l.l[i].Number) by omega]
theorem rise_eq (l : Sl Held) (h : l.l.length < 4611686018427387904) : r24_Rise l = some (risesB none l.l) := by
  unfold r24_Rise
  rw [loop_nat l.l.length h (fun i => some (risesB (prevN l.l i) (l.l.drop i)))]
  · simp [prevN]
  · intro k
    unfold r24_Rise_B1324
    simp [ltB, r24_Rise_J4, risesB]
  · intro k i hi hk
    unfold r24_Rise_B1324
    rw [if_pos (by simp [ltB, hi]), drop_at hi]
    simp only [idx_in hi, Option.bind_some, risesB, okH, ltB, gtB, geB, r24_Rise_J7]
    rw [prevN_succ hi] at hk
    by_cases h1 : l.l[i].Number < 0
    · simp [h1, show ¬ (0 ≤ l.l[i].Number) by omega]
    · rw [if_neg (by simpa using h1)]
      by_cases h2 : 1099511627776 < l.l[i].Number
      · simp [h2, show ¬ (l.l[i].Number ≤ 1099511627776) by omega]
      · rw [if_neg (by simpa using h2)]
        by_cases h3 : l.l[i].Size < 0
        · simp [h3, show ¬ (0 ≤ l.l[i].Size) by omega]
        · rw [if_neg (by simpa using h3)]
          by_cases h4 : 4096 < l.l[i].Size
          · simp [h4, show ¬ (l.l[i].Size ≤ 4096) by omega]
          · rw [if_neg (by simpa using h4)]
            have e1 : decide (0 ≤ l.l[i].Number) = true := by simp; omega
            have e2 : decide (l.l[i].Number ≤ 1099511627776) = true := by simp; omega
            have e3 : decide (0 ≤ l.l[i].Size) = true := by simp; omega
            have e4 : decide (l.l[i].Size ≤ 4096) = true := by simp; omega
            rw [e1, e2, e3, e4, inc hi h, hk]
            by_cases h0 : i = 0
            · subst h0
              simp [prevN]
            · rw [if_pos (by simp; omega)]
              have hs : iSub .i64 (i : Int) 1 = ((i - 1 : Nat) : Int) := by rw [sub1 (by omega) (by omega)]; omega
              have hp : prevN l.l i = some (l.l[i - 1]'(by omega)).Number := by simp [prevN, h0, show i - 1 < l.l.length by omega]
              rw [hs, idx_in (show i - 1 < l.l.length by omega), Option.bind_some, hp]
              by_cases h5 : l.l[i].Number ≤ (l.l[i - 1]'(by omega)).Number
              · simp [h5, show ¬ ((l.l[i - 1]'(by omega)).Number < l.l[i].Number) by omega]
              · rw [if_neg (by simpa using h5)]
                simp [show ((l.l[i - 1]'(by omega)).Number < l.l[i].Number) by omega]
end Go.Proofs.Ytbdomlbmbcnaeaa
namespace Go.Proofs.Ytbdomlbmbcnaeaa
open Go.Abs
theorem loop_listP {σ ρ α : Type} {B : (σ × Int → Option ρ) → σ × Int → Option ρ} (l : List α) (hl : l.length < 4611686018427387904) (P : List α → σ → Prop) (spec : List α → σ → Option ρ)
    (hnil : ∀ k s, P [] s → B k (s, (l.length : Int)) = spec [] s)
    (hcons : ∀ k s (i : Nat) (h : i < l.length), P (l.drop i) s → (∀ s', P (l.drop (i + 1)) s' → k (s', (i : Int) + 1) = spec (l.drop (i + 1)) s') → B k (s, (i : Int)) = spec (l.drop i) s) (s : σ) (hs : P l s) : loopN B FUEL (s, 0) = spec l s := by
  have := loop_fuel (B := B) (fun x => ∃ i : Nat, x.2 = i ∧ i ≤ l.length ∧ P (l.drop i) x.1) (fun x => l.length - x.2.toNat) (fun x => spec (l.drop x.2.toNat) x.1) (fun k x ⟨i, hi, hle, hp⟩ hk => by
    obtain ⟨s, j⟩ := x
    simp only at hi hp
    subst hi
    simp only [Int.toNat_natCast]
    rcases Nat.lt_or_ge i l.length with h | h
    · refine hcons k s i h hp fun s' hp' => ?_
      have := hk (s', (i : Int) + 1) ⟨i + 1, by simp, h, hp'⟩ (by simp only [Int.toNat_natCast]; omega)
      rw [this]
      simp only
      congr 2
    · have : i = l.length := by omega
      subst this
      rw [List.drop_length] at hp ⊢
      exact hnil k s hp) (s, 0) ⟨0, rfl, Nat.zero_le _, hs⟩ (by simp; omega)
  simpa using this
/-! ### fits -/
def gM (m : Mp Int Int) (n : Int) : Int := (Mp.get m n).getD 0
def deadM (D : List Held) : Mp Int Int := D.foldl (fun m y => Mp.put m y.Number 1) Mp.none
def fit1 (m dm : Mp Int Int) (x : Held) : Bool := !((decide (0 < gM m x.Number) && !(gM m x.Number == iAdd .i64 x.Size 1)) || decide (0 < gM dm x.Number))
theorem fits_in (l : Sl Held) (m dm : Mp Int Int) (h : l.l.length < 4611686018427387904) : prune_Book_fits_J1 l m dm = some (l.l.all (fit1 m dm)) := by
  unfold prune_Book_fits_J1
  refine loop_idx l.l h (fun r => some (r.all (fit1 m dm))) ?_ ?_
  · intro k
    unfold prune_Book_fits_B1415
    simp [ltB, prune_Book_fits_J5]
  · intro k i hi hk
    unfold prune_Book_fits_B1415
    rw [if_pos (by simp [ltB, hi]), drop_at hi]
    simp only [idx_in hi, Option.bind_some, prune_Book_fits_J8, gtB, inc hi h, hk, List.all_cons]
    have e1 : (Mp.get m l.l[i].Number).getD 0 = gM m l.l[i].Number := rfl
    have e2 : (Mp.get dm l.l[i].Number).getD 0 = gM dm l.l[i].Number := rfl
    rw [e1, e2]
    unfold fit1
    by_cases h1 : 0 < gM m l.l[i].Number
    · rw [if_pos (by simpa using h1)]
      by_cases h2 : gM m l.l[i].Number = iAdd .i64 l.l[i].Size 1
      · rw [if_neg (by simpa using h2)]
        by_cases h3 : 0 < gM dm l.l[i].Number
        · simp [h3]
        · rw [if_neg (by simpa using h3)]
          simp [h2, h3]
      · rw [if_pos (by simpa using h2)]
        simp [h1, h2]
    · rw [if_neg (by simpa using h1)]
      by_cases h3 : 0 < gM dm l.l[i].Number
      · simp [h3]
      · rw [if_neg (by simpa using h3)]
        simp [h1, h3]
theorem fits_eq (l : Sl Held) (p : Sl Prune_state) (D : Sl Held) {S : List AS} (hS : p.l.map absP = S) (hf : Few S) (h : l.l.length < 4611686018427387904) (hD : D.l.length < 4611686018427387904) :
    prune_Book_fits l p D = some (l.l.all (fit1 (sizesM S) (deadM D.l))) := by
  unfold prune_Book_fits deadM
  rw [sizes_eq p D hS hf, Option.bind_some]
  generalize sizesM S = M
  rw [loop_list D.l hD (fun r dm => some (l.l.all (fit1 M (r.foldl (fun m y => Mp.put m y.Number 1) dm))))]
  · intro k s
    unfold prune_Book_fits_B1433
    rw [if_neg (by simp [ltB])]
    exact fits_in l _ s h
  · intro k s i hi hk
    unfold prune_Book_fits_B1433
    rw [if_pos (by simp [ltB, hi])]
    simp only [idx_in hi, Option.bind_some]
    rw [inc hi hD, hk, drop_at hi]
    rfl
/-! ### many -/
def cntW (m : Mp Int Int) (l : List Held) (n : Int) : Int := l.foldl (fun n x => if gM m x.Number = 0 then iAdd .i64 n 1 else n) n
theorem many_eq (l : Sl Held) (p : Sl Prune_state) (D : Sl Held) {S : List AS} (hS : p.l.map absP = S) (hf : Few S) (h : l.l.length < 4611686018427387904) :
    prune_Book_many l p D = some (cntW (sizesM S) l.l (iAdd .i64 ((sizesM S).l.length : Int) (D.l.length : Int))) := by
  unfold prune_Book_many
  rw [sizes_eq p D hS hf, Option.bind_some]
  refine loop_list l.l h (fun r n => some (cntW (sizesM S) r n)) ?_ ?_ _
  · intro k s
    unfold prune_Book_many_B1479
    simp [ltB, prune_Book_many_J4, cntW]
  · intro k s i hi hk
    unfold prune_Book_many_B1479
    rw [if_pos (by simp [ltB, hi])]
    simp only [idx_in hi, Option.bind_some, prune_Book_many_J7, inc hi h, hk, drop_at hi]
    have e1 : (Mp.get (sizesM S) l.l[i].Number).getD 0 = gM (sizesM S) l.l[i].Number := rfl
    rw [e1]
    unfold cntW
    rw [List.foldl_cons]
    by_cases h1 : gM (sizesM S) l.l[i].Number = 0
    · rw [if_pos (by simpa using h1), if_pos h1]
    · rw [if_neg (by simpa using h1), if_neg h1]
/-! ### in, Has -/
def inL : List Held → Int → Int × Bool
  | [], _ => (0, false)
  | y :: r, n => if y.Number = n then (y.Size, true) else inL r n
theorem in_eq (l : Sl Held) (n : Int) (h : l.l.length < 4611686018427387904) : r24_in l n = some (inL l.l n) := by
  unfold r24_in
  refine loop_idx l.l h (fun r => some (inL r n)) ?_ ?_
  · intro k
    unfold r24_in_B501
    simp [ltB, r24_in_J1, inL]
  · intro k i hi hk
    unfold r24_in_B501
    rw [if_pos (by simp [ltB, hi]), drop_at hi]
    simp only [idx_in hi, Option.bind_some, inc hi h, hk, inL]
    by_cases h1 : l.l[i].Number = n
    · rw [if_pos (by simpa using h1), if_pos h1]
    · rw [if_neg (by simpa using h1), if_neg h1]
theorem has_eq (n : Int) (r : Sl Affidavitref24_State) (D : Sl Held) {S : List AS} (hS : r.l.map absR = S) (hf : Few S) : r24_Book_Has n r D = some (S.any fun s => (inL s.2 n).2) := by
  subst hS
  have hlen : r.l.length < 4611686018427387904 := by have := hf.1; simpa using this
  unfold r24_Book_Has
  refine loop_idx r.l hlen (fun q => some ((q.map absR).any fun s => (inL s.2 n).2)) ?_ ?_
  · intro k
    unfold r24_Book_Has_B510
    simp [ltB, r24_Book_Has_J1]
  · intro k i hi hk
    unfold r24_Book_Has_B510
    rw [if_pos (by simp [ltB, hi]), drop_at hi]
    simp only [idx_in hi, Option.bind_some]
    rw [in_eq _ _ (by have := hf.2 (absR r.l[i]) (List.mem_map_of_mem (List.getElem_mem hi)); simpa [absR] using this), Option.bind_some, inc hi hlen, hk]
    simp only [List.map_cons, List.any_cons, absR]
    cases (inL r.l[i].L.l n).2 <;> simp
/-! ### put -/
def putL : List Held → Held → List Held
  | [], x => [x]
  | y :: r, x => if y.Number < x.Number then y :: putL r x else if y.Number = x.Number then y :: r else x :: y :: r
/-- Where a blob belongs. -/
def placeOf : List Held → Held → Nat
  | [], _ => 0
  | y :: r, x => if y.Number < x.Number then placeOf r x + 1 else 0
def putSl (l : Sl Held) (x : Held) : Sl Held := match l.l[placeOf l.l x]? with
  | some y => if y.Number = x.Number then l else ⟨false, false, putL l.l x⟩
  | none => ⟨false, false, putL l.l x⟩
theorem place_le (x : Held) : ∀ l : List Held, placeOf l x ≤ l.length
  | [] => Nat.le_refl _
  | y :: r => by unfold placeOf; split <;> simp [place_le x r]
theorem putL_same {x y : Held} : ∀ {l : List Held}, l[placeOf l x]? = some y → y.Number = x.Number → putL l x = l
  | [], h, _ => by simp [placeOf] at h
  | z :: r, h, he => by
    unfold placeOf at h
    unfold putL
    split at h
    · rename_i hz
      rw [if_pos hz, putL_same (by simpa using h) he]
    · rename_i hz
      simp at h
      subst h
      rw [if_neg hz, if_pos he]
theorem putL_new {x : Held} : ∀ {l : List Held}, (∀ y, l[placeOf l x]? = some y → y.Number ≠ x.Number) → putL l x = l.take (placeOf l x) ++ [x] ++ l.drop (placeOf l x)
  | [], _ => by simp [placeOf, putL]
  | z :: r, h => by
    unfold placeOf at h ⊢
    unfold putL
    split at h
    · rename_i hz
      rw [if_pos hz, if_pos hz, putL_new (l := r) (fun y hy => h y (by simpa using hy))]
      simp
    · rename_i hz
      have := h z (by simp)
      rw [if_neg hz, if_neg hz, if_neg this]
      simp
theorem putSl_l (l : Sl Held) (x : Held) : (putSl l x).l = putL l.l x := by
  unfold putSl
  split
  · rename_i y hy
    split
    · rename_i he
      exact (putL_same hy he).symm
    · rfl
  · rfl
theorem putL_len (x : Held) : ∀ l : List Held, (putL l x).length ≤ l.length + 1
  | [] => by simp [putL]
  | y :: r => by
    unfold putL
    split
    · simp [putL_len x r]
    · split <;> simp
theorem moreOk_of {b n m : Nat} (h : n + m < 1099511627776) (hb : b ≤ 32) : moreOk b n m = true := by
  unfold moreOk
  simp only [Bool.and_eq_true, decide_eq_true_eq]
  refine ⟨by unfold maxLen; omega, ?_⟩
  have : (n + m) * b ≤ (n + m) * 32 := Nat.mul_le_mul_left _ hb
  omega
theorem app_ok {α : Type} {b : Nat} (x : Sl α) (ys : List α) (h : x.l.length + ys.length < 1099511627776) (hb : b ≤ 32) : appL b x ys = some ⟨x.nl && ys.length == 0, false, x.l ++ ys⟩ := by
  unfold appL
  rw [if_pos (moreOk_of h hb)]
theorem appX_ok {α : Type} {b : Nat} (x : Sl α) (ys : List α) (h : x.l.length + ys.length < 1099511627776) (hb : b ≤ 32) : appX b x ys = some ⟨x.nl && ys.length == 0, ys.length == 0, x.l ++ ys⟩ := by
  unfold appX
  rw [if_pos (moreOk_of h hb)]
theorem cut_to {α : Type} (x : Sl α) {p : Nat} (h : p ≤ x.l.length) : cutL x none (some (p : Int)) none = some ⟨x.nl, x.ex && p == x.l.length, x.l.take p⟩ := by
  simp [cutL, boundI, h]
theorem cut_from {α : Type} (x : Sl α) {p : Nat} (h : p ≤ x.l.length) : cutL x (some (p : Int)) none none = some ⟨x.nl, x.ex, x.l.drop p⟩ := by
  simp [cutL, boundI, h]
theorem put_J2 (l : Sl Held) (x : Held) (h : l.l.length < 549755813888) {p : Nat} (hp : p ≤ l.l.length) : r24_put_J2 l x p = some ⟨false, false, l.l.take p ++ [x] ++ l.l.drop p⟩ := by
  unfold r24_put_J2
  rw [cut_to l hp, Option.bind_some, cut_from l hp, Option.bind_some]
  have h1 : (l.l.take p).length = p := by rw [List.length_take]; omega
  have h2 : (l.l.drop p).length = l.l.length - p := List.length_drop
  rw [app_ok _ _ (by simp [h1]; omega) (by decide), Option.bind_some, app_ok _ _ (by simp [h1]; omega) (by decide), Option.bind_some, app_ok _ _ (by simp [h1, h2]; omega) (by decide), Option.bind_some]
  simp [Sl.weak]
theorem put_eq (l : Sl Held) (x : Held) (h : l.l.length < 549755813888) : r24_put l x = some (putSl l x) := by
  have key : r24_put l x = r24_put_J1 l x (placeOf l.l x : Nat) := by
    unfold r24_put
    rw [loop_nat l.l.length (by omega) (fun i => r24_put_J1 l x ((i + placeOf (l.l.drop i) x : Nat) : Int))]
    · simp
    · intro k
      unfold r24_put_B607
      rw [if_neg (by simp [ltB]), List.drop_length]
      rfl
    · intro k i hi hk
      unfold r24_put_B607
      rw [if_pos (by simp [ltB, hi]), drop_at hi]
      simp only [idx_in hi, Option.bind_some, inc hi (show l.l.length < _ by omega), hk, ltB, placeOf]
      by_cases h1 : l.l[i].Number < x.Number
      · rw [if_pos (by simpa using h1), if_pos h1]
        congr 2
        omega
      · rw [if_neg (by simpa using h1), if_neg h1]
        rfl
  rw [key]
  have hple := place_le x l.l
  unfold r24_put_J1 putSl
  by_cases hp : placeOf l.l x < l.l.length
  · rw [if_pos (by simp [ltB, hp]), idx_in hp, Option.bind_some, List.getElem?_eq_getElem hp]
    simp only
    by_cases he : (l.l[placeOf l.l x]).Number = x.Number
    · rw [if_pos (by simpa using he), if_pos he]
    · rw [if_neg (by simpa using he), if_neg he, put_J2 l x h hple, putL_new]
      intro y hy
      rw [List.getElem?_eq_getElem hp] at hy
      cases hy
      exact he
  · rw [if_neg (by simp [ltB]; omega), List.getElem?_eq_none (by omega)]
    simp only
    rw [put_J2 l x h hple, putL_new]
    intro y hy
    rw [List.getElem?_eq_none (by omega)] at hy
    cases hy
theorem putSl_len (l : Sl Held) (x : Held) : (putSl l x).l.length ≤ l.l.length + 1 := by
  rw [putSl_l]
  exact putL_len x l.l
/-! ### Held -/
def totS (S : List AS) : Nat := (S.map (·.2.length)).sum
def flatS (S : List AS) : List Held := S.flatMap (·.2)
theorem flatS_len : ∀ S : List AS, (flatS S).length = totS S
  | [] => rfl
  | s :: S => by simp only [flatS, totS, List.flatMap_cons, List.length_append, List.map_cons, List.sum_cons]; have := flatS_len S; simp only [flatS, totS] at this; omega
theorem fold_put_len : ∀ (xs : List Held) (l : Sl Held), (xs.foldl putSl l).l.length ≤ l.l.length + xs.length
  | [], l => by simp
  | x :: xs, l => by
    rw [List.foldl_cons, List.length_cons]
    have h1 := fold_put_len xs (putSl l x)
    have h2 := putSl_len l x
    omega
theorem held_in (r : Sl Affidavitref24_State) (k : (Sl Held) × Int → Option (Sl Held)) (o : Sl Held) (i : Nat) (hi : i < r.l.length) (m : Sl Held) (h : r.l[i].L.l.length < 4611686018427387904) (hm : m.l.length + r.l[i].L.l.length < 549755813888) :
    loopN (r24_Book_Held_B2312 r k (o, (i : Int))) FUEL (m, 0) = r24_Book_Held_J7 k (o, (i : Int)) (r.l[i].L.l.foldl putSl m) := by
  rw [loop_listP r.l[i].L.l h (fun q m => m.l.length + q.length < 549755813888) (fun q m => r24_Book_Held_J7 k (o, (i : Int)) (q.foldl putSl m))]
  · intro k' s _
    unfold r24_Book_Held_B2312
    simp only [idx_in hi, Option.bind_some]
    rw [if_neg (by simp [ltB])]
    rfl
  · intro k' s j hj hp hk
    unfold r24_Book_Held_B2312
    simp only [idx_in hi, Option.bind_some]
    rw [if_pos (by simp [ltB, hj])]
    simp only [idx_in hj, Option.bind_some]
    rw [drop_at hj] at hp ⊢
    simp only [List.length_cons] at hp
    rw [put_eq _ _ (by omega), Option.bind_some, inc hj h, hk _ (by have := putSl_len s r.l[i].L.l[j]; omega)]
    rfl
  · exact hm
theorem held_eq (r : Sl Affidavitref24_State) (D : Sl Held) {S : List AS} (hS : r.l.map absR = S) (hf : Few S) (ht : D.l.length + totS S < 549755813888) : r24_Book_Held r D = some ((flatS S).foldl putSl D) := by
  subst hS
  have hlen : r.l.length < 4611686018427387904 := by have := hf.1; simpa using this
  unfold r24_Book_Held
  rw [loop_listP r.l hlen (fun q m => m.l.length + totS (q.map absR) < 549755813888) (fun q m => some ((flatS (q.map absR)).foldl putSl m))]
  · intro k s _
    unfold r24_Book_Held_B2257
    rw [if_neg (by simp [ltB])]
    rfl
  · intro k s i hi hp hk
    unfold r24_Book_Held_B2257
    rw [if_pos (by simp [ltB, hi])]
    rw [drop_at hi] at hp ⊢
    have hb : r.l[i].L.l.length < 4611686018427387904 := by have := hf.2 (absR r.l[i]) (List.mem_map_of_mem (List.getElem_mem hi)); simpa [absR] using this
    simp only [List.map_cons, totS, List.sum_cons, absR] at hp
    rw [held_in r k s i hi s hb (by omega)]
    unfold r24_Book_Held_J7
    rw [inc hi hlen, hk _ (by
      have := fold_put_len r.l[i].L.l s
      simp only [totS, List.map_map, Function.comp_def, absR] at hp ⊢
      omega)]
    simp only [flatS, List.map_cons, List.flatMap_cons, List.foldl_append, absR]
  · exact ht
end Go.Proofs.Ytbdomlbmbcnaeaa
namespace Go.Proofs.Ytbdomlbmbcnaeaa
open Go.Abs
def lastOk (n : Int) (S : List AS) : Bool := match S.getLast? with
  | none => true
  | some s => decide (s.1 < n)
def numOk (n : Int) (S : List AS) : Bool := decide (1 ≤ n) && decide (n ≤ 512) && lastOk n S
def clash (x : Held) (s : AS) : Bool := (inL s.2 x.Number).2 && !((inL s.2 x.Number).1 == x.Size)
def checkR (l : List Held) (S : List AS) (D : List Held) : Bool := l.all fun x => !(inL D x.Number).2 && S.all fun s => !clash x s
theorem fold_put_l : ∀ (xs : List Held) (m : Sl Held), (xs.foldl putSl m).l = xs.foldl putL m.l
  | [], _ => rfl
  | x :: xs, m => by rw [List.foldl_cons, List.foldl_cons, fold_put_l xs, putSl_l]
def heldL (S : List AS) (D : List Held) : List Held := (flatS S).foldl putL D
def rAdd (n : Int) (l : List Held) (S : List AS) (D : List Held) : Int :=
  if numOk n S = false then 2 else if risesB none l = false then 2 else if checkR l S D = false then 2 else if 256 < (l.foldl putL (heldL S D)).length then 11 else 0
def stR (n : Int) (l : Sl Held) : Affidavitref24_State := ⟨n, ⟨false, l.l.length == 0, l.l⟩⟩
/-- Bounds that all this stays below. -/
structure Bd (l : Sl Held) (S : List AS) (D : Sl Held) : Prop where
  lb : l.l.length < 1073741824
  sb : S.length < 1073741824
  each : ∀ s ∈ S, s.2.length < 1073741824
  tot : D.l.length + totS S < 1073741824
theorem Bd.few {l : Sl Held} {S : List AS} {D : Sl Held} (h : Bd l S D) : Few S := ⟨by have := h.sb; omega, fun s hs => by have := h.each s hs; omega⟩
theorem clash_in (l : Sl Held) (r : Sl Affidavitref24_State) {S : List AS} (hS : r.l.map absR = S) (hf : Few S) (k : Int → Option (Int × (Sl Affidavitref24_State))) (i : Nat) (hi : i < l.l.length) :
    loopN (r24_Book_Add_B2309 l r k (i : Int)) FUEL 0 = bif S.all (fun s => !clash l.l[i] s) then r24_Book_Add_J42 k (i : Int) else some (2, r) := by
  subst hS
  have hlen : r.l.length < 4611686018427387904 := by have := hf.1; simpa using this
  rw [loop_idx r.l hlen (fun q => bif (q.map absR).all (fun s => !clash l.l[i] s) then r24_Book_Add_J42 k (i : Int) else some (2, r))]
  · intro k'
    unfold r24_Book_Add_B2309
    rw [if_neg (by simp [ltB])]
    simp
  · intro k' j hj hk
    unfold r24_Book_Add_B2309
    rw [if_pos (by simp [ltB, hj]), drop_at hj]
    simp only [idx_in hj, idx_in hi, Option.bind_some, r24_Book_Add_J45]
    rw [in_eq _ _ (by have := hf.2 (absR r.l[j]) (List.mem_map_of_mem (List.getElem_mem hj)); simpa [absR] using this), Option.bind_some, inc hj hlen, hk]
    simp only [List.map_cons, List.all_cons]
    have hcl : clash l.l[i] (absR r.l[j]) = ((inL r.l[j].L.l l.l[i].Number).2 && !((inL r.l[j].L.l l.l[i].Number).1 == l.l[i].Size)) := rfl
    rw [hcl]
    generalize inL r.l[j].L.l l.l[i].Number = w
    obtain ⟨a, b⟩ := w
    cases b with
    | false => simp
    | true =>
      by_cases ha : a = l.l[i].Size
      · simp [ha]
      · have : (a == l.l[i].Size) = false := by simpa using ha
        simp [ha, this]
theorem check_eq (n : Int) (l : Sl Held) (r : Sl Affidavitref24_State) (D : Sl Held) {S : List AS} (hS : r.l.map absR = S) (hb : Bd l S D) :
    r24_Book_Add_J1 n l r D = bif checkR l.l S D.l then r24_Book_Add_J23 n l r D else some (2, r) := by
  have hl : l.l.length < 4611686018427387904 := by have := hb.lb; omega
  have hD : D.l.length < 4611686018427387904 := by have := hb.tot; omega
  unfold r24_Book_Add_J1
  rw [loop_idx l.l hl (fun q => bif checkR q S D.l then r24_Book_Add_J23 n l r D else some (2, r))]
  · intro k
    unfold r24_Book_Add_B2154
    rw [if_neg (by simp [ltB])]
    simp [checkR]
  · intro k i hi hk
    unfold r24_Book_Add_B2154
    rw [if_pos (by simp [ltB, hi]), drop_at hi]
    simp only [idx_in hi, Option.bind_some]
    rw [in_eq _ _ hD, Option.bind_some, clash_in l r hS hb.few k i hi]
    unfold r24_Book_Add_J42
    rw [inc hi hl, hk]
    simp only [checkR, List.all_cons]
    generalize S.all (fun s => !clash l.l[i] s) = c2
    cases (inL D.l l.l[i].Number).2 <;> cases c2 <;> simp
theorem J23_eq (n : Int) (l : Sl Held) (r : Sl Affidavitref24_State) (D : Sl Held) {S : List AS} (hS : r.l.map absR = S) (hb : Bd l S D) :
    r24_Book_Add_J23 n l r D = some (if 256 < (l.l.foldl putL (heldL S D.l)).length then (11, r) else (0, ⟨false, false, r.l ++ [stR n l]⟩)) := by
  have hl : l.l.length < 4611686018427387904 := by have := hb.lb; omega
  unfold r24_Book_Add_J23
  rw [held_eq r D hS hb.few (by have := hb.tot; omega), Option.bind_some]
  rw [loop_listP l.l hl (fun q m => m.l.length + q.length < 549755813888) (fun q m => r24_Book_Add_J24 n l r (q.foldl putSl m))]
  · unfold r24_Book_Add_J24
    rw [fold_put_l, fold_put_l]
    have hrl : r.l.length = S.length := by rw [← hS]; simp
    have hSl := hb.sb
    have hll := hb.lb
    by_cases h : 256 < (l.l.foldl putL (heldL S D.l)).length
    · rw [if_pos (by simp only [gtB, decide_eq_true_eq]; unfold heldL at h; omega), if_pos h]
    · rw [if_neg (by simp only [gtB, decide_eq_true_eq]; unfold heldL at h; omega), if_neg h]
      rw [app_ok _ _ (by simp; omega) (by decide), Option.bind_some, appX_ok _ _ (by simp; omega) (by decide), Option.bind_some, app_ok _ _ (by simp; omega) (by decide), Option.bind_some]
      simp [Sl.weak, stR]
  · intro k s _
    unfold r24_Book_Add_B1773
    rw [if_neg (by simp [ltB])]
    rfl
  · intro k s i hi hp hk
    unfold r24_Book_Add_B1773
    rw [if_pos (by simp [ltB, hi])]
    simp only [idx_in hi, Option.bind_some]
    rw [drop_at hi] at hp ⊢
    simp only [List.length_cons] at hp
    rw [put_eq _ _ (by omega), Option.bind_some, inc hi hl, hk _ (by have := putSl_len s l.l[i]; omega)]
    rfl
  · have h1 := fold_put_len (flatS S) D
    rw [flatS_len] at h1
    have h2 := hb.tot
    have h3 := hb.lb
    omega
theorem last_at {α : Type} {l : List α} (h : 0 < l.length) (hl : l.length < 4611686018427387904) : ∃ y, idxL l (iSub .i64 (l.length : Int) 1) = some y ∧ l.getLast? = some y := by
  have e : iSub .i64 (l.length : Int) 1 = ((l.length - 1 : Nat) : Int) := by rw [sub1 (by omega) (by omega)]; omega
  refine ⟨l[l.length - 1], ?_, ?_⟩
  · rw [e, idx_in (by omega)]
  · rw [List.getLast?_eq_getElem?, List.getElem?_eq_getElem (by omega)]
theorem rAdd_eq (n : Int) (l : Sl Held) (r : Sl Affidavitref24_State) (D : Sl Held) {S : List AS} (hS : r.l.map absR = S) (hb : Bd l S D) :
    r24_Book_Add n l r D = some (rAdd n l.l S D.l, if rAdd n l.l S D.l = 0 then ⟨false, false, r.l ++ [stR n l]⟩ else r) := by
  have hl : l.l.length < 4611686018427387904 := by have := hb.lb; omega
  have hlen : r.l.length < 4611686018427387904 := by have h1 := hb.sb; have : r.l.length = S.length := by rw [← hS]; simp
                                                     omega
  unfold r24_Book_Add
  rw [rise_eq l hl]
  simp only [ltB, gtB, leB, Option.bind_some, check_eq n l r D hS hb, J23_eq n l r D hS hb]
  have fin : (if risesB none l.l = true then (bif checkR l.l S D.l then some (if 256 < (l.l.foldl putL (heldL S D.l)).length then ((11 : Int), r) else (0, ⟨false, false, r.l ++ [stR n l]⟩)) else some (2, r)) else some (2, r)) =
      some (if risesB none l.l = false then 2 else if checkR l.l S D.l = false then 2 else if 256 < (l.l.foldl putL (heldL S D.l)).length then 11 else 0, if (if risesB none l.l = false then (2 : Int) else if checkR l.l S D.l = false then 2 else if 256 < (l.l.foldl putL (heldL S D.l)).length then 11 else 0) = 0 then ⟨false, false, r.l ++ [stR n l]⟩ else r) := by
    cases risesB none l.l <;> cases checkR l.l S D.l <;> by_cases h : 256 < (l.l.foldl putL (heldL S D.l)).length <;> simp [h]
  rw [fin]
  unfold rAdd numOk lastOk
  by_cases h1 : n < 1
  · simp [h1, show ¬ (1 ≤ n) by omega]
  · by_cases h2 : 512 < n
    · simp [h2, show ¬ (n ≤ 512) by omega]
    · have e1 : decide (1 ≤ n) = true := by simp; omega
      have e2 : decide (n ≤ 512) = true := by simp; omega
      rw [if_neg (by simpa using h1), if_neg (by simpa using h2), e1, e2]
      by_cases h3 : 0 < r.l.length
      · obtain ⟨y, g1, g2⟩ := last_at h3 hlen
        rw [if_pos (by simp; omega), g1, Option.bind_some]
        have e3 : S.getLast? = some (absR y) := by rw [← hS, List.getLast?_map, g2]; rfl
        rw [e3]
        simp only [absR]
        by_cases h4 : n ≤ y.N
        · simp [h4, show ¬ (y.N < n) by omega]
        · simp [h4, show y.N < n by omega]
      · have : r.l = [] := by cases hr : r.l with | nil => rfl | cons a b => rw [hr] at h3; simp at h3
        have e3 : S = [] := by rw [← hS, this]; rfl
        rw [if_neg (by simp; omega), e3]
        simp
end Go.Proofs.Ytbdomlbmbcnaeaa
namespace Go.Proofs.Ytbdomlbmbcnaeaa
open Go.Abs
/-! ### maps -/
def getL (k : Int) : List (Int × Int) → Option Int
  | [] => none
  | e :: r => if k = e.1 then some e.2 else getL k r
def setL (k v : Int) : List (Int × Int) → List (Int × Int)
  | [] => [(k, v)]
  | e :: r => if k = e.1 then (k, v) :: r else e :: setL k v r
theorem get_l (m : Mp Int Int) (k : Int) : Mp.get m k = getL k m.l := by
  unfold Mp.get
  induction m.l with
  | nil => rfl
  | cons e r ih =>
    rw [List.findIdx?_cons]
    unfold getL
    by_cases h : k = e.1
    · simp [h]
    · have h' : (k == e.1) = false := by simpa using h
      rw [h', if_neg h, ← ih]
      cases r.findIdx? fun e => k == e.1 <;> simp
theorem put_l (m : Mp Int Int) (k v : Int) : (Mp.put m k v).l = setL k v m.l := by
  have key : ∀ (l : List (Int × Int)), (match l.findIdx? fun e => k == e.1 with | some i => l.set i (k, v) | none => l ++ [(k, v)]) = setL k v l := by
    intro l
    induction l with
    | nil => rfl
    | cons e r ih =>
      rw [List.findIdx?_cons]
      unfold setL
      by_cases h : k = e.1
      · simp [h]
      · have h' : (k == e.1) = false := by simpa using h
        rw [h', if_neg h, ← ih]
        cases r.findIdx? fun e => k == e.1 <;> simp
  rw [← key m.l]
  unfold Mp.put
  cases m.l.findIdx? fun e => k == e.1 <;> rfl
theorem get_set (k v n : Int) : ∀ l : List (Int × Int), getL n (setL k v l) = if n = k then some v else getL n l
  | [] => by simp [setL, getL]
  | e :: r => by
    unfold setL
    by_cases h : k = e.1
    · rw [if_pos h]
      unfold getL
      by_cases hn : n = k
      · simp [hn]
      · simp [hn, show ¬ (n = e.1) by omega]
    · rw [if_neg h]
      unfold getL
      rw [get_set k v n r]
      by_cases hn : n = e.1
      · simp [hn, show ¬ (e.1 = k) by omega]
      · simp [hn]
theorem set_len (k v : Int) : ∀ l : List (Int × Int), (setL k v l).length = if (getL k l).isSome = true then l.length else l.length + 1
  | [] => by simp [setL, getL]
  | e :: r => by
    unfold setL getL
    by_cases h : k = e.1
    · simp [h]
    · rw [if_neg h, if_neg h, List.length_cons, set_len k v r]
      split <;> simp
theorem get_put (m : Mp Int Int) (k v n : Int) : Mp.get (Mp.put m k v) n = if n = k then some v else Mp.get m n := by
  rw [get_l, put_l, get_set, get_l]
theorem put_len (m : Mp Int Int) (k v : Int) : (Mp.put m k v).l.length = if (Mp.get m k).isSome = true then m.l.length else m.l.length + 1 := by
  rw [put_l, set_len, get_l]
def hasN (n : Int) (l : List Held) : Bool := l.any fun y => y.Number == n
theorem hasN_iff {n : Int} {l : List Held} : hasN n l = true ↔ ∃ y ∈ l, y.Number = n := by simp [hasN]
theorem sizes_flat (S : List AS) : sizesM S = (flatS S).foldl putS Mp.none := by
  unfold sizesM flatS
  rw [List.foldl_flatMap]
theorem get_fold (z n : Int) : ∀ (xs : List Held) (m : Mp Int Int), (∀ y ∈ xs, y.Number = n → y.Size = z) → Mp.get (xs.foldl putS m) n = if hasN n xs = true then some (iAdd .i64 z 1) else Mp.get m n
  | [], m, _ => by simp [hasN]
  | x :: xs, m, h => by
    rw [List.foldl_cons, get_fold z n xs _ fun y hy => h y (by simp [hy])]
    unfold putS
    rw [get_put]
    have hx : hasN n (x :: xs) = (x.Number == n || hasN n xs) := rfl
    rw [hx]
    by_cases h1 : hasN n xs = true
    · simp [h1]
    · by_cases h2 : x.Number = n
      · have := h x (by simp) h2
        simp [h1, h2, this]
      · simp [h1, h2, show ¬ (n = x.Number) by omega]
theorem get_dead (n : Int) : ∀ (xs : List Held) (m : Mp Int Int), Mp.get (xs.foldl (fun m y => Mp.put m y.Number 1) m) n = if hasN n xs = true then some 1 else Mp.get m n
  | [], m => by simp [hasN]
  | x :: xs, m => by
    rw [List.foldl_cons, get_dead n xs, get_put]
    have hx : hasN n (x :: xs) = (x.Number == n || hasN n xs) := rfl
    rw [hx]
    by_cases h1 : hasN n xs = true
    · simp [h1]
    · by_cases h2 : x.Number = n
      · simp [h1, h2]
      · simp [h1, h2, show ¬ (n = x.Number) by omega]
theorem get_none (n : Int) : Mp.get (Mp.none : Mp Int Int) n = none := by rw [get_l]; rfl
/-! ### rising lists -/
def Up (l : List Held) : Prop := l.Pairwise fun a b => a.Number < b.Number
theorem rises_up : ∀ (l : List Held) (o : Option Int), risesB o l = true → Up l ∧ (∀ x ∈ l, okH x = true) ∧ ∀ p, o = some p → ∀ x ∈ l, p < x.Number
  | [], _, _ => ⟨List.Pairwise.nil, by simp, by simp⟩
  | x :: r, o, h => by
    simp only [risesB, Bool.and_eq_true] at h
    obtain ⟨⟨h1, h2⟩, h3⟩ := h
    obtain ⟨g1, g2, g3⟩ := rises_up r _ h3
    refine ⟨List.Pairwise.cons (fun y hy => g3 _ rfl y hy) g1, fun y hy => ?_, fun p hp y hy => ?_⟩
    · rcases List.mem_cons.1 hy with rfl | hy
      · exact h1
      · exact g2 y hy
    · subst hp
      simp only [decide_eq_true_eq] at h2
      rcases List.mem_cons.1 hy with rfl | hy
      · exact h2
      · have := g3 _ rfl y hy
        omega
theorem up_rises : ∀ (l : List Held) (o : Option Int), Up l → (∀ x ∈ l, okH x = true) → (∀ p, o = some p → ∀ x ∈ l, p < x.Number) → risesB o l = true
  | [], _, _, _, _ => rfl
  | x :: r, o, hu, hk, hp => by
    have hu' := List.pairwise_cons.1 hu
    simp only [risesB, Bool.and_eq_true]
    refine ⟨⟨hk x (by simp), ?_⟩, up_rises r _ hu'.2 (fun y hy => hk y (by simp [hy])) fun p hp' y hy => ?_⟩
    · cases o with
      | none => rfl
      | some p => simpa using hp p rfl x (by simp)
    · cases hp'
      exact hu'.1 y hy
theorem okH_spec {x : Held} (h : okH x = true) : 0 ≤ x.Number ∧ x.Number ≤ 1099511627776 ∧ 0 ≤ x.Size ∧ x.Size ≤ 4096 := by
  simp only [okH, Bool.and_eq_true, decide_eq_true_eq] at h
  exact ⟨h.1.1.1, h.1.1.2, h.1.2, h.2⟩
theorem putL_mem {x : Held} : ∀ {l : List Held}, Up l → ∀ z, z ∈ putL l x ↔ z ∈ l ∨ (z = x ∧ hasN x.Number l = false)
  | [], _, z => by simp [putL, hasN]
  | y :: r, hu, z => by
    have hu' := List.pairwise_cons.1 hu
    unfold putL
    have hh : hasN x.Number (y :: r) = (y.Number == x.Number || hasN x.Number r) := rfl
    rw [hh]
    by_cases h1 : y.Number < x.Number
    · rw [if_pos h1, List.mem_cons, putL_mem hu'.2 z, List.mem_cons]
      have : (y.Number == x.Number) = false := by simp; omega
      rw [this, Bool.false_or]
      constructor
      · rintro (h | h | h)
        · exact .inl (.inl h)
        · exact .inl (.inr h)
        · exact .inr h
      · rintro ((h | h) | h)
        · exact .inl h
        · exact .inr (.inl h)
        · exact .inr (.inr h)
    · rw [if_neg h1]
      by_cases h2 : y.Number = x.Number
      · rw [if_pos h2]
        simp [h2]
      · rw [if_neg h2]
        have e1 : (y.Number == x.Number) = false := by simpa using h2
        have e2 : hasN x.Number r = false := by
          cases hq : hasN x.Number r with
          | false => rfl
          | true =>
            obtain ⟨w, hw, he⟩ := hasN_iff.1 hq
            have := hu'.1 w hw
            omega
        rw [e1, e2]
        simp only [List.mem_cons, Bool.false_or, and_true]
        constructor
        · rintro (h | h | h)
          · exact .inr h
          · exact .inl (.inl h)
          · exact .inl (.inr h)
        · rintro ((h | h) | h)
          · exact .inr (.inl h)
          · exact .inr (.inr h)
          · exact .inl h
theorem putL_up {x : Held} : ∀ {l : List Held}, Up l → Up (putL l x)
  | [], _ => by simp [putL, Up]
  | y :: r, hu => by
    have hu' := List.pairwise_cons.1 hu
    unfold putL
    by_cases h1 : y.Number < x.Number
    · rw [if_pos h1]
      refine List.Pairwise.cons (fun z hz => ?_) (putL_up hu'.2)
      rcases (putL_mem hu'.2 z).1 hz with h | ⟨h, _⟩
      · exact hu'.1 z h
      · rw [h]; exact h1
    · rw [if_neg h1]
      by_cases h2 : y.Number = x.Number
      · rw [if_pos h2]; exact hu
      · rw [if_neg h2]
        refine List.Pairwise.cons (fun z hz => ?_) hu
        rcases List.mem_cons.1 hz with rfl | hz
        · omega
        · have := hu'.1 z hz; omega
theorem putL_size {x : Held} : ∀ {l : List Held}, Up l → (putL l x).length = if hasN x.Number l = true then l.length else l.length + 1
  | [], _ => by simp [putL, hasN]
  | y :: r, hu => by
    have hu' := List.pairwise_cons.1 hu
    have hh : hasN x.Number (y :: r) = (y.Number == x.Number || hasN x.Number r) := rfl
    unfold putL
    rw [hh]
    by_cases h1 : y.Number < x.Number
    · have : (y.Number == x.Number) = false := by simp; omega
      rw [if_pos h1, List.length_cons, putL_size hu'.2, this, Bool.false_or]
      split <;> simp
    · rw [if_neg h1]
      by_cases h2 : y.Number = x.Number
      · rw [if_pos h2]; simp [h2]
      · rw [if_neg h2]
        have e1 : (y.Number == x.Number) = false := by simpa using h2
        have e2 : hasN x.Number r = false := by
          cases hq : hasN x.Number r with
          | false => rfl
          | true =>
            obtain ⟨w, hw, he⟩ := hasN_iff.1 hq
            have := hu'.1 w hw
            omega
        rw [e1, e2]
        simp
theorem putL_has {x : Held} {l : List Held} (hu : Up l) (n : Int) : hasN n (putL l x) = (hasN n l || (x.Number == n)) := by
  rw [Bool.eq_iff_iff]
  simp only [Bool.or_eq_true, hasN_iff, beq_iff_eq]
  constructor
  · rintro ⟨y, hy, he⟩
    rcases (putL_mem hu y).1 hy with h | ⟨h, _⟩
    · exact .inl ⟨y, h, he⟩
    · exact .inr (by rw [← h]; exact he)
  · rintro (⟨y, hy, he⟩ | he)
    · exact ⟨y, (putL_mem hu y).2 (.inl hy), he⟩
    · cases hq : hasN x.Number l with
      | true =>
        obtain ⟨y, hy, h2⟩ := hasN_iff.1 hq
        exact ⟨y, (putL_mem hu y).2 (.inl hy), h2.trans he⟩
      | false => exact ⟨x, (putL_mem hu x).2 (.inr ⟨rfl, hq⟩), he⟩
theorem inL_has (n : Int) : ∀ l : List Held, (inL l n).2 = hasN n l
  | [] => rfl
  | y :: r => by
    unfold inL
    have hh : hasN n (y :: r) = (y.Number == n || hasN n r) := rfl
    rw [hh]
    by_cases h : y.Number = n
    · simp [h]
    · have : (y.Number == n) = false := by simpa using h
      rw [if_neg h, inL_has n r, this, Bool.false_or]
theorem inL_size (n : Int) : ∀ l : List Held, hasN n l = true → ∃ y ∈ l, y.Number = n ∧ (inL l n).1 = y.Size
  | [], h => by simp [hasN] at h
  | y :: r, h => by
    unfold inL
    by_cases hy : y.Number = n
    · exact ⟨y, by simp, hy, by simp [hy]⟩
    · have hh : hasN n (y :: r) = (y.Number == n || hasN n r) := rfl
      rw [hh] at h
      have e : (y.Number == n) = false := by simpa using hy
      rw [e, Bool.false_or] at h
      obtain ⟨z, h1, h2, h3⟩ := inL_size n r h
      exact ⟨z, by simp [h1], h2, by rw [if_neg hy]; exact h3⟩
end Go.Proofs.Ytbdomlbmbcnaeaa
namespace Go.Proofs.Ytbdomlbmbcnaeaa
open Go.Abs
/-- What always holds of states and dead blobs. -/
structure Inv (S : List AS) (D : List Held) : Prop where
  nums : S.Pairwise fun a b => a.1 < b.1
  rise : ∀ s ∈ S, risesB none s.2 = true
  cons : ∀ x ∈ flatS S, ∀ y ∈ flatS S, x.Number = y.Number → x.Size = y.Size
  dead : risesB none D = true
  apart : ∀ x ∈ flatS S, hasN x.Number D = false
theorem mem_flat {S : List AS} {x : Held} : x ∈ flatS S ↔ ∃ s ∈ S, x ∈ s.2 := by simp only [flatS, List.mem_flatMap]
def pAdd (n : Int) (l : List Held) (S : List AS) (D : List Held) : Int :=
  if numOk n S = false then 2 else if risesB none l = false then 2 else if l.all (fit1 (sizesM S) (deadM D)) = false then 2
  else if 256 < cntW (sizesM S) l (iAdd .i64 ((sizesM S).l.length : Int) (D.length : Int)) then 11 else 0
def stP (n : Int) (l : Sl Held) : Prune_state := ⟨n, ⟨false, l.l.length == 0, l.l⟩⟩
theorem pJ1_eq (n : Int) (l : Sl Held) (p : Sl Prune_state) (h1 : l.l.length < 1073741824) (h2 : p.l.length < 1073741824) : prune_Book_Add_J1 n l p = some (0, ⟨false, false, p.l ++ [stP n l]⟩) := by
  unfold prune_Book_Add_J1
  have e : cutL p none (some (p.l.length : Int)) (some (p.l.length : Int)) = some ⟨p.nl, true, p.l⟩ := by simp [cutL, boundI]
  rw [e, Option.bind_some, appX_ok _ _ (by simp; omega) (by decide), Option.bind_some, appX_ok _ _ (by simp; omega) (by decide), Option.bind_some]
  simp [stP]
theorem pAdd_eq (n : Int) (l : Sl Held) (p : Sl Prune_state) (D : Sl Held) {S : List AS} (hS : p.l.map absP = S) (hb : Bd l S D) :
    prune_Book_Add n l p D = some (pAdd n l.l S D.l, if pAdd n l.l S D.l = 0 then ⟨false, false, p.l ++ [stP n l]⟩ else p) := by
  have hl : l.l.length < 4611686018427387904 := by have := hb.lb; omega
  have hD : D.l.length < 4611686018427387904 := by have := hb.tot; omega
  have hpl : p.l.length = S.length := by rw [← hS]; simp
  have hsb := hb.sb
  have hlen : p.l.length < 4611686018427387904 := by omega
  unfold prune_Book_Add
  rw [plain_eq l hl, fits_eq l p D hS hb.few hl hD, many_eq l p D hS hb.few hl]
  simp only [ltB, gtB, leB, Option.bind_some, pJ1_eq n l p hb.lb (by omega)]
  generalize hc : cntW (sizesM S) l.l (iAdd .i64 ((sizesM S).l.length : Int) (D.l.length : Int)) = c
  generalize hf : l.l.all (fit1 (sizesM S) (deadM D.l)) = f
  have fin : (if risesB none l.l = true then (if f = true then (if decide (256 < c) = true then some ((11 : Int), p) else some (0, ⟨false, false, p.l ++ [stP n l]⟩)) else some (2, p)) else some (2, p)) =
      some (if risesB none l.l = false then 2 else if f = false then 2 else if 256 < c then 11 else 0, if (if risesB none l.l = false then (2 : Int) else if f = false then 2 else if 256 < c then 11 else 0) = 0 then ⟨false, false, p.l ++ [stP n l]⟩ else p) := by
    cases risesB none l.l <;> cases f <;> by_cases h : 256 < c <;> simp [h]
  rw [fin]
  unfold pAdd numOk lastOk
  rw [hc, hf]
  by_cases h1 : n < 1
  · simp [h1, show ¬ (1 ≤ n) by omega]
  · by_cases h2 : 512 < n
    · simp [h2, show ¬ (n ≤ 512) by omega]
    · have e1 : decide (1 ≤ n) = true := by simp; omega
      have e2 : decide (n ≤ 512) = true := by simp; omega
      rw [if_neg (by simpa using h1), if_neg (by simpa using h2), e1, e2]
      by_cases h3 : 0 < p.l.length
      · obtain ⟨y, g1, g2⟩ := last_at h3 hlen
        rw [if_pos (by simp; omega), g1, Option.bind_some]
        have e3 : S.getLast? = some (absP y) := by rw [← hS, List.getLast?_map, g2]; rfl
        rw [e3]
        simp only [absP]
        by_cases h4 : n ≤ y.number
        · simp [h4, show ¬ (y.number < n) by omega]
        · simp [h4, show y.number < n by omega]
      · have : p.l = [] := by cases hr : p.l with | nil => rfl | cons a b => rw [hr] at h3; simp at h3
        have e3 : S = [] := by rw [← hS, this]; rfl
        rw [if_neg (by simp; omega), e3]
        simp
/-! ### they are one -/
theorem size_of {S : List AS} {D : List Held} (hi : Inv S D) {x : Held} (hx : x ∈ flatS S) : 0 ≤ x.Size ∧ x.Size ≤ 4096 := by
  obtain ⟨s, h1, h2⟩ := mem_flat.1 hx
  have := okH_spec ((rises_up _ _ (hi.rise s h1)).2.1 x h2)
  exact ⟨this.2.2.1, this.2.2.2⟩
theorem gM_sizes {S : List AS} {D : List Held} (hi : Inv S D) (n : Int) : (hasN n (flatS S) = false ∧ Mp.get (sizesM S) n = none ∧ gM (sizesM S) n = 0) ∨ ∃ y ∈ flatS S, y.Number = n ∧ Mp.get (sizesM S) n = some (y.Size + 1) ∧ gM (sizesM S) n = y.Size + 1 := by
  rw [sizes_flat]
  cases h : hasN n (flatS S) with
  | false =>
    left
    have := get_fold 0 n (flatS S) Mp.none fun y hy he => by
      have := hasN_iff.2 ⟨y, hy, he⟩
      rw [h] at this; cases this
    rw [h, if_neg (by simp), get_none] at this
    exact ⟨rfl, this, by unfold gM; rw [this]; rfl⟩
  | true =>
    right
    obtain ⟨y, hy, he⟩ := hasN_iff.1 h
    have := get_fold y.Size n (flatS S) Mp.none fun z hz hze => hi.cons z hz y hy (by omega)
    rw [h, if_pos rfl] at this
    have hsz := size_of hi hy
    rw [add1 (by omega) (by omega)] at this
    exact ⟨y, hy, he, this, by unfold gM; rw [this]; rfl⟩
theorem gM_dead (D : List Held) (n : Int) : gM (deadM D) n = if hasN n D = true then 1 else 0 := by
  unfold gM deadM
  rw [get_dead, get_none]
  split <;> rfl
theorem clash_iff {S : List AS} {D : List Held} (hi : Inv S D) (x : Held) : S.all (fun s => !clash x s) = true ↔ ∀ y ∈ flatS S, y.Number = x.Number → y.Size = x.Size := by
  rw [List.all_eq_true]
  constructor
  · intro h y hy he
    obtain ⟨s, h1, h2⟩ := mem_flat.1 hy
    have := h s h1
    unfold clash at this
    have hh : hasN x.Number s.2 = true := hasN_iff.2 ⟨y, h2, he⟩
    rw [inL_has, hh] at this
    simp only [Bool.true_and, Bool.not_not, beq_iff_eq] at this
    obtain ⟨z, g1, g2, g3⟩ := inL_size x.Number s.2 hh
    have := hi.cons y hy z (mem_flat.2 ⟨s, h1, g1⟩) (by omega)
    omega
  · intro h s hs
    unfold clash
    rw [inL_has]
    cases hh : hasN x.Number s.2 with
    | false => rfl
    | true =>
      obtain ⟨z, g1, g2, g3⟩ := inL_size x.Number s.2 hh
      have := h z (mem_flat.2 ⟨s, hs, g1⟩) g2
      simp only [Bool.true_and, Bool.not_not, beq_iff_eq]
      omega
theorem fit_check {S : List AS} {D : List Held} (hi : Inv S D) (x : Held) (hx : okH x = true) : fit1 (sizesM S) (deadM D) x = (!(inL D x.Number).2 && S.all fun s => !clash x s) := by
  have hs := okH_spec hx
  unfold fit1
  rw [gM_dead, inL_has, add1 (by omega) (by omega)]
  have hc := clash_iff hi x
  cases hD : hasN x.Number D with
  | true => simp
  | false =>
    rcases gM_sizes hi x.Number with ⟨h1, h2, h3⟩ | ⟨y, hy, he, h2, h3⟩
    · rw [h3]
      have : S.all (fun s => !clash x s) = true := hc.2 fun z hz hze => by
        have := hasN_iff.2 ⟨z, hz, hze⟩
        rw [h1] at this; cases this
      rw [this]
      simp
    · rw [h3]
      have hy0 := size_of hi hy
      have h0 : (0 : Int) < y.Size + 1 := by omega
      cases ha : S.all (fun s => !clash x s) with
      | true =>
        have := hc.1 ha y hy he
        simp [h0, this]
      | false =>
        have : y.Size ≠ x.Size := fun e => by
          have := hc.2 fun z hz hze => by
            have := hi.cons z hz y hy (by omega)
            omega
          rw [ha] at this; cases this
        simp [h0, show ¬ (y.Size + 1 = x.Size + 1) by omega]
theorem fits_check {S : List AS} {D : List Held} (hi : Inv S D) (l : List Held) (hl : risesB none l = true) : l.all (fit1 (sizesM S) (deadM D)) = checkR l S D := by
  unfold checkR
  have hk := (rises_up l _ hl).2.1
  induction l with
  | nil => rfl
  | cons x r ih =>
    rw [List.all_cons, List.all_cons, fit_check hi x (hk x (by simp))]
    have hl' := (rises_up (x :: r) _ hl)
    rw [ih (up_rises r none (List.pairwise_cons.1 hl'.1).2 (fun y hy => hk y (by simp [hy])) (by simp)) (fun y hy => hk y (by simp [hy]))]
/-- How many are held: the map and the list are of one length. -/
theorem held_count : ∀ (xs : List Held) (h : List Held) (m : Mp Int Int) (d : Nat) (D : List Held), Up h → h.length = d + m.l.length → (∀ n, hasN n h = (hasN n D || (Mp.get m n).isSome)) → (∀ x ∈ xs, hasN x.Number D = false) →
    Up (xs.foldl putL h) ∧ (xs.foldl putL h).length = d + (xs.foldl putS m).l.length ∧ ∀ n, hasN n (xs.foldl putL h) = (hasN n D || (Mp.get (xs.foldl putS m) n).isSome)
  | [], h, m, d, D, h1, h2, h3, _ => ⟨h1, h2, h3⟩
  | x :: xs, h, m, d, D, h1, h2, h3, h4 => by
    rw [List.foldl_cons, List.foldl_cons]
    refine held_count xs (putL h x) (putS m x) d D (putL_up h1) ?_ (fun n => ?_) fun y hy => h4 y (by simp [hy])
    · unfold putS
      rw [putL_size h1, put_len, h3 x.Number, h4 x (by simp), Bool.false_or]
      split <;> omega
    · unfold putS
      rw [putL_has h1, get_put, h3 n]
      by_cases hn : n = x.Number
      · simp [hn]
      · have : (x.Number == n) = false := by simp; omega
        simp [hn, this]
theorem heldL_count {S : List AS} {D : List Held} (hi : Inv S D) : Up (heldL S D) ∧ (heldL S D).length = D.length + (sizesM S).l.length ∧ ∀ n, hasN n (heldL S D) = (hasN n D || (Mp.get (sizesM S) n).isSome) := by
  rw [sizes_flat]
  exact held_count (flatS S) D Mp.none D.length D (rises_up D _ hi.dead).1 (by simp [Mp.none]) (fun n => by rw [get_none]; simp) hi.apart
theorem cnt_eq (m : Mp Int Int) : ∀ (l : List Held) (h : List Held) (c : Int), Up l → Up h → (∀ x ∈ l, hasN x.Number h = !decide (gM m x.Number = 0)) → c = h.length → c + l.length < 4611686018427387904 → cntW m l c = (l.foldl putL h).length
  | [], h, c, _, _, _, hc, _ => by simpa [cntW] using hc
  | x :: r, h, c, hl, hh, hx, hc, hb => by
    have hl' := List.pairwise_cons.1 hl
    unfold cntW
    rw [List.foldl_cons, List.foldl_cons]
    have h1 := hx x (by simp)
    have h2 := putL_size (x := x) hh
    rw [List.length_cons] at hb
    have hrest : ∀ y ∈ r, hasN y.Number (putL h x) = !decide (gM m y.Number = 0) := fun y hy => by
      have : (x.Number == y.Number) = false := by have := hl'.1 y hy; simp; omega
      rw [putL_has hh, this, Bool.or_false]
      exact hx y (by simp [hy])
    by_cases hz : gM m x.Number = 0
    · rw [if_pos hz]
      have : hasN x.Number h = false := by rw [h1]; simp [hz]
      rw [this, if_neg (by simp)] at h2
      exact cnt_eq m r (putL h x) _ hl'.2 (putL_up hh) hrest (by rw [add1 (by omega) (by omega), h2, hc]; simp) (by rw [add1 (by omega) (by omega)]; omega)
    · rw [if_neg hz]
      have : hasN x.Number h = true := by rw [h1]; simp [hz]
      rw [this, if_pos rfl] at h2
      exact cnt_eq m r (putL h x) _ hl'.2 (putL_up hh) hrest (by rw [h2, hc]) (by omega)
theorem add_same {S : List AS} {D : List Held} (hi : Inv S D) (n : Int) (l : List Held) (h1 : l.length < 1073741824) (h2 : D.length + totS S < 1073741824) : pAdd n l S D = rAdd n l S D := by
  unfold pAdd rAdd
  by_cases hn : numOk n S = false
  · simp [hn]
  · rw [if_neg hn, if_neg hn]
    by_cases hr : risesB none l = false
    · simp [hr]
    · have hr' : risesB none l = true := by simpa using hr
      rw [if_neg hr, if_neg hr, fits_check hi l hr']
      by_cases hc : checkR l S D = false
      · simp [hc]
      · rw [if_neg hc, if_neg hc]
        obtain ⟨g1, g2, g3⟩ := heldL_count hi
        have hle : (heldL S D).length ≤ D.length + totS S := by
          have := fold_put_len (flatS S) ⟨true, true, D⟩
          rw [fold_put_l, flatS_len] at this
          exact this
        have e : iAdd .i64 ((sizesM S).l.length : Int) (D.length : Int) = ((heldL S D).length : Int) := by
          rw [addw (by omega) (by omega), g2]
          omega
        have hck : ∀ x ∈ l, hasN x.Number (heldL S D) = !decide (gM (sizesM S) x.Number = 0) := fun x hx => by
          have hcx : checkR l S D = true := by simpa using hc
          unfold checkR at hcx
          have := List.all_eq_true.1 hcx x hx
          simp only [Bool.and_eq_true, Bool.not_eq_true'] at this
          rw [g3, ← inL_has, this.1, Bool.false_or]
          rcases gM_sizes hi x.Number with ⟨_, q2, q3⟩ | ⟨y, hy, _, q2, q3⟩
          · rw [q2, q3]; rfl
          · have := size_of hi hy
            rw [q2, q3]
            simp
            omega
        rw [e, cnt_eq (sizesM S) l (heldL S D) _ (rises_up l _ hr').1 g1 hck rfl (by omega)]
        by_cases hq : 256 < (l.foldl putL (heldL S D)).length
        · rw [if_pos hq, if_pos (by omega)]
        · rw [if_neg hq, if_neg (by omega)]
theorem add_inv {S : List AS} {D : List Held} (hi : Inv S D) {n : Int} {l : List Held} (h : rAdd n l S D = 0) : Inv (S ++ [(n, l)]) D := by
  unfold rAdd at h
  split at h
  · cases h
  rename_i h1
  split at h
  · cases h
  rename_i h2
  split at h
  · cases h
  rename_i h3
  have h1' : numOk n S = true := by simpa using h1
  have h2' : risesB none l = true := by simpa using h2
  have h3' : checkR l S D = true := by simpa using h3
  unfold checkR at h3'
  have hck : ∀ x ∈ l, hasN x.Number D = false ∧ ∀ y ∈ flatS S, y.Number = x.Number → y.Size = x.Size := fun x hx => by
    have := List.all_eq_true.1 h3' x hx
    simp only [Bool.and_eq_true, Bool.not_eq_true'] at this
    rw [inL_has] at this
    exact ⟨this.1, (clash_iff hi x).1 this.2⟩
  have hup := rises_up l _ h2'
  have hf : flatS (S ++ [(n, l)]) = flatS S ++ l := by simp [flatS]
  refine ⟨?_, fun s hs => ?_, fun x hx y hy he => ?_, hi.dead, fun x hx => ?_⟩
  · rw [List.pairwise_append]
    refine ⟨hi.nums, by simp, fun a ha b hb => ?_⟩
    simp only [List.mem_singleton] at hb
    subst hb
    simp only [numOk, lastOk, Bool.and_eq_true] at h1'
    have hl := h1'.2
    cases hg : S.getLast? with
    | none =>
      have : S = [] := List.getLast?_eq_none_iff.1 hg
      rw [this] at ha; simp at ha
    | some z =>
      rw [hg] at hl
      simp only [decide_eq_true_eq] at hl
      have hz : ∃ S', S = S' ++ [z] := List.getLast?_eq_some_iff.1 hg
      obtain ⟨S', rfl⟩ := hz
      have hp := (List.pairwise_append.1 hi.nums).2.2
      rcases List.mem_append.1 ha with h | h
      · have := hp a h z (by simp)
        show a.1 < n
        omega
      · simp only [List.mem_singleton] at h
        subst h
        exact hl
  · rcases List.mem_append.1 hs with h | h
    · exact hi.rise s h
    · simp only [List.mem_singleton] at h
      subst h
      exact h2'
  · rw [hf] at hx hy
    rcases List.mem_append.1 hx with hx | hx <;> rcases List.mem_append.1 hy with hy | hy
    · exact hi.cons x hx y hy he
    · exact (hck y hy).2 x hx he
    · exact ((hck x hx).2 y hy he.symm).symm
    · have : x = y := by
        rcases List.mem_iff_getElem.1 hx with ⟨i, hi1, rfl⟩
        rcases List.mem_iff_getElem.1 hy with ⟨j, hj1, rfl⟩
        have hp := List.pairwise_iff_getElem.1 hup.1
        rcases Nat.lt_trichotomy i j with h | h | h
        · have := hp i j hi1 hj1 h; omega
        · subst h; rfl
        · have := hp j i hj1 hi1 h; omega
      rw [this]
  · rw [hf] at hx
    rcases List.mem_append.1 hx with h | h
    · exact hi.apart x h
    · exact (hck x h).1
end Go.Proofs.Ytbdomlbmbcnaeaa
namespace Go.Proofs.Ytbdomlbmbcnaeaa
open Go.Abs
theorem loop_listQ {σ ρ α : Type} {B : (Int × σ → Option ρ) → Int × σ → Option ρ} (l : List α) (hl : l.length < 4611686018427387904) (P : List α → σ → Prop) (spec : List α → σ → Option ρ)
    (hnil : ∀ k s, P [] s → B k ((l.length : Int), s) = spec [] s)
    (hcons : ∀ k s (i : Nat) (h : i < l.length), P (l.drop i) s → (∀ s', P (l.drop (i + 1)) s' → k ((i : Int) + 1, s') = spec (l.drop (i + 1)) s') → B k ((i : Int), s) = spec (l.drop i) s) (s : σ) (hs : P l s) : loopN B FUEL (0, s) = spec l s := by
  have := loop_fuel (B := B) (fun x => ∃ i : Nat, x.1 = i ∧ i ≤ l.length ∧ P (l.drop i) x.2) (fun x => l.length - x.1.toNat) (fun x => spec (l.drop x.1.toNat) x.2) (fun k x ⟨i, hi, hle, hp⟩ hk => by
    obtain ⟨j, s⟩ := x
    simp only at hi hp
    subst hi
    simp only [Int.toNat_natCast]
    rcases Nat.lt_or_ge i l.length with h | h
    · refine hcons k s i h hp fun s' hp' => ?_
      have := hk ((i : Int) + 1, s') ⟨i + 1, by simp, h, hp'⟩ (by simp only [Int.toNat_natCast]; omega)
      rw [this]
      simp only
      congr 2
    · have : i = l.length := by omega
      subst this
      rw [List.drop_length] at hp ⊢
      exact hnil k s hp) (0, s) ⟨0, rfl, Nat.zero_le _, hs⟩ (by simp; omega)
  simpa using this
theorem loop_ex {σ ρ : Type} {B : (σ → Option ρ) → σ → Option ρ} (P : σ → Prop) (rank : σ → Nat) (Q : σ → ρ → Prop) (h : ∀ k x, P x → (∀ y, P y → rank y < rank x → ∃ r, k y = some r ∧ Q y r) → ∃ r, B k x = some r ∧ Q x r) : ∀ (d : Nat) (x : σ), P x → rank x < d → ∃ r, loopN B d x = some r ∧ Q x r
  | 0, _, _, hd => by omega
  | d + 1, x, hp, hd => h (loopN B d) x hp fun y hy hr => loop_ex P rank Q h d y hy (by omega)
theorem loop_exF {σ ρ : Type} {B : (σ → Option ρ) → σ → Option ρ} (P : σ → Prop) (rank : σ → Nat) (Q : σ → ρ → Prop) (h : ∀ k x, P x → (∀ y, P y → rank y < rank x → ∃ r, k y = some r ∧ Q y r) → ∃ r, B k x = some r ∧ Q x r) (x : σ) (hp : P x) (hr : rank x < 18446744073709551616) : ∃ r, loopN B FUEL x = some r ∧ Q x r := loop_ex P rank Q h FUEL x hp hr
/-! ### the reference -/
def stepR (K : List AS) (D : Sl Held) (x : Held) : Sl Held := bif hasN x.Number (flatS K) then D else putSl D x
def refL (n : Int) : List Affidavitref24_State → Sl Held → List Affidavitref24_State × Sl Held
  | a :: b :: r, D => if b.N ≤ n then refL n (b :: r) (a.L.l.foldl (stepR ((b :: r).map absR)) D) else (a :: b :: r, D)
  | l, D => (l, D)
theorem any_flat (S : List AS) (n : Int) : (S.any fun s => (inL s.2 n).2) = hasN n (flatS S) := by
  unfold hasN flatS
  rw [List.any_flatMap]
  congr 1
  funext s
  rw [inL_has]
  rfl
theorem stepR_len (K : List AS) (D : Sl Held) (x : Held) : (stepR K D x).l.length ≤ D.l.length + 1 := by
  unfold stepR
  cases hasN x.Number (flatS K) with
  | true => simp
  | false => exact putSl_len D x
theorem stepR_fold_len (K : List AS) : ∀ (xs : List Held) (D : Sl Held), (xs.foldl (stepR K) D).l.length ≤ D.l.length + xs.length
  | [], D => by simp
  | x :: xs, D => by
    rw [List.foldl_cons]
    have h1 := stepR_fold_len K xs (stepR K D x)
    have h2 := stepR_len K D x
    rw [List.length_cons]
    omega
theorem drop_in (k : ((Sl Affidavitref24_State) × (Sl Held)) → Option ((Sl Int) × (Sl Affidavitref24_State) × (Sl Held))) (a : Affidavitref24_State) (r : Sl Affidavitref24_State) (D : Sl Held) (hf : Few (r.l.map absR)) (ha : a.L.l.length < 1073741824) (hD : D.l.length < 1073741824) :
    loopN (r24_Book_Prune_B1008 k a r) FUEL (0, D) = k (r, a.L.l.foldl (stepR (r.l.map absR)) D) := by
  have hl : a.L.l.length < 4611686018427387904 := by omega
  refine loop_listQ a.L.l hl (fun q D => D.l.length + q.length < 549755813888) (fun q D => k (r, q.foldl (stepR (r.l.map absR)) D)) ?_ ?_ D (by omega)
  · intro k' s _
    unfold r24_Book_Prune_B1008
    rw [if_neg (by simp [ltB])]
    rfl
  · intro k' s i hi hp hk
    unfold r24_Book_Prune_B1008
    rw [drop_at hi] at hp ⊢
    rw [List.length_cons] at hp
    rw [if_pos (by simp [ltB, hi])]
    simp only [idx_in hi, Option.bind_some]
    rw [has_eq _ r s rfl hf, Option.bind_some, any_flat, put_eq _ _ (by omega), Option.bind_some]
    unfold r24_Book_Prune_J20
    simp only [inc hi hl]
    rw [List.foldl_cons]
    cases hh : hasN a.L.l[i].Number (flatS (r.l.map absR)) with
    | true =>
      rw [if_pos rfl, hk _ (by omega)]
      unfold stepR
      rw [hh, cond_true]
    | false =>
      rw [if_neg (by simp), hk _ (by have := putSl_len s a.L.l[i]; omega)]
      have : stepR (r.l.map absR) s a.L.l[i] = putSl s a.L.l[i] := by unfold stepR; rw [hh, cond_false]
      rw [this]
theorem few_tail {a : AS} {S : List AS} (h : Few (a :: S)) : Few S := ⟨by have := h.1; simp at this; omega, fun s hs => h.2 s (by simp [hs])⟩
theorem totS_cons (a : AS) (S : List AS) : totS (a :: S) = a.2.length + totS S := by simp [totS]
theorem totS_app (A B : List AS) : totS (A ++ B) = totS A + totS B := by simp [totS]
theorem rDrop_eq (n : Int) (r : Sl Affidavitref24_State) (D : Sl Held) (hf : Few (r.l.map absR)) (ht : D.l.length + totS (r.l.map absR) < 1073741824) :
    r24_Book_Prune n r D = r24_Book_Prune_J10 ⟨r.nl, r.ex, (refL n r.l D).1⟩ (refL n r.l D).2 := by
  unfold r24_Book_Prune
  refine loop_fuel (B := r24_Book_Prune_B953 n) (fun x => Few (x.1.l.map absR) ∧ x.2.l.length + totS (x.1.l.map absR) < 1073741824) (fun x => x.1.l.length) (fun x => r24_Book_Prune_J10 ⟨x.1.nl, x.1.ex, (refL n x.1.l x.2).1⟩ (refL n x.1.l x.2).2) ?_ (r, D) ⟨hf, ht⟩ (by have := hf.1; simp at this ⊢; omega)
  rintro k ⟨⟨nl, ex, l⟩, D⟩ ⟨h1, h2⟩ hk
  simp only at h1 h2 hk ⊢
  unfold r24_Book_Prune_B953
  match l, h1, h2, hk with
  | [], h1, h2, hk => simp [gtB, refL]
  | [a], h1, h2, hk => simp [gtB, refL]
  | a :: b :: q, h1, h2, hk =>
    rw [if_pos (by simp [gtB]; omega)]
    have e1 : idxL (a :: b :: q) (1 : Int) = some b := idx_in (l := a :: b :: q) (i := 1) (by simp)
    have e0 : idxL (a :: b :: q) (0 : Int) = some a := idx_in (l := a :: b :: q) (i := 0) (by simp)
    have ec : cutL (⟨nl, ex, a :: b :: q⟩ : Sl Affidavitref24_State) (some 1) none none = some ⟨nl, ex, b :: q⟩ := by
      have := cut_from (⟨nl, ex, a :: b :: q⟩ : Sl Affidavitref24_State) (p := 1) (by simp)
      simpa using this
    simp only [e1, e0, ec, Option.bind_some, leB]
    unfold refL
    by_cases hb : b.N ≤ n
    · rw [if_pos (by simpa using hb), if_pos hb]
      have h2' := h2
      rw [List.map_cons, totS_cons] at h2'
      have hal : a.L.l.length < 1073741824 := by have : (absR a).2.length = a.L.l.length := rfl
                                                 omega
      rw [drop_in k a ⟨nl, ex, b :: q⟩ D (few_tail h1) hal (by omega)]
      have := hk (⟨nl, ex, b :: q⟩, a.L.l.foldl (stepR ((b :: q).map absR)) D) ⟨few_tail h1, by
        have := stepR_fold_len ((b :: q).map absR) a.L.l D
        have h3 : (absR a).2.length = a.L.l.length := rfl
        simp only
        omega⟩ (by simp)
      rw [this]
    · rw [if_neg (by simpa using hb), if_neg hb]
theorem rTake_eq (p : Sl Affidavitref24_State) (D : Sl Held) : ∃ m d, r24_Book_Prune_J10 p D = some (m, p, d) ∧ m.l = (D.l.take 64).map (·.Number) ∧ d.l = D.l.drop 64 := by
  unfold r24_Book_Prune_J10
  obtain ⟨r, h1, h2⟩ := loop_exF (B := r24_Book_Prune_B783 p) (fun x => x.1.l.length ≤ 64) (fun x => 64 - x.1.l.length) (fun x r => r.2.1 = p ∧ r.1.l = x.1.l ++ (x.2.l.take (64 - x.1.l.length)).map (·.Number) ∧ r.2.2.l = x.2.l.drop (64 - x.1.l.length)) (by
    rintro k ⟨m, d⟩ hx hk
    simp only at hx hk ⊢
    unfold r24_Book_Prune_B783 r24_Book_Prune_J11
    obtain ⟨dn, de, dl⟩ := d
    cases dl with
    | nil =>
      refine ⟨(m.weak, p, ⟨dn, de, []⟩), by simp [gtB], rfl, by simp [Sl.weak], by simp⟩
    | cons y q =>
      rw [if_pos (by simp [gtB])]
      by_cases hm : m.l.length < 64
      · rw [if_pos (by simp [ltB]; omega)]
        have e0 : idxL (y :: q) (0 : Int) = some y := idx_in (l := y :: q) (i := 0) (by simp)
        have ec : cutL (⟨dn, de, y :: q⟩ : Sl Held) (some 1) none none = some ⟨dn, de, q⟩ := by
          have := cut_from (⟨dn, de, y :: q⟩ : Sl Held) (p := 1) (by simp)
          simpa using this
        simp only [e0, ec, Option.bind_some]
        rw [app_ok _ _ (by simp; omega) (by decide), Option.bind_some]
        obtain ⟨r, h1, h2, h3, h4⟩ := hk (⟨m.nl && [y.Number].length == 0, false, m.l ++ [y.Number]⟩, ⟨dn, de, q⟩) (by simp; omega) (by simp; omega)
        refine ⟨r, h1, h2, ?_, ?_⟩
        · rw [h3]
          obtain ⟨z, hz⟩ : ∃ z, 64 - m.l.length = z + 1 := ⟨63 - m.l.length, by omega⟩
          have hz' : 64 - (m.l ++ [y.Number]).length = z := by simp; omega
          simp only [hz, hz', List.take_succ_cons, List.map_cons, List.append_assoc, List.singleton_append]
        · rw [h4]
          obtain ⟨z, hz⟩ : ∃ z, 64 - m.l.length = z + 1 := ⟨63 - m.l.length, by omega⟩
          have hz' : 64 - (m.l ++ [y.Number]).length = z := by simp; omega
          simp only [hz, hz', List.drop_succ_cons]
      · rw [if_neg (by simp [ltB]; omega)]
        have hz : 64 - m.l.length = 0 := by omega
        refine ⟨(m.weak, p, ⟨dn, de, y :: q⟩), rfl, rfl, by simp [Sl.weak, hz], by simp [hz]⟩) (⟨true, true, []⟩, D) (by simp) (by simp)
  obtain ⟨m, p', d⟩ := r
  simp only at h2
  obtain ⟨rfl, h3, h4⟩ := h2
  refine ⟨m, d, h1, ?_, ?_⟩
  · simpa using h3
  · simpa using h4
/-! ### the program -/
def firstF (n : Int) : List AS → Nat → Nat → Nat
  | [], _, f => f
  | s :: r, i, f => firstF n r (i + 1) (if s.1 ≤ n then i else f)
theorem first_le (n : Int) : ∀ (S : List AS) (i f : Nat), firstF n S i f ≤ max f (i + S.length)
  | [], i, f => by simp [firstF]; omega
  | s :: r, i, f => by
    unfold firstF
    have := first_le n r (i + 1) (if s.1 ≤ n then i else f)
    rw [List.length_cons]
    split at this <;> split <;> first | omega | contradiction
theorem pFirst_eq (n : Int) (p : Sl Prune_state) (D : Sl Held) (hl : p.l.length < 4611686018427387904) : prune_Book_Prune n p D = prune_Book_Prune_J5 p D (firstF n (p.l.map absP) 0 0 : Nat) := by
  unfold prune_Book_Prune
  have := loop_listP (B := prune_Book_Prune_B453 n p D) p.l hl (fun q f => ∃ g : Nat, f = g) (fun q f => prune_Book_Prune_J5 p D (firstF n (q.map absP) (p.l.length - q.length) f.toNat : Nat)) ?_ ?_ 0 ⟨0, rfl⟩
  · simpa using this
  · rintro k s ⟨g, rfl⟩
    unfold prune_Book_Prune_B453
    simp [ltB, firstF]
  · rintro k s i hi ⟨g, rfl⟩ hk
    unfold prune_Book_Prune_B453
    rw [if_pos (by simp [ltB, hi])]
    simp only [idx_in hi, Option.bind_some, leB, prune_Book_Prune_J17, inc hi hl]
    rw [drop_at hi, List.map_cons]
    unfold firstF
    have e1 : p.l.length - (p.l[i] :: p.l.drop (i + 1)).length = i := by rw [List.length_cons, List.length_drop]; omega
    have e2 : p.l.length - (p.l.drop (i + 1)).length = i + 1 := by rw [List.length_drop]; omega
    rw [e1]
    by_cases h : p.l[i].number ≤ n
    · rw [if_pos (by simpa using h), hk _ ⟨i, rfl⟩, e2, if_pos (show (absP p.l[i]).1 ≤ n from h)]
      simp
    · rw [if_neg (by simpa using h), hk _ ⟨g, rfl⟩, e2, if_neg (show ¬ (absP p.l[i]).1 ≤ n from h)]
def dieS (q : Sl Held × Mp Int Int) (x : Held) : Sl Held × Mp Int Int := if gM q.2 x.Number = 0 then (⟨false, false, q.1.l ++ [x]⟩, putS q.2 x) else q
theorem dieS_len (q : Sl Held × Mp Int Int) (x : Held) : (dieS q x).1.l.length ≤ q.1.l.length + 1 := by
  unfold dieS
  split <;> simp
theorem dieS_fold_len : ∀ (xs : List Held) (q : Sl Held × Mp Int Int), (xs.foldl dieS q).1.l.length ≤ q.1.l.length + xs.length
  | [], _ => by simp
  | x :: xs, q => by
    rw [List.foldl_cons, List.length_cons]
    have h1 := dieS_fold_len xs (dieS q x)
    have h2 := dieS_len q x
    omega
theorem die_eq (x : Held) (M : Mp Int Int) (p : Sl Prune_state) (D : Sl Held) (h : D.l.length < 549755813888) : prune_Book_Prune_1 x M p D = some ((dieS (D, M) x).2, (dieS (D, M) x).1) := by
  unfold prune_Book_Prune_1 dieS
  have e1 : (Mp.get M x.Number).getD 0 = gM M x.Number := rfl
  rw [e1, app_ok _ _ (by simp; omega) (by decide), Option.bind_some]
  by_cases hg : gM M x.Number = 0
  · simp [hg, putS]
  · simp [hg]
theorem die_in (y50 : Sl Prune_state) (k : ((Sl Held) × (Mp Int Int) × Int) → Option ((Sl Int) × (Sl Prune_state) × (Sl Held))) (x : (Sl Held) × (Mp Int Int) × Int) (s : Prune_state) (D : Sl Held) (M : Mp Int Int) (h1 : s.l.l.length < 1073741824) (h2 : D.l.length < 1073741824) :
    loopN (prune_Book_Prune_B426 y50 k x s) FUEL (D, M, 0) = k ((s.l.l.foldl dieS (D, M)).1, (s.l.l.foldl dieS (D, M)).2, iAdd .i64 x.2.2 1) := by
  have hl : s.l.l.length < 4611686018427387904 := by omega
  have := loop_fuel (B := prune_Book_Prune_B426 y50 k x s) (fun y => ∃ i : Nat, y.2.2 = i ∧ i ≤ s.l.l.length ∧ y.1.l.length + (s.l.l.length - i) < 549755813888) (fun y => s.l.l.length - y.2.2.toNat) (fun y => k (((s.l.l.drop y.2.2.toNat).foldl dieS (y.1, y.2.1)).1, ((s.l.l.drop y.2.2.toNat).foldl dieS (y.1, y.2.1)).2, iAdd .i64 x.2.2 1)) ?_ (D, M, 0) ⟨0, rfl, Nat.zero_le _, by simp only [Nat.sub_zero]; omega⟩ (by simp; omega)
  · simpa using this
  · rintro k' ⟨D, M, j⟩ ⟨i, hi, hle, hb⟩ hk
    simp only at hi hb
    subst hi
    simp only [Int.toNat_natCast] at hk ⊢
    unfold prune_Book_Prune_B426
    rcases Nat.lt_or_ge i s.l.l.length with h | h
    · rw [if_pos (by simp [ltB, h])]
      simp only [idx_in h, Option.bind_some]
      rw [die_eq _ _ _ _ (by omega), Option.bind_some, inc h hl]
      have := hk ((dieS (D, M) s.l.l[i]).1, (dieS (D, M) s.l.l[i]).2, (i : Int) + 1) ⟨i + 1, by simp, h, by have := dieS_len (D, M) s.l.l[i]; simp only at this ⊢; omega⟩ (by simp only; omega)
      rw [this]
      simp only [drop_at h, List.foldl_cons]
      have e : ((i : Int) + 1).toNat = i + 1 := by omega
      rw [e]
    · have : i = s.l.l.length := by omega
      subst this
      rw [if_neg (by simp [ltB])]
      simp [prune_Book_Prune_J13]
theorem die_all (y44 y50 : Sl Prune_state) (D : Sl Held) (M : Mp Int Int) (h1 : y44.l.length < 1073741824) (h2 : D.l.length + totS (y44.l.map absP) < 1073741824) :
    loopN (prune_Book_Prune_B384 y44 y50) FUEL (D, M, 0) = prune_Book_Prune_J9 y50 ((flatS (y44.l.map absP)).foldl dieS (D, M)).1 := by
  have hl : y44.l.length < 4611686018427387904 := by omega
  have := loop_fuel (B := prune_Book_Prune_B384 y44 y50) (fun y => ∃ i : Nat, y.2.2 = i ∧ i ≤ y44.l.length ∧ y.1.l.length + totS ((y44.l.drop i).map absP) < 1073741824) (fun y => y44.l.length - y.2.2.toNat) (fun y => prune_Book_Prune_J9 y50 ((flatS ((y44.l.drop y.2.2.toNat).map absP)).foldl dieS (y.1, y.2.1)).1) ?_ (D, M, 0) ⟨0, rfl, Nat.zero_le _, by simpa using h2⟩ (by simp; omega)
  · simpa using this
  · rintro k' ⟨D, M, j⟩ ⟨i, hi, hle, hb⟩ hk
    simp only at hi hb
    subst hi
    simp only [Int.toNat_natCast] at hk ⊢
    unfold prune_Book_Prune_B384
    rcases Nat.lt_or_ge i y44.l.length with h | h
    · rw [if_pos (by simp [ltB, h])]
      simp only [idx_in h, Option.bind_some]
      rw [drop_at h, List.map_cons, totS_cons] at hb
      have e3 : (absP y44.l[i]).2.length = y44.l[i].l.l.length := rfl
      rw [die_in _ _ _ _ _ _ (by omega) (by omega)]
      simp only [inc h hl]
      have hlen := dieS_fold_len y44.l[i].l.l (D, M)
      simp only at hlen
      have := hk ((y44.l[i].l.l.foldl dieS (D, M)).1, (y44.l[i].l.l.foldl dieS (D, M)).2, (i : Int) + 1) ⟨i + 1, by simp, h, by simp only; omega⟩ (by simp only; omega)
      rw [this]
      have e : ((i : Int) + 1).toNat = i + 1 := by omega
      simp only [e]
      rw [drop_at h, List.map_cons]
      have e4 : flatS (absP y44.l[i] :: (y44.l.drop (i + 1)).map absP) = y44.l[i].l.l ++ flatS ((y44.l.drop (i + 1)).map absP) := by simp [flatS, absP]
      rw [e4, List.foldl_append]
    · have : i = y44.l.length := by omega
      subst this
      rw [if_neg (by simp [ltB])]
      simp [flatS]
theorem nums_eq (y50 : Sl Prune_state) (p201 y203 y250 : Sl Held) (h : y250.l.length < 1073741824) : ∃ m : Sl Int, loopN (prune_Book_Prune_B277 y50 p201 y203 y250) FUEL (⟨true, true, []⟩, 0) = prune_Book_Prune_J10 y50 p201 y203 m ∧ m.l = y250.l.map (·.Number) := by
  have hl : y250.l.length < 4611686018427387904 := by omega
  have key : ∀ (i : Nat), i ≤ y250.l.length → ∀ (d : Nat) (m : Sl Int), m.l.length = y250.l.length - i → i < d → ∃ r : Sl Int, loopN (prune_Book_Prune_B277 y50 p201 y203 y250) d (m, ((y250.l.length - i : Nat) : Int)) = prune_Book_Prune_J10 y50 p201 y203 r ∧ r.l = m.l ++ (y250.l.drop (y250.l.length - i)).map (·.Number) := by
    intro i
    induction i with
    | zero =>
      intro _ d m _ hd
      obtain ⟨d, rfl⟩ : ∃ e, d = e + 1 := ⟨d - 1, by omega⟩
      refine ⟨m, ?_, by simp⟩
      show prune_Book_Prune_B277 y50 p201 y203 y250 (loopN _ d) _ = _
      unfold prune_Book_Prune_B277
      rw [if_neg (by simp [ltB])]
    | succ i ih =>
      intro hi d m hm hd
      obtain ⟨d, rfl⟩ : ∃ e, d = e + 1 := ⟨d - 1, by omega⟩
      have hj : y250.l.length - (i + 1) < y250.l.length := by omega
      have hs : y250.l.length - (i + 1) + 1 = y250.l.length - i := by omega
      obtain ⟨r, h1, h2⟩ := ih (by omega) d ⟨m.nl && [(y250.l[y250.l.length - (i + 1)]'hj).Number].length == 0, false, m.l ++ [(y250.l[y250.l.length - (i + 1)]'hj).Number]⟩ (by simp; omega) (by omega)
      refine ⟨r, ?_, ?_⟩
      · show prune_Book_Prune_B277 y50 p201 y203 y250 (loopN _ d) _ = _
        unfold prune_Book_Prune_B277
        rw [if_pos (by simp [ltB]; omega)]
        simp only [idx_in hj, Option.bind_some]
        rw [app_ok _ _ (by simp; omega) (by decide), Option.bind_some, inc hj hl, ← h1]
        congr 3
        omega
      · rw [h2, drop_at hj, hs]
        simp
  obtain ⟨r, h1, h2⟩ := key y250.l.length (Nat.le_refl _) FUEL ⟨true, true, []⟩ (by simp) (by unfold FUEL; omega)
  refine ⟨r, ?_, by simpa using h2⟩
  rw [← h1]
  congr 2
  simp
theorem pTake_eq (y50 : Sl Prune_state) (D : Sl Held) (hk : ∀ y ∈ D.l, okN y = true) (hl : D.l.length < 1073741824) : ∃ (m : Sl Int) (d e : Sl Held), sortHeld D = some e ∧ prune_Book_Prune_J9 y50 D = some (m, y50, d) ∧ m.l = (e.l.take 64).map (·.Number) ∧ d.l = e.l.drop 64 := by
  unfold prune_Book_Prune_J9
  have hso : ∃ e, sortHeld D = some e := by
    unfold sortHeld
    rw [dif_pos ⟨hk, by omega⟩]
    exact ⟨_, rfl⟩
  obtain ⟨e, he⟩ := hso
  have hel := sortHeld_len he
  rw [he, Option.bind_some]
  have hmin : (if 64 < (D.l.length : Int) then 64 else (D.l.length : Int)) = ((min 64 D.l.length : Nat) : Int) := by
    by_cases h : 64 < (D.l.length : Int)
    · rw [if_pos h]; omega
    · rw [if_neg h]; omega
  rw [hmin, cut_to e (by omega), Option.bind_some]
  obtain ⟨m, h1, h2⟩ := nums_eq y50 D e ⟨e.nl, e.ex && min 64 D.l.length == e.l.length, e.l.take (min 64 D.l.length)⟩ (by simp; omega)
  rw [h1]
  unfold prune_Book_Prune_J10
  rw [hmin, cut_from e (by omega), Option.bind_some, app_ok _ _ (by simp; omega) (by decide), Option.bind_some]
  have e1 : e.l.take (min 64 D.l.length) = e.l.take 64 := by
    rw [← hel]
    by_cases h : 64 ≤ e.l.length
    · rw [Nat.min_eq_left h]
    · rw [Nat.min_eq_right (by omega), List.take_of_length_le (Nat.le_refl _), List.take_of_length_le (by omega)]
  have e2 : e.l.drop (min 64 D.l.length) = e.l.drop 64 := by
    rw [← hel]
    by_cases h : 64 ≤ e.l.length
    · rw [Nat.min_eq_left h]
    · rw [Nat.min_eq_right (by omega), List.drop_eq_nil_of_le (Nat.le_refl _), List.drop_eq_nil_of_le (by omega)]
  refine ⟨_, _, e, rfl, rfl, ?_, ?_⟩
  · rw [← e1, ← h2]; rfl
  · rw [← e2]; simp
theorem pPrune_eq (n : Int) (p : Sl Prune_state) (D : Sl Held) {S : List AS} (hS : p.l.map absP = S) (hf : Few S) (hl : p.l.length < 1073741824) (ht : D.l.length + totS S < 1073741824)
    (hk : ∀ y ∈ ((flatS (S.take (firstF n S 0 0))).foldl dieS (D, sizesM (S.drop (firstF n S 0 0)))).1.l, okN y = true) :
    ∃ (m : Sl Int) (q : Sl Prune_state) (d e : Sl Held), sortHeld ((flatS (S.take (firstF n S 0 0))).foldl dieS (D, sizesM (S.drop (firstF n S 0 0)))).1 = some e ∧ prune_Book_Prune n p D = some (m, q, d) ∧ q.l = p.l.drop (firstF n S 0 0) ∧ m.l = (e.l.take 64).map (·.Number) ∧ d.l = e.l.drop 64 := by
  have hfl : firstF n S 0 0 ≤ p.l.length := by
    have := first_le n S 0 0
    have h2 : p.l.length = S.length := by rw [← hS]; simp
    omega
  rw [pFirst_eq n p D (by omega), hS]
  generalize firstF n S 0 0 = f at *
  unfold prune_Book_Prune_J5
  have ec : cutL p none (some (f : Int)) (some (f : Int)) = some ⟨p.nl, true, p.l.take f⟩ := by simp [cutL, boundI, hfl]
  rw [ec, Option.bind_some, cut_from p hfl, Option.bind_some, appX_ok _ _ (by simp; omega) (by decide), Option.bind_some]
  have hd : (p.l.drop f).map absP = S.drop f := by rw [← hS, List.map_drop]
  have htk : (p.l.take f).map absP = S.take f := by rw [← hS, List.map_take]
  have hfew : Few (S.drop f) := ⟨by have := hf.1; rw [List.length_drop]; omega, fun s hs => hf.2 s (List.mem_of_mem_drop hs)⟩
  have htt : totS (S.take f) ≤ totS S := by
    have := totS_app (S.take f) (S.drop f)
    rw [List.take_append_drop] at this
    omega
  rw [sizes_eq _ D (by simpa using hd) hfew, Option.bind_some, die_all _ _ _ _ (by simp; omega) (by rw [htk]; omega), htk]
  have hlen := dieS_fold_len (flatS (S.take f)) (D, sizesM (S.drop f))
  rw [flatS_len] at hlen
  obtain ⟨m, d, e, h1, h2, h3, h4⟩ := pTake_eq (⟨(⟨false, true, []⟩ : Sl Prune_state).nl && (p.l.drop f).length == 0, (p.l.drop f).length == 0, (⟨false, true, []⟩ : Sl Prune_state).l ++ p.l.drop f⟩) _ hk (by simp only at hlen; omega)
  refine ⟨m, _, d, e, h1, h2, ?_, h3, h4⟩
  simp
end Go.Proofs.Ytbdomlbmbcnaeaa
namespace Go.Proofs.Ytbdomlbmbcnaeaa
open Go.Abs
/-- Who is dead behind a Prune that leaves these states. -/
def Fall (S K : List AS) (D D' : List Held) : Prop := ∀ z, z ∈ D' ↔ z ∈ D ∨ (z ∈ flatS S ∧ hasN z.Number (flatS K) = false)
theorem up_ext : ∀ {a b : List Held}, Up a → Up b → (∀ z, z ∈ a ↔ z ∈ b) → a = b
  | [], [], _, _, _ => rfl
  | [], y :: b, _, _, h => by have := (h y).2 (by simp); simp at this
  | x :: a, [], _, _, h => by have := (h x).1 (by simp); simp at this
  | x :: a, y :: b, h1, h2, h => by
    have h1' := List.pairwise_cons.1 h1
    have h2' := List.pairwise_cons.1 h2
    have hxy : x = y := by
      rcases List.mem_cons.1 ((h x).1 (by simp)) with e | hx
      · exact e
      · rcases List.mem_cons.1 ((h y).2 (by simp)) with e | hy
        · exact e.symm
        · have g1 := h2'.1 x hx
          have g2 := h1'.1 y hy
          omega
    subst hxy
    rw [up_ext h1'.2 h2'.2 fun z => ?_]
    constructor
    · intro hz
      rcases List.mem_cons.1 ((h z).1 (by simp [hz])) with e | hz'
      · have := h1'.1 z hz; rw [e] at this; omega
      · exact hz'
    · intro hz
      rcases List.mem_cons.1 ((h z).2 (by simp [hz])) with e | hz'
      · have := h2'.1 z hz; rw [e] at this; omega
      · exact hz'
theorem flat_cons (a : AS) (S : List AS) : flatS (a :: S) = a.2 ++ flatS S := by simp [flatS]
theorem hasN_false {n : Int} {l : List Held} : hasN n l = false ↔ ∀ y ∈ l, y.Number ≠ n := by
  simp [hasN]
theorem mem_suffix {S K : List AS} (h : K <:+ S) {x : Held} (hx : x ∈ flatS K) : x ∈ flatS S := by
  obtain ⟨A, rfl⟩ := h
  simp [flatS] at hx ⊢
  obtain ⟨a, h1, h2⟩ := hx
  exact .inr ⟨a, h1, h2⟩
theorem held_ext {x y : Held} (h1 : x.Number = y.Number) (h2 : x.Size = y.Size) : x = y := by cases x; cases y; simp only at h1 h2; rw [h1, h2]
theorem fall_trans {S K L : List AS} {D E G : List Held} (hc : ∀ x ∈ flatS S, ∀ y ∈ flatS S, x.Number = y.Number → x.Size = y.Size) (h1 : K <:+ S) (h2 : L <:+ K) (f1 : Fall S K D E) (f2 : Fall K L E G) : Fall S L D G := fun z => by
  rw [f2 z, f1 z]
  constructor
  · rintro ((h | ⟨h, g⟩) | ⟨h, g⟩)
    · exact .inl h
    · exact .inr ⟨h, hasN_false.2 fun y hy => hasN_false.1 g y (mem_suffix h2 hy)⟩
    · exact .inr ⟨mem_suffix h1 h, g⟩
  · rintro (h | ⟨h, g⟩)
    · exact .inl (.inl h)
    · cases hz : hasN z.Number (flatS K) with
      | false => exact .inl (.inr ⟨h, rfl⟩)
      | true =>
        obtain ⟨y, hy, he⟩ := hasN_iff.1 hz
        have := held_ext he (hc y (mem_suffix h1 hy) z h he)
        rw [← this]
        refine .inr ⟨hy, ?_⟩
        rw [he]
        exact g
/-- What holds behind a Prune that has told nothing yet. -/
theorem fall_inv {S K : List AS} {D E : List Held} (hi : Inv S D) (hs : K <:+ S) (hf : Fall S K D E) (hu : Up E) : Inv K E := by
  obtain ⟨A, hA⟩ := hs
  have hsuf : K <:+ S := ⟨A, hA⟩
  have hE : ∀ z ∈ E, okH z = true := fun z hz => by
    rcases (hf z).1 hz with h | ⟨h, _⟩
    · exact (rises_up D _ hi.dead).2.1 z h
    · obtain ⟨s, h1, h2⟩ := mem_flat.1 h
      exact (rises_up _ _ (hi.rise s h1)).2.1 z h2
  refine ⟨?_, fun s hs => hi.rise s (by rw [← hA]; simp [hs]), fun x hx y hy => hi.cons x (mem_suffix hsuf hx) y (mem_suffix hsuf hy), up_rises E none hu hE (by simp), fun x hx => ?_⟩
  · have := hi.nums
    rw [← hA] at this
    exact (List.pairwise_append.1 this).2.1
  · refine hasN_false.2 fun y hy he => ?_
    rcases (hf y).1 hy with h | ⟨h, g⟩
    · have := hi.apart x (mem_suffix hsuf hx)
      exact hasN_false.1 this y h he
    · exact hasN_false.1 g x hx he.symm
theorem inv_drop {S : List AS} {D : List Held} (hi : Inv S D) (k : Nat) : Inv S (D.drop k) := by
  have hd := rises_up D _ hi.dead
  refine ⟨hi.nums, hi.rise, hi.cons, up_rises _ none (hd.1.sublist (List.drop_sublist _ _)) (fun x hx => hd.2.1 x (List.mem_of_mem_drop hx)) (by simp), fun x hx => ?_⟩
  exact hasN_false.2 fun y hy => hasN_false.1 (hi.apart x hx) y (List.mem_of_mem_drop hy)
/-! ### the reference -/
theorem stepR_fold (K : List AS) : ∀ (xs : List Held) (D : Sl Held), Up D.l → (∀ x ∈ xs, ∀ y ∈ xs, x.Number = y.Number → x = y) → (∀ x ∈ xs, hasN x.Number D.l = true → x ∈ D.l ) →
    Up (xs.foldl (stepR K) D).l ∧ ∀ z, z ∈ (xs.foldl (stepR K) D).l ↔ z ∈ D.l ∨ (z ∈ xs ∧ hasN z.Number (flatS K) = false)
  | [], D, hu, _, _ => ⟨hu, by simp⟩
  | x :: xs, D, hu, hx, hd => by
    rw [List.foldl_cons]
    cases hk : hasN x.Number (flatS K) with
    | true =>
      have e : stepR K D x = D := by unfold stepR; rw [hk, cond_true]
      rw [e]
      obtain ⟨g1, g2⟩ := stepR_fold K xs D hu (fun a ha b hb => hx a (by simp [ha]) b (by simp [hb])) (fun a ha => hd a (by simp [ha]))
      refine ⟨g1, fun z => ?_⟩
      rw [g2 z]
      constructor
      · rintro (h | ⟨h, g⟩)
        · exact .inl h
        · exact .inr ⟨by simp [h], g⟩
      · rintro (h | ⟨h, g⟩)
        · exact .inl h
        · rcases List.mem_cons.1 h with rfl | h
          · rw [hk] at g; cases g
          · exact .inr ⟨h, g⟩
    | false =>
      have e : stepR K D x = putSl D x := by unfold stepR; rw [hk, cond_false]
      rw [e]
      have el := putSl_l D x
      obtain ⟨g1, g2⟩ := stepR_fold K xs (putSl D x) (by rw [el]; exact putL_up hu) (fun a ha b hb => hx a (by simp [ha]) b (by simp [hb])) (fun a ha hh => by
        rw [el] at hh ⊢
        rw [putL_has hu] at hh
        rw [putL_mem hu]
        cases h1 : hasN a.Number D.l with
        | true => exact .inl (hd a (by simp [ha]) h1)
        | false =>
          rw [h1, Bool.false_or] at hh
          have : a = x := hx a (by simp [ha]) x (by simp) (by simpa using hh : x.Number = a.Number).symm
          exact .inr ⟨this, by rw [← this]; exact h1⟩)
      refine ⟨g1, fun z => ?_⟩
      rw [g2 z, el, putL_mem hu]
      constructor
      · rintro ((h | ⟨rfl, _⟩) | ⟨h, g⟩)
        · exact .inl h
        · exact .inr ⟨by simp, hk⟩
        · exact .inr ⟨by simp [h], g⟩
      · rintro (h | ⟨h, g⟩)
        · exact .inl (.inl h)
        · rcases List.mem_cons.1 h with rfl | h
          · cases h1 : hasN z.Number D.l with
            | true => exact .inl (.inl (hd z (by simp) h1))
            | false => exact .inl (.inr ⟨rfl, rfl⟩)
          · exact .inr ⟨h, g⟩
def dropA (n : Int) : List AS → List AS
  | a :: b :: r => if b.1 ≤ n then dropA n (b :: r) else a :: b :: r
  | l => l
theorem dropA_cons (n : Int) (a b : AS) (r : List AS) : dropA n (a :: b :: r) = if b.1 ≤ n then dropA n (b :: r) else a :: b :: r := by rw [dropA]
theorem flat_app (A B : List AS) : flatS (A ++ B) = flatS A ++ flatS B := by simp [flatS]
theorem dropA_suffix (n : Int) : ∀ S : List AS, dropA n S <:+ S
  | [] => List.suffix_refl _
  | [a] => List.suffix_refl _
  | a :: b :: r => by
    unfold dropA
    split
    · exact (dropA_suffix n (b :: r)).trans (List.suffix_cons _ _)
    · exact List.suffix_refl _
theorem inv_head {a : AS} {S : List AS} {D : List Held} (hi : Inv (a :: S) D) {x y : Held} (hx : x ∈ a.2) (hy : y ∈ a.2) (h : x.Number = y.Number) : x = y :=
  held_ext h (hi.cons x (by rw [flat_cons]; simp [hx]) y (by rw [flat_cons]; simp [hy]) h)
theorem refL_fall (n : Int) : ∀ (l : List Affidavitref24_State) (D : Sl Held), Inv (l.map absR) D.l →
    (refL n l D).1.map absR = dropA n (l.map absR) ∧ Fall (l.map absR) (dropA n (l.map absR)) D.l (refL n l D).2.l ∧ Up (refL n l D).2.l ∧ (refL n l D).2.l.length + totS (dropA n (l.map absR)) ≤ D.l.length + totS (l.map absR)
  | [], D, hi => ⟨rfl, fun z => by simp [refL, flatS], (rises_up _ _ hi.dead).1, Nat.le_refl _⟩
  | [a], D, hi => ⟨rfl, fun z => by
      simp only [refL, List.map_cons, List.map_nil, dropA]
      constructor
      · exact .inl
      · rintro (h | ⟨h, g⟩)
        · exact h
        · exact absurd rfl (hasN_false.1 g z h), (rises_up _ _ hi.dead).1, Nat.le_refl _⟩
  | a :: b :: r, D, hi => by
    have hid : Up D.l := (rises_up _ _ hi.dead).1
    have hm : (a :: b :: r).map absR = absR a :: absR b :: r.map absR := rfl
    rw [hm] at hi ⊢
    rw [dropA_cons]
    unfold refL
    by_cases hb : b.N ≤ n
    · rw [if_pos hb, if_pos (show (absR b).1 ≤ n from hb)]
      have hap : ∀ x ∈ a.L.l, hasN x.Number D.l = true → x ∈ D.l := fun x hx h => by
        have := hi.apart x (by rw [flat_cons]; exact List.mem_append_left _ hx)
        rw [this] at h; cases h
      obtain ⟨g1, g2⟩ := stepR_fold ((b :: r).map absR) a.L.l D hid (fun x hx y hy => inv_head hi hx hy) hap
      have hf1 : Fall (absR a :: absR b :: r.map absR) (absR b :: r.map absR) D.l (a.L.l.foldl (stepR ((b :: r).map absR)) D).l := fun z => by
        rw [g2 z]
        constructor
        · rintro (h | ⟨h, g⟩)
          · exact .inl h
          · exact .inr ⟨by rw [flat_cons]; exact List.mem_append_left _ h, g⟩
        · rintro (h | ⟨h, g⟩)
          · exact .inl h
          · rw [flat_cons] at h
            rcases List.mem_append.1 h with h | h
            · exact .inr ⟨h, g⟩
            · exact absurd rfl (hasN_false.1 g z h)
      have hsuf : (absR b :: r.map absR) <:+ (absR a :: absR b :: r.map absR) := List.suffix_cons _ _
      have hi1 := fall_inv hi hsuf hf1 g1
      obtain ⟨k1, k2, k3, k4⟩ := refL_fall n (b :: r) (a.L.l.foldl (stepR ((b :: r).map absR)) D) hi1
      have hlen := stepR_fold_len ((b :: r).map absR) a.L.l D
      rw [List.map_cons] at k1 k2 k4
      refine ⟨k1, fall_trans hi.cons hsuf (dropA_suffix n _) hf1 k2, k3, ?_⟩
      rw [totS_cons (absR a)]
      have e3 : (absR a).2.length = a.L.l.length := rfl
      simp only [List.map_cons] at hlen k4 ⊢
      omega
    · rw [if_neg hb, if_neg (show ¬ (absR b).1 ≤ n from hb)]
      refine ⟨by simp, fun z => ?_, hid, Nat.le_refl _⟩
      constructor
      · exact .inl
      · rintro (h | ⟨h, g⟩)
        · exact h
        · exact absurd rfl (hasN_false.1 g z h)
/-! ### the program -/
theorem first_shift (n : Int) : ∀ (S : List AS) (i f k : Nat), firstF n S (i + k) (f + k) = firstF n S i f + k
  | [], i, f, k => rfl
  | s :: r, i, f, k => by
    unfold firstF
    have := first_shift n r (i + 1) (if s.1 ≤ n then i else f) k
    rw [← this, show i + k + 1 = i + 1 + k by omega]
    split <;> rfl
theorem first_above (n : Int) : ∀ (S : List AS) (i f : Nat), (∀ s ∈ S, n < s.1) → firstF n S i f = f
  | [], _, _, _ => rfl
  | s :: r, i, f, h => by
    unfold firstF
    have := h s (by simp)
    rw [if_neg (by omega)]
    exact first_above n r (i + 1) f fun x hx => h x (by simp [hx])
theorem first_drop (n : Int) : ∀ (S : List AS), S.Pairwise (fun a b => a.1 < b.1) → S.drop (firstF n S 0 0) = dropA n S
  | [], _ => rfl
  | [a], _ => by simp [firstF, dropA]
  | a :: b :: r, h => by
    have h1 := List.pairwise_cons.1 h
    have ih := first_drop n (b :: r) h1.2
    unfold dropA
    have e1 : firstF n (a :: b :: r) 0 0 = firstF n (b :: r) 1 0 := by rw [firstF]; simp
    by_cases hb : b.1 ≤ n
    · rw [if_pos hb, ← ih]
      have e2 : firstF n (b :: r) 1 0 = firstF n r 2 1 := by rw [firstF, if_pos hb]
      have e3 : firstF n (b :: r) 0 0 = firstF n r 1 0 := by rw [firstF, if_pos hb]
      rw [e1, e2, e3, first_shift n r 1 0 1, List.drop_succ_cons]
    · rw [if_neg hb]
      have h2 := List.pairwise_cons.1 h1.2
      have : firstF n (b :: r) 1 0 = 0 := first_above n (b :: r) 1 0 fun s hs => by
        rcases List.mem_cons.1 hs with rfl | hs
        · omega
        · have := h2.1 s hs; omega
      rw [e1, this]
      rfl
theorem die_fold (K : List Held) : ∀ (xs : List Held) (D : Sl Held) (M : Mp Int Int), (∀ x ∈ xs, ∀ y ∈ xs, x.Number = y.Number → x = y) → (∀ x ∈ xs, 0 ≤ x.Size ∧ x.Size ≤ 4096) → D.l.Pairwise (fun a b => a.Number ≠ b.Number) →
    (∀ z ∈ xs, gM M z.Number = 0 ↔ (hasN z.Number K = false ∧ hasN z.Number D.l = false)) →
    (xs.foldl dieS (D, M)).1.l.Pairwise (fun a b => a.Number ≠ b.Number) ∧ ∀ z, z ∈ (xs.foldl dieS (D, M)).1.l ↔ z ∈ D.l ∨ (z ∈ xs ∧ hasN z.Number K = false ∧ hasN z.Number D.l = false)
  | [], D, M, _, _, hp, _ => ⟨hp, by simp⟩
  | x :: xs, D, M, hx, hz, hp, hm => by
    rw [List.foldl_cons]
    have hx' : ∀ a ∈ xs, ∀ b ∈ xs, a.Number = b.Number → a = b := fun a ha b hb => hx a (by simp [ha]) b (by simp [hb])
    have hz' : ∀ a ∈ xs, 0 ≤ a.Size ∧ a.Size ≤ 4096 := fun a ha => hz a (by simp [ha])
    have hmx := hm x (by simp)
    by_cases hg : gM M x.Number = 0
    · obtain ⟨q1, q2⟩ := hmx.1 hg
      have e : dieS (D, M) x = (⟨false, false, D.l ++ [x]⟩, putS M x) := by unfold dieS; simp [hg]
      rw [e]
      have hh : ∀ n, hasN n (D.l ++ [x]) = (hasN n D.l || (x.Number == n)) := fun n => by simp [hasN]
      obtain ⟨g1, g2⟩ := die_fold K xs ⟨false, false, D.l ++ [x]⟩ (putS M x) hx' hz' (by
        rw [List.pairwise_append]
        refine ⟨hp, by simp, fun a ha b hb => ?_⟩
        simp only [List.mem_singleton] at hb
        subst hb
        exact hasN_false.1 q2 a ha) (fun z hzz => by
        unfold gM putS
        rw [get_put, hh]
        by_cases hzx : z.Number = x.Number
        · rw [if_pos hzx]
          have := hz x (by simp)
          rw [add1 (by omega) (by omega)]
          simp [hzx]
          omega
        · rw [if_neg hzx]
          have := hm z (by simp [hzz])
          unfold gM at this
          rw [this]
          have : (x.Number == z.Number) = false := by simp; omega
          simp [this])
      refine ⟨g1, fun z => ?_⟩
      rw [g2 z]
      simp only [List.mem_append, List.mem_singleton, hh]
      constructor
      · rintro ((h | rfl) | ⟨h, g, k⟩)
        · exact .inl h
        · exact .inr ⟨by simp, q1, q2⟩
        · refine .inr ⟨by simp [h], g, ?_⟩
          cases hd : hasN z.Number D.l with
          | false => rfl
          | true => rw [hd] at k; simp at k
      · rintro (h | ⟨h, g, k⟩)
        · exact .inl (.inl h)
        · rcases List.mem_cons.1 h with rfl | h
          · exact .inl (.inr rfl)
          · by_cases hzx : x.Number = z.Number
            · exact .inl (.inr (hx z (by simp [h]) x (by simp) hzx.symm))
            · have : (x.Number == z.Number) = false := by simpa using hzx
              exact .inr ⟨h, g, by rw [k, this]; rfl⟩
    · have e : dieS (D, M) x = (D, M) := by unfold dieS; simp [hg]
      rw [e]
      obtain ⟨g1, g2⟩ := die_fold K xs D M hx' hz' hp (fun z hzz => hm z (by simp [hzz]))
      refine ⟨g1, fun z => ?_⟩
      rw [g2 z]
      constructor
      · rintro (h | ⟨h, g⟩)
        · exact .inl h
        · exact .inr ⟨by simp [h], g⟩
      · rintro (h | ⟨h, g⟩)
        · exact .inl h
        · rcases List.mem_cons.1 h with rfl | h
          · exact absurd (hmx.2 g) hg
          · exact .inr ⟨h, g⟩
theorem sizes_get {S K : List AS} {D : List Held} (hi : Inv S D) (hs : K <:+ S) (n : Int) : gM (sizesM K) n = 0 ↔ hasN n (flatS K) = false := by
  have hk : Inv K D := by
    obtain ⟨A, hA⟩ := hs
    have hsuf : K <:+ S := ⟨A, hA⟩
    refine ⟨?_, fun s hs => hi.rise s (by rw [← hA]; simp [hs]), fun x hx y hy => hi.cons x (mem_suffix hsuf hx) y (mem_suffix hsuf hy), hi.dead, fun x hx => hi.apart x (mem_suffix hsuf hx)⟩
    have := hi.nums
    rw [← hA] at this
    exact (List.pairwise_append.1 this).2.1
  rcases gM_sizes hk n with ⟨h1, _, h3⟩ | ⟨y, hy, he, _, h3⟩
  · rw [h1, h3]; simp
  · rw [h3]
    have := size_of hk hy
    have : hasN n (flatS K) = true := hasN_iff.2 ⟨y, hy, he⟩
    rw [this]
    simp
    omega
theorem pFall {S : List AS} {D : Sl Held} (hi : Inv S D.l) (f : Nat) :
    ((flatS (S.take f)).foldl dieS (D, sizesM (S.drop f))).1.l.Pairwise (fun a b => a.Number ≠ b.Number) ∧ Fall S (S.drop f) D.l ((flatS (S.take f)).foldl dieS (D, sizesM (S.drop f))).1.l := by
  have hsuf : S.drop f <:+ S := List.drop_suffix f S
  have hmem : ∀ x ∈ flatS (S.take f), x ∈ flatS S := fun x hx => by
    obtain ⟨s, h1, h2⟩ := mem_flat.1 hx
    exact mem_flat.2 ⟨s, List.mem_of_mem_take h1, h2⟩
  have hup := (rises_up _ _ hi.dead).1
  obtain ⟨g1, g2⟩ := die_fold (flatS (S.drop f)) (flatS (S.take f)) D (sizesM (S.drop f)) (fun x hx y hy h => held_ext h (hi.cons x (hmem x hx) y (hmem y hy) h)) (fun x hx => size_of hi (hmem x hx)) (hup.imp fun {a b} h => by omega) (fun z hz => by
    rw [sizes_get hi hsuf, hi.apart z (hmem z hz)]
    simp)
  refine ⟨g1, fun z => ?_⟩
  rw [g2 z]
  constructor
  · rintro (h | ⟨h, g, _⟩)
    · exact .inl h
    · exact .inr ⟨hmem z h, g⟩
  · rintro (h | ⟨h, g⟩)
    · exact .inl h
    · refine .inr ⟨?_, g, hi.apart z h⟩
      have : flatS S = flatS (S.take f) ++ flatS (S.drop f) := by
        rw [← flat_app, List.take_append_drop]
      rw [this] at h
      rcases List.mem_append.1 h with h | h
      · exact h
      · exact absurd rfl (hasN_false.1 g z h)
/-- Both Prunes say the same; and what is left. -/
structure Sim (n : Nat) (p : Sl Prune_state) (D : Sl Held) (r : Sl Affidavitref24_State) (E : Sl Held) : Prop where
  ex : p.l.map absP = r.l.map absR
  de : D.l = E.l
  inv : Inv (p.l.map absP) D.l
  len : p.l.length ≤ n
  each : ∀ s ∈ p.l.map absP, s.2.length ≤ 300
  tot : D.l.length + totS (p.l.map absP) ≤ 300 * n
theorem Sim.bd {n : Nat} {p : Sl Prune_state} {D : Sl Held} {r : Sl Affidavitref24_State} {E : Sl Held} (h : Sim n p D r E) (hn : n ≤ 1000000) (l : Sl Held) (hl : l.l.length ≤ 300) : Bd l (p.l.map absP) D :=
  ⟨by omega, by have := h.len; simp; omega, fun s hs => by have := h.each s hs; omega, by have := h.tot; omega⟩
theorem okN_of {x : Held} (h : okH x = true) : okN x = true := by
  have := okH_spec h
  simp [okN]
  omega
theorem prune_sim {k : Nat} {p : Sl Prune_state} {D : Sl Held} {r : Sl Affidavitref24_State} {E : Sl Held} (h : Sim k p D r E) (hk : k ≤ 1000000) (n : Int) :
    ∃ m p' D' m' r' E' F, prune_Book_Prune n p D = some (m, p', D') ∧ r24_Book_Prune n r E = some (m', r', E') ∧ m.l = m'.l ∧ Sim k p' D' r' E' ∧ p'.l.map absP = (p.l.map absP).drop (firstF n (p.l.map absP) 0 0) ∧
      Inv (p'.l.map absP) F ∧ Fall (p.l.map absP) (p'.l.map absP) D.l F ∧ m.l = (F.take 64).map (·.Number) ∧ D'.l = F.drop 64 := by
  have hbd := h.bd hk ⟨true, true, []⟩ (by simp)
  have hlen := h.len
  obtain ⟨g1, g2⟩ := pFall h.inv (firstF n (p.l.map absP) 0 0)
  have hsuf : (p.l.map absP).drop (firstF n (p.l.map absP) 0 0) <:+ p.l.map absP := List.drop_suffix _ _
  have hokH : ∀ y ∈ ((flatS ((p.l.map absP).take (firstF n (p.l.map absP) 0 0))).foldl dieS (D, sizesM ((p.l.map absP).drop (firstF n (p.l.map absP) 0 0)))).1.l, okH y = true := fun y hy => by
    rcases (g2 y).1 hy with h1 | ⟨h1, _⟩
    · exact (rises_up _ _ h.inv.dead).2.1 y h1
    · obtain ⟨s, h2, h3⟩ := mem_flat.1 h1
      exact (rises_up _ _ (h.inv.rise s h2)).2.1 y h3
  obtain ⟨m, q, d, e, k1, k2, k3, k4, k5⟩ := pPrune_eq n p D rfl hbd.few (by omega) hbd.tot (fun y hy => okN_of (hokH y hy))
  obtain ⟨s1, s2, s3⟩ := sortHeld_spec k1
  have hbr : (r.l.map absR) = p.l.map absP := h.ex.symm
  have ei : Inv (r.l.map absR) E.l := by rw [hbr, ← h.de]; exact h.inv
  obtain ⟨t1, t2, t3, t4⟩ := refL_fall n r.l E ei
  have hdr := rDrop_eq n r E (by rw [hbr]; exact hbd.few) (by rw [hbr, ← h.de]; exact hbd.tot)
  obtain ⟨m', d', u1, u2, u3⟩ := rTake_eq ⟨r.nl, r.ex, (refL n r.l E).1⟩ (refL n r.l E).2
  have hfd := first_drop n (p.l.map absP) h.inv.nums
  have hF : Fall (p.l.map absP) ((p.l.map absP).drop (firstF n (p.l.map absP) 0 0)) D.l e.l := fun z => by rw [s2.mem_iff, g2 z]
  have hU : Up e.l := by
    have hne : e.l.Pairwise (fun a b => a.Number ≠ b.Number) := s2.symm.pairwise g1 (fun {a b} h => Ne.symm h)
    exact (s3.and hne).imp fun {a b} h => by have := h.1; have := h.2; omega
  have hee : e.l = (refL n r.l E).2.l := by
    refine up_ext hU t3 fun z => ?_
    rw [hF z, t2 z, hbr, ← h.de, hfd]
  have hqa : q.l.map absP = (p.l.map absP).drop (firstF n (p.l.map absP) 0 0) := by rw [k3, List.map_drop]
  have hqi : Inv (q.l.map absP) e.l := by rw [hqa]; exact fall_inv h.inv hsuf hF hU
  refine ⟨m, q, d, m', _, d', e.l, k2, hdr.trans u1, by rw [k4, u2, hee], ⟨?_, by rw [k5, u3, hee], ?_, ?_, ?_, ?_⟩, hqa, hqi, by rw [hqa]; exact hF, k4, k5⟩
  · rw [hqa, hfd]
    exact (t1.trans (by rw [hbr])).symm
  · rw [k5]
    exact inv_drop hqi 64
  · rw [k3, List.length_drop]
    omega
  · intro s hs
    rw [hqa] at hs
    exact h.each s (List.mem_of_mem_drop hs)
  · rw [hqa, hfd, k5, List.length_drop, hee]
    have := h.tot
    rw [hbr, ← h.de] at t4
    omega
end Go.Proofs.Ytbdomlbmbcnaeaa
namespace Go.Proofs.Ytbdomlbmbcnaeaa
open Go.Abs
theorem ints_same (a b : Sl Int) (h : a.l = b.l) (hl : a.l.length < 4611686018427387904) : r01_Ints a b = some true := by
  unfold r01_Ints
  rw [if_neg (by simp [h])]
  refine loop_nat a.l.length hl (fun _ => some true) ?_ ?_
  · intro k
    unfold r01_Ints_B1083
    rw [if_neg (by simp [ltB])]
    rfl
  · intro k i hi hk
    unfold r01_Ints_B1083
    rw [if_pos (by simp [ltB, hi])]
    rw [← h]
    simp only [idx_in hi, Option.bind_some]
    rw [if_neg (by simp), inc hi hl, hk]
theorem Sim.mono {n m : Nat} {p : Sl Prune_state} {D : Sl Held} {r : Sl Affidavitref24_State} {E : Sl Held} (h : Sim n p D r E) (hn : n ≤ m) : Sim m p D r E :=
  ⟨h.ex, h.de, h.inv, Nat.le_trans h.len hn, h.each, by have := h.tot; omega⟩
theorem add_sim {k : Nat} {p : Sl Prune_state} {D : Sl Held} {r : Sl Affidavitref24_State} {E : Sl Held} (h : Sim k p D r E) (hk : k ≤ 1000000) (n : Int) (l : Sl Held) (hl : l.l.length ≤ 300) :
    ∃ e p' r', prune_Book_Add n l p D = some (e, p') ∧ r24_Book_Add n l r E = some (e, r') ∧ Sim (k + 1) p' D r' E := by
  have hbd := h.bd hk l hl
  have hbr : Bd l (p.l.map absP) E := ⟨hbd.lb, hbd.sb, hbd.each, by rw [← h.de]; exact hbd.tot⟩
  have h1 := pAdd_eq n l p D rfl hbd
  have h2 := rAdd_eq n l r E h.ex.symm hbr
  rw [← h.de] at h2
  rw [add_same h.inv n l.l (by omega) hbd.tot] at h1
  refine ⟨_, _, _, h1, h2, ?_⟩
  by_cases h0 : rAdd n l.l (p.l.map absP) D.l = 0
  · rw [if_pos h0, if_pos h0]
    have e1 : (p.l ++ [stP n l]).map absP = p.l.map absP ++ [(n, l.l)] := by simp [stP, absP]
    have e2 : (r.l ++ [stR n l]).map absR = p.l.map absP ++ [(n, l.l)] := by simp [stR, absR, h.ex]
    refine ⟨by rw [e1, e2], h.de, ?_, ?_, ?_, ?_⟩
    · simp only [e1]
      exact add_inv h.inv h0
    · have := h.len
      simp
      exact this
    · intro s hs
      simp only [e1] at hs
      rcases List.mem_append.1 hs with hs | hs
      · exact h.each s hs
      · simp only [List.mem_singleton] at hs
        subst hs
        exact hl
    · simp only [e1]
      rw [totS_app]
      have := h.tot
      have e : totS [(n, l.l)] = l.l.length := by simp [totS]
      omega
  · rw [if_neg h0, if_neg h0]
    exact h.mono (by omega)
theorem states_eq (p : Sl Prune_state) (D : Sl Held) (h : p.l.length < 1073741824) : ∃ m, prune_Book_States p D = some m ∧ m.l = p.l.map (·.number) := by
  have hl : p.l.length < 4611686018427387904 := by omega
  unfold prune_Book_States
  obtain ⟨r, h1, h2⟩ := loop_exF (B := prune_Book_States_B221 p) (fun x => ∃ i : Nat, x.2 = i ∧ i ≤ p.l.length ∧ x.1.l.length = i) (fun x => p.l.length - x.2.toNat) (fun x r => r.l = x.1.l ++ (p.l.drop x.2.toNat).map (·.number)) (by
    rintro k ⟨m, j⟩ ⟨i, hi, hle, hm⟩ hk
    simp only at hi hm
    subst hi
    simp only at hk ⊢
    unfold prune_Book_States_B221 prune_Book_States_J1
    rcases Nat.lt_or_ge i p.l.length with h' | h'
    · rw [if_pos (by simp [ltB, h'])]
      simp only [idx_in h', Option.bind_some]
      rw [app_ok _ _ (by simp; omega) (by decide), Option.bind_some, inc h' hl]
      obtain ⟨r, g1, g2⟩ := hk (⟨m.nl && [p.l[i].number].length == 0, false, m.l ++ [p.l[i].number]⟩, (i : Int) + 1) ⟨i + 1, by simp, h', by simp [hm]⟩ (by simp only; omega)
      refine ⟨r, g1, ?_⟩
      rw [g2]
      have e : ((i : Int) + 1).toNat = i + 1 := by omega
      simp only [e, Int.toNat_natCast]
      rw [drop_at h', List.map_cons, List.append_assoc]
      rfl
    · rw [if_neg (by simp [ltB]; omega)]
      refine ⟨m.weak, rfl, ?_⟩
      rw [List.drop_eq_nil_of_le (by omega)]
      simp [Sl.weak]) (⟨true, true, []⟩, 0) ⟨0, rfl, Nat.zero_le _, rfl⟩ (by simp; omega)
  exact ⟨r, h1, by simpa using h2⟩
end Go.Proofs.Ytbdomlbmbcnaeaa
namespace Go.Proofs.Ytbdomlbmbcnaeaa
open Go.Abs
/-! ### what is held -/
theorem pHeld_ex (p : Sl Prune_state) (D : Sl Held) (Q : Sl Held → Prop) (hl : p.l.length < 1073741824) (ht : D.l.length + totS (p.l.map absP) < 1073741824)
    (hJ : ∀ z : Sl Held, z.l = D.l ++ flatS (p.l.map absP) → ∃ r, prune_Book_Held_J1 z = some r ∧ Q r) : ∃ r, prune_Book_Held p D = some r ∧ Q r := by
  have hl' : p.l.length < 4611686018427387904 := by omega
  unfold prune_Book_Held
  rw [app_ok _ _ (by simp; omega) (by decide), Option.bind_some]
  refine loop_exF (B := prune_Book_Held_B11142 p) (fun x => ∃ i : Nat, x.2 = i ∧ i ≤ p.l.length ∧ x.1.l ++ flatS ((p.l.drop i).map absP) = D.l ++ flatS (p.l.map absP)) (fun x => p.l.length - x.2.toNat) (fun _ r => Q r) ?_ (_, 0) ⟨0, rfl, Nat.zero_le _, by simp⟩ (by simp; omega)
  rintro k ⟨o, j⟩ ⟨i, hi, hle, ho⟩ hk
  simp only at hi ho
  subst hi
  simp only [Int.toNat_natCast] at hk
  unfold prune_Book_Held_B11142
  rcases Nat.lt_or_ge i p.l.length with h | h
  · rw [if_pos (by simp [ltB, h])]
    simp only [idx_in h, Option.bind_some]
    rw [drop_at h, List.map_cons, flat_cons] at ho
    have hlen := congrArg List.length ho
    simp only [List.length_append, flatS_len] at hlen
    have e3 : (absP p.l[i]).2 = p.l[i].l.l := rfl
    rw [e3] at hlen ho
    rw [app_ok _ _ (by omega) (by decide), Option.bind_some, inc h hl']
    exact hk _ ⟨i + 1, by simp, h, by simp only; rw [← ho]; simp⟩ (by simp only; omega)
  · rw [if_neg (by simp [ltB]; omega)]
    have : i = p.l.length := by omega
    subst this
    simp [flatS] at ho
    exact hJ o (by rw [ho]; simp [flatS])
theorem same_eq (a b : Sl Held) (h : a.l = b.l) (hl : a.l.length < 4611686018427387904) : r24_Same a b = some true := by
  unfold r24_Same
  rw [if_neg (by simp [h])]
  refine loop_nat a.l.length hl (fun _ => some true) ?_ ?_
  · intro k
    unfold r24_Same_B11205
    rw [if_neg (by simp [ltB])]
    rfl
  · intro k i hi hk
    unfold r24_Same_B11205
    rw [if_pos (by simp [ltB, hi])]
    rw [← h]
    simp only [idx_in hi, Option.bind_some]
    rw [if_pos (by simp [eqHeld]), inc hi hl, hk]
/-! ### what was told -/
/-- No number that was told is held. -/
def Told (t : List Int) (S : List AS) (D : List Held) : Prop := ∀ n ∈ t, hasN n (flatS S) = false ∧ hasN n D = false
end Go.Proofs.Ytbdomlbmbcnaeaa
namespace Go.Proofs.Ytbdomlbmbcnaeaa
open Go.Abs
def atH (b : List Held) (i : Nat) : Held := b.getD i ⟨0, 0⟩
theorem atH_eq {b : List Held} {i : Nat} (h : i < b.length) : atH b i = b[i] := by simp [atH, h]
/-- Of the first m places those that differ from the one before. -/
def keepL (b : List Held) : Nat → List Held
  | 0 => []
  | m + 1 => keepL b m ++ (if m ≠ 0 ∧ eqHeld (atH b m) (atH b (m - 1)) = true then [] else [atH b m])
theorem take_snoc {b : List Held} {i : Nat} (h : i < b.length) : b.take (i + 1) = b.take i ++ [atH b i] := by rw [atH_eq h, List.take_succ_eq_append_getElem h]
theorem compact_J82 (b d : Sl Held) {k : Nat} (hb : 0 < b.l.length) (hd : d.l.length = b.l.length) (hk : k ≤ b.l.length) : ∃ r, slices_Compact_api_Held_api_Held_J82 b d (k : Int) = some r ∧ r.l = d.l.take k := by
  have hn : (b.nl && b.l.isEmpty) = false := by cases hx : b.l with | nil => rw [hx] at hb; simp at hb | cons a l => simp
  have c1 : cutR b.l.length (some (k : Int)) none = some (k, b.l.length - k) := by simp [cutR, boundI, hk]
  have c2 : cutR b.l.length none (some (k : Int)) = some (0, k - 0) := by simp [cutR, boundI, hk]
  unfold slices_Compact_api_Held_api_Held_J82
  rw [hn, c1, Option.bind_some]
  have c3 : clearR false (0 + (k, b.l.length - k).1) (k, b.l.length - k).2 d ⟨0, 0⟩ = some ⟨d.nl, d.ex, d.l.take k ++ List.replicate (b.l.length - k) ⟨0, 0⟩ ++ d.l.drop (k + (b.l.length - k))⟩ := by
    simp only [clearR, Nat.zero_add]
    rw [if_pos ⟨trivial, by omega⟩]
  rw [c3, Option.bind_some, c2, Option.bind_some]
  have hl : (d.l.take k).length = k := by rw [List.length_take]; omega
  have c4 : ∀ q : Sl Held, k ≤ q.l.length → frzR false (0 + (0, k - 0).1) (0, k - 0).2 q = some ⟨false, false, q.l.take k⟩ := fun q hq => by
    simp only [frzR, Nat.sub_zero, Nat.add_zero, List.drop_zero, Nat.zero_add]
    rw [if_pos ⟨fun h => by simp at h, hq⟩]
  rw [c4 _ (by simp only [List.length_append, List.length_replicate, hl]; omega), Option.bind_some]
  refine ⟨_, rfl, ?_⟩
  simp only [List.append_assoc]
  rw [List.take_append_of_le_length (by omega), List.take_of_length_le (by omega)]
theorem compact_in (b : Sl Held) (hl : b.l.length < 4611686018427387904) {k0 : Nat} (h0 : 0 < k0) (hk : k0 < b.l.length) (hall : keepL b.l k0 = b.l.take k0) (heq : eqHeld (atH b.l k0) (atH b.l (k0 - 1)) = true) :
    ∃ r, loopN (slices_Compact_api_Held_api_Held_B1527 b (k0, b.l.length - k0)) FUEL (b, (k0 : Int), 1) = some r ∧ r.l = keepL b.l b.l.length := by
  have hkeep1 : keepL b.l (k0 + 1) = b.l.take k0 := by
    unfold keepL
    rw [if_pos ⟨by omega, heq⟩, List.append_nil, hall]
  refine loop_exF (B := slices_Compact_api_Held_api_Held_B1527 b (k0, b.l.length - k0)) (fun x => ∃ (k k2 : Nat), x.2.1 = k ∧ x.2.2 = k2 ∧ 1 ≤ k2 ∧ k0 + k2 ≤ b.l.length ∧ x.1.l.length = b.l.length ∧ k < k0 + k2 ∧ x.1.l.take k = keepL b.l (k0 + k2) ∧ (keepL b.l (k0 + k2)).length = k ∧ ∀ j, k ≤ j → x.1.l[j]? = b.l[j]?) (fun x => b.l.length - x.2.2.toNat) (fun _ r => r.l = keepL b.l b.l.length) ?_ (b, (k0 : Int), 1) ⟨k0, 1, rfl, rfl, by omega, by omega, rfl, by omega, hkeep1.symm, by rw [hkeep1, List.length_take]; omega, fun _ _ => rfl⟩ (by simp; omega)
  rintro kk ⟨d, z1, z2⟩ ⟨k, k2, e1, e2, h1, h2, h3, h4, h5, h6, h7⟩ hkk
  simp only at e1 e2 h3 h5 h7
  subst e1 e2
  simp only [Int.toNat_natCast] at hkk
  unfold slices_Compact_api_Held_api_Held_B1527
  simp only [Nat.zero_add]
  have hat : ∀ j, k ≤ j → j < b.l.length → d.l[j]? = some (atH b.l j) := fun j hj hjl => by rw [h7 j hj, atH_eq hjl, List.getElem?_eq_getElem hjl]
  rcases Nat.lt_or_ge (k0 + k2) b.l.length with h | h
  · rw [if_pos (by simp [ltB]; omega)]
    have r1 : idxR k0 (b.l.length - k0) d.l (k2 : Int) = some (atH b.l (k0 + k2)) := by
      unfold idxR
      rw [if_pos ⟨by omega, by simp; omega⟩]
      simp only [Int.toNat_natCast]
      exact hat _ (by omega) h
    have es : iSub .i64 (k2 : Int) 1 = ((k2 - 1 : Nat) : Int) := by rw [sub1 (by omega) (by omega)]; omega
    have r2 : idxR k0 (b.l.length - k0) d.l ((k2 - 1 : Nat) : Int) = some (atH b.l (k0 + k2 - 1)) := by
      unfold idxR
      rw [if_pos ⟨by omega, by simp; omega⟩]
      simp only [Int.toNat_natCast]
      rw [hat _ (by omega) (by omega), Nat.add_sub_assoc h1]
    rw [r1, Option.bind_some, es, r2, Option.bind_some]
    have hinc : iAdd .i64 (k2 : Int) 1 = (k2 : Int) + 1 := add1 (by omega) (by omega)
    cases he : eqHeld (atH b.l (k0 + k2)) (atH b.l (k0 + k2 - 1)) with
    | true =>
      rw [if_pos rfl]
      unfold slices_Compact_api_Held_api_Held_J85
      simp only [hinc]
      have hkp : keepL b.l (k0 + (k2 + 1)) = keepL b.l (k0 + k2) := by
        rw [← Nat.add_assoc]
        conv => lhs; unfold keepL
        rw [if_pos ⟨by omega, he⟩, List.append_nil]
      exact hkk (d, (k : Int), (k2 : Int) + 1) ⟨k, k2 + 1, rfl, by simp, by omega, by omega, h3, by omega, by rw [hkp]; exact h5, by rw [hkp]; exact h6, h7⟩ (by simp only; omega)
    | false =>
      rw [if_neg (by simp), Option.bind_some]
      have r3 : idxR 0 b.l.length d.l (k : Int) = some (atH b.l k) := by
        unfold idxR
        rw [if_pos ⟨by omega, by simp; omega⟩]
        simp only [Int.toNat_natCast, Nat.zero_add]
        exact hat _ (by omega) (by omega)
      rw [r3, Option.bind_some]
      unfold slices_Compact_api_Held_api_Held_J85
      have hinck : iAdd .i64 (k : Int) 1 = (k : Int) + 1 := add1 (by omega) (by omega)
      simp only [hinc, hinck, Int.toNat_natCast]
      have hkp : keepL b.l (k0 + (k2 + 1)) = keepL b.l (k0 + k2) ++ [atH b.l (k0 + k2)] := by
        rw [← Nat.add_assoc]
        conv => lhs; unfold keepL
        rw [if_neg (by rw [he]; simp)]
      refine hkk (d.put k (atH b.l (k0 + k2)), (k : Int) + 1, (k2 : Int) + 1) ⟨k + 1, k2 + 1, by simp, by simp, by omega, by omega, by simp [Sl.put, h3], by omega, ?_, by rw [hkp, List.length_append, h6]; rfl, fun j hj => ?_⟩ (by simp only; omega)
      · rw [hkp, ← h5]
        simp only [Sl.put]
        rw [List.take_succ_eq_append_getElem (by rw [List.length_set]; omega), List.take_set_of_le (Nat.le_refl _), List.getElem_set_self]
      · simp only [Sl.put]
        rw [List.getElem?_set_ne (by omega)]
        exact h7 j (by omega)
  · rw [if_neg (by simp [ltB]; omega)]
    have hm : k0 + k2 = b.l.length := by omega
    obtain ⟨r, q1, q2⟩ := compact_J82 b d (k := k) (by omega) h3 (by omega)
    refine ⟨r, q1, ?_⟩
    rw [q2, h5, hm]
theorem compact_eq (b : Sl Held) (hl : b.l.length < 4611686018427387904) : ∃ r, compactHeld b = some r ∧ r.l = keepL b.l b.l.length := by
  have hf : frzR (b.nl && b.l.isEmpty) 0 b.l.length b = some ⟨b.nl && b.l.isEmpty, false, b.l⟩ := by
    unfold frzR
    rw [if_pos ⟨fun h => by simp at h; simp [h.2], by omega⟩]
    simp
  have k1 : ∀ h : 1 ≤ b.l.length, keepL b.l 1 = b.l.take 1 := fun h => by
    rw [take_snoc (by omega)]
    unfold keepL
    rw [if_neg (by simp)]
    rfl
  unfold compactHeld slices_Compact_api_Held_api_Held
  by_cases h2 : (b.l.length : Int) < 2
  · rw [if_pos (by simpa [ltB] using h2), hf, Option.bind_some]
    refine ⟨_, rfl, ?_⟩
    simp only
    rcases Nat.eq_zero_or_pos b.l.length with h0 | h0
    · rw [h0, List.length_eq_zero_iff.1 h0]; rfl
    · have : b.l.length = 1 := by omega
      rw [this, k1 (by omega), ← this, List.take_length]
  · rw [if_neg (by simpa [ltB] using h2)]
    refine loop_exF (B := slices_Compact_api_Held_api_Held_B1288 b) (fun x => ∃ i : Nat, x = i ∧ 1 ≤ i ∧ i ≤ b.l.length ∧ keepL b.l i = b.l.take i) (fun x => b.l.length - x.toNat) (fun _ r => r.l = keepL b.l b.l.length) ?_ 1 ⟨1, rfl, by omega, by omega, k1 (by omega)⟩ (by simp; omega)
    rintro k x ⟨i, rfl, h1, hle, hkp⟩ hk
    simp only [Int.toNat_natCast] at hk
    unfold slices_Compact_api_Held_api_Held_B1288
    rcases Nat.lt_or_ge i b.l.length with h | h
    · rw [if_pos (by simp [ltB, h])]
      have e0 : idxR 0 b.l.length b.l (i : Int) = some (atH b.l i) := by
        unfold idxR
        rw [if_pos ⟨by omega, by simpa using h⟩, atH_eq h]
        simp [h]
      have es : iSub .i64 (i : Int) 1 = ((i - 1 : Nat) : Int) := by rw [sub1 (by omega) (by omega)]; omega
      have e1 : idxR 0 b.l.length b.l ((i - 1 : Nat) : Int) = some (atH b.l (i - 1)) := by
        unfold idxR
        rw [if_pos ⟨by omega, by simp; omega⟩, atH_eq (show i - 1 < b.l.length by omega)]
        simp [show i - 1 < b.l.length by omega]
      rw [e0, Option.bind_some, es, e1, Option.bind_some]
      cases he : eqHeld (atH b.l i) (atH b.l (i - 1)) with
      | true =>
        rw [if_pos rfl]
        have c1 : cutR b.l.length (some (i : Int)) none = some (i, b.l.length - i) := by simp [cutR, boundI, hle]
        rw [c1, Option.bind_some]
        exact compact_in b hl (by omega) h hkp he
      | false =>
        rw [if_neg (by simp), inc h hl]
        refine hk _ ⟨i + 1, by simp, by omega, h, ?_⟩ (by omega)
        conv => lhs; unfold keepL
        rw [if_neg (by rw [he]; simp), hkp, take_snoc h]
    · rw [if_neg (by simp [ltB]; omega)]
      unfold slices_Compact_api_Held_api_Held_J43
      rw [hf, Option.bind_some]
      have : i = b.l.length := by omega
      subst this
      exact ⟨_, rfl, by simp only; rw [hkp, List.take_length]⟩
theorem eqHeld_iff {x y : Held} : eqHeld x y = true ↔ x = y := by
  unfold eqHeld
  simp only [Bool.and_true, Bool.and_eq_true, beq_iff_eq]
  constructor
  · rintro ⟨h1, h2⟩; exact held_ext h1 h2
  · rintro rfl; exact ⟨rfl, rfl⟩
theorem keep_up {b : List Held} (hs : b.Pairwise fun a c => a.Number ≤ c.Number) (hc : ∀ x ∈ b, ∀ y ∈ b, x.Number = y.Number → x = y) : ∀ m, m ≤ b.length → Up (keepL b m) ∧ (∀ z, z ∈ keepL b m ↔ z ∈ b.take m)
  | 0, _ => ⟨List.Pairwise.nil, by simp [keepL]⟩
  | m + 1, h => by
    obtain ⟨g1, g2⟩ := keep_up hs hc m (by omega)
    have hm : m < b.length := h
    have hmem : atH b m ∈ b := by rw [atH_eq hm]; exact List.getElem_mem hm
    rw [take_snoc hm]
    unfold keepL
    by_cases hk : m ≠ 0 ∧ eqHeld (atH b m) (atH b (m - 1)) = true
    · rw [if_pos hk, List.append_nil]
      refine ⟨g1, fun z => ?_⟩
      rw [g2 z, List.mem_append, List.mem_singleton]
      constructor
      · exact .inl
      · rintro (h | rfl)
        · exact h
        · rw [eqHeld_iff.1 hk.2]
          obtain ⟨q, rfl⟩ : ∃ q, m = q + 1 := ⟨m - 1, by omega⟩
          rw [take_snoc (show q < b.length by omega)]
          simp
    · rw [if_neg hk]
      refine ⟨?_, fun z => by rw [List.mem_append, List.mem_append, g2 z]⟩
      unfold Up
      rw [List.pairwise_append]
      refine ⟨g1, by simp, fun x hx y hy => ?_⟩
      simp only [List.mem_singleton] at hy
      subst hy
      have hx' := (g2 x).1 hx
      obtain ⟨i, hi, rfl⟩ := List.mem_iff_getElem.1 hx'
      rw [List.length_take] at hi
      rw [List.getElem_take]
      have hle := List.pairwise_iff_getElem.1 hs i m (by omega) hm (by omega)
      rw [atH_eq hm]
      rcases Int.lt_or_eq_of_le hle with h1 | h1
      · exact h1
      · exfalso
        -- equal to the last one: then the one before is equal as well
        have hpe : b[i]'(by omega) = b[m] := hc _ (List.getElem_mem _) _ (List.getElem_mem _) h1
        have hm0 : m ≠ 0 := by omega
        have hl1 : (b[m - 1]'(by omega)).Number = b[m].Number := by
          have k1 : (b[m - 1]'(by omega)).Number ≤ b[m].Number := List.pairwise_iff_getElem.1 hs (m - 1) m (by omega) hm (by omega)
          have k2 : (b[i]'(by omega)).Number ≤ (b[m - 1]'(by omega)).Number := by
            rcases Nat.lt_or_ge i (m - 1) with h | h
            · exact List.pairwise_iff_getElem.1 hs i (m - 1) (by omega) (by omega) h
            · have : i = m - 1 := by omega
              subst this
              exact Int.le_refl _
          omega
        refine hk ⟨hm0, eqHeld_iff.2 ?_⟩
        rw [atH_eq hm, atH_eq (show m - 1 < b.length by omega)]
        exact (hc _ (List.getElem_mem _) _ (List.getElem_mem _) hl1).symm
theorem held_spec {S : List AS} {D : Sl Held} (hi : Inv S D.l) : Up ((flatS S).foldl putSl D).l ∧ ∀ z, z ∈ ((flatS S).foldl putSl D).l ↔ z ∈ D.l ∨ z ∈ flatS S := by
  have h := stepR_fold [] (flatS S) D (rises_up _ _ hi.dead).1 (fun x hx y hy h => held_ext h (hi.cons x hx y hy h)) (fun x hx h => by rw [hi.apart x hx] at h; cases h)
  have e : (flatS S).foldl (stepR []) D = (flatS S).foldl putSl D := rfl
  rw [e] at h
  refine ⟨h.1, fun z => ?_⟩
  rw [h.2 z]
  simp [flatS, hasN]
theorem inv_same {S : List AS} {D : List Held} (hi : Inv S D) : ∀ x ∈ D ++ flatS S, ∀ y ∈ D ++ flatS S, x.Number = y.Number → x = y := by
  have hD : ∀ x ∈ D, ∀ y ∈ D, x.Number = y.Number → x = y := fun x hx y hy h => by
    obtain ⟨i, hi1, rfl⟩ := List.mem_iff_getElem.1 hx
    obtain ⟨j, hj1, rfl⟩ := List.mem_iff_getElem.1 hy
    have hp := List.pairwise_iff_getElem.1 (rises_up _ _ hi.dead).1
    rcases Nat.lt_trichotomy i j with h' | h' | h'
    · have := hp i j hi1 hj1 h'; omega
    · subst h'; rfl
    · have := hp j i hj1 hi1 h'; omega
  intro x hx y hy h
  rcases List.mem_append.1 hx with hx | hx <;> rcases List.mem_append.1 hy with hy | hy
  · exact hD x hx y hy h
  · exact absurd h (hasN_false.1 (hi.apart y hy) x hx)
  · exact absurd h.symm (hasN_false.1 (hi.apart x hx) y hy)
  · exact held_ext h (hi.cons x hx y hy h)
theorem pHeld_eq (p : Sl Prune_state) (D : Sl Held) (hl : p.l.length < 1073741824) (ht : D.l.length + totS (p.l.map absP) < 1073741824) (hi : Inv (p.l.map absP) D.l) : ∃ r, prune_Book_Held p D = some r ∧ r.l = heldL (p.l.map absP) D.l := by
  refine pHeld_ex p D _ hl ht fun z hz => ?_
  have hzl : z.l.length < 1073741824 := by rw [hz, List.length_append, flatS_len]; exact ht
  have hok : ∀ y ∈ z.l, okN y = true := fun y hy => by
    rw [hz] at hy
    rcases List.mem_append.1 hy with hy | hy
    · exact okN_of ((rises_up _ _ hi.dead).2.1 y hy)
    · obtain ⟨s, h1, h2⟩ := mem_flat.1 hy
      exact okN_of ((rises_up _ _ (hi.rise s h1)).2.1 y h2)
  unfold prune_Book_Held_J1
  have hs : ∃ e, sortHeld z = some e := by unfold sortHeld; rw [dif_pos ⟨hok, by omega⟩]; exact ⟨_, rfl⟩
  obtain ⟨e, he⟩ := hs
  obtain ⟨_, g2, g3⟩ := sortHeld_spec he
  rw [he, Option.bind_some]
  obtain ⟨r, r1, r2⟩ := compact_eq e (by rw [g2.length_eq]; omega)
  rw [r1, Option.bind_some]
  refine ⟨r, rfl, ?_⟩
  obtain ⟨k1, k2⟩ := keep_up g3 (fun x hx y hy h => by
    rw [g2.mem_iff, hz] at hx hy
    exact inv_same hi x hx y hy h) e.l.length (Nat.le_refl _)
  obtain ⟨q1, q2⟩ := held_spec hi
  rw [fold_put_l] at q1 q2
  rw [r2]
  refine up_ext k1 q1 fun x => ?_
  rw [k2 x, List.take_length, g2.mem_iff, hz, List.mem_append]
  exact (q2 x).symm
/-! ### how many -/
theorem up_le : ∀ {a b : List Held}, Up a → Up b → (∀ z ∈ a, z ∈ b) → a.length ≤ b.length
  | [], _, _, _, _ => Nat.zero_le _
  | x :: a, [], _, _, h => by have := h x (by simp); simp at this
  | x :: a, y :: b, h1, h2, h => by
    have h1' := List.pairwise_cons.1 h1
    have h2' := List.pairwise_cons.1 h2
    by_cases hxy : x = y
    · subst hxy
      have := up_le h1'.2 h2'.2 fun z hz => by
        rcases List.mem_cons.1 (h z (by simp [hz])) with rfl | hz'
        · have := h1'.1 z hz; omega
        · exact hz'
      simp
      exact this
    · have hxb : x ∈ b := by
        rcases List.mem_cons.1 (h x (by simp)) with e | e
        · exact absurd e hxy
        · exact e
      have hyx := h2'.1 x hxb
      have := up_le h1 h2'.2 fun z hz => by
        rcases List.mem_cons.1 (h z hz) with e | e
        · exfalso
          subst e
          rcases List.mem_cons.1 hz with e | e
          · exact hxy e.symm
          · have := h1'.1 z e; omega
        · exact e
      rw [List.length_cons (a := y)]
      omega
  termination_by a b => a.length + b.length
theorem heldL_spec {S : List AS} {D : List Held} (hi : Inv S D) : Up (heldL S D) ∧ ∀ z, z ∈ heldL S D ↔ z ∈ D ∨ z ∈ flatS S := by
  have := held_spec (D := ⟨true, true, D⟩) hi
  rw [fold_put_l] at this
  exact this
theorem cap_prune {S S' : List AS} {D F : List Held} (hi : Inv S D) (hi' : Inv S' F) (hs : S' <:+ S) (hf : Fall S S' D F) (k : Nat) (h : (heldL S D).length ≤ 256) : (heldL S' (F.drop k)).length ≤ 256 := by
  obtain ⟨a1, a2⟩ := heldL_spec hi
  obtain ⟨b1, b2⟩ := heldL_spec (inv_drop hi' k)
  refine Nat.le_trans (up_le b1 a1 fun z hz => ?_) h
  rw [a2]
  rcases (b2 z).1 hz with hz | hz
  · rcases (hf z).1 (List.mem_of_mem_drop hz) with h | ⟨h, _⟩
    · exact .inl h
    · exact .inr h
  · exact .inr (mem_suffix hs hz)
theorem cap_add {S : List AS} {D : List Held} {n : Int} {l : List Held} (h : rAdd n l S D = 0) : (heldL (S ++ [(n, l)]) D).length ≤ 256 := by
  have e : heldL (S ++ [(n, l)]) D = l.foldl putL (heldL S D) := by
    unfold heldL
    rw [flat_app, List.foldl_append]
    congr 1
    simp [flatS]
  rw [e]
  unfold rAdd at h
  split at h
  · cases h
  split at h
  · cases h
  split at h
  · cases h
  split at h
  · cases h
  rename_i h4
  omega
end Go.Proofs.Ytbdomlbmbcnaeaa
namespace Go.Proofs.Ytbdomlbmbcnaeaa
open Go.Abs
theorem tdiv10 (n : Nat) : (n : Int).tdiv 10 = ((n / 10 : Nat) : Int) := (Int.ofNat_tdiv n 10).symm
theorem tmod10 (n : Nat) : (n : Int).tmod 10 = ((n % 10 : Nat) : Int) := (Int.ofNat_tmod n 10).symm
/-- A number's digits. -/
def decD (n : Nat) : List UInt8 := if _h : n < 10 then [UInt8.ofNat (48 + n)] else decD (n / 10) ++ [UInt8.ofNat (48 + n % 10)]
  termination_by n
  decreasing_by omega
theorem decD_small {n : Nat} (h : n < 10) : decD n = [UInt8.ofNat (48 + n)] := by rw [decD, dif_pos h]
theorem decD_big {n : Nat} (h : ¬ n < 10) : decD n = decD (n / 10) ++ [UInt8.ofNat (48 + n % 10)] := by rw [decD, dif_neg h]
theorem decD_len : ∀ (k n : Nat), n < 10 ^ (k + 1) → (decD n).length ≤ k + 1
  | 0, n, h => by rw [decD_small (by simpa using h)]; simp
  | k + 1, n, h => by
    by_cases h1 : n < 10
    · rw [decD_small h1]; simp
    · rw [decD_big h1, List.length_append]
      have := decD_len k (n / 10) (by rw [Nat.div_lt_iff_lt_mul (by omega)]; rw [Nat.pow_succ] at h; exact h)
      simp
      exact this
theorem decD_20 {n : Nat} (h : n < 9223372036854775808) : (decD n).length ≤ 20 := decD_len 19 n (by omega)
theorem byte_ints (d : Nat) (h : d < 256) : ((UInt8.ofNat d).toNat : Int) = (d : Int) := by
  have : (UInt8.ofNat d).toNat = d := by simp [UInt8.toNat_ofNat', Nat.mod_eq_of_lt h]
  rw [this]
theorem bytes_ints (s : List UInt8) : bytesS (intsS s) = s := by
  unfold bytesS intsS
  rw [List.map_map]
  conv => rhs; rw [← List.map_id s]
  refine List.map_congr_left fun b _ => ?_
  simp
theorem bytesS_app (a b : List Int) : bytesS (a ++ b) = bytesS a ++ bytesS b := by simp [bytesS]
theorem intsS_app (a b : List UInt8) : intsS (a ++ b) = intsS a ++ intsS b := by simp [intsS]
theorem intsS_len (s : List UInt8) : (intsS s).length = s.length := by simp [intsS]
theorem dig8 {n : Nat} (h : n < 9223372036854775808) : IntKind.wrap .u8 (iAdd .u64 48 (iRem (n : Int) 10)) = ((48 + n % 10 : Nat) : Int) := by
  unfold iRem
  rw [tmod10]
  simp [iAdd, IntKind.wrap, IntKind.bits, IntKind.signed]
  omega
theorem ofNat_ints (d : Nat) (h : d < 256) : intsS [UInt8.ofNat d] = [(d : Int)] := by
  unfold intsS
  rw [List.map_cons, byte_ints d h]
  rfl
theorem digits_eq (a0 : Bool) (a1 : List Int) (h1 : a1.length < 1000) : ∀ (d n : Nat), n < d → n < 9223372036854775808 →
    ∃ y g b, loopN (fun rc (x : Bool × (List Int) × Int) => lay_digits_R rc x.1 x.2.1 x.2.2) d (a0, a1, (n : Int)) = some (y, g, b) ∧ y.l = a1 ++ intsS (decD n)
  | 0, n, h, _ => by omega
  | d + 1, n, h, hn => by
    show ∃ y g b, lay_digits_R (loopN _ d) a0 a1 (n : Int) = some (y, g, b) ∧ _
    generalize hL : loopN (fun rc (x : Bool × (List Int) × Int) => lay_digits_R rc x.1 x.2.1 x.2.2) d = L
    unfold lay_digits_R lay_digits_J1
    rw [geB, dig8 hn]
    by_cases h10 : n < 10
    · rw [if_neg (by simp; omega), app_ok _ _ (by simp; omega) (by decide), Option.bind_some]
      refine ⟨_, _, _, rfl, ?_⟩
      rw [decD_small h10, ofNat_ints _ (by omega)]
      simp
      omega
    · rw [if_pos (by simp; omega)]
      have hq : iQuo .u64 (n : Int) 10 = ((n / 10 : Nat) : Int) := by
        unfold iQuo
        rw [tdiv10]
        simp [IntKind.wrap, IntKind.bits, IntKind.signed]
        omega
      obtain ⟨y, g, b, e1, e2⟩ := digits_eq a0 a1 h1 d (n / 10) (by omega) (by omega)
      rw [hL] at e1
      rw [hq, e1, Option.bind_some]
      simp only
      have hl : y.l.length ≤ a1.length + 20 := by
        rw [e2, List.length_append, intsS_len]
        have := decD_20 (n := n / 10) (by omega)
        omega
      rw [app_ok _ _ (by simp; omega) (by decide), Option.bind_some]
      refine ⟨_, _, _, rfl, ?_⟩
      simp only
      rw [e2, decD_big h10, intsS_app, ofNat_ints _ (by omega)]
      simp
def numB (n : Int) : List UInt8 := decD n.toNat ++ [59]
def numOkI (n : Int) : Prop := 0 ≤ n ∧ n < 9223372036854775808
theorem numB_len {n : Int} (h : numOkI n) : (numB n).length ≤ 21 := by
  unfold numB
  have := decD_20 (n := n.toNat) (by have := h.1; have := h.2; omega)
  simp
  exact this
theorem number_eq {n : Int} (h : numOkI n) : lay_Number n = some (numB n) := by
  obtain ⟨k, rfl⟩ : ∃ k : Nat, n = k := ⟨n.toNat, by have := h.1; omega⟩
  have hk : k < 9223372036854775808 := by have := h.2; omega
  unfold lay_Number lay_digits
  rw [if_neg (by rw [ltB]; simp)]
  have hw : IntKind.wrap .u64 (k : Int) = (k : Int) := by simp [IntKind.wrap, IntKind.bits, IntKind.signed]; omega
  obtain ⟨y, g, b, e1, e2⟩ := digits_eq true [] (by simp) FUEL k (by unfold FUEL; omega) hk
  rw [hw, e1, Option.bind_some]
  simp only
  have hl : y.l.length ≤ 20 := by rw [e2, List.nil_append, intsS_len]; exact decD_20 hk
  rw [app_ok _ _ (by simp; omega) (by decide), Option.bind_some, e2]
  simp only [List.nil_append]
  rw [bytesS_app, bytes_ints]
  rfl
theorem r01_digits_eq : ∀ (d n : Nat), n < d → n < 9223372036854775808 → loopN (fun rc (x : Int) => r01_Digits_R rc x) d (n : Int) = some (decD n)
  | 0, n, h, _ => by omega
  | d + 1, n, h, hn => by
    show r01_Digits_R (loopN _ d) (n : Int) = _
    have ih := r01_digits_eq d (n / 10)
    generalize hL : loopN (fun rc (x : Int) => r01_Digits_R rc x) d = L at ih ⊢
    unfold r01_Digits_R
    rw [ltB]
    by_cases h10 : n < 10
    · rw [if_pos (by simp; omega), decD_small h10]
      have : IntKind.wrap .u8 (iAdd .i64 48 (n : Int)) = ((48 + n : Nat) : Int) := by
        simp [iAdd, IntKind.wrap, IntKind.bits, IntKind.signed]; omega
      simp only [this, bytesS, List.map_cons, List.map_nil, Int.toNat_natCast]
    · rw [if_neg (by simp; omega)]
      have hq : iQuo .i64 (n : Int) 10 = ((n / 10 : Nat) : Int) := by
        unfold iQuo
        rw [tdiv10]
        simp [IntKind.wrap, IntKind.bits, IntKind.signed]
        omega
      have hd : IntKind.wrap .u8 (iAdd .i64 48 (iRem (n : Int) 10)) = ((48 + n % 10 : Nat) : Int) := by
        unfold iRem
        rw [tmod10]
        simp [iAdd, IntKind.wrap, IntKind.bits, IntKind.signed]
        omega
      rw [hq, ih (by omega) (by omega), Option.bind_some, hd]
      have hl := decD_20 (n := n / 10) (by omega)
      unfold catS
      rw [if_pos (by simp [bytesS]; omega), Option.bind_some, decD_big h10]
      simp only [bytesS, List.map_cons, List.map_nil, Int.toNat_natCast]
theorem cat_ok {a b : List UInt8} (h : a.length + b.length < 1000000000000) : catS a b = some (a ++ b) := by
  unfold catS
  rw [if_pos (by omega)]
theorem r01_number_eq {n : Int} (h : numOkI n) : r01_Number n = some (numB n) := by
  obtain ⟨k, rfl⟩ : ∃ k : Nat, n = k := ⟨n.toNat, by have := h.1; omega⟩
  have hk : k < 9223372036854775808 := by have := h.2; omega
  unfold r01_Number r01_Digits
  rw [if_pos (by rw [geB]; simp), r01_digits_eq FUEL k (by unfold FUEL; omega) hk, Option.bind_some]
  have hl := decD_20 hk
  rw [cat_ok (by simp; omega), Option.bind_some]
  rfl
/-! ### lists -/
def numsB (l : List Int) : List UInt8 := l.flatMap numB
theorem numsB_len : ∀ (l : List Int), (∀ n ∈ l, numOkI n) → (numsB l).length ≤ 21 * l.length
  | [], _ => by simp [numsB]
  | n :: l, h => by
    have h1 := numB_len (h n (by simp))
    have h2 := numsB_len l fun m hm => h m (by simp [hm])
    unfold numsB at h2 ⊢
    rw [List.flatMap_cons, List.length_append, List.length_cons]
    omega
theorem numbers_eq (l : Sl Int) (hl : l.l.length ≤ 512) (h : ∀ n ∈ l.l, numOkI n) : lay_Numbers l = some ([40] ++ numsB l.l ++ [41], 0) := by
  unfold lay_Numbers lay_list_int
  rw [if_neg (by rw [gtB]; simp; omega)]
  have hlen := numsB_len l.l h
  obtain ⟨r, e1, e2⟩ := loop_exF (B := lay_list_int_B17803 l) (fun x => ∃ i : Nat, x.2 = i ∧ i ≤ l.l.length ∧ x.1.l = intsS ([40] ++ numsB (l.l.take i))) (fun x => l.l.length - x.2.toNat) (fun _ r => r = ([40] ++ numsB l.l ++ [41], 0)) (by
    rintro k ⟨o, j⟩ ⟨i, hi, hle, ho⟩ hk
    simp only at hi ho
    subst hi
    simp only [Int.toNat_natCast] at hk
    unfold lay_list_int_B17803
    have hti := numsB_len (l.l.take i) fun n hn => h n (List.mem_of_mem_take hn)
    rw [List.length_take] at hti
    have hol : o.l.length ≤ 1 + 21 * 512 := by rw [ho, intsS_len, List.length_append]; simp; omega
    rcases Nat.lt_or_ge i l.l.length with h' | h'
    · rw [if_pos (by simp [ltB, h'])]
      simp only [idx_in h', Option.bind_some]
      unfold lay_Numbers_1
      have hn := h _ (List.getElem_mem h')
      have hnl := numB_len hn
      rw [number_eq hn, Option.bind_some, Option.bind_some, if_neg (by simp)]
      rw [app_ok _ _ (by simp only [intsS_len]; omega) (by decide), Option.bind_some, inc h' (by omega)]
      refine hk _ ⟨i + 1, by simp, h', ?_⟩ (by simp only; omega)
      simp only
      rw [ho, List.take_succ_eq_append_getElem h']
      simp only [numsB, intsS, List.flatMap_append, List.map_append, List.flatMap_cons, List.flatMap_nil, List.append_nil, List.append_assoc]
    · rw [if_neg (by simp [ltB]; omega)]
      unfold lay_list_int_J1
      rw [app_ok _ _ (by simp; omega) (by decide), Option.bind_some]
      refine ⟨_, rfl, ?_⟩
      simp only
      rw [ho, List.take_of_length_le (by omega), bytesS_app, bytes_ints]
      rfl) (⟨false, true, [40]⟩, 0) ⟨0, rfl, Nat.zero_le _, by simp [intsS, numsB]⟩ (by simp; omega)
  rw [e1, Option.bind_some, e2]
def listsB (l : List Held) : List UInt8 := [40] ++ numsB (l.map (·.Number)) ++ [41] ++ ([40] ++ numsB (l.map (·.Size)) ++ [41])
theorem listsB_len {l : List Held} (h : ∀ x ∈ l, okH x = true) : (listsB l).length ≤ 4 + 42 * l.length := by
  have h1 := numsB_len (l.map (·.Number)) fun n hn => by
    obtain ⟨x, hx, rfl⟩ := List.mem_map.1 hn
    have := okH_spec (h x hx)
    exact ⟨by omega, by omega⟩
  have h2 := numsB_len (l.map (·.Size)) fun n hn => by
    obtain ⟨x, hx, rfl⟩ := List.mem_map.1 hn
    have := okH_spec (h x hx)
    exact ⟨by omega, by omega⟩
  unfold listsB
  simp only [List.length_append, List.length_cons, List.length_nil, List.length_map] at h1 h2 ⊢
  omega
theorem okH_nums {l : List Held} (h : ∀ x ∈ l, okH x = true) : (∀ n ∈ l.map (·.Number), numOkI n) ∧ ∀ n ∈ l.map (·.Size), numOkI n := ⟨fun n hn => by
    obtain ⟨x, hx, rfl⟩ := List.mem_map.1 hn
    have := okH_spec (h x hx)
    exact ⟨by omega, by omega⟩, fun n hn => by
    obtain ⟨x, hx, rfl⟩ := List.mem_map.1 hn
    have := okH_spec (h x hx)
    exact ⟨by omega, by omega⟩⟩
theorem lists_J (a b : Sl Int) {l : List Held} (hl : l.length ≤ 512) (h : ∀ x ∈ l, okH x = true) (ha : a.l = l.map (·.Number)) (hb : b.l = l.map (·.Size)) :
    ((lay_Numbers a.weak).bind fun y1 => (lay_Numbers b.weak).bind fun y2 => (catS y1.1 y2.1).bind fun y3 => some y3) = some (listsB l) := by
  obtain ⟨h1, h2⟩ := okH_nums h
  have g1 := numsB_len _ h1
  have g2 := numsB_len _ h2
  rw [List.length_map] at g1 g2
  rw [numbers_eq a.weak (by show a.l.length ≤ _; rw [ha, List.length_map]; exact hl) (by show ∀ n ∈ a.l, _; rw [ha]; exact h1), Option.bind_some,
    numbers_eq b.weak (by show b.l.length ≤ _; rw [hb, List.length_map]; exact hl) (by show ∀ n ∈ b.l, _; rw [hb]; exact h2), Option.bind_some]
  simp only
  have ea : a.weak.l = l.map (·.Number) := ha
  have eb : b.weak.l = l.map (·.Size) := hb
  rw [ea, eb, cat_ok (by simp only [List.length_append, List.length_cons, List.length_nil]; omega), Option.bind_some]
  rfl
theorem lists_eq (x : Sl Held) (hl : x.l.length ≤ 512) (h : ∀ y ∈ x.l, okH y = true) : prune_lists x = some (listsB x.l) := by
  unfold prune_lists
  obtain ⟨r, e1, e2⟩ := loop_exF (B := prune_lists_B17764 x) (fun y => ∃ i : Nat, y.2.2 = i ∧ i ≤ x.l.length ∧ y.1.l = (x.l.take i).map (·.Number) ∧ y.2.1.l = (x.l.take i).map (·.Size)) (fun y => x.l.length - y.2.2.toNat) (fun _ r => r = listsB x.l) (by
    rintro k ⟨a, b, j⟩ ⟨i, hi, hle, ha, hb⟩ hk
    simp only at hi ha hb
    subst hi
    simp only [Int.toNat_natCast] at hk
    unfold prune_lists_B17764
    rcases Nat.lt_or_ge i x.l.length with h' | h'
    · rw [if_pos (by simp [ltB, h'])]
      simp only [idx_in h', Option.bind_some]
      rw [app_ok _ _ (by rw [ha]; simp; omega) (by decide), Option.bind_some, app_ok _ _ (by rw [hb]; simp; omega) (by decide), Option.bind_some, inc h' (by omega)]
      refine hk _ ⟨i + 1, by simp, h', ?_, ?_⟩ (by simp only; omega)
      · simp only
        rw [ha, List.take_succ_eq_append_getElem h', List.map_append]
        rfl
      · simp only
        rw [hb, List.take_succ_eq_append_getElem h', List.map_append]
        rfl
    · rw [if_neg (by simp [ltB]; omega)]
      unfold prune_lists_J1
      rw [List.take_of_length_le (by omega)] at ha hb
      rw [lists_J a b hl h ha hb]
      exact ⟨_, rfl, rfl⟩) (⟨true, true, []⟩, ⟨true, true, []⟩, 0) ⟨0, rfl, Nat.zero_le _, rfl, rfl⟩ (by simp; omega)
  rw [e1, e2]
theorem lists2_eq (x : Sl Held) (hl : x.l.length ≤ 512) (h : ∀ y ∈ x.l, okH y = true) : prune_lists_2 x = some (listsB x.l) := by
  unfold prune_lists_2
  obtain ⟨r, e1, e2⟩ := loop_exF (B := prune_lists_2_B17956 x) (fun y => ∃ i : Nat, y.2.2 = i ∧ i ≤ x.l.length ∧ y.1.l = (x.l.take i).map (·.Number) ∧ y.2.1.l = (x.l.take i).map (·.Size)) (fun y => x.l.length - y.2.2.toNat) (fun _ r => r = listsB x.l) (by
    rintro k ⟨a, b, j⟩ ⟨i, hi, hle, ha, hb⟩ hk
    simp only at hi ha hb
    subst hi
    simp only [Int.toNat_natCast] at hk
    unfold prune_lists_2_B17956
    rcases Nat.lt_or_ge i x.l.length with h' | h'
    · rw [if_pos (by simp [ltB, h'])]
      simp only [idx_in h', Option.bind_some]
      rw [app_ok _ _ (by rw [ha]; simp; omega) (by decide), Option.bind_some, app_ok _ _ (by rw [hb]; simp; omega) (by decide), Option.bind_some, inc h' (by omega)]
      refine hk _ ⟨i + 1, by simp, h', ?_, ?_⟩ (by simp only; omega)
      · simp only
        rw [ha, List.take_succ_eq_append_getElem h', List.map_append]
        rfl
      · simp only
        rw [hb, List.take_succ_eq_append_getElem h', List.map_append]
        rfl
    · rw [if_neg (by simp [ltB]; omega)]
      unfold prune_lists_2_J1
      rw [List.take_of_length_le (by omega)] at ha hb
      rw [lists_J a b hl h ha hb]
      exact ⟨_, rfl, rfl⟩) (⟨true, true, []⟩, ⟨true, true, []⟩, 0) ⟨0, rfl, Nat.zero_le _, rfl, rfl⟩ (by simp; omega)
  rw [e1, e2]
theorem rlists_eq (x : Sl Held) (hl : x.l.length ≤ 512) (h : ∀ y ∈ x.l, okH y = true) : r24_lists x = some (listsB x.l) := by
  obtain ⟨h1, h2⟩ := okH_nums h
  unfold r24_lists
  obtain ⟨r, e1, e2⟩ := loop_exF (B := r24_lists_B18228 x) (fun y => ∃ i : Nat, y.2.2 = i ∧ i ≤ x.l.length ∧ y.1 = [40] ++ numsB ((x.l.take i).map (·.Number)) ∧ y.2.1 = [40] ++ numsB ((x.l.take i).map (·.Size))) (fun y => x.l.length - y.2.2.toNat) (fun _ r => r = listsB x.l) (by
    rintro k ⟨a, b, j⟩ ⟨i, hi, hle, ha, hb⟩ hk
    simp only at hi ha hb
    subst hi
    simp only [Int.toNat_natCast] at hk
    have ga := numsB_len ((x.l.take i).map (·.Number)) fun n hn => h1 n (by obtain ⟨y, hy, rfl⟩ := List.mem_map.1 hn; exact List.mem_map_of_mem (List.mem_of_mem_take hy))
    have gb := numsB_len ((x.l.take i).map (·.Size)) fun n hn => h2 n (by obtain ⟨y, hy, rfl⟩ := List.mem_map.1 hn; exact List.mem_map_of_mem (List.mem_of_mem_take hy))
    rw [List.length_map, List.length_take] at ga gb
    have la : a.length ≤ 1 + 21 * 512 := by rw [ha, List.length_append]; simp only [List.length_cons, List.length_nil]; omega
    have lb : b.length ≤ 1 + 21 * 512 := by rw [hb, List.length_append]; simp only [List.length_cons, List.length_nil]; omega
    unfold r24_lists_B18228
    rcases Nat.lt_or_ge i x.l.length with h' | h'
    · rw [if_pos (by simp [ltB, h'])]
      have m1 := h1 x.l[i].Number (List.mem_map_of_mem (List.getElem_mem h'))
      have m2 := h2 x.l[i].Size (List.mem_map_of_mem (List.getElem_mem h'))
      have n1 := numB_len m1
      have n2 := numB_len m2
      simp only [idx_in h', Option.bind_some]
      rw [r01_number_eq m1, Option.bind_some, cat_ok (by omega), Option.bind_some, r01_number_eq m2, Option.bind_some, cat_ok (by omega), Option.bind_some, inc h' (by omega)]
      refine hk _ ⟨i + 1, by simp, h', ?_, ?_⟩ (by simp only; omega)
      · simp only
        rw [ha, List.take_succ_eq_append_getElem h', List.map_append]
        simp [numsB]
      · simp only
        rw [hb, List.take_succ_eq_append_getElem h', List.map_append]
        simp [numsB]
    · rw [if_neg (by simp [ltB]; omega)]
      unfold r24_lists_J1
      rw [List.take_of_length_le (by omega)] at ha hb
      rw [cat_ok (by simp; omega), Option.bind_some, cat_ok (by simp; omega), Option.bind_some, cat_ok (by simp; omega), Option.bind_some]
      refine ⟨_, rfl, ?_⟩
      rw [ha, hb]
      simp [listsB]) ([40], [40], 0) ⟨0, rfl, Nat.zero_le _, rfl, rfl⟩ (by simp; omega)
  rw [e1, e2]
/-! ### books -/
def stB (s : AS) : List UInt8 := numB s.1 ++ listsB s.2
def bookB (S : List AS) (D : List Held) : List UInt8 := numB (S.length : Int) ++ S.flatMap stB ++ listsB D
/-- What may be laid. -/
structure LayOk (S : List AS) (D : List Held) : Prop where
  len : S.length ≤ 512
  num : ∀ s ∈ S, numOkI s.1
  ok : ∀ s ∈ S, ∀ x ∈ s.2, okH x = true
  each : ∀ s ∈ S, s.2.length ≤ 512
  dl : D.length ≤ 512
  dok : ∀ x ∈ D, okH x = true
theorem stB_len {s : AS} (h1 : numOkI s.1) (h2 : ∀ x ∈ s.2, okH x = true) (h3 : s.2.length ≤ 512) : (stB s).length ≤ 30000 := by
  have g1 := numB_len h1
  have g2 := listsB_len h2
  unfold stB
  rw [List.length_append]
  omega
theorem sts_len : ∀ (S : List AS), (∀ s ∈ S, (stB s).length ≤ 30000) → (S.flatMap stB).length ≤ 30000 * S.length
  | [], _ => by simp
  | s :: S, h => by
    have h1 := h s (by simp)
    have h2 := sts_len S fun x hx => h x (by simp [hx])
    rw [List.flatMap_cons, List.length_append, List.length_cons]
    omega
theorem bytes_eq (p : Sl Prune_state) (D : Sl Held) (h : LayOk (p.l.map absP) D.l) : prune_Book_Bytes p D = some (bookB (p.l.map absP) D.l) := by
  have hpl : p.l.length ≤ 512 := by have := h.len; simpa using this
  have hn : numOkI (p.l.length : Int) := ⟨by omega, by omega⟩
  have hst : ∀ s ∈ p.l.map absP, (stB s).length ≤ 30000 := fun s hs => stB_len (h.num s hs) (h.ok s hs) (h.each s hs)
  have hnl := numB_len hn
  have hdl := listsB_len h.dok
  have hdd := h.dl
  unfold prune_Book_Bytes
  rw [number_eq hn, Option.bind_some]
  unfold toBytes
  rw [if_pos (by unfold maxLen; omega), Option.bind_some]
  obtain ⟨r, e1, e2⟩ := loop_exF (B := prune_Book_Bytes_B17815 p D) (fun y => ∃ i : Nat, y.2 = i ∧ i ≤ p.l.length ∧ y.1.l = intsS (numB (p.l.length : Int) ++ ((p.l.take i).map absP).flatMap stB)) (fun y => p.l.length - y.2.toNat) (fun _ r => r = bookB (p.l.map absP) D.l) (by
    rintro k ⟨o, j⟩ ⟨i, hi, hle, ho⟩ hk
    simp only at hi ho
    subst hi
    simp only [Int.toNat_natCast] at hk
    have hti := sts_len ((p.l.take i).map absP) fun s hs => hst s (by obtain ⟨y, hy, rfl⟩ := List.mem_map.1 hs; exact List.mem_map_of_mem (List.mem_of_mem_take hy))
    rw [List.length_map, List.length_take] at hti
    have hol : o.l.length ≤ 21 + 30000 * 512 := by rw [ho, intsS_len, List.length_append]; omega
    unfold prune_Book_Bytes_B17815
    rcases Nat.lt_or_ge i p.l.length with h' | h'
    · rw [if_pos (by simp [ltB, h'])]
      have hm : absP p.l[i] ∈ p.l.map absP := List.mem_map_of_mem (List.getElem_mem h')
      have m1 : numOkI p.l[i].number := h.num _ hm
      have m2 : ∀ x ∈ p.l[i].l.l, okH x = true := h.ok _ hm
      have m3 : p.l[i].l.l.length ≤ 512 := h.each _ hm
      have n1 := numB_len m1
      have n2 := listsB_len m2
      simp only [idx_in h', Option.bind_some]
      rw [number_eq m1, Option.bind_some, app_ok _ _ (by rw [intsS_len]; omega) (by decide), Option.bind_some, lists_eq _ m3 m2, Option.bind_some, app_ok _ _ (by simp only [List.length_append]; rw [intsS_len, intsS_len]; omega) (by decide), Option.bind_some, inc h' (by omega)]
      refine hk _ ⟨i + 1, by simp, h', ?_⟩ (by simp only; omega)
      simp only
      rw [ho, List.take_succ_eq_append_getElem h', List.map_append]
      simp [intsS, stB, absP]
    · rw [if_neg (by simp [ltB]; omega)]
      unfold prune_Book_Bytes_J1
      rw [lists2_eq D h.dl h.dok, Option.bind_some, app_ok _ _ (by simp only [intsS_len]; omega) (by decide), Option.bind_some]
      refine ⟨_, rfl, ?_⟩
      simp only
      rw [ho, List.take_of_length_le (by omega), bytesS_app, bytes_ints, bytes_ints]
      simp [bookB]) (⟨false, false, intsS (numB (p.l.length : Int))⟩, 0) ⟨0, rfl, Nat.zero_le _, by simp⟩ (by simp; omega)
  rw [e1, e2]
theorem rbytes_eq (r : Sl Affidavitref24_State) (D : Sl Held) (h : LayOk (r.l.map absR) D.l) : r24_Book_Bytes r D = some (bookB (r.l.map absR) D.l) := by
  have hpl : r.l.length ≤ 512 := by have := h.len; simpa using this
  have hn : numOkI (r.l.length : Int) := ⟨by omega, by omega⟩
  have hst : ∀ s ∈ r.l.map absR, (stB s).length ≤ 30000 := fun s hs => stB_len (h.num s hs) (h.ok s hs) (h.each s hs)
  have hnl := numB_len hn
  have hdl := listsB_len h.dok
  have hdd := h.dl
  unfold r24_Book_Bytes
  rw [r01_number_eq hn, Option.bind_some]
  obtain ⟨q, e1, e2⟩ := loop_exF (B := r24_Book_Bytes_B18323 r D) (fun y => ∃ i : Nat, y.2 = i ∧ i ≤ r.l.length ∧ y.1 = numB (r.l.length : Int) ++ ((r.l.take i).map absR).flatMap stB) (fun y => r.l.length - y.2.toNat) (fun _ q => q = bookB (r.l.map absR) D.l) (by
    rintro k ⟨o, j⟩ ⟨i, hi, hle, ho⟩ hk
    simp only at hi ho
    subst hi
    simp only [Int.toNat_natCast] at hk
    have hti := sts_len ((r.l.take i).map absR) fun s hs => hst s (by obtain ⟨y, hy, rfl⟩ := List.mem_map.1 hs; exact List.mem_map_of_mem (List.mem_of_mem_take hy))
    rw [List.length_map, List.length_take] at hti
    have hol : o.length ≤ 21 + 30000 * 512 := by rw [ho, List.length_append]; omega
    unfold r24_Book_Bytes_B18323
    rcases Nat.lt_or_ge i r.l.length with h' | h'
    · rw [if_pos (by simp [ltB, h'])]
      have hm : absR r.l[i] ∈ r.l.map absR := List.mem_map_of_mem (List.getElem_mem h')
      have m1 : numOkI r.l[i].N := h.num _ hm
      have m2 : ∀ x ∈ r.l[i].L.l, okH x = true := h.ok _ hm
      have m3 : r.l[i].L.l.length ≤ 512 := h.each _ hm
      have n1 := numB_len m1
      have n2 := listsB_len m2
      simp only [idx_in h', Option.bind_some]
      rw [r01_number_eq m1, Option.bind_some, cat_ok (by omega), Option.bind_some, rlists_eq _ m3 m2, Option.bind_some, cat_ok (by simp only [List.length_append]; omega), Option.bind_some, inc h' (by omega)]
      refine hk _ ⟨i + 1, by simp, h', ?_⟩ (by simp only; omega)
      simp only
      rw [ho, List.take_succ_eq_append_getElem h', List.map_append]
      simp [stB, absR]
    · rw [if_neg (by simp [ltB]; omega)]
      unfold r24_Book_Bytes_J1
      rw [rlists_eq D h.dl h.dok, Option.bind_some, cat_ok (by simp only; omega), Option.bind_some]
      refine ⟨_, rfl, ?_⟩
      rw [ho, List.take_of_length_le (by omega)]
      simp [bookB]) (numB (r.l.length : Int), 0) ⟨0, rfl, Nat.zero_le _, by simp⟩ (by simp; omega)
  rw [e1, e2]
end Go.Proofs.Ytbdomlbmbcnaeaa
namespace Go.Proofs.Ytbdomlbmbcnaeaa
open Go.Abs
def isDig (c : UInt8) : Bool := decide (48 ≤ c.toNat) && decide (c.toNat ≤ 57)
def spanD : List UInt8 → List UInt8 × List UInt8
  | [] => ([], [])
  | c :: t => if isDig c = true then (c :: (spanD t).1, (spanD t).2) else ([], c :: t)
theorem span_app : ∀ t : List UInt8, (spanD t).1 ++ (spanD t).2 = t
  | [] => rfl
  | c :: t => by
    unfold spanD
    split
    · simp [span_app t]
    · rfl
theorem span_of {ds : List UInt8} (h1 : ∀ c ∈ ds, isDig c = true) {c : UInt8} (h2 : isDig c = false) (r : List UInt8) : spanD (ds ++ c :: r) = (ds, c :: r) := by
  induction ds with
  | nil => simp [spanD, h2]
  | cons d ds ih =>
    rw [List.cons_append]
    unfold spanD
    rw [if_pos (h1 d (by simp)), ih fun x hx => h1 x (by simp [hx])]
def digV (c : UInt8) : Nat := c.toNat - 48
def valD (ds : List UInt8) : Nat := ds.foldl (fun v c => v * 10 + digV c) 0
theorem val_snoc (ds : List UInt8) (c : UInt8) : valD (ds ++ [c]) = valD ds * 10 + digV c := by simp [valD]
/-! ### runs of digits -/
theorem idxB_at {s : List UInt8} {i : Nat} (h : i < s.length) : idxB s (i : Int) = some ((s[i].toNat : Nat) : Int) := by
  unfold idxB
  rw [if_pos (by omega), Int.toNat_natCast, List.getElem?_eq_getElem h]
  rfl
theorem sub8 {c : UInt8} (h : isDig c = true) : IntKind.wrap .u64 (iSub .u8 (c.toNat : Int) 48) = ((digV c : Nat) : Int) := by
  simp only [isDig, Bool.and_eq_true, decide_eq_true_eq] at h
  unfold digV
  simp [iSub, IntKind.wrap, IntKind.bits, IntKind.signed]
  omega
theorem digV_lt {c : UInt8} (h : isDig c = true) : digV c ≤ 9 := by
  simp only [isDig, Bool.and_eq_true, decide_eq_true_eq] at h
  unfold digV
  omega
theorem lim {most d : Nat} (h1 : 9 ≤ most) (h2 : most < 18446744073709551616) (hd : d ≤ 9) : iQuo .u64 (iSub .u64 (most : Int) (d : Int)) 10 = (((most - d) / 10 : Nat) : Int) := by
  have e : iSub .u64 (most : Int) (d : Int) = ((most - d : Nat) : Int) := by
    simp [iSub, IntKind.wrap, IntKind.bits, IntKind.signed]
    omega
  rw [e]
  unfold iQuo
  rw [tdiv10]
  simp [IntKind.wrap, IntKind.bits, IntKind.signed]
  omega
theorem run_spec (s : List UInt8) (hs : s.length < 4611686018427387904) {a most : Nat} (ha : a ≤ s.length) (h1 : 9 ≤ most) (h2 : most < 18446744073709551616) :
    ∃ w b, lay_run s (a : Int) (most : Int) = some (((a + (spanD (s.drop a)).1.length : Nat) : Int), w, b) ∧ (b = true ↔ valD (spanD (s.drop a)).1 ≤ most) ∧ (b = true → w = ((valD (spanD (s.drop a)).1 : Nat) : Int)) := by
  unfold lay_run
  obtain ⟨r, e1, e2⟩ := loop_exF (B := lay_run_B17961 s (most : Int)) (fun x => ∃ (i : Nat) (pre : List UInt8), x.1 = i ∧ i ≤ s.length ∧ i = a + pre.length ∧ (spanD (s.drop a)).1 = pre ++ (spanD (s.drop i)).1 ∧ (x.2.2 = true ↔ valD pre ≤ most) ∧ (x.2.2 = true → x.2.1 = (valD pre : Nat))) (fun x => s.length - x.1.toNat)
    (fun _ r => ∃ w b, r = (((a + (spanD (s.drop a)).1.length : Nat) : Int), w, b) ∧ (b = true ↔ valD (spanD (s.drop a)).1 ≤ most) ∧ (b = true → w = ((valD (spanD (s.drop a)).1 : Nat) : Int))) (by
    rintro k ⟨z, v, ok⟩ ⟨i, pre, hi, hle, hpl, hsp, hok, hv⟩ hk
    simp only at hi hok hv
    subst hi
    simp only [Int.toNat_natCast] at hk
    have hstop : spanD (s.drop i) = ([], (spanD (s.drop i)).2) → ∃ r, lay_run_J4 (i : Int) v ok = some r ∧ ∃ w b, r = (((a + (spanD (s.drop a)).1.length : Nat) : Int), w, b) ∧ (b = true ↔ valD (spanD (s.drop a)).1 ≤ most) ∧ (b = true → w = ((valD (spanD (s.drop a)).1 : Nat) : Int)) := fun h => by
      have h0 : (spanD (s.drop i)).1 = [] := by rw [h]
      rw [h0, List.append_nil] at hsp
      refine ⟨_, rfl, v, ok, ?_, by rw [hsp]; exact hok, by rw [hsp]; exact hv⟩
      rw [hsp, ← hpl]
    unfold lay_run_B17961
    rcases Nat.lt_or_ge i s.length with h | h
    · rw [if_pos (by simp [ltB, h])]
      simp only [idxB_at h, Option.bind_some]
      have hd := drop_at h
      by_cases hdig : isDig s[i] = true
      · have hb := hdig
        simp only [isDig, Bool.and_eq_true, decide_eq_true_eq] at hb
        rw [if_pos (by rw [geB]; simp; omega), if_pos (by rw [leB]; simp; omega), sub8 hdig, lim h1 h2 (digV_lt hdig)]
        have hsp' : (spanD (s.drop a)).1 = (pre ++ [s[i]]) ++ (spanD (s.drop (i + 1))).1 := by
          rw [hsp, hd]
          conv => lhs; unfold spanD
          rw [if_pos hdig]
          simp
        unfold lay_run_J7
        simp only [inc h hs]
        have hdv := digV_lt hdig
        rw [sub8 hdig]
        by_cases hg : iGt v (((most - digV s[i]) / 10 : Nat) : Int) = true
        · rw [if_pos hg]
          refine hk (_, _, false) ⟨i + 1, pre ++ [s[i]], by simp, h, by simp; omega, hsp', ?_, fun e => by cases e⟩ (by simp only; omega)
          simp only [Bool.false_eq_true, false_iff]
          rw [val_snoc]
          rw [gtB] at hg
          simp only [decide_eq_true_eq] at hg
          by_cases hob : ok = true
          · have hv' := hv hob
            rw [hv'] at hg
            intro hle
            omega
          · have hnm : ¬ valD pre ≤ most := fun h => hob (hok.2 h)
            omega
        · rw [if_neg hg]
          rw [gtB] at hg
          simp only [decide_eq_true_eq] at hg
          have hmul : ok = true → iAdd .u64 (iMul .u64 v 10) ((digV s[i] : Nat) : Int) = ((valD (pre ++ [s[i]]) : Nat) : Int) := fun hob => by
            rw [hv hob] at hg ⊢
            rw [val_snoc]
            simp [iAdd, iMul, IntKind.wrap, IntKind.bits, IntKind.signed]
            omega
          refine hk (_, _, ok) ⟨i + 1, pre ++ [s[i]], by simp, h, by simp; omega, hsp', ?_, hmul⟩ (by simp only; omega)
          rw [val_snoc]
          constructor
          · intro hob
            have := hok.1 hob
            rw [hv hob] at hg
            omega
          · intro hle
            exact hok.2 (by omega)
      · have hsd : spanD (s.drop i) = ([], (spanD (s.drop i)).2) := by
          rw [hd]
          unfold spanD
          rw [if_neg hdig]
        have hb := hdig
        simp only [isDig, Bool.and_eq_true, decide_eq_true_eq, not_and] at hb
        by_cases hlo : 48 ≤ s[i].toNat
        · rw [if_pos (by rw [geB]; simp; omega), if_neg (by rw [leB]; simp; have := hb hlo; omega)]
          exact hstop hsd
        · rw [if_neg (by rw [geB]; simp; omega)]
          exact hstop hsd
    · rw [if_neg (by simp [ltB]; omega)]
      refine hstop ?_
      rw [List.drop_eq_nil_of_le (by omega)]
      rfl) ((a : Int), 0, true) ⟨a, [], rfl, ha, by simp, by simp, by simp [valD], by simp [valD]⟩ (by simp; omega)
  obtain ⟨w, b, rfl, h3, h4⟩ := e2
  exact ⟨w, b, e1, h3, h4⟩
/-! ### a number -/
def badD (ds : List UInt8) : Bool := ds.isEmpty || (decide (1 < ds.length) && ds.head? == some 48)
/-- What is wrong with digits and what stands behind them. -/
def shapeL (ds rest : List UInt8) (last : UInt8) : Int := match rest with
  | [] => 5
  | c :: _ => if ds = [] then 6 else if c ≠ last then 6 else if badD ds = true then 6 else 0
theorem ne8 (c d : UInt8) : (((c.toNat : Nat) : Int) != ((d.toNat : Nat) : Int)) = decide (c ≠ d) := by
  rw [Bool.eq_iff_iff]
  simp only [bne_iff_ne, ne_eq, decide_eq_true_eq]
  constructor
  · intro h e; exact h (by rw [e])
  · intro h e; exact h (UInt8.toNat_inj.1 (by omega))
theorem shape_eq (s : List UInt8) (hs : s.length < 4611686018427387904) {a : Nat} (ha : a ≤ s.length) (last : UInt8) :
    lay_shape s (a : Int) ((a + (spanD (s.drop a)).1.length : Nat) : Int) ((last.toNat : Nat) : Int) = some (shapeL (spanD (s.drop a)).1 (spanD (s.drop a)).2 last) := by
  have happ := span_app (s.drop a)
  generalize hds : (spanD (s.drop a)).1 = ds at *
  generalize hr : (spanD (s.drop a)).2 = rest at *
  have hlen : ds.length + rest.length = s.length - a := by
    have := congrArg List.length happ
    simpa using this
  unfold lay_shape
  cases rest with
  | nil =>
    simp only [List.length_nil, Nat.add_zero] at hlen
    rw [if_pos (by simp; omega)]
    rfl
  | cons c r =>
    simp only [List.length_cons] at hlen
    rw [if_neg (by simp; omega)]
    unfold shapeL
    by_cases h0 : ds = []
    · subst h0
      rw [if_pos (by simp)]
      rfl
    · have hpos := List.length_pos_iff.2 h0
      rw [if_neg (by simp; omega)]
      have hsl : (match c :: r with | [] => (5 : Int) | c :: _ => if ds = [] then 6 else if c ≠ last then 6 else if badD ds = true then 6 else 0) = if c ≠ last then 6 else if badD ds = true then 6 else 0 := by
        show (if ds = [] then (6 : Int) else _) = _
        rw [if_neg h0]
      rw [hsl]
      have hat : s[a + ds.length]? = some c := by
        have h1 : (s.drop a)[ds.length]? = some c := by rw [← happ]; simp
        rwa [List.getElem?_drop] at h1
      obtain ⟨hlt, hget⟩ := List.getElem?_eq_some_iff.1 hat
      rw [idxB_at hlt, Option.bind_some, hget, ne8]
      by_cases hc : c = last
      · rw [if_neg (by simp [hc]), if_neg (show ¬ c ≠ last from fun h => h hc)]
        have hsub : iSub .i64 ((a + ds.length : Nat) : Int) (a : Int) = (ds.length : Int) := by rw [subw (by omega) (by omega)]; omega
        rw [hsub, gtB]
        unfold badD lay_shape_J1
        have he : ds.isEmpty = false := by cases ds with | nil => exact absurd rfl h0 | cons x y => rfl
        rw [he, Bool.false_or]
        by_cases h1 : 1 < ds.length
        · rw [if_pos (by simp; omega)]
          have hah : ∃ x, ds.head? = some x ∧ s[a]? = some x := by
            cases ds with
            | nil => exact absurd rfl h0
            | cons x y =>
              refine ⟨x, rfl, ?_⟩
              have h1 : (s.drop a)[0]? = some x := by rw [← happ]; rfl
              rwa [List.getElem?_drop] at h1
          obtain ⟨x, hx1, hx2⟩ := hah
          obtain ⟨hl2, hg2⟩ := List.getElem?_eq_some_iff.1 hx2
          rw [idxB_at hl2, Option.bind_some, hg2, hx1]
          by_cases hx : x = 48
          · subst hx
            simp [h1]
          · have : ((x.toNat : Int) == 48) = false := by
              have h3 : x.toNat ≠ 48 := fun e => hx (UInt8.toNat_inj.1 (by simpa using e))
              simp
              omega
            rw [this, if_neg (by simp)]
            simp [hx]
        · rw [if_neg (by simp; omega)]
          simp [h1]
      · rw [if_pos (by simp [hc]), if_pos (by simp [hc])]
/-- A number, read. -/
def readN (t : List UInt8) : Int ⊕ (Int × Nat) :=
  match t with
  | 45 :: t1 => if shapeL (spanD t1).1 (spanD t1).2 59 ≠ 0 then .inl (shapeL (spanD t1).1 (spanD t1).2 59) else if (spanD t1).1 = [48] then .inl 6 else if valD (spanD t1).1 ≤ 9223372036854775808 then .inr (-((valD (spanD t1).1 : Nat) : Int), (spanD t1).1.length + 2) else .inl 4
  | t1 => if shapeL (spanD t1).1 (spanD t1).2 59 ≠ 0 then .inl (shapeL (spanD t1).1 (spanD t1).2 59) else if valD (spanD t1).1 ≤ 9223372036854775807 then .inr (((valD (spanD t1).1 : Nat) : Int), (spanD t1).1.length + 1) else .inl 4
def numR (a : Int) : Int ⊕ (Int × Nat) → Int × Int × Int
  | .inl e => (0, 0, e)
  | .inr (n, k) => (n, a + (k : Int), 0)
theorem shape_len {t : List UInt8} (h : shapeL (spanD t).1 (spanD t).2 59 = 0) : (spanD t).1.length < t.length ∧ (spanD t).1 ≠ [] := by
  have := congrArg List.length (span_app t)
  rw [List.length_append] at this
  unfold shapeL at h
  split at h
  · cases h
  · rename_i c r hr
    split at h
    · cases h
    · rename_i h0
      rw [hr] at this
      simp at this
      exact ⟨by omega, h0⟩
theorem readNumber_eq (s : List UInt8) (hs : s.length < 1073741824) {a : Nat} (ha : a ≤ s.length) : lay_ReadNumber s (a : Int) = some (numR (a : Int) (readN (s.drop a))) := by
  have hs' : s.length < 4611686018427387904 := by omega
  unfold lay_ReadNumber
  rw [if_neg (by rw [ltB]; simp), if_neg (by rw [gtB]; simp; omega)]
  have hJ0 : ∀ t1, s.drop a = t1 → (∀ r, t1 ≠ 45 :: r) → lay_ReadNumber_J1 s (a : Int) false = some (numR (a : Int) (readN t1)) := fun t1 ht hne => by
    unfold lay_ReadNumber_J1 lay_ReadNumber_J2
    rw [if_neg (by simp)]
    have hrn : readN t1 = if shapeL (spanD t1).1 (spanD t1).2 59 ≠ 0 then .inl (shapeL (spanD t1).1 (spanD t1).2 59) else if valD (spanD t1).1 ≤ 9223372036854775807 then .inr (((valD (spanD t1).1 : Nat) : Int), (spanD t1).1.length + 1) else .inl 4 := by
      unfold readN
      split
      · rename_i t2
        exact absurd rfl (hne t2)
      · rfl
    obtain ⟨w, b, e1, e2, e3⟩ := run_spec s hs' ha (most := 9223372036854775807) (by omega) (by omega)
    have e1' : lay_run s (a : Int) 9223372036854775807 = _ := e1
    rw [e1', Option.bind_some]
    simp only
    have hsh := shape_eq s hs' ha 59
    have hsh' : lay_shape s (a : Int) ((a + (spanD (s.drop a)).1.length : Nat) : Int) 59 = _ := hsh
    rw [hsh', Option.bind_some, hrn]
    rw [ht] at e2 e3 ⊢
    by_cases h0 : shapeL (spanD t1).1 (spanD t1).2 59 = 0
    · rw [if_neg (by simp [h0]), if_neg (by simp), if_neg (show ¬ shapeL (spanD t1).1 (spanD t1).2 59 ≠ 0 from fun h => h h0)]
      have hl := shape_len h0
      have htl : t1.length = s.length - a := by rw [← ht]; simp
      by_cases hv : valD (spanD t1).1 ≤ 9223372036854775807
      · have hb := e2.2 hv
        rw [if_pos hb, if_pos hv, e3 hb]
        have hw : IntKind.wrap .i64 ((valD (spanD t1).1 : Nat) : Int) = ((valD (spanD t1).1 : Nat) : Int) := by
          simp [IntKind.wrap, IntKind.bits, IntKind.signed]; omega
        have hi : iAdd .i64 ((a + (spanD t1).1.length : Nat) : Int) 1 = (a : Int) + (((spanD t1).1.length + 1 : Nat) : Int) := by
          rw [addw (by omega) (by omega)]; omega
        rw [hw, hi]
        rfl
      · rw [if_neg (fun h => hv (e2.1 h)), if_neg hv]
        rfl
    · rw [if_pos (by simpa using h0), if_pos h0]
      rfl
  rcases Nat.lt_or_ge a s.length with h | h
  · rw [if_pos (by rw [ltB]; simp; exact h), idxB_at h, Option.bind_some]
    have hd := drop_at h
    by_cases hc : s[a] = 45
    · have hb : (((s[a].toNat : Nat) : Int) == 45) = true := by rw [hc]; rfl
      rw [hb, hd, hc]
      unfold lay_ReadNumber_J1 lay_ReadNumber_J2
      rw [if_pos rfl, inc h hs']
      have hm : iAdd .u64 9223372036854775807 1 = ((9223372036854775808 : Nat) : Int) := by decide
      obtain ⟨w, b, e1, e2, e3⟩ := run_spec s hs' (a := a + 1) (by omega) (most := 9223372036854775808) (by omega) (by omega)
      have e1' : lay_run s ((a : Int) + 1) (iAdd .u64 9223372036854775807 1) = some (((a + 1 + (spanD (s.drop (a + 1))).1.length : Nat) : Int), w, b) := by rw [hm]; exact e1
      rw [e1', Option.bind_some]
      have hsh := shape_eq s hs' (a := a + 1) (by omega) 59
      have hsh' : lay_shape s ((a : Int) + 1) ((a + 1 + (spanD (s.drop (a + 1))).1.length : Nat) : Int) 59 = _ := hsh
      simp only
      rw [hsh', Option.bind_some]
      generalize ht : s.drop (a + 1) = t1 at *
      have htl : t1.length = s.length - (a + 1) := by rw [← ht]; simp
      show _ = some (numR (a : Int) (if shapeL (spanD t1).1 (spanD t1).2 59 ≠ 0 then .inl (shapeL (spanD t1).1 (spanD t1).2 59) else if (spanD t1).1 = [48] then .inl 6 else if valD (spanD t1).1 ≤ 9223372036854775808 then .inr (-((valD (spanD t1).1 : Nat) : Int), (spanD t1).1.length + 2) else .inl 4))
      by_cases h0 : shapeL (spanD t1).1 (spanD t1).2 59 = 0
      · rw [if_neg (by simp [h0]), if_pos trivial, if_neg (show ¬ shapeL (spanD t1).1 (spanD t1).2 59 ≠ 0 from fun h => h h0)]
        have hl := shape_len h0
        have hi1 : iAdd .i64 ((a : Int) + 1) 1 = (a : Int) + 2 := by rw [addw (by omega) (by omega)]; omega
        have hi2 : iAdd .i64 ((a + 1 + (spanD t1).1.length : Nat) : Int) 1 = (a : Int) + (((spanD t1).1.length + 2 : Nat) : Int) := by
          rw [addw (by omega) (by omega)]; omega
        have hfin : (if b = true then some (IntKind.wrap .i64 (iNeg .u64 w), iAdd .i64 ((a + 1 + (spanD t1).1.length : Nat) : Int) 1, (0 : Int)) else some (0, 0, 4)) = some (numR (a : Int) (if valD (spanD t1).1 ≤ 9223372036854775808 then .inr (-((valD (spanD t1).1 : Nat) : Int), (spanD t1).1.length + 2) else .inl 4)) := by
          by_cases hv : valD (spanD t1).1 ≤ 9223372036854775808
          · have hb := e2.2 hv
            rw [if_pos hb, if_pos hv, e3 hb, hi2]
            have hw : IntKind.wrap .i64 (iNeg .u64 ((valD (spanD t1).1 : Nat) : Int)) = -((valD (spanD t1).1 : Nat) : Int) := by
              simp [iNeg, IntKind.wrap, IntKind.bits, IntKind.signed]; omega
            rw [hw]
            rfl
          · rw [if_neg (fun h => hv (e2.1 h)), if_neg hv]
            rfl
        rw [hi1]
        by_cases h48 : (spanD t1).1 = [48]
        · have hlen1 : (spanD t1).1.length = 1 := by rw [h48]; rfl
          rw [if_pos (by simp [hlen1]; omega), if_pos h48]
          have hat : s[a + 1]? = some 48 := by
            have h1 : (s.drop (a + 1))[0]? = some 48 := by rw [ht, ← span_app t1, h48]; rfl
            rwa [List.getElem?_drop] at h1
          obtain ⟨hl2, hg2⟩ := List.getElem?_eq_some_iff.1 hat
          have hib : idxB s ((a : Int) + 1) = some 48 := by
            have := idxB_at hl2
            rw [hg2] at this
            exact this
          rw [hib, Option.bind_some, if_pos (by rfl)]
          rfl
        · rw [if_neg h48]
          by_cases hlen1 : (spanD t1).1.length = 1
          · rw [if_pos (by simp [hlen1]; omega)]
            obtain ⟨x, hx⟩ := List.length_eq_one_iff.1 hlen1
            have hat : s[a + 1]? = some x := by
              have h1 : (s.drop (a + 1))[0]? = some x := by rw [ht, ← span_app t1, hx]; rfl
              rwa [List.getElem?_drop] at h1
            obtain ⟨hl2, hg2⟩ := List.getElem?_eq_some_iff.1 hat
            have hib : idxB s ((a : Int) + 1) = some ((x.toNat : Nat) : Int) := by
              have := idxB_at hl2
              rw [hg2] at this
              exact this
            have hx48 : (((x.toNat : Nat) : Int) == 48) = false := by
              have h3 : x.toNat ≠ 48 := fun e => h48 (by rw [hx]; congr 1; exact UInt8.toNat_inj.1 (by simpa using e))
              simp
              omega
            rw [hib, Option.bind_some, hx48, if_neg (by simp)]
            exact hfin
          · rw [if_neg (by simp; omega)]
            exact hfin
      · rw [if_pos (by simpa using h0), if_pos h0]
        rfl
    · have hb : (((s[a].toNat : Nat) : Int) == 45) = false := by
        have h3 : s[a].toNat ≠ 45 := fun e => hc (UInt8.toNat_inj.1 (by simpa using e))
        simp
        omega
      rw [hb]
      refine hJ0 _ rfl fun r hr => hc ?_
      rw [hd] at hr
      simp only [List.cons.injEq] at hr
      exact hr.1
  · rw [if_neg (by rw [ltB]; simp; omega)]
    refine hJ0 _ rfl fun r hr => ?_
    rw [List.drop_eq_nil_of_le h] at hr
    cases hr
end Go.Proofs.Ytbdomlbmbcnaeaa
namespace Go.Proofs.Ytbdomlbmbcnaeaa
open Go.Abs
theorem readNumber_inl {s : List UInt8} (hs : s.length < 1073741824) {a : Nat} (ha : a ≤ s.length) {e : Int} (h : readN (s.drop a) = .inl e) : lay_ReadNumber s (a : Int) = some (0, 0, e) := by rw [readNumber_eq s hs ha, h]; rfl
theorem readNumber_inr {s : List UInt8} (hs : s.length < 1073741824) {a : Nat} (ha : a ≤ s.length) {n : Int} {k : Nat} (h : readN (s.drop a) = .inr (n, k)) : lay_ReadNumber s (a : Int) = some (n, (a : Int) + (k : Int), 0) := by rw [readNumber_eq s hs ha, h]; rfl
theorem readN_ok {t : List UInt8} {n : Int} {k : Nat} (h : readN t = .inr (n, k)) : 1 ≤ k ∧ k ≤ t.length := by
  unfold readN at h
  split at h
  · rename_i t1
    split at h
    · cases h
    rename_i h0
    have h0' : shapeL (spanD t1).1 (spanD t1).2 59 = 0 := Classical.not_not.1 h0
    have := (shape_len h0').1
    split at h
    · cases h
    split at h
    · cases h
      simp only [List.length_cons]
      omega
    · cases h
  · split at h
    · cases h
    rename_i h0
    have h0' := Classical.not_not.1 h0
    have := (shape_len h0').1
    split at h
    · cases h
      omega
    · cases h
theorem readN_err {t : List UInt8} {e : Int} (h : readN t = .inl e) : e ≠ 0 := by
  unfold readN at h
  split at h
  · split at h
    · cases h; assumption
    split at h
    · cases h; decide
    split at h
    · cases h
    · cases h; decide
  · split at h
    · cases h; assumption
    split at h
    · cases h
    · cases h; decide
/-- The items of a list, up to its end. -/
def readL : List UInt8 → Nat → Int ⊕ (List Int × Nat)
  | [], _ => .inl 5
  | x :: r, c => if x = 41 then .inr ([], 1) else if 512 ≤ c then .inl 4 else match readN (x :: r) with
    | .inl e => .inl e
    | .inr (n, k) => match readL (r.drop (k - 1)) (c + 1) with
      | .inl e => .inl e
      | .inr (l, k2) => .inr (n :: l, k + k2)
  termination_by t => t.length
  decreasing_by simp; omega
theorem readL_err : ∀ (m : Nat) (t : List UInt8) (c : Nat), t.length < m → ∀ e, readL t c = .inl e → e ≠ 0
  | 0, _, _, h, _, _ => by omega
  | m + 1, [], c, _, e, h => by rw [readL] at h; cases h; decide
  | m + 1, x :: r, c, hm, e, h => by
    rw [readL] at h
    split at h
    · cases h
    split at h
    · cases h; decide
    split at h
    · rename_i e' he
      cases h
      exact readN_err he
    · rename_i n k hn
      split at h
      · rename_i e' he
        cases h
        simp only [List.length_cons] at hm
        exact readL_err m (r.drop (k - 1)) (c + 1) (by rw [List.length_drop]; omega) _ he
      · cases h
theorem readL_len : ∀ (m : Nat) (t : List UInt8) (c : Nat), t.length < m → ∀ l k, readL t c = .inr (l, k) → 1 ≤ k ∧ k ≤ t.length ∧ (c ≤ 512 → c + l.length ≤ 512)
  | 0, _, _, h, _, _, _ => by omega
  | m + 1, [], c, _, l, k, h => by rw [readL] at h; cases h
  | m + 1, x :: r, c, hm, l, k, h => by
    rw [readL] at h
    split at h
    · cases h
      simp
    split at h
    · cases h
    rename_i hc
    split at h
    · cases h
    · rename_i n k1 hn
      have h1 := readN_ok hn
      simp only [List.length_cons] at h1 hm
      split at h
      · cases h
      · rename_i l2 k2 h2
        cases h
        have h3 := readL_len m (r.drop (k1 - 1)) (c + 1) (by rw [List.length_drop]; omega) l2 k2 h2
        rw [List.length_drop] at h3
        simp only [List.length_cons]
        refine ⟨by omega, by omega, fun _ => ?_⟩
        have := h3.2.2 (by omega)
        omega
def readNums (t : List UInt8) : Int ⊕ (List Int × Nat) := match t with
  | [] => .inl 5
  | x :: r => if x ≠ 40 then .inl 6 else match readL r 0 with
    | .inl e => .inl e
    | .inr (l, k) => .inr (l, k + 1)
theorem readNums_err {t : List UInt8} {e : Int} (h : readNums t = .inl e) : e ≠ 0 := by
  unfold readNums at h
  split at h
  · cases h; decide
  split at h
  · cases h; decide
  split at h
  · rename_i e' he
    cases h
    exact readL_err _ _ _ (Nat.lt_succ_self _) _ he
  · cases h
theorem readNums_len {t : List UInt8} {l : List Int} {k : Nat} (h : readNums t = .inr (l, k)) : 1 ≤ k ∧ k ≤ t.length ∧ l.length ≤ 512 := by
  unfold readNums at h
  split at h
  · cases h
  split at h
  · cases h
  split at h
  · cases h
  · rename_i l' k' hl
    cases h
    have := readL_len _ _ _ (Nat.lt_succ_self _) _ _ hl
    simp only [List.length_cons]
    refine ⟨by omega, by omega, ?_⟩
    have := this.2.2 (by omega)
    omega
/-- What a reader of lists answers. -/
def NumsR (a : Int) (w : Int ⊕ (List Int × Nat)) (o : Option (Sl Int × Int × Int)) : Prop := match w with
  | .inl e => ∃ l, o = some (l, 0, e)
  | .inr (ns, k) => ∃ l, o = some (l, a + (k : Int), 0) ∧ l.l = ns
theorem byte_ne {c : UInt8} {d : UInt8} (h : c ≠ d) : (((c.toNat : Nat) : Int) == ((d.toNat : Nat) : Int)) = false := by
  have := ne8 c d
  simp only [bne, h, ne_eq, not_false_eq_true, decide_true] at this
  simpa using this
theorem readNums_eq (s : List UInt8) (hs : s.length < 1073741824) {a : Nat} (ha : a ≤ s.length) : NumsR (a : Int) (readNums (s.drop a)) (lay_ReadNumbers s (a : Int)) := by
  unfold lay_ReadNumbers lay_read_int
  rw [if_neg (by rw [ltB]; simp), if_neg (by rw [gtB]; simp; omega)]
  rcases Nat.lt_or_ge a s.length with h | h
  · rw [if_neg (by simp; omega), idxB_at h, Option.bind_some, drop_at h]
    unfold readNums
    simp only
    by_cases hc : s[a] = 40
    · have hb : (((s[a].toNat : Nat) : Int) != 40) = false := by rw [hc]; rfl
      rw [hb, if_neg (show ¬ s[a] ≠ 40 from fun h => h hc), if_neg (show ¬ (false = true) by simp), inc h (show s.length < _ by omega)]
      obtain ⟨r, e1, e2⟩ := loop_exF (B := lay_read_int_B17907 s) (fun x => ∃ i : Nat, x.1 = i ∧ i ≤ s.length ∧ x.2.l.length ≤ 512) (fun x => s.length - x.1.toNat) (fun x r => match readL (s.drop x.1.toNat) x.2.l.length with
          | .inl e => r.2 = (0, e)
          | .inr (ns, k) => r.1.l = x.2.l ++ ns ∧ r.2 = (x.1 + (k : Int), 0)) (by
        rintro k ⟨z, o⟩ ⟨i, hi, hle, ho⟩ hk
        simp only at hi ho
        subst hi
        simp only [Int.toNat_natCast] at hk ⊢
        unfold lay_read_int_B17907
        rcases Nat.lt_or_ge i s.length with h' | h'
        · rw [if_neg (by simp; omega)]
          simp only [idxB_at h', Option.bind_some]
          rw [drop_at h', readL]
          by_cases h41 : s[i] = 41
          · have hb : (((s[i].toNat : Nat) : Int) == 41) = true := by rw [h41]; rfl
            rw [hb, if_pos rfl, if_pos h41, inc h' (show s.length < _ by omega)]
            exact ⟨_, rfl, by simp [Sl.weak], rfl⟩
          · have hb : (((s[i].toNat : Nat) : Int) == 41) = false := byte_ne h41
            rw [hb, if_neg (by simp), if_neg h41]
            by_cases hbig : 512 ≤ o.l.length
            · rw [if_pos (by rw [geB]; simp; omega), if_pos hbig]
              exact ⟨_, rfl, rfl⟩
            · rw [if_neg (by rw [geB]; simp; omega), if_neg hbig]
              cases hn : readN (s[i] :: s.drop (i + 1)) with
              | inl e =>
                have he := readN_err hn
                refine ⟨(⟨true, true, []⟩, 0, e), ?_, rfl⟩
                rw [readNumber_inl hs (show i ≤ s.length by omega) (by rw [drop_at h']; exact hn), Option.bind_some, if_pos (by simpa using he)]
              | inr w =>
                obtain ⟨n, k1⟩ := w
                have hkl := readN_ok hn
                rw [← drop_at h', List.length_drop] at hkl
                obtain ⟨r, r1, r2⟩ := hk ((i : Int) + (k1 : Int), ⟨o.nl && [n].length == 0, false, o.l ++ [n]⟩) ⟨i + k1, by simp, by omega, by simp; omega⟩ (by simp only; omega)
                refine ⟨r, ?_, ?_⟩
                · rw [readNumber_inr hs (show i ≤ s.length by omega) (by rw [drop_at h']; exact hn), Option.bind_some, if_neg (by simp), app_ok _ _ (by simp; omega) (by decide), Option.bind_some]
                  exact r1
                have ei : ((i : Int) + (k1 : Int)).toNat = i + k1 := by omega
                simp only [ei, List.length_append, List.length_cons, List.length_nil, Nat.zero_add] at r2
                have ed : (s.drop (i + 1)).drop (k1 - 1) = s.drop (i + k1) := by rw [List.drop_drop]; congr 1; omega
                dsimp only
                rw [ed]
                cases hrl : readL (s.drop (i + k1)) (o.l.length + 1) with
                | inl e =>
                  rw [hrl] at r2
                  exact r2
                | inr w =>
                  rw [hrl] at r2
                  obtain ⟨ns, k2⟩ := w
                  simp only at r2 ⊢
                  rw [r2.1, r2.2]
                  refine ⟨by simp, ?_⟩
                  congr 1
                  omega
        · have : i = s.length := by omega
          subst this
          rw [if_pos (by simp), List.drop_length, readL]
          exact ⟨_, rfl, rfl⟩) ((a : Int) + 1, ⟨true, true, []⟩) ⟨a + 1, by simp, h, by simp⟩ (by simp only; omega)
      rw [e1, Option.bind_some]
      have ea : ((a : Int) + 1).toNat = a + 1 := by omega
      simp only [ea, List.length_nil, List.nil_append] at e2
      cases hrl : readL (s.drop (a + 1)) 0 with
      | inl e =>
        rw [hrl] at e2
        obtain ⟨r1, r2⟩ := r
        simp only at e2
        subst e2
        exact ⟨r1, rfl⟩
      | inr w =>
        rw [hrl] at e2
        obtain ⟨ns, k⟩ := w
        obtain ⟨r1, r2⟩ := r
        simp only at e2
        obtain ⟨e2, rfl⟩ := e2
        refine ⟨r1, ?_, e2⟩
        simp only [Option.some.injEq, Prod.mk.injEq, true_and, and_true]
        omega
    · have hb : (((s[a].toNat : Nat) : Int) != 40) = true := by
        have := byte_ne (d := 40) hc
        simp only [bne]
        rw [show ((40 : Int)) = (((40 : UInt8).toNat : Nat) : Int) from rfl, this]
        rfl
      rw [hb, if_pos hc, if_pos (show true = true from rfl), Option.bind_some]
      exact ⟨_, rfl⟩
  · have : a = s.length := by omega
    subst this
    rw [if_pos (by simp), Option.bind_some, List.drop_length]
    exact ⟨_, rfl⟩
def blobsL (t : List UInt8) : Int ⊕ (List Held × Nat) := match readNums t with
  | .inl e => .inl e
  | .inr (a, k) => match readNums (t.drop k) with
    | .inl e => .inl e
    | .inr (b, k2) => if a.length ≠ b.length then .inl 6 else .inr (List.zipWith Held.mk a b, k + k2)
theorem blobsL_err {t : List UInt8} {e : Int} (h : blobsL t = .inl e) : e ≠ 0 := by
  unfold blobsL at h
  split at h
  · rename_i e' he
    cases h
    exact readNums_err he
  split at h
  · rename_i e' he
    cases h
    exact readNums_err he
  split at h
  · cases h; decide
  · cases h
theorem blobsL_len {t : List UInt8} {l : List Held} {k : Nat} (h : blobsL t = .inr (l, k)) : k ≤ t.length ∧ l.length ≤ 512 := by
  unfold blobsL at h
  split at h
  · cases h
  rename_i a k1 h1
  split at h
  · cases h
  rename_i b k2 h2
  split at h
  · cases h
  cases h
  have g1 := readNums_len h1
  have g2 := readNums_len h2
  rw [List.length_drop] at g2
  rw [List.length_zipWith]
  omega
theorem blobs_eq (s : List UInt8) (hs : s.length < 1073741824) {a : Nat} (ha : a ≤ s.length) : (match blobsL (s.drop a) with
    | .inl e => ∃ l, prune_blobs s (a : Int) = some (l, 0, e)
    | .inr (l, k) => ∃ x, prune_blobs s (a : Int) = some (x, (a : Int) + (k : Int), 0) ∧ x.l = l) := by
  unfold blobsL prune_blobs
  have h1 := readNums_eq s hs ha
  cases hr1 : readNums (s.drop a) with
  | inl e =>
    rw [hr1] at h1
    obtain ⟨l, h1⟩ := h1
    rw [h1, Option.bind_some, if_pos (by simpa using readNums_err hr1)]
    exact ⟨_, rfl⟩
  | inr w =>
    obtain ⟨na, k1⟩ := w
    rw [hr1] at h1
    obtain ⟨l1, h1, hl1⟩ := h1
    have g1 := readNums_len hr1
    rw [List.length_drop] at g1
    rw [h1, Option.bind_some, if_neg (by simp)]
    simp only
    have h2 := readNums_eq s hs (a := a + k1) (by omega)
    rw [show ((a + k1 : Nat) : Int) = (a : Int) + (k1 : Int) by omega] at h2
    rw [List.drop_drop]
    cases hr2 : readNums (s.drop (a + k1)) with
    | inl e =>
      rw [hr2] at h2
      obtain ⟨l, h2⟩ := h2
      rw [h2, Option.bind_some, if_pos (by simpa using readNums_err hr2)]
      exact ⟨_, rfl⟩
    | inr w =>
      obtain ⟨nb, k2⟩ := w
      rw [hr2] at h2
      obtain ⟨l2, h2, hl2⟩ := h2
      rw [h2, Option.bind_some, if_neg (by simp)]
      simp only
      by_cases hne : na.length = nb.length
      · have hcond : ((l1.l.length : Int) != (l2.l.length : Int)) = false := by rw [hl1, hl2]; simp [hne]
        rw [if_neg (show ¬ na.length ≠ nb.length from fun h => h hne), hcond, if_neg (show ¬ (false = true) by simp)]
        obtain ⟨r, e1, e2⟩ := loop_exF (B := prune_blobs_B17937 (l1, (a : Int) + (k1 : Int), 0) (l2, (a : Int) + (k1 : Int) + (k2 : Int), 0)) (fun x => ∃ i : Nat, x.2 = i ∧ i ≤ na.length ∧ x.1.l = (List.zipWith Held.mk na nb).take i) (fun x => na.length - x.2.toNat) (fun _ r => ∃ y : Sl Held, r = (y, (a : Int) + (k1 : Int) + (k2 : Int), 0) ∧ y.l = List.zipWith Held.mk na nb) (by
          rintro k ⟨o, z⟩ ⟨i, hi, hle, ho⟩ hk
          simp only at hi ho
          subst hi
          simp only [Int.toNat_natCast] at hk
          unfold prune_blobs_B17937
          simp only
          rcases Nat.lt_or_ge i na.length with h' | h'
          · rw [if_pos (by rw [hl1]; simp [ltB, h']), hl1, hl2, idx_in h', Option.bind_some, idx_in (show i < nb.length by omega), Option.bind_some]
            have hzl : (List.zipWith Held.mk na nb).length = na.length := by rw [List.length_zipWith]; omega
            rw [app_ok _ _ (by rw [ho]; simp; omega) (by decide), Option.bind_some, inc h' (by omega)]
            refine hk _ ⟨i + 1, by simp, h', ?_⟩ (by simp only; omega)
            simp only
            rw [ho, List.take_succ_eq_append_getElem (by rw [hzl]; exact h'), List.getElem_zipWith]
          · rw [if_neg (by rw [hl1]; simp [ltB]; omega)]
            unfold prune_blobs_J1
            refine ⟨_, rfl, _, rfl, ?_⟩
            simp only [Sl.weak]
            rw [ho, List.take_of_length_le (by rw [List.length_zipWith]; omega)]) (⟨true, true, []⟩, 0) ⟨0, rfl, Nat.zero_le _, by simp⟩ (by simp; omega)
        obtain ⟨y, rfl, hy⟩ := e2
        refine ⟨y, ?_, hy⟩
        rw [e1]
        simp only [Option.some.injEq, Prod.mk.injEq, true_and, and_true]
        omega
      · have hcond : ((l1.l.length : Int) != (l2.l.length : Int)) = true := by rw [hl1, hl2]; simp; omega
        rw [if_pos (show na.length ≠ nb.length from hne), hcond, if_pos (show true = true from rfl)]
        exact ⟨_, rfl⟩
theorem blobs2_eq (s : List UInt8) (hs : s.length < 1073741824) {a : Nat} (ha : a ≤ s.length) : (match blobsL (s.drop a) with
    | .inl e => ∃ l, prune_blobs_2 s (a : Int) = some (0, e, l)
    | .inr (l, k) => ∃ x, prune_blobs_2 s (a : Int) = some ((a : Int) + (k : Int), 0, x) ∧ x.l = l) := by
  unfold blobsL prune_blobs_2
  have h1 := readNums_eq s hs ha
  cases hr1 : readNums (s.drop a) with
  | inl e =>
    rw [hr1] at h1
    obtain ⟨l, h1⟩ := h1
    rw [h1, Option.bind_some, if_pos (by simpa using readNums_err hr1)]
    exact ⟨_, rfl⟩
  | inr w =>
    obtain ⟨na, k1⟩ := w
    rw [hr1] at h1
    obtain ⟨l1, h1, hl1⟩ := h1
    have g1 := readNums_len hr1
    rw [List.length_drop] at g1
    rw [h1, Option.bind_some, if_neg (by simp)]
    simp only
    have h2 := readNums_eq s hs (a := a + k1) (by omega)
    rw [show ((a + k1 : Nat) : Int) = (a : Int) + (k1 : Int) by omega] at h2
    rw [List.drop_drop]
    cases hr2 : readNums (s.drop (a + k1)) with
    | inl e =>
      rw [hr2] at h2
      obtain ⟨l, h2⟩ := h2
      rw [h2, Option.bind_some, if_pos (by simpa using readNums_err hr2)]
      exact ⟨_, rfl⟩
    | inr w =>
      obtain ⟨nb, k2⟩ := w
      rw [hr2] at h2
      obtain ⟨l2, h2, hl2⟩ := h2
      rw [h2, Option.bind_some, if_neg (by simp)]
      simp only
      by_cases hne : na.length = nb.length
      · have hcond : ((l1.l.length : Int) != (l2.l.length : Int)) = false := by rw [hl1, hl2]; simp [hne]
        rw [if_neg (show ¬ na.length ≠ nb.length from fun h => h hne), hcond, if_neg (show ¬ (false = true) by simp)]
        obtain ⟨r, e1, e2⟩ := loop_exF (B := prune_blobs_2_B18058 (l1, (a : Int) + (k1 : Int), 0) (l2, (a : Int) + (k1 : Int) + (k2 : Int), 0)) (fun x => ∃ i : Nat, x.2 = i ∧ i ≤ na.length ∧ x.1.l = (List.zipWith Held.mk na nb).take i) (fun x => na.length - x.2.toNat) (fun _ r => ∃ y : Sl Held, r = ((a : Int) + (k1 : Int) + (k2 : Int), 0, y) ∧ y.l = List.zipWith Held.mk na nb) (by
          rintro k ⟨o, z⟩ ⟨i, hi, hle, ho⟩ hk
          simp only at hi ho
          subst hi
          simp only [Int.toNat_natCast] at hk
          unfold prune_blobs_2_B18058
          simp only
          rcases Nat.lt_or_ge i na.length with h' | h'
          · rw [if_pos (by rw [hl1]; simp [ltB, h']), hl1, hl2, idx_in h', Option.bind_some, idx_in (show i < nb.length by omega), Option.bind_some]
            have hzl : (List.zipWith Held.mk na nb).length = na.length := by rw [List.length_zipWith]; omega
            rw [app_ok _ _ (by rw [ho]; simp; omega) (by decide), Option.bind_some, inc h' (by omega)]
            refine hk _ ⟨i + 1, by simp, h', ?_⟩ (by simp only; omega)
            simp only
            rw [ho, List.take_succ_eq_append_getElem (by rw [hzl]; exact h'), List.getElem_zipWith]
          · rw [if_neg (by rw [hl1]; simp [ltB]; omega)]
            unfold prune_blobs_2_J1
            refine ⟨_, rfl, _, rfl, ?_⟩
            rw [ho, List.take_of_length_le (by rw [List.length_zipWith]; omega)]) (⟨true, true, []⟩, 0) ⟨0, rfl, Nat.zero_le _, by simp⟩ (by simp; omega)
        obtain ⟨y, rfl, hy⟩ := e2
        refine ⟨y, ?_, hy⟩
        rw [e1]
        simp only [Option.some.injEq, Prod.mk.injEq, true_and, and_true]
        omega
      · have hcond : ((l1.l.length : Int) != (l2.l.length : Int)) = true := by rw [hl1, hl2]; simp; omega
        rw [if_pos (show na.length ≠ nb.length from hne), hcond, if_pos (show true = true from rfl)]
        exact ⟨_, rfl⟩
/-! ### a book -/
def stsL : Nat → List UInt8 → Int ⊕ (List AS × Nat)
  | 0, _ => .inr ([], 0)
  | n + 1, t => match readN t with
    | .inl e => .inl e
    | .inr (m, k) => match blobsL (t.drop k) with
      | .inl e => .inl e
      | .inr (l, k2) => match stsL n (t.drop (k + k2)) with
        | .inl e => .inl e
        | .inr (S, k3) => .inr ((m, l) :: S, k + k2 + k3)
def addsL (D : List Held) : List AS → List AS → Bool
  | [], _ => true
  | s :: r, S => if rAdd s.1 s.2 S D = 0 then addsL D r (S ++ [s]) else false
/-- Any bytes, read as a book. -/
def readB (t : List UInt8) : Int ⊕ (List AS × List Held) := match readN t with
  | .inl e => .inl e
  | .inr (n, k) => if n < 0 then .inl 6 else if 512 < n then .inl 6 else match stsL n.toNat (t.drop k) with
    | .inl e => .inl e
    | .inr (S, k2) => match blobsL (t.drop (k + k2)) with
      | .inl e => .inl e
      | .inr (D, k3) => if k + k2 + k3 < t.length then .inl 6 else if risesB none D = false then .inl 6 else if 256 < D.length then .inl 6 else if addsL D S [] = true then .inr (S, D) else .inl 6
theorem plain2_eq (l : Sl Held) (h : l.l.length < 4611686018427387904) : prune_plain_2 l = some (risesB none l.l) := by
  have e : prune_plain_2 l = prune_plain l := by
    unfold prune_plain_2 prune_plain
    have : prune_plain_2_B18255 l = prune_plain_B1299 l := by
      funext k x
      unfold prune_plain_2_B18255 prune_plain_B1299 prune_plain_2_J4 prune_plain_J4 prune_plain_2_J7 prune_plain_J7
      rfl
    rw [this]
  rw [e]
  exact plain_eq l h
theorem adds_eq (q : Sl Prune_state) (y : Int × Int × Sl Held) (hq : q.l.length ≤ 512) (hd : y.2.2.l.length ≤ 512) (hdead : risesB none y.2.2.l = true) (hf : ∀ s ∈ q.l.map absP, s.2.length ≤ 512) :
    (if addsL y.2.2.l (q.l.map absP) [] = true then ∃ p, loopN (prune_Read_B17958 q y) FUEL (0, (⟨true, true, []⟩ : Sl Prune_state)) = some (.inr (0, p, y.2.2)) ∧ p.l.map absP = q.l.map absP ∧ Inv (q.l.map absP) y.2.2.l else loopN (prune_Read_B17958 q y) FUEL (0, (⟨true, true, []⟩ : Sl Prune_state)) = some (.inl 6)) := by
  obtain ⟨r, e1, e2⟩ := loop_exF (B := prune_Read_B17958 q y) (fun x => ∃ i : Nat, x.1 = i ∧ i ≤ q.l.length ∧ x.2.l.map absP = (q.l.map absP).take i ∧ Inv (x.2.l.map absP) y.2.2.l) (fun x => q.l.length - x.1.toNat)
    (fun x r => (addsL y.2.2.l ((q.l.map absP).drop x.1.toNat) (x.2.l.map absP) = true → ∃ p : Sl Prune_state, r = .inr (0, p, y.2.2) ∧ p.l.map absP = q.l.map absP ∧ Inv (q.l.map absP) y.2.2.l) ∧ (addsL y.2.2.l ((q.l.map absP).drop x.1.toNat) (x.2.l.map absP) = false → r = .inl 6)) (by
    rintro k ⟨z, p⟩ ⟨i, hi, hle, hp, hinv⟩ hk
    simp only at hi hp hinv
    subst hi
    simp only [Int.toNat_natCast] at hk ⊢
    have hpl : p.l.length = i := by have := congrArg List.length hp; simp at this; omega
    unfold prune_Read_B17958
    rcases Nat.lt_or_ge i q.l.length with h' | h'
    · rw [if_pos (by simp [ltB, h'])]
      simp only [idx_in h', Option.bind_some]
      have hmem : absP q.l[i] ∈ q.l.map absP := List.mem_map_of_mem (List.getElem_mem h')
      have hll : q.l[i].l.l.length ≤ 512 := hf _ hmem
      have htot : totS (p.l.map absP) ≤ 512 * 512 := by
        have key : ∀ S : List AS, (∀ s ∈ S, s.2.length ≤ 512) → totS S ≤ 512 * S.length := by
          intro S
          induction S with
          | nil => intro _; simp [totS]
          | cons s S ih =>
            intro h
            rw [totS_cons, List.length_cons]
            have h1 := h s (by simp)
            have h2 := ih fun x hx => h x (by simp [hx])
            omega
        have := key (p.l.map absP) fun s hs => hf s (by rw [hp] at hs; exact List.mem_of_mem_take hs)
        rw [List.length_map] at this
        omega
      have hbd : Bd q.l[i].l (p.l.map absP) y.2.2 := ⟨by omega, by simp; omega, fun s hs => by have := hf s (by rw [hp] at hs; exact List.mem_of_mem_take hs); omega, by omega⟩
      have hdr : (q.l.map absP).drop i = absP q.l[i] :: (q.l.map absP).drop (i + 1) := by
        rw [List.drop_eq_getElem_cons (by simp; exact h'), List.getElem_map]
      have hstep : addsL y.2.2.l ((q.l.map absP).drop i) (p.l.map absP) = if rAdd q.l[i].number q.l[i].l.l (p.l.map absP) y.2.2.l = 0 then addsL y.2.2.l ((q.l.map absP).drop (i + 1)) (p.l.map absP ++ [absP q.l[i]]) else false := by
        rw [hdr]
        rfl
      rw [hstep, pAdd_eq q.l[i].number q.l[i].l p y.2.2 rfl hbd, Option.bind_some, add_same hinv _ _ (by omega) hbd.tot]
      by_cases h0 : rAdd q.l[i].number q.l[i].l.l (p.l.map absP) y.2.2.l = 0
      · have hst : (p.l ++ [stP q.l[i].number q.l[i].l]).map absP = p.l.map absP ++ [absP q.l[i]] := by simp [stP, absP]
        obtain ⟨r, r1, r2⟩ := hk ((i : Int) + 1, ⟨false, false, p.l ++ [stP q.l[i].number q.l[i].l]⟩) ⟨i + 1, by simp, h', by simp only; rw [hst, hp, List.take_succ_eq_append_getElem (by simp; exact h'), List.getElem_map], by simp only; rw [hst]; exact add_inv hinv h0⟩ (by simp only; omega)
        have ei : ((i : Int) + 1).toNat = i + 1 := by omega
        simp only [ei, hst] at r2
        refine ⟨r, ?_, ?_⟩
        · simp only [h0]
          rw [inc h' (show q.l.length < _ by omega)]
          exact r1
        · rw [if_pos h0]
          exact r2
      · refine ⟨.inl 6, ?_, fun h => ?_, fun _ => rfl⟩
        · rw [if_pos (by simpa using h0)]
        · rw [if_neg h0] at h
          cases h
    · rw [if_neg (by simp [ltB]; omega)]
      have hiq : i = q.l.length := by omega
      subst hiq
      have hpq : p.l.map absP = q.l.map absP := by rw [hp, List.take_of_length_le (by simp)]
      have hnil : addsL y.2.2.l ((q.l.map absP).drop q.l.length) (p.l.map absP) = true := by rw [List.drop_eq_nil_of_le (by simp)]; rfl
      refine ⟨.inr (0, p, y.2.2), rfl, fun _ => ⟨p, rfl, hpq, by rw [← hpq]; exact hinv⟩, fun h => ?_⟩
      rw [hnil] at h
      cases h) (0, (⟨true, true, []⟩ : Sl Prune_state)) ⟨0, rfl, Nat.zero_le _, rfl, by simp, by simp, by simp [flatS], hdead, by simp [flatS]⟩ (by simp; omega)
  simp only [Int.toNat_zero, List.drop_zero, List.map_nil] at e2
  by_cases ha : addsL y.2.2.l (q.l.map absP) [] = true
  · rw [if_pos ha]
    obtain ⟨p, rfl, hp, hi⟩ := e2.1 ha
    exact ⟨p, e1, hp, hi⟩
  · rw [if_neg ha, e1, e2.2 (by simpa using ha)]
/-- What a reader of books answers. -/
def BookR (w : Int ⊕ (List AS × List Held)) (o : Option (Int ⊕ (Int × Sl Prune_state × Sl Held))) : Prop := match w with
  | .inl e => o = some (.inl e) ∧ e ≠ 0
  | .inr (S, D) => ∃ p d, o = some (.inr (0, p, d)) ∧ p.l.map absP = S ∧ d.l = D ∧ Inv S D
theorem read_eq (s : List UInt8) (hs : s.length < 1073741824) : BookR (readB s) (prune_Read s) := by
  unfold prune_Read readB
  cases hn : readN s with
  | inl e =>
    have he := readN_err hn
    have h0 : lay_ReadNumber s 0 = some (0, 0, e) := readNumber_inl hs (a := 0) (Nat.zero_le _) (by rw [List.drop_zero]; exact hn)
    rw [h0, Option.bind_some, if_pos (by simpa using he)]
    exact ⟨rfl, he⟩
  | inr w =>
    obtain ⟨n, k⟩ := w
    have hk := readN_ok hn
    have h0 : lay_ReadNumber s 0 = some (n, (0 : Int) + (k : Int), 0) := readNumber_inr hs (a := 0) (Nat.zero_le _) (by rw [List.drop_zero]; exact hn)
    rw [h0, Option.bind_some, if_neg (by simp)]
    dsimp only
    by_cases h1 : n < 0
    · have c1 : iLt n 0 = true := by rw [ltB]; simpa using h1
      rw [if_pos c1, if_pos h1]
      exact ⟨rfl, by decide⟩
    have c1 : ¬ (iLt n 0 = true) := by rw [ltB]; simpa using h1
    rw [if_neg c1, if_neg h1]
    by_cases h2 : 512 < n
    · have c2 : iGt n 512 = true := by rw [gtB]; simpa using h2
      rw [if_pos c2, if_pos h2]
      exact ⟨rfl, by decide⟩
    have c2 : ¬ (iGt n 512 = true) := by rw [gtB]; simpa using h2
    rw [if_neg c2, if_neg h2]
    obtain ⟨N, rfl⟩ : ∃ N : Nat, n = N := ⟨n.toNat, by omega⟩
    rw [Int.toNat_natCast]
    obtain ⟨r, e1, e2⟩ := loop_exF (B := prune_Read_B18016 s ((N : Int), (0 : Int) + (k : Int), (0 : Int))) (fun x => ∃ (i a : Nat), x.2.2 = i ∧ i ≤ N ∧ x.1 = a ∧ a ≤ s.length ∧ x.2.1.l.length = i ∧ ∀ q ∈ x.2.1.l.map absP, q.2.length ≤ 512) (fun x => N - x.2.2.toNat) (fun x r => match stsL (N - x.2.2.toNat) (s.drop x.1.toNat) with
        | .inl e => r = .inl e ∧ e ≠ 0
        | .inr (S, k2) => BookR (match blobsL (s.drop (x.1.toNat + k2)) with
          | .inl e => .inl e
          | .inr (D, k3) => if x.1.toNat + k2 + k3 < s.length then .inl 6 else if risesB none D = false then .inl 6 else if 256 < D.length then .inl 6 else if addsL D (x.2.1.l.map absP ++ S) [] = true then .inr (x.2.1.l.map absP ++ S, D) else .inl 6) (some r)) (by
      rintro kk ⟨z, q, j⟩ ⟨i, a, hi, hle, ha, hal, hql, hqf⟩ hkk
      simp only at hi ha hql hqf
      subst hi ha
      simp only [Int.toNat_natCast] at hkk ⊢
      unfold prune_Read_B18016
      rcases Nat.lt_or_ge i N with h' | h'
      · rw [if_pos (by rw [ltB]; simp; omega)]
        obtain ⟨u, hu⟩ : ∃ u, N - i = u + 1 := ⟨N - i - 1, by omega⟩
        rw [hu]
        unfold stsL
        cases hm : readN (s.drop a) with
        | inl e =>
          have he := readN_err hm
          rw [readNumber_inl hs hal hm, Option.bind_some, if_pos (by simpa using he)]
          exact ⟨_, rfl, rfl, he⟩
        | inr w =>
          obtain ⟨m, k1⟩ := w
          have g1 := readN_ok hm
          rw [List.length_drop] at g1
          rw [readNumber_inr hs hal hm, Option.bind_some, if_neg (by simp)]
          dsimp only
          have hb := blobs_eq s hs (a := a + k1) (by omega)
          rw [show ((a + k1 : Nat) : Int) = (a : Int) + (k1 : Int) by omega] at hb
          rw [List.drop_drop]
          cases hbl : blobsL (s.drop (a + k1)) with
          | inl e =>
            rw [hbl] at hb
            obtain ⟨l, hb⟩ := hb
            have he := blobsL_err hbl
            rw [hb, Option.bind_some, if_pos (by simpa using he)]
            exact ⟨_, rfl, rfl, he⟩
          | inr w =>
            obtain ⟨l, k2⟩ := w
            rw [hbl] at hb
            obtain ⟨x, hb, hx⟩ := hb
            have g2 := blobsL_len hbl
            rw [List.length_drop] at g2
            rw [hb, Option.bind_some, if_neg (by simp), app_ok _ _ (by simp; omega) (by decide), Option.bind_some, inc h' (by omega)]
            obtain ⟨r, r1, r2⟩ := hkk ((a : Int) + (k1 : Int) + (k2 : Int), ⟨q.nl && [(⟨m, x⟩ : Prune_state)].length == 0, false, q.l ++ [⟨m, x⟩]⟩, (i : Int) + 1) ⟨i + 1, a + k1 + k2, by simp, h', by simp, by omega, by simp [hql], fun t ht => by
              simp only [List.map_append, List.mem_append] at ht
              rcases ht with ht | ht
              · exact hqf t ht
              · simp at ht
                rw [ht]
                show x.l.length ≤ 512
                rw [hx]
                exact g2.2⟩ (by simp only; omega)
            refine ⟨r, r1, ?_⟩
            have ea : ((a : Int) + (k1 : Int) + (k2 : Int)).toNat = a + k1 + k2 := by omega
            have ei : N - ((i : Int) + 1).toNat = u := by omega
            simp only [ea, ei] at r2
            dsimp only
            rw [List.drop_drop, show a + (k1 + k2) = a + k1 + k2 by omega]
            cases hst : stsL u (s.drop (a + k1 + k2)) with
            | inl e =>
              rw [hst] at r2
              exact r2
            | inr w =>
              obtain ⟨S, k3⟩ := w
              rw [hst] at r2
              simp only at r2 ⊢
              have em : List.map absP (q.l ++ [(⟨m, x⟩ : Prune_state)]) ++ S = List.map absP q.l ++ (m, l) :: S := by
                rw [List.map_append, List.append_assoc]
                simp [absP, hx]
              rw [em] at r2
              rw [show a + (k1 + k2 + k3) = a + k1 + k2 + k3 by omega]
              exact r2
      · rw [if_neg (by rw [ltB]; simp; omega)]
        have hN : i = N := by omega
        subst hN
        rw [Nat.sub_self]
        unfold stsL prune_Read_J1
        simp only [Nat.add_zero, List.append_nil]
        have hb := blobs2_eq s hs hal
        cases hbl : blobsL (s.drop a) with
        | inl e =>
          rw [hbl] at hb
          obtain ⟨l, hb⟩ := hb
          have he := blobsL_err hbl
          rw [hb, Option.bind_some, if_pos (by simpa using he)]
          exact ⟨_, rfl, rfl, he⟩
        | inr w =>
          obtain ⟨D, k3⟩ := w
          rw [hbl] at hb
          obtain ⟨x, hb, rfl⟩ := hb
          have g2 := blobsL_len hbl
          rw [List.length_drop] at g2
          rw [hb, Option.bind_some, if_neg (by simp)]
          simp only
          rw [ltB]
          by_cases hlt : a + k3 < s.length
          · rw [if_pos (by simp; omega), if_pos hlt]
            exact ⟨_, rfl, rfl, by decide⟩
          rw [if_neg (by simp; omega), if_neg hlt, plain2_eq x (by omega), Option.bind_some]
          by_cases hr : risesB none x.l = true
          · rw [if_pos hr, if_neg (show ¬ risesB none x.l = false by simp [hr])]
            by_cases h256 : 256 < x.l.length
            · have c3 : iGt (x.l.length : Int) 256 = true := by rw [gtB]; simp; omega
              rw [if_pos c3, if_pos h256]
              exact ⟨_, rfl, rfl, by decide⟩
            have c3 : ¬ (iGt (x.l.length : Int) 256 = true) := by rw [gtB]; simp; omega
            rw [if_neg c3, if_neg h256]
            have had := adds_eq q ((a : Int) + (k3 : Int), 0, x) (by omega) (by simp only; omega) hr hqf
            simp only at had
            by_cases haL : addsL x.l (q.l.map absP) [] = true
            · rw [if_pos haL] at had ⊢
              obtain ⟨p, p1, p2, p3⟩ := had
              exact ⟨_, p1, p, x, rfl, p2, rfl, p3⟩
            · rw [if_neg haL] at had ⊢
              exact ⟨_, had, rfl, by decide⟩
          · rw [if_neg hr, if_pos (by simpa using hr)]
            exact ⟨_, rfl, rfl, by decide⟩) ((0 : Int) + (k : Int), ⟨true, true, []⟩, 0) ⟨0, k, rfl, Nat.zero_le _, by simp, by omega, rfl, by simp⟩ (by simp; omega)
    rw [e1]
    have ek : ((0 : Int) + (k : Int)).toNat = k := by omega
    simp only [ek, Int.toNat_zero, Nat.sub_zero, List.map_nil, List.nil_append] at e2
    cases hst : stsL N (s.drop k) with
    | inl e =>
      rw [hst] at e2
      exact ⟨by rw [e2.1], e2.2⟩
    | inr w =>
      obtain ⟨S, k2⟩ := w
      rw [hst] at e2
      exact e2
end Go.Proofs.Ytbdomlbmbcnaeaa
namespace Go.Proofs.Ytbdomlbmbcnaeaa
open Go.Abs
theorem dig_of {d : Nat} (h : d < 10) : isDig (UInt8.ofNat (48 + d)) = true ∧ digV (UInt8.ofNat (48 + d)) = d := by
  have : (UInt8.ofNat (48 + d)).toNat = 48 + d := by
    have := byte_ints (48 + d) (by omega)
    omega
  unfold isDig digV
  rw [this]
  simp
  omega
theorem decD_dig : ∀ (m n : Nat), n < m → ∀ c ∈ decD n, isDig c = true
  | 0, _, h, _, _ => by omega
  | m + 1, n, h, c, hc => by
    by_cases h10 : n < 10
    · rw [decD_small h10] at hc
      simp only [List.mem_singleton] at hc
      rw [hc]
      exact (dig_of h10).1
    · rw [decD_big h10] at hc
      rcases List.mem_append.1 hc with hc | hc
      · exact decD_dig m (n / 10) (by omega) c hc
      · simp only [List.mem_singleton] at hc
        rw [hc]
        exact (dig_of (by omega)).1
theorem decD_val : ∀ (m n : Nat), n < m → valD (decD n) = n
  | 0, _, h => by omega
  | m + 1, n, h => by
    by_cases h10 : n < 10
    · rw [decD_small h10]
      show 0 * 10 + digV _ = n
      rw [(dig_of h10).2]
      omega
    · rw [decD_big h10, val_snoc, decD_val m (n / 10) (by omega), (dig_of (by omega)).2]
      omega
theorem decD_ne (n : Nat) : decD n ≠ [] := by
  by_cases h10 : n < 10
  · rw [decD_small h10]; simp
  · rw [decD_big h10]; simp
theorem decD_head : ∀ (m n : Nat), n < m → 0 < n → (decD n).head? ≠ some 48
  | 0, _, h, _ => by omega
  | m + 1, n, h, h0 => by
    by_cases h10 : n < 10
    · rw [decD_small h10]
      simp only [List.head?_cons, ne_eq, Option.some.injEq]
      intro he
      have := congrArg UInt8.toNat he
      have h2 := byte_ints (48 + n) (by omega)
      have h3 : (48 : UInt8).toNat = 48 := rfl
      omega
    · rw [decD_big h10, List.head?_append]
      have ih := decD_head m (n / 10) (by omega) (by omega)
      have hne := decD_ne (n / 10)
      cases hd : decD (n / 10) with
      | nil => exact absurd hd hne
      | cons x y =>
        rw [hd] at ih
        simpa using ih
theorem decD_bad (n : Nat) : badD (decD n) = false := by
  have hne := decD_ne n
  unfold badD
  have he : (decD n).isEmpty = false := by cases hd : decD n with | nil => exact absurd hd hne | cons x y => rfl
  rw [he, Bool.false_or]
  by_cases h10 : n < 10
  · rw [decD_small h10]; rfl
  · have := decD_head (n + 1) n (by omega) (by omega)
    have hb : ((decD n).head? == some 48) = false := by simpa using this
    rw [hb, Bool.and_false]
theorem dig59 : isDig 59 = false := rfl
theorem readN_pos {t : List UInt8} (h : ∀ r, t ≠ 45 :: r) : readN t = if shapeL (spanD t).1 (spanD t).2 59 ≠ 0 then .inl (shapeL (spanD t).1 (spanD t).2 59) else if valD (spanD t).1 ≤ 9223372036854775807 then .inr (((valD (spanD t).1 : Nat) : Int), (spanD t).1.length + 1) else .inl 4 := by
  unfold readN
  split
  · rename_i t2
    exact absurd rfl (h t2)
  · rfl
theorem numB_head (n : Int) : ∃ x y, numB n = x :: y ∧ isDig x = true := by
  unfold numB
  have hne := decD_ne n.toNat
  have hd := decD_dig (n.toNat + 1) n.toNat (by omega)
  cases h : decD n.toNat with
  | nil => exact absurd h hne
  | cons x y => exact ⟨x, y ++ [59], rfl, hd x (by rw [h]; simp)⟩
theorem readN_num {n : Int} (h : numOkI n) (r : List UInt8) : readN (numB n ++ r) = .inr (n, (numB n).length) := by
  obtain ⟨x, y, hx, hxd⟩ := numB_head n
  rw [readN_pos fun q hq => by
    rw [hx] at hq
    simp only [List.cons_append, List.cons.injEq] at hq
    rw [hq.1] at hxd
    cases hxd]
  have hsp : spanD (numB n ++ r) = (decD n.toNat, 59 :: r) := by
    unfold numB
    rw [List.append_assoc]
    exact span_of (decD_dig (n.toNat + 1) n.toNat (by omega)) dig59 r
  rw [hsp]
  have hs : shapeL (decD n.toNat) (59 :: r) 59 = 0 := by
    unfold shapeL
    simp [decD_ne, decD_bad]
  have hv : valD (decD n.toNat) = n.toNat := decD_val (n.toNat + 1) n.toNat (by omega)
  simp only
  rw [if_neg (show ¬ shapeL (decD n.toNat) (59 :: r) 59 ≠ 0 from fun h => h hs), hv, if_pos (by have := h.2; omega)]
  unfold numB
  have := h.1
  simp
  omega
theorem readL_nums : ∀ (l : List Int) (c : Nat) (r : List UInt8), (∀ n ∈ l, numOkI n) → c + l.length ≤ 512 → readL (numsB l ++ 41 :: r) c = .inr (l, (numsB l).length + 1)
  | [], c, r, _, _ => by
    show readL (41 :: r) c = _
    rw [readL, if_pos rfl]
    rfl
  | n :: l, c, r, h, hc => by
    obtain ⟨x, y, hx, hxd⟩ := numB_head n
    have hnl : numsB (n :: l) = numB n ++ numsB l := by simp [numsB]
    have hx41 : x ≠ 41 := fun e => by rw [e] at hxd; cases hxd
    rw [List.length_cons] at hc
    have hrn := readN_num (h n (by simp)) (numsB l ++ 41 :: r)
    rw [hnl, List.append_assoc]
    rw [hx] at hrn ⊢
    rw [List.cons_append] at hrn ⊢
    rw [readL, if_neg hx41, if_neg (by omega), hrn]
    simp only
    have hd : (y ++ (numsB l ++ 41 :: r)).drop ((x :: y).length - 1) = numsB l ++ 41 :: r := by simp
    rw [hd, readL_nums l (c + 1) r (fun m hm => h m (by simp [hm])) (by omega)]
    simp
    omega
theorem readNums_lay (l : List Int) (r : List UInt8) (h : ∀ n ∈ l, numOkI n) (hl : l.length ≤ 512) : readNums (40 :: (numsB l ++ 41 :: r)) = .inr (l, (numsB l).length + 2) := by
  unfold readNums
  simp only
  rw [if_neg (show ¬ (40 : UInt8) ≠ 40 from fun h => h rfl), readL_nums l 0 r h (by omega)]
theorem zip_held : ∀ l : List Held, List.zipWith Held.mk (l.map (·.Number)) (l.map (·.Size)) = l
  | [] => rfl
  | x :: l => by
    simp only [List.map_cons, List.zipWith_cons_cons, zip_held l]
theorem listsB_app (l : List Held) (r : List UInt8) : listsB l ++ r = 40 :: (numsB (l.map (·.Number)) ++ 41 :: (40 :: (numsB (l.map (·.Size)) ++ 41 :: r))) := by simp [listsB]
theorem blobsL_lay (l : List Held) (r : List UInt8) (h : ∀ x ∈ l, okH x = true) (hl : l.length ≤ 512) : blobsL (listsB l ++ r) = .inr (l, (listsB l).length) := by
  obtain ⟨h1, h2⟩ := okH_nums h
  rw [listsB_app]
  unfold blobsL
  rw [readNums_lay _ _ h1 (by simpa using hl)]
  simp only
  have hd : (40 :: (numsB (l.map (·.Number)) ++ 41 :: (40 :: (numsB (l.map (·.Size)) ++ 41 :: r)))).drop ((numsB (l.map (·.Number))).length + 2) = 40 :: (numsB (l.map (·.Size)) ++ 41 :: r) := by
    rw [show (numsB (l.map (·.Number))).length + 2 = ((numsB (l.map (·.Number))).length + 1) + 1 by omega, List.drop_succ_cons, List.drop_length_add_append]
    rfl
  rw [hd, readNums_lay _ _ h2 (by simpa using hl)]
  simp only
  rw [if_neg (by simp), zip_held]
  congr 2
  simp [listsB]
  omega
theorem stsL_lay : ∀ (S : List AS) (r : List UInt8), (∀ s ∈ S, numOkI s.1) → (∀ s ∈ S, ∀ x ∈ s.2, okH x = true) → (∀ s ∈ S, s.2.length ≤ 512) → stsL S.length (S.flatMap stB ++ r) = .inr (S, (S.flatMap stB).length)
  | [], r, _, _, _ => rfl
  | s :: S, r, h1, h2, h3 => by
    rw [List.length_cons, List.flatMap_cons, List.append_assoc]
    unfold stsL
    have e1 : stB s ++ (S.flatMap stB ++ r) = numB s.1 ++ (listsB s.2 ++ (S.flatMap stB ++ r)) := by simp [stB]
    rw [e1, readN_num (h1 s (by simp))]
    simp only
    rw [List.drop_left, blobsL_lay s.2 _ (h2 s (by simp)) (h3 s (by simp))]
    simp only
    have hd : (numB s.1 ++ (listsB s.2 ++ (S.flatMap stB ++ r))).drop ((numB s.1).length + (listsB s.2).length) = S.flatMap stB ++ r := by
      rw [List.drop_length_add_append, List.drop_left]
    rw [hd, stsL_lay S r (fun x hx => h1 x (by simp [hx])) (fun x hx => h2 x (by simp [hx])) (fun x hx => h3 x (by simp [hx]))]
    simp [stB]
    omega
theorem readB_lay {S : List AS} {D : List Held} (h : LayOk S D) (hr : risesB none D = true) (h256 : D.length ≤ 256) (ha : addsL D S [] = true) : readB (bookB S D) = .inr (S, D) := by
  have hn : numOkI (S.length : Int) := ⟨by omega, by have := h.len; omega⟩
  have e1 : bookB S D = numB (S.length : Int) ++ (S.flatMap stB ++ listsB D) := by simp [bookB]
  have hbl := blobsL_lay D [] h.dok h.dl
  rw [List.append_nil] at hbl
  unfold readB
  rw [e1, readN_num hn]
  simp only
  have hlen := h.len
  rw [if_neg (show ¬ (S.length : Int) < 0 by omega), if_neg (show ¬ (512 : Int) < (S.length : Int) by omega), Int.toNat_natCast, List.drop_left, stsL_lay S (listsB D) h.num h.ok h.each]
  simp only
  rw [List.drop_length_add_append, List.drop_left, hbl]
  simp only
  rw [if_neg (by simp; omega), if_neg (by simp [hr]), if_neg (by omega), if_pos ha]
/-! ### what holds of books -/
def Num (S : List AS) : Prop := ∀ s ∈ S, 1 ≤ s.1 ∧ s.1 ≤ 512
theorem mem_lens {S : List AS} {D : List Held} (hi : Inv S D) (h : (heldL S D).length ≤ 256) : D.length ≤ 256 ∧ ∀ s ∈ S, s.2.length ≤ 256 := by
  obtain ⟨a1, a2⟩ := heldL_spec hi
  refine ⟨Nat.le_trans (up_le (rises_up _ _ hi.dead).1 a1 fun z hz => (a2 z).2 (.inl hz)) h, fun s hs => ?_⟩
  exact Nat.le_trans (up_le (rises_up _ _ (hi.rise s hs)).1 a1 fun z hz => (a2 z).2 (.inr (mem_flat.2 ⟨s, hs, hz⟩))) h
theorem lay_ok {S : List AS} {D : List Held} (hi : Inv S D) (h : (heldL S D).length ≤ 256) (hn : Num S) (hl : S.length ≤ 512) : LayOk S D := by
  obtain ⟨h1, h2⟩ := mem_lens hi h
  exact ⟨hl, fun s hs => ⟨by have := (hn s hs).1; omega, by have := (hn s hs).2; omega⟩, fun s hs => (rises_up _ _ (hi.rise s hs)).2.1, fun s hs => by have := h2 s hs; omega, by omega, (rises_up _ _ hi.dead).2.1⟩
theorem inv_pre {A B : List AS} {D : List Held} (hi : Inv (A ++ B) D) : Inv A D := by
  have hf : ∀ x ∈ flatS A, x ∈ flatS (A ++ B) := fun x hx => by rw [flat_app]; exact List.mem_append_left _ hx
  exact ⟨(List.pairwise_append.1 hi.nums).1, fun s hs => hi.rise s (by simp [hs]), fun x hx y hy => hi.cons x (hf x hx) y (hf y hy), hi.dead, fun x hx => hi.apart x (hf x hx)⟩
theorem add_zero {A B : List AS} {s : AS} {D : List Held} (hi : Inv (A ++ s :: B) D) (hc : (heldL (A ++ s :: B) D).length ≤ 256) (hn : Num (A ++ s :: B)) : rAdd s.1 s.2 A D = 0 := by
  have hsm : s ∈ A ++ s :: B := by simp
  have hia : Inv A D := inv_pre hi
  have hi1 : Inv (A ++ [s]) D := inv_pre (B := B) (by rw [List.append_assoc]; exact hi)
  unfold rAdd
  have h1 : numOk s.1 A = true := by
    unfold numOk
    have h2 := hn s hsm
    simp only [Bool.and_eq_true, decide_eq_true_eq]
    refine ⟨h2, ?_⟩
    unfold lastOk
    split
    · rfl
    · rename_i z hz
      have := (List.pairwise_append.1 hi.nums).2.2 z (List.mem_of_getLast? hz) s (by simp)
      simpa using this
  have hck : checkR s.2 A D = true := by
    unfold checkR
    rw [List.all_eq_true]
    intro x hx
    have hxf : x ∈ flatS (A ++ s :: B) := mem_flat.2 ⟨s, hsm, hx⟩
    rw [Bool.and_eq_true]
    refine ⟨by rw [inL_has, hi.apart x hxf]; rfl, ?_⟩
    exact (clash_iff hia x).2 fun y hy he => hi.cons y (by rw [flat_app]; exact List.mem_append_left _ hy) x hxf he
  have hlen : ¬ 256 < (s.2.foldl putL (heldL A D)).length := by
    have e : heldL (A ++ [s]) D = s.2.foldl putL (heldL A D) := by
      unfold heldL
      rw [flat_app, List.foldl_append]
      congr 1
      simp [flatS]
    rw [← e]
    obtain ⟨a1, a2⟩ := heldL_spec hi1
    obtain ⟨b1, b2⟩ := heldL_spec hi
    have := up_le a1 b1 fun z hz => (b2 z).2 (by
      rcases (a2 z).1 hz with h | h
      · exact .inl h
      · right
        obtain ⟨q, q1, q2⟩ := mem_flat.1 h
        exact mem_flat.2 ⟨q, by simp at q1 ⊢; rcases q1 with q1 | q1 <;> simp [q1], q2⟩)
    omega
  rw [if_neg (by simp [h1]), if_neg (by rw [hi.rise s hsm]; simp), if_neg (by simp [hck]), if_neg hlen]
theorem adds_true {D : List Held} : ∀ (B A : List AS), Inv (A ++ B) D → (heldL (A ++ B) D).length ≤ 256 → Num (A ++ B) → addsL D B A = true
  | [], _, _, _, _ => rfl
  | s :: B, A, hi, hc, hn => by
    unfold addsL
    rw [if_pos (add_zero hi hc hn)]
    have e : A ++ [s] ++ B = A ++ s :: B := by simp
    exact adds_true B (A ++ [s]) (by rw [e]; exact hi) (by rw [e]; exact hc) (by rw [e]; exact hn)
/-- A book that was laid is read again. -/
theorem again {p : Sl Prune_state} {D : Sl Held} (hi : Inv (p.l.map absP) D.l) (hc : (heldL (p.l.map absP) D.l).length ≤ 256) (hn : Num (p.l.map absP)) (hl : p.l.length ≤ 512) :
    ∃ s p' D', prune_Book_Bytes p D = some s ∧ prune_Read s = some (.inr (0, p', D')) ∧ p'.l.map absP = p.l.map absP ∧ D'.l = D.l := by
  have hok := lay_ok hi hc hn (by simpa using hl)
  have hb := bytes_eq p D hok
  obtain ⟨h1, h2⟩ := mem_lens hi hc
  have hlen : (bookB (p.l.map absP) D.l).length < 1073741824 := by
    have g1 := numB_len (n := ((p.l.map absP).length : Int)) ⟨by omega, by simp; omega⟩
    have g2 := sts_len (p.l.map absP) fun s hs => stB_len (hok.num s hs) (hok.ok s hs) (hok.each s hs)
    have g3 := listsB_len hok.dok
    rw [List.length_map] at g2
    unfold bookB
    simp only [List.length_append]
    omega
  have hr := read_eq (bookB (p.l.map absP) D.l) hlen
  rw [readB_lay hok hi.dead h1 (adds_true (p.l.map absP) [] hi hc hn)] at hr
  obtain ⟨p', d, r1, r2, r3, _⟩ := hr
  exact ⟨_, p', d, hb, r1, r2, r3⟩
def sumI (l : List Held) (a : Int) : Int := l.foldl (fun a x => iAdd .i64 a x.Size) a
theorem used_eq (p : Sl Prune_state) (D : Sl Held) {h : Sl Held} (hh : prune_Book_Held p D = some h) (hl : h.l.length < 1073741824) : prune_Book_Used p D = some ((h.l.length : Int), sumI h.l 0) := by
  unfold prune_Book_Used
  rw [hh, Option.bind_some]
  refine loop_list h.l (by omega) (fun r a => some ((h.l.length : Int), sumI r a)) ?_ ?_ 0
  · intro k s
    unfold prune_Book_Used_B18117 prune_Book_Used_J1
    rw [if_neg (by simp [ltB])]
    rfl
  · intro k s i hi hk
    unfold prune_Book_Used_B18117
    rw [if_pos (by simp [ltB, hi])]
    simp only [idx_in hi, Option.bind_some]
    rw [inc hi (show h.l.length < _ by omega), hk, drop_at hi]
    rfl
theorem same_true {k : Nat} {p : Sl Prune_state} {D : Sl Held} {r : Sl Affidavitref24_State} {E : Sl Held} (h : Sim k p D r E) (hk : k ≤ 512) (hc : (heldL (p.l.map absP) D.l).length ≤ 256) (hn : Num (p.l.map absP)) : l24_same p D r E = some true := by
  have hbd := h.bd (by omega) ⟨true, true, []⟩ (by simp)
  have hlen := h.len
  have hok := lay_ok h.inv hc hn (by simp; omega)
  have hbr : (r.l.map absR) = p.l.map absP := h.ex.symm
  have hrl : r.l.length = p.l.length := by have := congrArg List.length h.ex; simpa using this.symm
  obtain ⟨q, q1, q2⟩ := pHeld_eq p D (by omega) hbd.tot h.inv
  have hrh := held_eq r E hbr hbd.few (by have := hbd.tot; rw [h.de] at this; omega)
  generalize hz : (flatS (p.l.map absP)).foldl putSl E = z at hrh
  have hzl : z.l = heldL (p.l.map absP) D.l := by rw [← hz, fold_put_l, ← h.de]; rfl
  have hzlen : z.l.length ≤ 256 := by rw [hzl]; exact hc
  have hql : q.l.length ≤ 256 := by rw [q2]; exact hc
  obtain ⟨st, s1, s2⟩ := states_eq p D (by omega)
  unfold l24_same
  rw [hrh, Option.bind_some]
  obtain ⟨o, e1, e2⟩ := loop_exF (B := l24_same_B18158 p D r E z) (fun x => ∃ i : Nat, x.2 = i ∧ i ≤ r.l.length ∧ x.1.l = (r.l.map (·.N)).take i) (fun x => r.l.length - x.2.toNat) (fun _ o => o = true) (by
    rintro kk ⟨m, j⟩ ⟨i, hi, hle, hm⟩ hkk
    simp only at hi hm
    subst hi
    simp only [Int.toNat_natCast] at hkk
    unfold l24_same_B18158
    rcases Nat.lt_or_ge i r.l.length with h' | h'
    · rw [if_pos (by simp [ltB, h'])]
      simp only [idx_in h', Option.bind_some]
      rw [app_ok _ _ (by rw [hm]; simp; omega) (by decide), Option.bind_some, inc h' (by omega)]
      refine hkk _ ⟨i + 1, by simp, h', ?_⟩ (by simp only; omega)
      simp only
      rw [hm, List.take_succ_eq_append_getElem (by simp; exact h'), List.getElem_map]
    · rw [if_neg (by simp [ltB]; omega)]
      rw [List.take_of_length_le (by simp; omega)] at hm
      have hmN : m.l = p.l.map (·.number) := by
        have := congrArg (fun S : List AS => S.map (·.1)) h.ex
        simp only [List.map_map] at this
        rw [hm]
        exact this.symm
      have hJ2 : l24_same_J2 p D r E z m (sumI z.l 0) = some true := by
        unfold l24_same_J2
        rw [used_eq p D q1 (by omega), Option.bind_some, q1, Option.bind_some, same_eq q z (by rw [q2, hzl]) (by omega), Option.bind_some, if_pos rfl]
        simp only
        have hqz : q.l = z.l := by rw [q2, hzl]
        rw [if_pos (by rw [hqz]; simp), if_pos (by rw [hqz]; simp), s1, Option.bind_some, ints_same st m.weak (by rw [s2]; exact hmN.symm) (by rw [s2]; simp; omega), Option.bind_some, if_pos rfl, bytes_eq p D hok, Option.bind_some]
        have hokr : LayOk (r.l.map absR) E.l := by rw [hbr, ← h.de]; exact hok
        rw [rbytes_eq r E hokr, Option.bind_some, hbr, ← h.de]
        unfold l24_same_J3
        simp
      unfold l24_same_J1
      refine ⟨true, ?_, rfl⟩
      have := loop_list (B := l24_same_B18129 p D r E z m) z.l (by omega) (fun q a => l24_same_J2 p D r E z m (sumI q a)) ?_ ?_ 0
      · exact this.trans hJ2
      · intro k' s
        unfold l24_same_B18129
        rw [if_neg (by simp [ltB])]
        rfl
      · intro k' s i' hi' hk'
        unfold l24_same_B18129
        rw [if_pos (by simp [ltB, hi'])]
        simp only [idx_in hi', Option.bind_some]
        rw [inc hi' (show z.l.length < _ by omega), hk', drop_at hi']
        rfl) (⟨true, true, []⟩, 0) ⟨0, rfl, Nat.zero_le _, by simp⟩ (by simp; omega)
  rw [e1, e2]
/-- An act, by both; what holds behind it. -/
theorem do_all {k : Nat} {p : Sl Prune_state} {D : Sl Held} {r : Sl Affidavitref24_State} {E : Sl Held} (h : Sim k p D r E) (hk : k ≤ 1000000) (a : Affidavitlaw24_Act) (hl : a.L.l.length ≤ 300) (hc : (heldL (p.l.map absP) D.l).length ≤ 256) (hn : Num (p.l.map absP)) :
    ∃ p' r' E' D', l24_do a p D r E = some (true, p', r', E', D') ∧ Sim (k + 1) p' D' r' E' ∧ (heldL (p'.l.map absP) D'.l).length ≤ 256 ∧ Num (p'.l.map absP) := by
  have hpr : ∃ p' r' E' D', l24_do_J3 a p D r E true = some (true, p', r', E', D') ∧ Sim (k + 1) p' D' r' E' ∧ (heldL (p'.l.map absP) D'.l).length ≤ 256 ∧ Num (p'.l.map absP) := by
    obtain ⟨m, p', D', m', r', E', F, h1, h2, h3, h4, h5, h6, h7, h8, h9⟩ := prune_sim h hk a.N
    have hsuf : p'.l.map absP <:+ p.l.map absP := by rw [h5]; exact List.drop_suffix _ _
    unfold l24_do_J3
    rw [if_pos rfl, h1, Option.bind_some, h2, Option.bind_some]
    simp only
    have hml : m.l.length < 4611686018427387904 := by
      rw [h8, List.length_map, List.length_take]
      omega
    rw [ints_same m m' h3 hml, Option.bind_some]
    refine ⟨p', r', E', D', rfl, h4.mono (by omega), ?_, fun s hs => hn s (by rw [h5] at hs; exact List.mem_of_mem_drop hs)⟩
    rw [h9]
    exact cap_prune h.inv h6 hsuf h7 64 hc
  have hadd : ∀ n, ∃ p' r' E' D', l24_do_J2 a p D r E n = some (true, p', r', E', D') ∧ Sim (k + 1) p' D' r' E' ∧ (heldL (p'.l.map absP) D'.l).length ≤ 256 ∧ Num (p'.l.map absP) := fun n => by
    obtain ⟨e, p', r', h1, h2, h3⟩ := add_sim h hk n a.L hl
    unfold l24_do_J2
    rw [h1, Option.bind_some, h2, Option.bind_some]
    refine ⟨p', r', E, D, by simp, h3, ?_⟩
    have hbd := h.bd hk a.L hl
    have hp := pAdd_eq n a.L p D rfl hbd
    rw [add_same h.inv n a.L.l (by omega) hbd.tot] at hp
    rw [hp] at h1
    simp only [Option.some.injEq, Prod.mk.injEq] at h1
    rw [← h1.2]
    by_cases h0 : rAdd n a.L.l (p.l.map absP) D.l = 0
    · rw [if_pos h0]
      have e1 : (p.l ++ [stP n a.L]).map absP = p.l.map absP ++ [(n, a.L.l)] := by simp [stP, absP]
      simp only [e1]
      refine ⟨cap_add h0, fun s hs => ?_⟩
      rcases List.mem_append.1 hs with hs | hs
      · exact hn s hs
      · simp only [List.mem_singleton] at hs
        rw [hs]
        unfold rAdd at h0
        split at h0
        · cases h0
        rename_i hno
        have hn' : numOk n (p.l.map absP) = true := by simpa using hno
        simp only [numOk, Bool.and_eq_true, decide_eq_true_eq] at hn'
        exact hn'.1
    · rw [if_neg h0]
      exact ⟨hc, hn⟩
  unfold l24_do
  by_cases h4 : (a.Kind == 4) = true
  · rw [if_pos h4]
    exact hpr
  · rw [if_neg h4]
    cases h5 : (a.Kind == 5) with
    | true => exact hpr
    | false =>
      unfold l24_do_J3
      rw [if_neg (by simp)]
      by_cases h3 : (a.Kind == 3) = true
      · rw [if_pos h3]
        by_cases hr : 0 < r.l.length
        · rw [if_pos (by simp [gtB]; omega)]
          have hrl : r.l.length = p.l.length := by have := congrArg List.length h.ex; simpa using this.symm
          have := h.len
          obtain ⟨y, g1, _⟩ := last_at hr (by omega)
          rw [g1, Option.bind_some]
          exact hadd _
        · rw [if_neg (by rw [gtB]; simp only [decide_eq_true_eq]; omega)]
          exact hadd _
      · rw [if_neg h3]
        exact hadd _
theorem does_holds (l : Sl Affidavitlaw24_Act) (hl : l.l.length ≤ 9223372036854775807) : l24_PruneDoes l = some true := by
  unfold l24_PruneDoes
  have e1 : prune_NewR = some () := rfl
  have e2 : awakeF = some true := rfl
  rw [e1, Option.bind_some, e2, Option.bind_some, if_pos rfl]
  obtain ⟨r, h1, h2⟩ := loop_exF (B := l24_PruneDoes_B18122 l) (fun x => ∃ i : Nat, x.2.1 = i ∧ i ≤ l.l.length ∧ i ≤ 30 ∧ Sim i x.2.2.1 x.1 x.2.2.2.1 x.2.2.2.2 ∧ (heldL (x.2.2.1.l.map absP) x.1.l).length ≤ 256 ∧ Num (x.2.2.1.l.map absP)) (fun x => l.l.length - x.2.1.toNat) (fun _ r => r = true) (by
    rintro k ⟨D, j, p, r, E⟩ ⟨i, hi, hle, h30, hs, hc, hn⟩ hk
    simp only at hi hs hc hn
    subst hi
    simp only [Int.toNat_natCast] at hk ⊢
    unfold l24_PruneDoes_B18122
    rcases Nat.lt_or_ge i l.l.length with h' | h'
    · rw [if_pos (by simp [ltB, h'])]
      by_cases h3 : i < 30
      · rw [if_pos (by simp [ltB]; omega)]
        simp only [idx_in h', Option.bind_some]
        have hinc := inc h3 (show 30 < 4611686018427387904 by omega)
        have hgo : ∀ (D' : Sl Held) (p' : Sl Prune_state) (r' : Sl Affidavitref24_State) (E' : Sl Held), Sim (i + 1) p' D' r' E' → (heldL (p'.l.map absP) D'.l).length ≤ 256 → Num (p'.l.map absP) → ∃ q, l24_PruneDoes_J18 k (D, (i : Int), p, r, E) D' p' r' E' = some q ∧ q = true := fun D' p' r' E' g1 g2 g3 => by
          unfold l24_PruneDoes_J18
          simp only [hinc]
          exact hk (D', (i : Int) + 1, p', r', E') ⟨i + 1, by simp, h', by omega, g1, g2, g3⟩ (by simp only; omega)
        have hsame : ∀ (D' : Sl Held) (p' : Sl Prune_state) (r' : Sl Affidavitref24_State) (E' : Sl Held), Sim (i + 1) p' D' r' E' → (heldL (p'.l.map absP) D'.l).length ≤ 256 → Num (p'.l.map absP) → ∃ q, l24_PruneDoes_J19 k (D, (i : Int), p, r, E) D' p' r' E' = some q ∧ q = true := fun D' p' r' E' g1 g2 g3 => by
          unfold l24_PruneDoes_J19
          rw [same_true g1 (by omega) g2 g3, Option.bind_some, if_pos rfl]
          exact hgo D' p' r' E' g1 g2 g3
        unfold l24_few
        rw [Option.bind_some, leB]
        by_cases hfew : l.l[i].L.l.length ≤ 300
        · rw [if_pos (by simp; omega)]
          by_cases h6 : (l.l[i].Kind == 6) = true
          · rw [if_pos h6]
            have hlen := hs.len
            obtain ⟨s, p', D', g1, g2, g3, g4⟩ := again hs.inv hc hn (by omega)
            rw [g1, Option.bind_some, g2, Option.bind_some]
            simp only [Sum.elim]
            rw [if_neg (by simp)]
            have hpl : p'.l.length = p.l.length := by have := congrArg List.length g3; simpa using this
            have hsim : Sim (i + 1) p' D' r E := ⟨by rw [g3]; exact hs.ex, by rw [g4]; exact hs.de, by rw [g3, g4]; exact hs.inv, by omega, by rw [g3]; exact hs.each, by rw [g3, g4]; have := hs.tot; omega⟩
            exact hsame D' p' r E hsim (by rw [g3, g4]; exact hc) (by rw [g3]; exact hn)
          · rw [if_neg h6]
            obtain ⟨p', r', E', D', g1, g2, g3, g4⟩ := do_all hs (by omega) l.l[i] hfew hc hn
            rw [g1, Option.bind_some]
            simp only
            rw [if_pos trivial]
            exact hsame D' p' r' E' g2 g3 g4
        · rw [if_neg (by simp; omega)]
          exact hgo D p r E (hs.mono (by omega)) hc hn
      · rw [if_neg (by simp [ltB]; omega)]
        exact ⟨true, rfl, rfl⟩
    · rw [if_neg (by simp [ltB]; omega)]
      exact ⟨true, rfl, rfl⟩) ((⟨true, true, []⟩ : Sl Held), 0, (⟨true, true, []⟩ : Sl Prune_state), (⟨true, true, []⟩ : Sl Affidavitref24_State), (⟨true, true, []⟩ : Sl Held)) ⟨0, rfl, Nat.zero_le _, Nat.zero_le _, ⟨rfl, rfl, ⟨by simp, by simp, by simp [flatS], rfl, by simp [flatS]⟩, Nat.zero_le _, by simp, by simp [totS]⟩, by simp [heldL, flatS], fun s hs => by simp at hs⟩ (by simp; omega)
  rw [h1, h2]
end Go.Proofs.Ytbdomlbmbcnaeaa
