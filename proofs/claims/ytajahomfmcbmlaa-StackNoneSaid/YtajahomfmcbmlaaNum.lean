/-
Plain facts on lists of digits to a base B and the numbers that they tell; no program in sight.
-/
namespace Go.Proofs.Ytajahomfmcbmlaa.T

/-- What digits to the base B tell, the lowest first. -/
def val (B : Int) : List Int → Int
  | [] => 0
  | x :: xs => x + B * val B xs

/-- All digits are in range. -/
def InB (B : Int) (l : List Int) : Prop := ∀ x ∈ l, 0 ≤ x ∧ x < B

/-- The digits of n. -/
def lm (B : Nat) (n : Nat) : List Int :=
  if _h : n = 0 ∨ B < 2 then [] else ((n % B : Nat) : Int) :: lm B (n / B)
termination_by n
decreasing_by exact Nat.div_lt_self (by omega) (by omega)

theorem lm_zero (B : Nat) : lm B 0 = [] := by rw [lm]; simp
theorem lm_succ {B n : Nat} (hB : 2 ≤ B) (hn : n ≠ 0) : lm B n = ((n % B : Nat) : Int) :: lm B (n / B) := by
  rw [lm]; rw [dif_neg (by omega)]

@[simp] theorem val_nil (B : Int) : val B [] = 0 := rfl
@[simp] theorem val_cons (B x : Int) (l : List Int) : val B (x :: l) = x + B * val B l := rfl

theorem val_lm {B : Nat} (hB : 2 ≤ B) (n : Nat) : val B (lm B n) = n := by
  induction n using Nat.strongRecOn with
  | _ n ih =>
    by_cases h : n = 0
    · subst h; rw [lm_zero]; rfl
    · rw [lm_succ hB h, val_cons, ih _ (Nat.div_lt_self (by omega) (by omega))]
      have := Nat.mod_add_div n B
      rw [← Int.natCast_mul, ← Int.natCast_add, this]

theorem inB_lm {B : Nat} (hB : 2 ≤ B) (n : Nat) : InB B (lm B n) := by
  induction n using Nat.strongRecOn with
  | _ n ih =>
    by_cases h : n = 0
    · subst h; rw [lm_zero]; intro x hx; simp at hx
    · rw [lm_succ hB h]
      intro x hx
      rcases List.mem_cons.1 hx with rfl | hx
      · have := Nat.mod_lt n (y := B) (by omega)
        omega
      · exact ih _ (Nat.div_lt_self (by omega) (by omega)) x hx

theorem InB.nil (B : Int) : InB B [] := fun x hx => by simp at hx
theorem InB.cons {B x : Int} {l : List Int} (h : InB B (x :: l)) : (0 ≤ x ∧ x < B) ∧ InB B l := ⟨h x (by simp), fun y hy => h y (by simp [hy])⟩
theorem InB.append {B : Int} {l m : List Int} (h : InB B l) (k : InB B m) : InB B (l ++ m) := fun x hx => (List.mem_append.1 hx).elim (h x) (k x)
theorem InB.take {B : Int} {l : List Int} (h : InB B l) (n : Nat) : InB B (l.take n) := fun x hx => h x (List.mem_of_mem_take hx)
theorem InB.drop {B : Int} {l : List Int} (h : InB B l) (n : Nat) : InB B (l.drop n) := fun x hx => h x (List.mem_of_mem_drop hx)
theorem InB.set {B : Int} {l : List Int} (h : InB B l) (n : Nat) {x : Int} (hx : 0 ≤ x ∧ x < B) : InB B (l.set n x) := fun y hy => by
  rcases List.mem_or_eq_of_mem_set hy with h' | rfl
  · exact h y h'
  · exact hx
theorem InB.rep {B : Int} (hB : 0 < B) (n : Nat) : InB B (List.replicate n 0) := fun x hx => by
  have := List.eq_of_mem_replicate hx
  omega
theorem InB.getD {B : Int} (hB : 0 < B) {l : List Int} (h : InB B l) (i : Nat) : 0 ≤ l.getD i 0 ∧ l.getD i 0 < B := by
  by_cases hi : i < l.length
  · rw [List.getD_eq_getElem?_getD, List.getElem?_eq_getElem hi]; exact h _ (List.getElem_mem hi)
  · rw [List.getD_eq_getElem?_getD, List.getElem?_eq_none (by omega)]; simp; exact hB

theorem val_nonneg {B : Int} (hB : 0 ≤ B) {l : List Int} (h : InB B l) : 0 ≤ val B l := by
  induction l with
  | nil => simp
  | cons x l ih =>
    have h1 := InB.cons h
    have h2 := ih h1.2
    have := Int.mul_nonneg hB h2
    simp; omega

theorem val_lt {B : Int} (hB : 1 ≤ B) {l : List Int} (h : InB B l) : val B l < B ^ l.length := by
  induction l with
  | nil => simp
  | cons x l ih =>
    have h1 := InB.cons h
    have h2 := ih h1.2
    simp only [val_cons, List.length_cons]
    have h3 : B * (val B l + 1) ≤ B * B ^ l.length := Int.mul_le_mul_of_nonneg_left (by omega) (by omega)
    have h4 : B ^ (l.length + 1) = B * B ^ l.length := by rw [Int.pow_succ, Int.mul_comm]
    rw [h4]
    have h5 : B * (val B l + 1) = B * val B l + B := by rw [Int.mul_add, Int.mul_one]
    omega

theorem val_append (B : Int) (l m : List Int) : val B (l ++ m) = val B l + B ^ l.length * val B m := by
  induction l with
  | nil => simp
  | cons x l ih =>
    simp only [List.cons_append, val_cons, ih, List.length_cons, Int.pow_succ]
    grind

theorem val_take_drop (B : Int) (l : List Int) (k : Nat) (hk : k ≤ l.length) : val B l = val B (l.take k) + B ^ k * val B (l.drop k) := by
  conv => lhs; rw [← List.take_append_drop k l]
  rw [val_append, List.length_take, Nat.min_eq_left hk]

theorem take_succ_getD (l : List Int) (k : Nat) (hk : k < l.length) : l.take (k + 1) = l.take k ++ [l.getD k 0] := by
  rw [List.take_succ_eq_append_getElem hk]; simp [List.getD_eq_getElem?_getD, List.getElem?_eq_getElem hk]

theorem drop_getD (l : List Int) (k : Nat) (hk : k < l.length) : l.drop k = l.getD k 0 :: l.drop (k + 1) := by
  rw [List.drop_eq_getElem_cons hk]; simp [List.getD_eq_getElem?_getD, List.getElem?_eq_getElem hk]

theorem val_take_succ (B : Int) (l : List Int) (k : Nat) (hk : k < l.length) : val B (l.take (k + 1)) = val B (l.take k) + B ^ k * l.getD k 0 := by
  rw [take_succ_getD l k hk, val_append, List.length_take, Nat.min_eq_left (by omega)]; simp

theorem val_drop_step (B : Int) (l : List Int) (k : Nat) (hk : k < l.length) : val B (l.drop k) = l.getD k 0 + B * val B (l.drop (k + 1)) := by
  rw [drop_getD l k hk, val_cons]

theorem val_rep (B : Int) (n : Nat) : val B (List.replicate n 0) = 0 := by
  induction n with
  | zero => rfl
  | succ n ih => simp [List.replicate_succ, ih]

/-- In form: the last digit is not 0. -/
def FormL (l : List Int) : Prop := l = [] ∨ l.getD (l.length - 1) 0 ≠ 0

theorem FormL.tail {x : Int} {l : List Int} (h : FormL (x :: l)) (hl : l ≠ []) : FormL l := by
  rcases h with h | h
  · simp at h
  · right
    cases l with
    | nil => simp at hl
    | cons y l => simpa [List.getD_cons_succ] using h

theorem formL_lm {B : Nat} (hB : 2 ≤ B) (n : Nat) : FormL (lm B n) := by
  induction n using Nat.strongRecOn with
  | _ n ih =>
    by_cases h : n = 0
    · subst h; rw [lm_zero]; exact .inl rfl
    · rw [lm_succ hB h]
      right
      by_cases h2 : n / B = 0
      · rw [h2, lm_zero]
        have := Nat.mod_add_div n B
        rw [h2] at this
        simp at this ⊢
        omega
      · rcases ih _ (Nat.div_lt_self (by omega : 0 < n) (by omega : 1 < B)) with h3 | h3
        · rw [lm_succ hB h2] at h3; simp at h3
        · have h4 : (lm B (n / B)).length ≠ 0 := by rw [lm_succ hB h2]; simp
          obtain ⟨m, hm⟩ := Nat.exists_eq_succ_of_ne_zero h4
          rw [hm] at h3
          simp only [List.length_cons, hm]
          simpa [List.getD_cons_succ] using h3

theorem val_pos {B : Int} (hB : 1 ≤ B) {l : List Int} (h : InB B l) (hf : FormL l) (hl : l ≠ []) : 0 < val B l := by
  induction l with
  | nil => simp at hl
  | cons x l ih =>
    have h1 := InB.cons h
    simp only [val_cons]
    by_cases hl2 : l = []
    · subst hl2
      rcases hf with hf | hf
      · simp at hf
      · simp at hf ⊢; omega
    · have := ih h1.2 (hf.tail hl2) hl2
      have := Int.mul_pos (show 0 < B by omega) this
      omega

/-- Digits in form are the digits of what they tell. -/
theorem lm_val {B : Nat} (hB : 2 ≤ B) {l : List Int} (h : InB B l) (hf : FormL l) : lm B (val B l).toNat = l := by
  induction l with
  | nil => simp [lm_zero]
  | cons x l ih =>
    have h1 := InB.cons h
    have hp := val_pos (by omega) h hf (by simp)
    have hv := val_nonneg (by omega) h1.2
    have ihl : lm B (val B l).toNat = l := by
      by_cases hl : l = []
      · subst hl; simp [lm_zero]
      · exact ih h1.2 (hf.tail hl)
    rw [lm_succ hB (by omega)]
    obtain ⟨v, hv'⟩ := Int.eq_ofNat_of_zero_le hv
    obtain ⟨y, rfl⟩ := Int.eq_ofNat_of_zero_le h1.1.1
    simp only [val_cons, hv'] at ihl ⊢
    have e : ((y : Int) + (B : Int) * (v : Int)).toNat = y + B * v := by
      rw [← Int.natCast_mul, ← Int.natCast_add, Int.toNat_natCast]
    rw [e, Nat.add_mul_mod_self_left, Nat.add_mul_div_left _ _ (by omega), Nat.mod_eq_of_lt (by omega), Nat.div_eq_of_lt (by omega), Nat.zero_add]
    simp only [Int.toNat_natCast] at ihl
    rw [ihl]

theorem lm_inj {B : Nat} (hB : 2 ≤ B) {m n : Nat} (h : lm B m = lm B n) : m = n := by
  have := val_lm hB m
  rw [h, val_lm hB n] at this
  omega

theorem lm_nil {B : Nat} (hB : 2 ≤ B) {n : Nat} : lm B n = [] ↔ n = 0 := by
  constructor
  · intro h; exact lm_inj hB (h.trans (lm_zero B).symm)
  · rintro rfl; exact lm_zero B

theorem lm_len_lt {B : Nat} (hB : 2 ≤ B) (n : Nat) : n < B ^ (lm B n).length := by
  have h := val_lt (B := (B : Int)) (by omega) (inB_lm hB n)
  rw [val_lm hB] at h
  rw [← Int.natCast_pow] at h
  omega

theorem lm_len_le {B : Nat} (hB : 2 ≤ B) (n k : Nat) (h : n < B ^ k) : (lm B n).length ≤ k := by
  induction k generalizing n with
  | zero => simp at h; subst h; simp [lm_zero]
  | succ k ih =>
    by_cases hn : n = 0
    · subst hn; simp [lm_zero]
    · rw [lm_succ hB hn]
      have : n / B < B ^ k := by
        rw [Nat.div_lt_iff_lt_mul (by omega)]
        rw [Nat.pow_succ] at h; exact h
      have := ih _ this
      simp; omega

/-- Digits without noughts at the end. -/
theorem lm_of_take {B : Nat} (hB : 2 ≤ B) {l : List Int} (h : InB B l) (k : Nat) (hk : k ≤ l.length) (hv : val B (l.take k) = val B l) (hf : k = 0 ∨ l.getD (k - 1) 0 ≠ 0) : l.take k = lm B (val B l).toNat := by
  rw [← hv]
  refine (lm_val hB (h.take k) ?_).symm
  rcases hf with rfl | hf
  · left; simp
  · by_cases hk0 : k = 0
    · left; simp [hk0]
    · right
      rw [List.length_take, Nat.min_eq_left hk, List.getD_eq_getElem?_getD, List.getElem?_take, if_pos (by omega), ← List.getD_eq_getElem?_getD]
      exact hf

/-- A list that is set at one place. -/
theorem val_set (B : Int) (l : List Int) (k : Nat) (x : Int) (hk : k < l.length) : val B (l.set k x) = val B l + B ^ k * (x - l.getD k 0) := by
  have h1 := val_take_drop B (l.set k x) k (by simp; omega)
  have h2 := val_take_drop B l k (by omega)
  have h3 := val_drop_step B (l.set k x) k (by simp; omega)
  have h4 := val_drop_step B l k hk
  have e1 : (l.set k x).take k = l.take k := by rw [List.take_set_of_le (Nat.le_refl _)]
  have e2 : (l.set k x).drop (k + 1) = l.drop (k + 1) := by rw [List.drop_set_of_lt (by omega)]
  have e3 : (l.set k x).getD k 0 = x := by simp [List.getD_eq_getElem?_getD, hk]
  rw [e1, h3, e2, e3] at h1
  rw [h4] at h2
  rw [h1, h2]; grind

theorem pow_mono {B : Int} (hB : 1 ≤ B) {a b : Nat} (h : a ≤ b) : B ^ a ≤ B ^ b := by
  obtain ⟨c, rfl⟩ := Nat.exists_eq_add_of_le h
  rw [Int.pow_add]
  have h1 : 0 < B ^ a := Int.pow_pos (by omega)
  have h2 : 0 < B ^ c := Int.pow_pos (by omega)
  have := Int.mul_le_mul_of_nonneg_left (show 1 ≤ B ^ c by omega) (Int.le_of_lt h1)
  omega

/-- The order, by lengths and from the highest digit. -/
theorem val_lt_of_len {B : Int} (hB : 1 ≤ B) {l m : List Int} (hl : InB B l) (hm : InB B m) (hf : FormL m) (h : l.length < m.length) : val B l < val B m := by
  have h1 := val_lt hB hl
  have hk : m.length - 1 < m.length := by omega
  have h2 := val_take_drop B m (m.length - 1) (by omega)
  rw [drop_getD m _ hk, show m.length - 1 + 1 = m.length from by omega, List.drop_length] at h2
  have h3 := val_nonneg (by omega) (hm.take (m.length - 1))
  have h4 := hm.getD (by omega) (m.length - 1)
  have h5 : m.getD (m.length - 1) 0 ≠ 0 := by
    rcases hf with rfl | hf
    · simp at h
    · exact hf
  have h6 : B ^ l.length ≤ B ^ (m.length - 1) := pow_mono hB (by omega)
  have h7 : B ^ (m.length - 1) * 1 ≤ B ^ (m.length - 1) * m.getD (m.length - 1) 0 := Int.mul_le_mul_of_nonneg_left (by omega) (Int.le_of_lt (Int.pow_pos (by omega)))
  simp only [val_cons, val_nil, Int.mul_zero, Int.add_zero] at h2
  omega

theorem val_lt_of_digit {B : Int} (hB : 1 ≤ B) {l m : List Int} (hl : InB B l) (hm : InB B m) (h : l.length = m.length) (k : Nat) (hk : k < l.length) (hd : l.drop (k + 1) = m.drop (k + 1)) (hx : l.getD k 0 < m.getD k 0) : val B l < val B m := by
  have a := val_take_drop B l k (by omega)
  have b := val_take_drop B m k (by omega)
  rw [val_drop_step B l k hk, hd] at a
  rw [val_drop_step B m k (by omega)] at b
  have h1 := val_lt hB (hl.take k)
  have h2 := val_nonneg (by omega) (hm.take k)
  rw [List.length_take, Nat.min_eq_left (by omega)] at h1
  have h3 : B ^ k * (l.getD k 0 + 1) ≤ B ^ k * m.getD k 0 := Int.mul_le_mul_of_nonneg_left (by omega) (Int.le_of_lt (Int.pow_pos (by omega)))
  rw [a, b]
  have e1 : B ^ k * (l.getD k 0 + B * val B (m.drop (k + 1))) = B ^ k * l.getD k 0 + B ^ k * (B * val B (m.drop (k + 1))) := by rw [Int.mul_add]
  have e2 : B ^ k * (m.getD k 0 + B * val B (m.drop (k + 1))) = B ^ k * m.getD k 0 + B ^ k * (B * val B (m.drop (k + 1))) := by rw [Int.mul_add]
  have e3 : B ^ k * (l.getD k 0 + 1) = B ^ k * l.getD k 0 + B ^ k := by rw [Int.mul_add, Int.mul_one]
  omega

end Go.Proofs.Ytajahomfmcbmlaa.T
