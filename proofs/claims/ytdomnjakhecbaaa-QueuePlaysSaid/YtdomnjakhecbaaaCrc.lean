/- The sum over bytes: by a table of 256 entries, and bit by bit: they are one; one byte that is another one changes it. Plain numbers. -/
namespace Go.Proofs.Ytdomnjakhecbaaa.Crc
def step (c : Nat) : Nat := (c / 2) ^^^ (if c.testBit 0 then 3988292384 else 0)
def steps : Nat → Nat → Nat
  | 0, c => c
  | n + 1, c => steps n (step c)
theorem steps_succ (n : Nat) : ∀ c, steps (n + 1) c = step (steps n c) := by
  induction n with
  | zero => intro c; rfl
  | succ n ih => intro c; exact ih (step c)
def tab (i : Nat) : Nat := steps 8 i
def upd (c x : Nat) : Nat := tab ((c % 256) ^^^ x) ^^^ (c / 256)
def rupd (c x : Nat) : Nat := steps 8 (c ^^^ x)

theorem xor_cancel_right {a b c : Nat} (h : a ^^^ c = b ^^^ c) : a = b := by
  have h2 : (a ^^^ c) ^^^ c = (b ^^^ c) ^^^ c := by rw [h]
  simpa [Nat.xor_assoc] using h2
theorem xor_cancel_left {a b c : Nat} (h : c ^^^ a = c ^^^ b) : a = b := by
  rw [Nat.xor_comm c a, Nat.xor_comm c b] at h
  exact xor_cancel_right h
theorem step_xor (a b : Nat) : step (a ^^^ b) = step a ^^^ step b := by
  apply Nat.eq_of_testBit_eq
  intro i
  unfold step
  simp only [Nat.testBit_xor, Nat.testBit_div_two]
  cases a.testBit 0 <;> cases b.testBit 0 <;> simp [Bool.xor_comm, Bool.xor_left_comm]

theorem steps_xor (n : Nat) : ∀ (a b : Nat), steps n (a ^^^ b) = steps n a ^^^ steps n b := by
  induction n with
  | zero => intro a b; rfl
  | succ n ih => intro a b; simp only [steps]; rw [step_xor, ih]

theorem step_even (c : Nat) : step (2 * c) = c := by
  unfold step
  have h : (2 * c).testBit 0 = false := by simp
  rw [h]; simp

theorem steps_pow (n : Nat) : ∀ c, steps n (2 ^ n * c) = c := by
  induction n with
  | zero => intro c; simp [steps]
  | succ n ih => intro c; simp only [steps]; rw [Nat.pow_succ, Nat.mul_comm (2 ^ n) 2, Nat.mul_assoc, step_even, ih]

theorem split8 (c : Nat) : c = (c % 256) ^^^ (256 * (c / 256)) := by
  apply Nat.eq_of_testBit_eq
  intro i
  rw [Nat.testBit_xor, show (256 : Nat) = 2 ^ 8 from rfl, Nat.testBit_mod_two_pow, Nat.testBit_two_pow_mul, Nat.testBit_div_two_pow]
  by_cases h : i < 8
  · simp [h, show ¬ 8 ≤ i by omega]
  · simp [h, show 8 ≤ i by omega]

theorem upd_eq (c x : Nat) : upd c x = rupd c x := by
  unfold upd rupd tab
  have h : c ^^^ x = ((c % 256) ^^^ x) ^^^ (2 ^ 8 * (c / 256)) := by
    conv => lhs; rw [split8 c]
    rw [Nat.xor_assoc, Nat.xor_assoc, Nat.xor_comm x]
  rw [h, steps_xor 8 ((c % 256) ^^^ x), steps_pow]

theorem lt_of_bits {c : Nat} (h : ∀ i, 32 ≤ i → c.testBit i = false) : c < 4294967296 := Nat.lt_pow_two_of_testBit (n := 32) c h
theorem bits_of_lt {c : Nat} (h : c < 4294967296) (i : Nat) (hi : 32 ≤ i) : c.testBit i = false :=
  Nat.testBit_lt_two_pow (Nat.lt_of_lt_of_le h (Nat.pow_le_pow_right (n := 2) (i := 32) (by omega) hi))
theorem step_lt {c : Nat} (h : c < 4294967296) : step c < 4294967296 := by
  unfold step
  refine Nat.xor_lt_two_pow (n := 32) (by omega) ?_
  split <;> decide
theorem steps_lt (n : Nat) : ∀ {c : Nat}, c < 4294967296 → steps n c < 4294967296 := by
  induction n with
  | zero => intro c h; exact h
  | succ n ih => intro c h; exact ih (step_lt h)
theorem tab_lt {i : Nat} (h : i < 256) : tab i < 4294967296 := steps_lt 8 (by omega)

theorem step_inj {a b : Nat} (ha : a < 4294967296) (hb : b < 4294967296) (h : step a = step b) : a = b := by
  have h31 : ∀ c, c < 4294967296 → (step c).testBit 31 = c.testBit 0 := by
    intro c hc
    unfold step
    rw [Nat.testBit_xor, Nat.testBit_div_two, bits_of_lt hc 32 (by omega)]
    cases c.testBit 0 <;> decide
  have h0 : a.testBit 0 = b.testBit 0 := by rw [← h31 a ha, ← h31 b hb, h]
  have h2 : a / 2 = b / 2 := by
    unfold step at h
    rw [h0] at h
    exact xor_cancel_right h
  have ha2 : a % 2 = b % 2 := by
    have ea := Nat.testBit_zero a
    have eb := Nat.testBit_zero b
    rw [ea, eb] at h0
    have := decide_eq_decide.1 h0
    omega
  omega
theorem steps_inj (n : Nat) : ∀ {a b : Nat}, a < 4294967296 → b < 4294967296 → steps n a = steps n b → a = b := by
  induction n with
  | zero => intro a b _ _ h; exact h
  | succ n ih => intro a b ha hb h; exact step_inj ha hb (ih (step_lt ha) (step_lt hb) h)
theorem rupd_lt {c x : Nat} (hc : c < 4294967296) (hx : x < 256) : rupd c x < 4294967296 :=
  steps_lt 8 (Nat.xor_lt_two_pow (n := 32) hc (by omega))

def run (c : Nat) (l : List Nat) : Nat := l.foldl rupd c
theorem run_lt {l : List Nat} : ∀ {c : Nat}, c < 4294967296 → (∀ x ∈ l, x < 256) → run c l < 4294967296 := by
  induction l with
  | nil => intro c h _; exact h
  | cons x l ih => intro c h hl; exact ih (rupd_lt h (hl x (by simp))) (fun y hy => hl y (by simp [hy]))
theorem run_inj {l : List Nat} : ∀ {a b : Nat}, a < 4294967296 → b < 4294967296 → (∀ x ∈ l, x < 256) → run a l = run b l → a = b := by
  induction l with
  | nil => intro a b _ _ _ h; exact h
  | cons x l ih =>
    intro a b ha hb hl h
    have hx : x < 256 := hl x (by simp)
    have h1 := ih (rupd_lt ha hx) (rupd_lt hb hx) (fun y hy => hl y (by simp [hy])) h
    have h2 := steps_inj 8 (Nat.xor_lt_two_pow (n := 32) ha (by omega)) (Nat.xor_lt_two_pow (n := 32) hb (by omega)) h1
    exact xor_cancel_right h2
def sum (l : List Nat) : Nat := 4294967295 - run 4294967295 l
theorem run_set_ne {l : List Nat} {i : Nat} {y : Nat} (hi : i < l.length) (hy : y < 256) (hne : l[i] ≠ y) (hl : ∀ x ∈ l, x < 256) {c : Nat} (hc : c < 4294967296) : run c (l.set i y) ≠ run c l := by
  induction l generalizing i c with
  | nil => simp at hi
  | cons x l ih =>
    have hx : x < 256 := hl x (by simp)
    have hl' : ∀ z ∈ l, z < 256 := fun z hz => hl z (by simp [hz])
    cases i with
    | zero =>
      simp only [List.set_cons_zero]
      intro h
      have h1 := run_inj (rupd_lt hc hy) (rupd_lt hc hx) hl' h
      have h2 := steps_inj 8 (Nat.xor_lt_two_pow (n := 32) hc (by omega)) (Nat.xor_lt_two_pow (n := 32) hc (by omega)) h1
      have h3 := xor_cancel_left h2
      simp at hne
      omega
    | succ i =>
      simp only [List.set_cons_succ]
      exact ih (by simpa using hi) (by simpa using hne) hl' (rupd_lt hc hx)
theorem sum_set_ne {l : List Nat} {i : Nat} {y : Nat} (hi : i < l.length) (hy : y < 256) (hne : l[i] ≠ y) (hl : ∀ x ∈ l, x < 256) : sum (l.set i y) ≠ sum l := by
  have h1 := run_set_ne hi hy hne hl (c := 4294967295) (by omega)
  have h2 := run_lt (l := l) (c := 4294967295) (by omega) hl
  have h3 : ∀ x ∈ l.set i y, x < 256 := by
    intro x hx
    rcases List.mem_or_eq_of_mem_set hx with h | h
    · exact hl x h
    · omega
  have h4 := run_lt (l := l.set i y) (c := 4294967295) (by omega) h3
  unfold sum
  omega
theorem xor_all {c : Nat} (h : c < 4294967296) : 4294967295 ^^^ c = 4294967295 - c := by
  have e : (4294967295 : Nat) = 2 ^ 32 - 1 := rfl
  apply Nat.eq_of_testBit_eq
  intro i
  rw [e, Nat.testBit_xor, Nat.testBit_two_pow_sub_one, show 2 ^ 32 - 1 - c = 2 ^ 32 - (c + 1) from by omega, Nat.testBit_two_pow_sub_succ (by omega)]
  by_cases hi : i < 32
  · simp [hi]
  · simp [hi, bits_of_lt h i (by omega)]
theorem known : sum [49, 50, 51, 52, 53, 54, 55, 56, 57] = 3421780262 := by decide +kernel
end Go.Proofs.Ytdomnjakhecbaaa.Crc
