/- texts of this claim, laid together: Dig, DigB. -/
import Derived.RowKit
/- whole numbers as lists of digits to the base 2^32, the lowest first: plain. -/
namespace Go.Proofs.YtmepjcnpbjdlkaaGreatDoor
set_option linter.unusedVariables false

namespace DG
/-- the base -/
def b : Nat := 4294967296
theorem b_pos : 0 < b := by decide
theorem b_eq : b = 4294967296 := rfl
def val : List Nat → Nat
  | [] => 0
  | d :: ds => d + b * val ds
theorem val_nil : val [] = 0 := rfl
theorem val_cons (d : Nat) (ds : List Nat) : val (d :: ds) = d + b * val ds := rfl
theorem val_append (xs ys : List Nat) : val (xs ++ ys) = val xs + b ^ xs.length * val ys := by
  induction xs with
  | nil => simp [val]
  | cons x xs ih =>
    simp only [List.cons_append, val_cons, ih, List.length_cons, Nat.pow_succ, Nat.mul_add]
    rw [Nat.mul_comm (b ^ xs.length) b, Nat.mul_assoc, Nat.add_assoc]
theorem val_snoc (xs : List Nat) (y : Nat) : val (xs ++ [y]) = val xs + b ^ xs.length * y := by
  rw [val_append, val_cons, val_nil, Nat.mul_zero, Nat.add_zero]
/-- right digits -/
def Ok (ds : List Nat) : Prop := ∀ d ∈ ds, d < b
theorem Ok.nil : Ok [] := fun _ h => by cases h
theorem Ok.cons {d : Nat} {ds : List Nat} (h : d < b) (k : Ok ds) : Ok (d :: ds) := fun x hx => by
  rcases List.mem_cons.1 hx with rfl | hx
  · exact h
  · exact k x hx
theorem Ok.tail {d : Nat} {ds : List Nat} (k : Ok (d :: ds)) : Ok ds := fun x hx => k x (List.mem_cons_of_mem _ hx)
theorem Ok.head {d : Nat} {ds : List Nat} (k : Ok (d :: ds)) : d < b := k d (List.mem_cons_self ..)
theorem Ok.append {xs ys : List Nat} (h : Ok xs) (k : Ok ys) : Ok (xs ++ ys) := fun x hx => by
  rcases List.mem_append.1 hx with hx | hx
  · exact h x hx
  · exact k x hx
theorem Ok.snoc {xs : List Nat} {y : Nat} (h : Ok xs) (k : y < b) : Ok (xs ++ [y]) := h.append (Ok.nil.cons k)
theorem Ok.get {xs : List Nat} (h : Ok xs) (i : Nat) : xs.getD i 0 < b := by
  rw [List.getD_eq_getElem?_getD]
  cases e : xs[i]? with
  | none => exact b_pos
  | some v => exact h v (List.mem_of_getElem? e)
theorem Ok.take {xs : List Nat} (h : Ok xs) (n : Nat) : Ok (xs.take n) := fun x hx => h x (List.mem_of_mem_take hx)
theorem Ok.drop {xs : List Nat} (h : Ok xs) (n : Nat) : Ok (xs.drop n) := fun x hx => h x (List.mem_of_mem_drop hx)
theorem Ok.set {xs : List Nat} (h : Ok xs) (i : Nat) {y : Nat} (k : y < b) : Ok (xs.set i y) := fun x hx => by
  rcases List.mem_or_eq_of_mem_set hx with h1 | h1
  · exact h x h1
  · subst h1; exact k
theorem val_lt {ds : List Nat} (h : Ok ds) : val ds < b ^ ds.length := by
  induction ds with
  | nil => simp [val]
  | cons d ds ih =>
    have h1 := ih h.tail
    have h2 := h.head
    rw [val_cons, List.length_cons, Nat.pow_succ]
    have : b * (val ds + 1) ≤ b * b ^ ds.length := Nat.mul_le_mul_left _ h1
    rw [Nat.mul_add, Nat.mul_one, Nat.mul_comm b (b ^ ds.length)] at this
    omega
/-- the digits of a number -/
def dig (n : Nat) : List Nat := if h : n = 0 then [] else n % b :: dig (n / b)
termination_by n
decreasing_by exact Nat.div_lt_self (Nat.pos_of_ne_zero h) (by decide)
theorem dig_zero : dig 0 = [] := by rw [dig, dif_pos rfl]
theorem dig_pos {n : Nat} (h : n ≠ 0) : dig n = n % b :: dig (n / b) := by rw [dig, dif_neg h]
theorem val_dig (n : Nat) : val (dig n) = n := by
  induction n using Nat.strongRecOn with
  | _ n ih =>
    by_cases h : n = 0
    · subst h; rw [dig_zero]; rfl
    · rw [dig_pos h, val_cons, ih _ (Nat.div_lt_self (Nat.pos_of_ne_zero h) (by decide)), Nat.mod_add_div]
theorem dig_ok (n : Nat) : Ok (dig n) := by
  induction n using Nat.strongRecOn with
  | _ n ih =>
    by_cases h : n = 0
    · subst h; rw [dig_zero]; exact Ok.nil
    · rw [dig_pos h]; exact (ih _ (Nat.div_lt_self (Nat.pos_of_ne_zero h) (by decide))).cons (Nat.mod_lt _ b_pos)
theorem dig_last (n : Nat) (h : dig n ≠ []) : (dig n).getLast h ≠ 0 := by
  induction n using Nat.strongRecOn with
  | _ n ih =>
    by_cases h0 : n = 0
    · subst h0; exact absurd dig_zero h
    · by_cases h1 : n / b = 0
      · have e : dig n = [n % b] := by rw [dig_pos h0, h1, dig_zero]
        simp only [e, List.getLast_singleton]
        have := Nat.mod_add_div n b
        rw [h1] at this
        omega
      · have h2 : dig (n / b) ≠ [] := by rw [dig_pos h1]; exact List.cons_ne_nil _ _
        have e : dig n = n % b :: dig (n / b) := dig_pos h0
        simp only [e, List.getLast_cons h2]
        exact ih _ (Nat.div_lt_self (Nat.pos_of_ne_zero h0) (by decide)) h2
theorem val_eq_zero {ds : List Nat} (h : ds ≠ []) (hl : ds.getLast h ≠ 0) : val ds ≠ 0 := by
  induction ds with
  | nil => exact absurd rfl h
  | cons d ds ih =>
    rw [val_cons]
    by_cases e : ds = []
    · subst e; simp only [List.getLast_singleton] at hl; omega
    · have := ih e (by rwa [List.getLast_cons e] at hl)
      have := Nat.mul_pos b_pos (Nat.pos_of_ne_zero this)
      omega
/-- right digits, the last of which is not 0, are the digits -/
theorem dig_val {ds : List Nat} (h : Ok ds) (hl : ∀ e : ds ≠ [], ds.getLast e ≠ 0) : dig (val ds) = ds := by
  induction ds with
  | nil => exact dig_zero
  | cons d ds ih =>
    have hne : val (d :: ds) ≠ 0 := val_eq_zero (List.cons_ne_nil _ _) (hl _)
    have h1 : val (d :: ds) % b = d := by rw [val_cons, Nat.add_mul_mod_self_left]; exact Nat.mod_eq_of_lt h.head
    have h2 : val (d :: ds) / b = val ds := by rw [val_cons, Nat.add_mul_div_left _ _ b_pos, Nat.div_eq_of_lt h.head, Nat.zero_add]
    rw [dig_pos hne, h1, h2, ih h.tail fun e => by have := hl (List.cons_ne_nil _ _); rwa [List.getLast_cons e] at this]
theorem val_zeros (n : Nat) : val (List.replicate n 0) = 0 := by
  induction n with
  | zero => rfl
  | succ n ih => rw [List.replicate_succ, val_cons, ih, Nat.mul_zero, Nat.zero_add]
/-- what is cut off above is 0: the digits -/
theorem dig_take {ds : List Nat} (h : Ok ds) {n : Nat} (hn : n ≤ ds.length) (hz : ∀ i, n ≤ i → ds.getD i 0 = 0) (hl : n = 0 ∨ ds.getD (n - 1) 0 ≠ 0) : ds.take n = dig (val ds) := by
  have e1 : ds = ds.take n ++ ds.drop n := (List.take_append_drop n ds).symm
  have hd : ds.drop n = List.replicate (ds.length - n) 0 := by
    apply List.ext_getElem?
    intro i
    rw [List.getElem?_drop, List.getElem?_replicate]
    by_cases hi : i < ds.length - n
    · rw [if_pos hi]
      have h1 := hz (n + i) (by omega)
      rw [List.getD_eq_getElem?_getD] at h1
      rw [List.getElem?_eq_getElem (by omega)] at h1 ⊢
      simpa using h1
    · rw [if_neg hi]
      exact List.getElem?_eq_none (by omega)
  have hv : val ds = val (ds.take n) := by
    conv => lhs; rw [e1]
    rw [val_append, hd, val_zeros, Nat.mul_zero, Nat.add_zero]
  rw [hv]
  refine (dig_val (h.take n) fun e => ?_).symm
  have hlen : (ds.take n).length = n := by rw [List.length_take]; omega
  have hn0 : n ≠ 0 := fun h0 => e (by subst h0; rfl)
  rcases hl with hl | hl
  · exact absurd hl hn0
  · rw [List.getLast_eq_getElem]
    rw [List.getD_eq_getElem?_getD, List.getElem?_eq_getElem (by omega)] at hl
    simpa [hlen] using hl
theorem len_le_iff (n k : Nat) : (dig n).length ≤ k ↔ n < b ^ k := by
  constructor
  · intro h
    have := val_lt (dig_ok n)
    rw [val_dig] at this
    exact Nat.lt_of_lt_of_le this (Nat.pow_le_pow_right b_pos h)
  · intro h
    rcases Nat.lt_or_ge k (dig n).length with h1 | h1
    · exfalso
      have hne : dig n ≠ [] := fun e => by rw [e] at h1; simp at h1
      have hl := dig_last n hne
      have e : dig n = (dig n).dropLast ++ [(dig n).getLast hne] := (List.dropLast_concat_getLast hne).symm
      have hv := val_dig n
      rw [e, val_snoc, List.length_dropLast] at hv
      have h2 : b ^ k ≤ b ^ ((dig n).length - 1) := Nat.pow_le_pow_right b_pos (by omega)
      have h3 : b ^ ((dig n).length - 1) * 1 ≤ b ^ ((dig n).length - 1) * (dig n).getLast hne := Nat.mul_le_mul_left _ (by omega)
      omega
    · exact h1
theorem getD_div : ∀ (n i : Nat), (dig n).getD i 0 = n / b ^ i % b := by
  intro n i
  induction i generalizing n with
  | zero =>
    by_cases h : n = 0
    · subst h; rw [dig_zero]; simp
    · rw [dig_pos h]; simp
  | succ i ih =>
    by_cases h : n = 0
    · subst h; rw [dig_zero]; simp
    · rw [dig_pos h, List.getD_cons_succ, ih, Nat.pow_succ, Nat.mul_comm, Nat.div_div_eq_div_mul]
theorem val_take (ds : List Nat) (k : Nat) (hk : k < ds.length) : val (ds.take (k + 1)) = val (ds.take k) + b ^ k * ds.getD k 0 := by
  rw [List.take_succ_eq_append_getElem hk, val_snoc, List.length_take, Nat.min_eq_left (Nat.le_of_lt hk), List.getD_eq_getElem?_getD, List.getElem?_eq_getElem hk]
  rfl
/-- the value of the lowest k digits, behind the highest zeros too -/
def low (ds : List Nat) (k : Nat) : Nat := val (ds.take k)
theorem low_zero (ds : List Nat) : low ds 0 = 0 := rfl
theorem low_succ (ds : List Nat) (k : Nat) : low ds (k + 1) = low ds k + b ^ k * ds.getD k 0 := by
  rcases Nat.lt_or_ge k ds.length with h | h
  · exact val_take ds k h
  · unfold low
    rw [List.take_of_length_le (by omega), List.take_of_length_le h, List.getD_eq_getElem?_getD, List.getElem?_eq_none h]
    simp
theorem low_all (ds : List Nat) {k : Nat} (h : ds.length ≤ k) : low ds k = val ds := by unfold low; rw [List.take_of_length_le h]
/-- two rows of right digits: the highest digit that differs decides -/
theorem lt_of_top {xs ys : List Nat} (hx : Ok xs) (hy : Ok ys) {k : Nat} (hk : xs.getD k 0 < ys.getD k 0) (he : ∀ i, k < i → xs.getD i 0 = ys.getD i 0) : val xs < val ys := by
  have hl : low xs (k + 1) < low ys (k + 1) := by
    rw [low_succ, low_succ]
    have h2 : low xs k < b ^ k := by
      have := val_lt (hx.take k)
      refine Nat.lt_of_lt_of_le this (Nat.pow_le_pow_right b_pos ?_)
      rw [List.length_take]; omega
    have h3 : b ^ k * (xs.getD k 0 + 1) ≤ b ^ k * ys.getD k 0 := Nat.mul_le_mul_left _ hk
    rw [Nat.mul_add, Nat.mul_one] at h3
    omega
  have h1 : ∀ m, low xs (k + 1 + m) + low ys (k + 1) = low ys (k + 1 + m) + low xs (k + 1) := by
    intro m
    induction m with
    | zero => exact Nat.add_comm _ _
    | succ m ih =>
      have e1 := low_succ xs (k + 1 + m)
      have e2 := low_succ ys (k + 1 + m)
      rw [he (k + 1 + m) (by omega)] at e1
      have e3 : k + 1 + (m + 1) = (k + 1 + m) + 1 := by omega
      rw [e3, e1, e2]
      generalize b ^ (k + 1 + m) * ys.getD (k + 1 + m) 0 = q
      omega
  have h2 := h1 (xs.length + ys.length)
  rw [low_all xs (k := k + 1 + (xs.length + ys.length)) (by omega), low_all ys (k := k + 1 + (xs.length + ys.length)) (by omega)] at h2
  omega
theorem eq_of_all {xs ys : List Nat} (he : ∀ i, xs.getD i 0 = ys.getD i 0) : val xs = val ys := by
  have h1 : ∀ m, low xs m = low ys m := by
    intro m
    induction m with
    | zero => rfl
    | succ m ih => rw [low_succ, low_succ, ih, he]
  have h2 := h1 (xs.length + ys.length)
  rwa [low_all xs (by omega), low_all ys (by omega)] at h2
end DG
end Go.Proofs.YtmepjcnpbjdlkaaGreatDoor
/- digits: sums, differences, shifts, lengths in bits, rounded quotients: plain, without the program. -/
namespace Go.Proofs.YtmepjcnpbjdlkaaGreatDoor
set_option linter.unusedVariables false
set_option linter.unusedSimpArgs false
namespace DG
/-- -1, 0, 1 -/
def cmpN (x y : Nat) : Int := if x < y then -1 else if y < x then 1 else 0
/-- a sum's next digit -/
theorem plus_step {acc xs ys : List Nat} {c : Nat} (hx : Ok xs) (hy : Ok ys) (hc : c ≤ 1) (hv : val acc + b ^ acc.length * c = low xs acc.length + low ys acc.length) :
    let s := c + xs.getD acc.length 0 + ys.getD acc.length 0
    s < 18446744073709551616 ∧ s / b ≤ 1 ∧ val (acc ++ [s % b]) + b ^ (acc ++ [s % b]).length * (s / b) = low xs (acc ++ [s % b]).length + low ys (acc ++ [s % b]).length := by
  intro s
  have h1 := hx.get acc.length
  have h2 := hy.get acc.length
  have hs : s = c + xs.getD acc.length 0 + ys.getD acc.length 0 := rfl
  have hd := Nat.mod_add_div s b
  rw [b_eq] at h1 h2
  refine ⟨by omega, by rw [b_eq]; omega, ?_⟩
  rw [val_snoc, List.length_append, List.length_singleton, low_succ, low_succ, Nat.pow_succ]
  have : b ^ acc.length * (s % b) + b ^ acc.length * b * (s / b) = b ^ acc.length * c + b ^ acc.length * xs.getD acc.length 0 + b ^ acc.length * ys.getD acc.length 0 := by
    rw [Nat.mul_assoc, ← Nat.mul_add, hd, hs, Nat.mul_add, Nat.mul_add]
  omega
theorem beyond {xs : List Nat} {i : Nat} (h : ¬ i < xs.length) : xs.getD i 0 = 0 := by rw [List.getD_eq_getElem?_getD, List.getElem?_eq_none (by omega)]; rfl
/-- a difference's next digit -/
theorem minus_step {acc xs ys : List Nat} {l : Nat} (hx : Ok xs) (hy : Ok ys) (hl : l ≤ 1) (hv : val acc + low ys acc.length = low xs acc.length + b ^ acc.length * l) :
    let t := l + ys.getD acc.length 0
    let d := if xs.getD acc.length 0 < t then xs.getD acc.length 0 + b - t else xs.getD acc.length 0 - t
    let l' := if xs.getD acc.length 0 < t then 1 else 0
    d < b ∧ t ≤ b ∧ val (acc ++ [d]) + low ys (acc ++ [d]).length = low xs (acc ++ [d]).length + b ^ (acc ++ [d]).length * l' := by
  intro t d l'
  have h1 := hx.get acc.length
  have h2 := hy.get acc.length
  have ht : t = l + ys.getD acc.length 0 := rfl
  rw [val_snoc, List.length_append, List.length_singleton, low_succ, low_succ, Nat.pow_succ]
  have key : d + t = xs.getD acc.length 0 + b * l' := by
    show (if xs.getD acc.length 0 < t then xs.getD acc.length 0 + b - t else xs.getD acc.length 0 - t) + t = xs.getD acc.length 0 + b * (if xs.getD acc.length 0 < t then 1 else 0)
    split <;> omega
  have hd : d < b := by
    show (if xs.getD acc.length 0 < t then xs.getD acc.length 0 + b - t else xs.getD acc.length 0 - t) < b
    split <;> omega
  refine ⟨hd, by omega, ?_⟩
  have e : b ^ acc.length * d + b ^ acc.length * l + b ^ acc.length * ys.getD acc.length 0 = b ^ acc.length * xs.getD acc.length 0 + b ^ acc.length * b * l' := by
    rw [← Nat.mul_add, ← Nat.mul_add, Nat.mul_assoc, ← Nat.mul_add]
    congr 1
    omega
  omega
theorem len_mono {x y : Nat} (h : x ≤ y) : (dig x).length ≤ (dig y).length := by
  have h2 := (len_le_iff y (dig y).length).1 (Nat.le_refl _)
  exact (len_le_iff x _).2 (by omega)
/-- twice a number, and more: a shift's next digit -/
theorem up_step {q : Nat} {acc xs : List Nat} {i c r : Nat} (hx : Ok xs) (hr : r < 32) (hc : c < 2 ^ r) (ha : acc.length = q + i) (hv : val acc + b ^ acc.length * c = b ^ q * (2 ^ r * low xs i)) :
    let s := xs.getD i 0 * 2 ^ r + c
    s < 18446744073709551616 ∧ s / b < 2 ^ r ∧ val (acc ++ [s % b]) + b ^ (acc ++ [s % b]).length * (s / b) = b ^ q * (2 ^ r * low xs (i + 1)) := by
  intro s
  have h1 := hx.get i
  have hs : s = xs.getD i 0 * 2 ^ r + c := rfl
  have hd := Nat.mod_add_div s b
  have hp : 2 ^ r ≤ 2 ^ 31 := Nat.pow_le_pow_right (by decide) (by omega)
  have h2 : (xs.getD i 0 + 1) * 2 ^ r ≤ b * 2 ^ r := Nat.mul_le_mul_right _ h1
  rw [Nat.add_mul, Nat.one_mul] at h2
  have h3 : b * 2 ^ r ≤ b * 2 ^ 31 := Nat.mul_le_mul_left _ hp
  refine ⟨?_, ?_, ?_⟩
  · have e : b * 2 ^ 31 = 9223372036854775808 := by decide
    omega
  · exact Nat.div_lt_of_lt_mul (by omega)
  · rw [val_snoc, List.length_append, List.length_singleton, low_succ, Nat.pow_succ]
    have e : b ^ acc.length * (s % b) + b ^ acc.length * b * (s / b) = b ^ acc.length * (xs.getD i 0 * 2 ^ r) + b ^ acc.length * c := by
      rw [Nat.mul_assoc, ← Nat.mul_add, hd, hs, Nat.mul_add]
    have e2 : b ^ q * (2 ^ r * (low xs i + b ^ i * xs.getD i 0)) = b ^ q * (2 ^ r * low xs i) + b ^ acc.length * (xs.getD i 0 * 2 ^ r) := by
      rw [ha, Nat.pow_add, Nat.mul_add, Nat.mul_add]
      congr 1
      rw [Nat.mul_assoc]
      congr 1
      rw [← Nat.mul_assoc, Nat.mul_comm (2 ^ r) (b ^ i), Nat.mul_assoc, Nat.mul_comm (2 ^ r)]
    omega
theorem dig_one : dig 1 = [1] := by
  rw [dig_pos (by decide), show 1 / b = 0 from rfl, dig_zero]; rfl
theorem len_double {x y : Nat} (h : x ≤ 2 * y + 1) : (dig x).length ≤ (dig y).length + 1 := by
  have h2 := (len_le_iff y (dig y).length).1 (Nat.le_refl _)
  refine (len_le_iff x _).2 ?_
  rw [Nat.pow_succ]
  generalize b ^ (dig y).length = p at h2
  rw [b_eq]
  omega
/-- whether a quotient is one more, rounded by a mode -/
def goesUp (q r Y : Nat) (mode : Int) : Bool := decide (mode = 1 ∧ 0 < r ∨ mode = 2 ∧ Y ≤ 2 * r ∨ mode = 3 ∧ (Y < 2 * r ∨ Y = 2 * r ∧ q % 2 = 1))
def quo (a Y : Nat) (mode : Int) : Nat := a / Y + if goesUp (a / Y) (a % Y) Y mode then 1 else 0
/-- the answer and the error's number -/
def rounded (a Y : Nat) (mode : Int) : Int × Int := if quo a Y mode < 9223372036854775808 then ((quo a Y mode : Nat), 0) else (0, 9)
theorem getD_set (L : List Nat) (m k v : Nat) : (L.set m v).getD k 0 = if m = k ∧ m < L.length then v else L.getD k 0 := by
  rw [List.getD_eq_getElem?_getD, List.getElem?_set, List.getD_eq_getElem?_getD]
  by_cases h : m = k
  · subst h
    by_cases h2 : m < L.length
    · simp [h2]
    · simp [h2]
  · simp [h]
theorem val_set (L : List Nat) (m v : Nat) (h : m < L.length) : val (L.set m v) + b ^ m * L.getD m 0 = val L + b ^ m * v := by
  induction L generalizing m with
  | nil => simp at h
  | cons d ds ih =>
    cases m with
    | zero => simp [val_cons]; omega
    | succ m =>
      have := ih m (by simpa using h)
      rw [List.set_cons_succ, val_cons, val_cons, List.getD_cons_succ, Nat.pow_succ]
      have e : b * (val (ds.set m v) + b ^ m * ds.getD m 0) = b * (val ds + b ^ m * v) := by rw [this]
      rw [Nat.mul_add, Nat.mul_add, ← Nat.mul_assoc, ← Nat.mul_assoc, Nat.mul_comm b (b ^ m)] at e
      omega
/-- the state of a product of digits: rows ahead of i are in, of row i the digits ahead of j -/
def Tms (xs ys L : List Nat) (i j c : Nat) : Prop := Ok L ∧ L.length = xs.length + ys.length ∧ (∀ m, i + ys.length ≤ m → L.getD m 0 = 0) ∧ c < b ∧ val L + b ^ (i + j) * c = low xs i * val ys + b ^ i * (xs.getD i 0 * low ys j)
theorem Tms.start (xs ys : List Nat) : Tms xs ys (List.replicate (xs.length + ys.length) 0) 0 0 0 := by
  refine ⟨fun d hd => ?_, by simp, fun m _ => ?_, b_pos, ?_⟩
  · rw [(List.mem_replicate.1 hd).2]; exact b_pos
  · rw [List.getD_eq_getElem?_getD, List.getElem?_replicate]; split <;> rfl
  · rw [val_zeros, low_zero, low_zero]; simp
theorem mul_lt (x y : Nat) (hx : x < 4294967296) (hy : y < 4294967296) : x * y ≤ 18446744065119617025 := Nat.le_trans (Nat.mul_le_mul (show x ≤ 4294967295 by omega) (show y ≤ 4294967295 by omega)) (by decide)
theorem Tms.step {xs ys L : List Nat} {i j c : Nat} (h : Tms xs ys L i j c) (hx : Ok xs) (hy : Ok ys) (hi : i < xs.length) (hj : j < ys.length) :
    let s := xs.getD i 0 * ys.getD j 0 + L.getD (i + j) 0 + c
    s < 18446744073709551616 ∧ Tms xs ys (L.set (i + j) (s % b)) i (j + 1) (s / b) := by
  intro s
  obtain ⟨h1, h2, h3, h4, h5⟩ := h
  have hs : s = xs.getD i 0 * ys.getD j 0 + L.getD (i + j) 0 + c := rfl
  have a1 := hx.get i
  have a2 := hy.get j
  have a3 := h1.get (i + j)
  have a4 := mul_lt (xs.getD i 0) (ys.getD j 0) a1 a2
  rw [b_eq] at a1 a2 a3 h4
  have hlt : s < 18446744073709551616 := by omega
  refine ⟨hlt, h1.set _ (Nat.mod_lt _ b_pos), by rw [List.length_set]; exact h2, fun m hm => ?_, by rw [b_eq]; omega, ?_⟩
  · rw [getD_set, if_neg (by omega)]; exact h3 m hm
  · have hv := val_set L (i + j) (s % b) (by omega)
    have hd := Nat.mod_add_div s b
    rw [low_succ, ← Nat.add_assoc i j 1, Nat.pow_succ]
    have e1 : b ^ (i + j) * (s % b) + b ^ (i + j) * b * (s / b) = b ^ (i + j) * (xs.getD i 0 * ys.getD j 0) + b ^ (i + j) * L.getD (i + j) 0 + b ^ (i + j) * c := by
      rw [Nat.mul_assoc, ← Nat.mul_add, hd, hs, Nat.mul_add, Nat.mul_add]
    have e2 : b ^ i * (xs.getD i 0 * (low ys j + b ^ j * ys.getD j 0)) = b ^ i * (xs.getD i 0 * low ys j) + b ^ (i + j) * (xs.getD i 0 * ys.getD j 0) := by
      rw [Nat.mul_add, Nat.mul_add, Nat.pow_add]
      congr 1
      rw [Nat.mul_assoc]
      congr 1
      rw [← Nat.mul_assoc, Nat.mul_comm (xs.getD i 0), Nat.mul_assoc]
    omega
theorem Tms.row {xs ys L : List Nat} {i c : Nat} (h : Tms xs ys L i ys.length c) (hi : i < xs.length) : Tms xs ys (L.set (i + ys.length) c) (i + 1) 0 0 := by
  obtain ⟨h1, h2, h3, h4, h5⟩ := h
  refine ⟨h1.set _ h4, by rw [List.length_set]; exact h2, fun m hm => ?_, b_pos, ?_⟩
  · rw [getD_set, if_neg (by omega)]; exact h3 m (by omega)
  · have hv := val_set L (i + ys.length) c (by omega)
    rw [h3 _ (Nat.le_refl _), Nat.mul_zero, Nat.add_zero] at hv
    rw [hv, h5, low_all ys (Nat.le_refl _), low_succ, low_zero, Nat.mul_zero, Nat.mul_zero, Nat.mul_zero, Nat.add_zero, Nat.add_zero, Nat.add_mul, Nat.mul_assoc]
theorem Tms.done {xs ys L : List Nat} {i : Nat} (h : Tms xs ys L i 0 0) (hi : xs.length ≤ i) : val L = val xs * val ys := by
  obtain ⟨h1, h2, h3, h4, h5⟩ := h
  rw [low_zero, Nat.mul_zero, Nat.mul_zero, Nat.mul_zero, Nat.add_zero, Nat.add_zero, low_all xs hi] at h5
  exact h5
end DG
end Go.Proofs.YtmepjcnpbjdlkaaGreatDoor
