/- texts of this claim, laid together: FlD, FlE, FlF, FlG, FlH. -/
import Derived.Test.YtmepjcnpbjdlkaaGreatDoorQdFlPa
import Derived.Test.YtmepjcnpbjdlkaaGreatDoorQdDgR
import Derived.Test.YtmepjcnpbjdlkaaGreatDoorQdFl
/- the document's numbers with a point, as they are printed: classes, parts, lists of digits halved: plain. -/
namespace Go.Proofs.YtmepjcnpbjdlkaaGreatDoor
set_option linter.unusedVariables false
set_option linter.unusedSimpArgs false
open Go.RowKit Go.Proofs.YtmepjcnpbjdlkaaGreatDoorW.PrintWords Go.Proofs.YtmepjcnpbjdlkaaGreatDoorW.PrintLast Go.Proofs.YtmepjcnpbjdlkaaGreatDoorW.PrintMore
namespace FL
open PPriceClean
open DG (I dig val low Ok BL w64 wu wu_ rd_I I_len dig_ok val_dig getD_div len_le_iff b_eq)
attribute [local irreducible] EE ONE

theorem wk64 : ∀ n : Int, 0 ≤ n → n < 2 ^ 64 → IntKind.u64.wrap n = n := fun n h0 h1 => wu_ h0 (by simpa using h1)
theorem and_low {n : Nat} (h : n < 2 ^ 64) (i : Nat) (hi : i ≤ 64) {m : Int} (hm : m = 2 ^ i - 1) : Go.bits .and .u64 (n : Int) m = ((n % 2 ^ i : Nat) : Int) := by
  rw [hm, bits_mask .u64 64 (by decide) wk64 i hi (n : Int) (by omega) (by exact_mod_cast h)]
  simp
theorem and_top {n : Nat} (h : n < 2 ^ 64) : (Go.bits .and .u64 (n : Int) 9223372036854775808 != 0) = neg n := by
  have h1 := (bits_nat .u64 64 (by decide) wk64 n 9223372036854775808 h (by decide)).1
  have e : ((9223372036854775808 : Nat) : Int) = 9223372036854775808 := rfl
  rw [e] at h1
  rw [h1]
  have h2 : n &&& 9223372036854775808 = 9223372036854775808 * (n / 2 ^ 63 % 2) := by
    have h3 : n &&& 2 ^ 63 = if n.testBit 63 = true then 2 ^ 63 else 0 := Nat.eq_of_testBit_eq fun i => by
      rw [Nat.testBit_and, Nat.testBit_two_pow]
      by_cases hi : 63 = i
      · subst hi
        cases n.testBit 63
        · rfl
        · rw [if_pos rfl, Nat.testBit_two_pow]; rfl
      · rw [decide_eq_false hi, Bool.and_false]
        split
        · rw [Nat.testBit_two_pow, decide_eq_false hi]
        · rw [Nat.zero_testBit]
    rw [show (2 : Nat) ^ 63 = 9223372036854775808 from rfl] at h3
    rw [h3, Nat.testBit_eq_decide_div_mod_eq]
    have h4 : n / 2 ^ 63 % 2 = 0 ∨ n / 2 ^ 63 % 2 = 1 := by omega
    rcases h4 with h4 | h4 <;> rw [h4] <;> rfl
  rw [h2]
  unfold neg
  have h4 : n / 2 ^ 63 % 2 = 0 ∨ n / 2 ^ 63 % 2 = 1 := by omega
  rcases h4 with h4 | h4 <;> rw [h4] <;> rfl
theorem or_top {n : Nat} (h : n < 2 ^ 63) : Go.bits .or .u64 (n : Int) 9223372036854775808 = ((2 ^ 63 + n : Nat) : Int) := by
  have h1 := (bits_nat .u64 64 (by decide) wk64 n 9223372036854775808 (Nat.lt_trans h (by decide)) (by decide)).2
  have e : ((9223372036854775808 : Nat) : Int) = 9223372036854775808 := rfl
  rw [e] at h1
  rw [h1, Nat.or_comm]
  have := Nat.two_pow_add_eq_or_of_lt h 1
  rw [Nat.mul_one, show (2 : Nat) ^ 63 = 9223372036854775808 from rfl] at this
  rw [← this]
theorem negative_f {a : Nat} (h : a < 2 ^ 64) : custodyref04_negative.f (a : Int) = some (neg a) := by
  unfold custodyref04_negative.f
  rw [and_top h]
theorem signed_f (s : Bool) {r : Nat} (h : r < 2 ^ 63) : custodyref04_signed.f s (r : Int) = some ((wd s r : Nat) : Int) := by
  unfold custodyref04_signed.f wd
  cases s
  · rfl
  · rw [if_pos rfl, if_pos rfl, or_top h]
/-- the exponent's field, the fraction's -/
theorem fields {a : Nat} (h : a < 2 ^ 64) : Go.bits .and .u64 ((a : Int) / 4503599627370496) 2047 = ((rg a / 2 ^ 52 : Nat) : Int) ∧ Go.bits .and .u64 (a : Int) 4503599627370495 = ((rg a % 2 ^ 52 : Nat) : Int) ∧ rg a / 2 ^ 52 < 2048 := by
  have e1 : (a : Int) / 4503599627370496 = ((a / 2 ^ 52 : Nat) : Int) := by omega
  rw [e1, and_low (n := a / 2 ^ 52) (by omega) 11 (by decide) (by decide), and_low h 52 (by decide) (by decide)]
  unfold rg
  refine ⟨?_, ?_, ?_⟩
  · congr 1; omega
  · congr 1; omega
  · omega
/-- a number's class -/
def cls (a : Nat) : Int := if INF < rg a then 0 else if rg a = INF then 1 else if rg a = 0 then 2 else if rg a < 2 ^ 52 then 3 else 4
theorem class_ev {a : Nat} (h : a < 2 ^ 64) : Ev (fun k => custodyref04_Class.f k (a : Int)) (cls a) := by
  obtain ⟨h1, h2, h3⟩ := fields h
  have hI : INF = 2047 * 2 ^ 52 := rfl
  unfold custodyref04_Class.f
  rw [h1, h2]
  have hdm := Nat.div_add_mod (rg a) (2 ^ 52)
  have hml : rg a % 2 ^ 52 < 2 ^ 52 := Nat.mod_lt _ (by decide)
  unfold cls
  generalize rg a / 2 ^ 52 = e at *
  generalize rg a % 2 ^ 52 = f at *
  generalize rg a = r at *
  rw [hI]
  by_cases he : e = 2047
  · by_cases hf : f = 0
    · refine Ev.congr (f := fun k => custodyref04_Class.j0 k (e : Int) (f : Int) false) (fun k => ?_) ?_
      · rw [if_pos (by omega)]; congr 1; simp [hf]
      · refine Ev.step (f := fun _ => some 1) (fun k => ?_) ?_
        · simp only [custodyref04_Class.j0]
          rw [if_neg (by decide), if_pos (by omega)]
        · rw [if_neg (by omega), if_pos (by omega)]; exact Ev.now _
    · refine Ev.congr (f := fun k => custodyref04_Class.j0 k (e : Int) (f : Int) true) (fun k => ?_) ?_
      · rw [if_pos (by omega)]; congr 1; simp; omega
      · refine Ev.step (f := fun _ => some 0) (fun k => ?_) ?_
        · simp only [custodyref04_Class.j0]
          rw [if_pos trivial]
        · rw [if_pos (by omega)]; exact Ev.now _
  · refine Ev.congr (f := fun k => custodyref04_Class.j0 k (e : Int) (f : Int) false) (fun k => ?_) ?_
    · rw [if_neg (by omega)]
    · by_cases hz : e = 0
      · by_cases hf : f = 0
        · refine Ev.step (f := fun _ => some 2) (fun k => ?_) ?_
          · simp only [custodyref04_Class.j0]
            rw [if_neg (by decide), if_neg (by omega), if_pos (by omega), if_pos (by omega)]
          · rw [if_neg (by omega), if_neg (by omega), if_pos (by omega)]; exact Ev.now _
        · refine Ev.step (f := fun _ => some 3) (fun k => ?_) ?_
          · simp only [custodyref04_Class.j0]
            rw [if_neg (by decide), if_neg (by omega), if_pos (by omega), if_neg (by omega)]
          · rw [if_neg (by omega), if_neg (by omega), if_neg (by omega), if_pos (by omega)]; exact Ev.now _
      · refine Ev.step (f := fun _ => some 4) (fun k => ?_) ?_
        · simp only [custodyref04_Class.j0]
          rw [if_neg (by decide), if_neg (by omega), if_neg (by omega)]
        · rw [if_neg (by omega), if_neg (by omega), if_neg (by omega), if_neg (by omega)]; exact Ev.now _
theorem parts_f {a : Nat} (h : a < 2 ^ 64) (hf : rg a < INF) : ∃ m e : Nat, custodyref04_Parts.f (a : Int) = some (neg a, (m : Int), (-1074 : Int) + e) ∧ m * 2 ^ e = U a ∧ m < 2 ^ 53 ∧ e ≤ 2045 ∧ (m = 0 ↔ rg a = 0) := by
  obtain ⟨h1, h2, h3⟩ := fields h
  have hI : INF = 2047 * 2 ^ 52 := rfl
  have hdm := Nat.div_add_mod (rg a) (2 ^ 52)
  have hml : rg a % 2 ^ 52 < 2 ^ 52 := Nat.mod_lt _ (by decide)
  unfold custodyref04_Parts.f
  rw [negative_f h, h1, h2, Option.bind_some]
  unfold U units
  by_cases hz : rg a < 2 ^ 52
  · refine ⟨rg a, 0, ?_, ?_, ?_, ?_, ?_⟩
    · rw [if_pos (by rw [w64 (by omega) (by omega)]; omega), show rg a % 2 ^ 52 = rg a from Nat.mod_eq_of_lt hz]
      rfl
    · rw [if_pos hz, Nat.pow_zero, Nat.mul_one]
    · omega
    · omega
    · omega
  · refine ⟨2 ^ 52 + rg a % 2 ^ 52, rg a / 2 ^ 52 - 1, ?_, ?_, ?_, ?_, ?_⟩
    · rw [if_neg (by rw [w64 (by omega) (by omega)]; omega)]
      have e1 : IntKind.u64.wrap (((rg a % 2 ^ 52 : Nat) : Int) + 4503599627370496) = ((2 ^ 52 + rg a % 2 ^ 52 : Nat) : Int) := by rw [wu_ (by omega) (by omega)]; omega
      have e2 : wrap64 (wrap64 ((rg a / 2 ^ 52 : Nat) : Int) - 1075) = (-1074 : Int) + ((rg a / 2 ^ 52 - 1 : Nat) : Int) := by
        rw [w64 (i := ((rg a / 2 ^ 52 : Nat) : Int)) (by omega) (by omega), w64 (by omega) (by omega)]; omega
      rw [e1, e2]
    · rw [if_neg hz]
    · omega
    · omega
    · omega
theorem parts_zero {a : Nat} (h : a < 2 ^ 64) (hf : rg a = 0) : custodyref04_Parts.f (a : Int) = some (neg a, 0, -1074) := by
  obtain ⟨h1, h2, h3⟩ := fields h
  have e0 : wrap64 ((0 : Nat) : Int) = 0 := DG.w64 (by decide) (by decide)
  unfold custodyref04_Parts.f
  rw [negative_f h, h1, h2, Option.bind_some, hf, Nat.zero_div, Nat.zero_mod, e0, if_pos rfl]
  rfl
/-- the digits of a number over a power of two -/
theorem down_digit (x n q r i : Nat) (hn : n = 32 * q + r) (hr : r < 32) : (x / DG.b ^ (q + i) % DG.b + x / DG.b ^ (q + i + 1) % DG.b * 4294967296) / 2 ^ r % DG.b = x / 2 ^ n / DG.b ^ i % DG.b := by
  have hb : DG.b = 2 ^ 32 := rfl
  have e1 : x / 2 ^ n / DG.b ^ i = x / DG.b ^ (q + i) / 2 ^ r := by
    rw [Nat.div_div_eq_div_mul, Nat.div_div_eq_div_mul, hb, ← Nat.pow_mul, ← Nat.pow_mul, ← Nat.pow_add, ← Nat.pow_add]
    congr 2
    omega
  have e2 : x / DG.b ^ (q + i + 1) = x / DG.b ^ (q + i) / DG.b := by rw [Nat.pow_succ, Nat.div_div_eq_div_mul]
  rw [e1, e2]
  generalize x / DG.b ^ (q + i) = z
  rw [b_eq]
  have hz : z % 4294967296 + z / 4294967296 % 4294967296 * 4294967296 = z % 18446744073709551616 := by omega
  rw [hz]
  have hp : ∃ c, 4294967296 = 2 ^ r * c := ⟨2 ^ (32 - r), by rw [← Nat.pow_add, show r + (32 - r) = 32 by omega]⟩
  obtain ⟨c, hc⟩ := hp
  have hr0 : 0 < 2 ^ r := Nat.two_pow_pos r
  have hzz := Nat.div_add_mod z 18446744073709551616
  have e3 : z / 2 ^ r = z % 18446744073709551616 / 2 ^ r + 4294967296 * (c * (z / 18446744073709551616)) := by
    have : z = z % 18446744073709551616 + 2 ^ r * (4294967296 * (c * (z / 18446744073709551616))) := by
      have e4 : 2 ^ r * (4294967296 * (c * (z / 18446744073709551616))) = 18446744073709551616 * (z / 18446744073709551616) := by
        rw [show (18446744073709551616 : Nat) = 2 ^ r * c * 4294967296 by rw [← hc]]
        ac_rfl
      omega
    rw [this]
    rw [Nat.add_mul_div_left _ _ hr0]
    congr 1
    · rw [← this]
    · rw [← this]
  rw [e3, Nat.add_mul_mod_self_left]
end FL
end Go.Proofs.YtmepjcnpbjdlkaaGreatDoor
/- the document's rounding of a list of digits, as it is printed, comes to the nearest rung: plain. -/
namespace Go.Proofs.YtmepjcnpbjdlkaaGreatDoor
set_option linter.unusedVariables false
set_option linter.unusedSimpArgs false
open Go.RowKit Go.Proofs.YtmepjcnpbjdlkaaGreatDoorW.PrintWords Go.Proofs.YtmepjcnpbjdlkaaGreatDoorW.PrintLast Go.Proofs.YtmepjcnpbjdlkaaGreatDoorW.PrintMore
namespace FL
open PPriceClean
open DG (I dig val low Ok BL w64 wu wu_ rd_I I_len I_snoc dig_ok val_dig getD_div len_le_iff b_eq b_pos and32 trim_ev up_ev small_f bit_f bits_ev exists_BL dig_zero)
attribute [local irreducible] EE ONE

theorem shr_nat (v : Nat) {r : Nat} (hr : r < 64) : shr .u64 (v : Int) (r : Int) = ((v / 2 ^ r : Nat) : Int) := by
  unfold shr
  have e1 : min (Int.toNat (r : Int)) (IntKind.bits .u64) = r := by simp [IntKind.bits]; omega
  rw [e1]
  rw [Int.natCast_ediv, Int.natCast_pow]
  rfl
theorem b_pow (q : Nat) : DG.b ^ q = 2 ^ (32 * q) := by rw [Nat.pow_mul]; rfl
theorem down_l {x n q r : Nat} (hlx : (dig x).length ≤ 100000) (hn : n = 32 * q + r) (hr : r < 32) : ∀ d (acc : List Nat), d + (q + acc.length) = (dig x).length → Ok acc → val acc = x / 2 ^ n % DG.b ^ acc.length →
    Ev (fun k => custodyref04_Down.l0 k (I (dig x)) (n : Int) (I acc) ((q + acc.length : Nat) : Int)) (I (dig (x / 2 ^ n))) := by
  intro d
  induction d with
  | zero =>
    intro acc hd ha hv
    have hx : x < DG.b ^ (dig x).length := (len_le_iff x _).1 (Nat.le_refl _)
    have hlt : x / 2 ^ n < DG.b ^ acc.length := by
      rw [Nat.div_lt_iff_lt_mul (Nat.two_pow_pos _)]
      refine Nat.lt_of_lt_of_le hx ?_
      rw [← hd, Nat.zero_add, Nat.pow_add, Nat.mul_comm]
      refine Nat.mul_le_mul_left _ ?_
      rw [b_pow]
      exact Nat.pow_le_pow_right (by decide) (by omega)
    rw [Nat.mod_eq_of_lt hlt] at hv
    refine Ev.step (f := fun k => (custodyref04_Trim.f k (I acc)).bind fun t => some t) (fun k => ?_) ?_
    · simp only [custodyref04_Down.l0]
      rw [if_neg (by rw [I_len]; omega)]
    · rw [← hv]
      exact Ev.bind (trim_ev ha (by omega)) (Ev.now _)
  | succ d ih =>
    intro acc hd ha hv
    have hg := down_digit x n q r acc.length hn hr
    have hi : q + acc.length < (dig x).length := by omega
    have d0 := getD_div x (q + acc.length)
    have d1 := getD_div x (q + acc.length + 1)
    have l0 : x / DG.b ^ (q + acc.length) % DG.b < DG.b := Nat.mod_lt _ b_pos
    have l1 : x / DG.b ^ (q + acc.length + 1) % DG.b < DG.b := Nat.mod_lt _ b_pos
    have hvs : val (acc ++ [x / 2 ^ n / DG.b ^ acc.length % DG.b]) = x / 2 ^ n % DG.b ^ (acc ++ [x / 2 ^ n / DG.b ^ acc.length % DG.b]).length := by
      rw [DG.val_snoc, hv, List.length_append, List.length_singleton, Nat.mod_pow_succ]
    have hdl : x / 2 ^ n / DG.b ^ acc.length % DG.b < DG.b := Nat.mod_lt _ b_pos
    refine Ev.step (f := fun k => custodyref04_Down.l0 k (I (dig x)) (n : Int) (I (acc ++ [x / 2 ^ n / DG.b ^ acc.length % DG.b])) ((q + (acc ++ [x / 2 ^ n / DG.b ^ acc.length % DG.b]).length : Nat) : Int)) (fun k => ?_) (ih _ (by rw [List.length_append, List.length_singleton]; omega) (ha.snoc hdl) hvs)
    have el : wrap64 (((q + acc.length : Nat) : Int) + 1) = ((q + acc.length + 1 : Nat) : Int) := by rw [w64 (by omega) (by omega)]; omega
    have em : Int.tmod (n : Int) 32 = (r : Int) := DG.up_mod hn hr
    have er : IntKind.u64.wrap ((r : Nat) : Int) = (r : Int) := wu (by omega)
    have e2 : ((q + (acc ++ [x / 2 ^ n / DG.b ^ acc.length % DG.b]).length : Nat) : Int) = ((q + acc.length + 1 : Nat) : Int) := by rw [List.length_append, List.length_singleton]; rfl
    have e3 : rd (I (dig x)) ((q + acc.length : Nat) : Int) = ((x / DG.b ^ (q + acc.length) % DG.b : Nat) : Int) := by rw [rd_I, d0]
    have e4 : rd (I (dig x)) ((q + acc.length + 1 : Nat) : Int) = ((x / DG.b ^ (q + acc.length + 1) % DG.b : Nat) : Int) := by rw [rd_I, d1]
    simp only [custodyref04_Down.l0, el, em, er, e2, e3, e4, ← I_snoc]
    generalize x / 2 ^ n / DG.b ^ acc.length % DG.b = D at *
    have hz : ¬ q + acc.length + 1 < (dig x).length → x / DG.b ^ (q + acc.length + 1) % DG.b = 0 := fun h => by rw [← d1]; exact DG.beyond h
    generalize x / DG.b ^ (q + acc.length) % DG.b = A at *
    generalize x / DG.b ^ (q + acc.length + 1) % DG.b = B at *
    rw [b_eq] at l0 l1
    have hs : A + B * 4294967296 < 18446744073709551616 := by omega
    have hsh : Go.bits .and .u64 (shr .u64 ((A + B * 4294967296 : Nat) : Int) (r : Int)) 4294967295 = (D : Int) := by
      rw [shr_nat _ (by omega), and32 (Nat.lt_of_le_of_lt (Nat.div_le_self ..) hs), hg]
    rw [if_pos (by rw [I_len]; omega), if_pos (by omega)]
    by_cases hc : q + acc.length + 1 < (dig x).length
    · have ew : IntKind.u64.wrap ((A : Int) + IntKind.u64.wrap ((B : Int) * 4294967296)) = ((A + B * 4294967296 : Nat) : Int) := by
        rw [wu_ (n := (B : Int) * 4294967296) (by omega) (by omega), wu_ (by omega) (by omega)]; omega
      rw [if_pos (by rw [I_len]; omega), if_pos (by omega), if_pos (by omega), if_pos (by rw [I_len]; omega), ew, hsh]
    · have hB := hz hc
      subst hB
      have : (A : Int) = ((A + 0 * 4294967296 : Nat) : Int) := by omega
      rw [if_neg (by rw [I_len]; omega), if_pos (by omega), if_pos (by rw [I_len]; omega), this, hsh]
theorem down_ev {x n : Nat} (hlx : (dig x).length ≤ 100000) (hn : n ≤ 3000000) : Ev (fun k => custodyref04_Down.f k (I (dig x)) (n : Int)) (I (dig (x / 2 ^ n))) := by
  have et : wrap64 (Int.tdiv (n : Int) 32) = ((n / 32 : Nat) : Int) := by rw [Int.tdiv_eq_ediv_of_nonneg (by omega), w64 (by omega) (by omega)]; omega
  unfold custodyref04_Down.f
  simp only [et]
  by_cases h : n / 32 ≤ (dig x).length
  · exact down_l hlx (n := n) (q := n / 32) (r := n % 32) (by omega) (by omega) ((dig x).length - n / 32) [] (by simp; omega) DG.Ok.nil (by simp [Nat.mod_one]; rfl)
  · have hx : x < DG.b ^ (dig x).length := (len_le_iff x _).1 (Nat.le_refl _)
    have h0 : x / 2 ^ n = 0 := Nat.div_eq_of_lt (Nat.lt_of_lt_of_le hx (by rw [b_pow]; exact Nat.pow_le_pow_right (by decide) (by omega)))
    rw [h0, dig_zero]
    refine Ev.step (f := fun k => (custodyref04_Trim.f k (I [])).bind fun t => some t) (fun k => ?_) ?_
    · simp only [custodyref04_Down.l0]
      rw [if_neg (by rw [I_len]; omega)]
      rfl
    · have := trim_ev DG.Ok.nil (by simp)
      rw [DG.val_nil, dig_zero] at this
      exact Ev.bind this (Ev.now _)
theorem beneath_l {x n : Nat} (hlx : (dig x).length ≤ 100000) (hn : n ≤ 3000000) : ∀ d i : Nat, d + i = n → x % 2 ^ i = 0 →
    Ev (fun k => custodyref04_Beneath.l0 k (I (dig x)) (n : Int) (i : Int)) (decide (x % 2 ^ n ≠ 0)) := by
  intro d
  have hfin : ∀ i : Nat, x % 2 ^ n = 0 → Ev (fun k => custodyref04_Beneath.j1 k (I (dig x)) (n : Int) (i : Int) false) (decide (x % 2 ^ n ≠ 0)) := fun i h => by
    refine Ev.step (f := fun _ => some false) (fun k => ?_) ?_
    · simp only [custodyref04_Beneath.j1]
      rw [if_neg (by decide)]
    · rw [decide_eq_false (by omega)]; exact Ev.now _
  induction d with
  | zero =>
    intro i hd hi
    have : i = n := by omega
    subst this
    refine Ev.step (f := fun k => custodyref04_Beneath.j1 k (I (dig x)) (i : Int) (i : Int) false) (fun k => ?_) (hfin i hi)
    simp only [custodyref04_Beneath.l0]
    rw [if_neg (by omega)]
  | succ d ih =>
    intro i hd hi
    have ew : wrap64 (32 * ((I (dig x)).length : Int)) = ((32 * (dig x).length : Nat) : Int) := by rw [I_len, w64 (by omega) (by omega)]; omega
    have ei : wrap64 ((i : Int) + 1) = ((i + 1 : Nat) : Int) := by rw [w64 (by omega) (by omega)]; omega
    refine Ev.step (f := fun k => custodyref04_Beneath.j1 k (I (dig x)) (n : Int) (i : Int) (decide ((i : Int) < ((32 * (dig x).length : Nat) : Int)))) (fun k => ?_) ?_
    · simp only [custodyref04_Beneath.l0]
      rw [if_pos (by omega), ew]
    · by_cases hc : i < 32 * (dig x).length
      · rw [decide_eq_true (by omega)]
        have hb := bit_f (a := x) (i := i) hlx (by omega)
        have hs : x % 2 ^ (i + 1) = 2 ^ i * (x / 2 ^ i % 2) := by rw [Nat.mod_pow_succ, hi, Nat.zero_add]
        by_cases h1 : x / 2 ^ i % 2 = 1
        · have hne : x % 2 ^ n ≠ 0 := fun h => by
            have e : x % 2 ^ n % 2 ^ (i + 1) = x % 2 ^ (i + 1) := Nat.mod_mod_of_dvd _ (Nat.pow_dvd_pow 2 (by omega))
            rw [h, Nat.zero_mod, hs, h1, Nat.mul_one] at e
            have := Nat.two_pow_pos i
            omega
          rw [decide_eq_true hne]
          refine Ev.step (f := fun _ => some true) (fun k => ?_) (Ev.now _)
          simp only [custodyref04_Beneath.j1, hb, Option.bind_some]
          rw [if_pos trivial, if_pos (by omega)]
        · have h0 : x / 2 ^ i % 2 = 0 := by omega
          rw [h0, Nat.mul_zero] at hs
          refine Ev.step (f := fun k => custodyref04_Beneath.l0 k (I (dig x)) (n : Int) ((i + 1 : Nat) : Int)) (fun k => ?_) (ih (i + 1) (by omega) hs)
          simp only [custodyref04_Beneath.j1, hb, Option.bind_some, ei]
          rw [if_pos trivial, if_neg (by omega)]
      · rw [decide_eq_false (by omega)]
        refine hfin i ?_
        have hx : x < DG.b ^ (dig x).length := (len_le_iff x _).1 (Nat.le_refl _)
        rw [b_pow] at hx
        have hlt : x < 2 ^ i := Nat.lt_of_lt_of_le hx (Nat.pow_le_pow_right (by decide) (by omega))
        rw [Nat.mod_eq_of_lt hlt] at hi
        rw [hi, Nat.zero_mod]
theorem beneath_ev {x n : Nat} (hlx : (dig x).length ≤ 100000) (hn : n ≤ 3000000) : Ev (fun k => custodyref04_Beneath.f k (I (dig x)) (n : Int)) (decide (x % 2 ^ n ≠ 0)) := by
  unfold custodyref04_Beneath.f
  exact beneath_l hlx hn n 0 (by omega) (by rw [Nat.pow_zero, Nat.mod_one])
end FL
end Go.Proofs.YtmepjcnpbjdlkaaGreatDoor
/- the document's Round, as it is printed, comes to the nearest rung: plain. -/
namespace Go.Proofs.YtmepjcnpbjdlkaaGreatDoor
set_option linter.unusedVariables false
set_option linter.unusedSimpArgs false
open Go.RowKit Go.Proofs.YtmepjcnpbjdlkaaGreatDoorW.PrintWords Go.Proofs.YtmepjcnpbjdlkaaGreatDoorW.PrintLast Go.Proofs.YtmepjcnpbjdlkaaGreatDoorW.PrintMore
namespace FL
open PPriceClean
open DG (I dig val low Ok BL w64 wu wu_ rd_I I_len I_snoc dig_ok val_dig getD_div len_le_iff b_eq b_pos and32 trim_ev up_ev small_f bit_f bits_ev exists_BL dig_zero)
attribute [local irreducible] EE ONE

/-- the last step: of a whole number of units of a place, its word -/
theorem laid_ev {M kk : Nat} (h1 : kk ≠ 0 → 2 ^ 52 ≤ M) (h2 : M < 2 ^ 53) (h3 : kk ≤ 2045) : Ev (fun k => custodyref04_laid.f k (M : Int) ((kk : Int) - 1074)) (((kk * 2 ^ 52 + M : Nat) : Int)) := by
  unfold custodyref04_laid.f
  by_cases h0 : M = 0
  · subst h0
    have : kk = 0 := by omega
    subst this
    exact Ev.congr (f := fun _ => some 0) (fun k => if_pos rfl) (Ev.now _)
  · refine Ev.congr (f := fun k => custodyref04_laid.l0 k (M : Int) ((kk : Int) - 1074)) (fun k => if_neg (by omega)) ?_
    by_cases hm : M < 2 ^ 52
    · have : kk = 0 := by omega
      subst this
      refine Ev.step (f := fun _ => some (M : Int)) (fun k => ?_) (by rw [Nat.zero_mul, Nat.zero_add]; exact Ev.now _)
      simp only [custodyref04_laid.l0]
      rw [if_pos (by omega), if_neg (by omega)]
    · refine Ev.step (f := fun _ => some ((kk * 2 ^ 52 + M : Nat) : Int)) (fun k => ?_) (Ev.now _)
      simp only [custodyref04_laid.l0]
      rw [if_neg (by omega)]
      have e1 : wrap64 ((kk : Int) - 1074 + 1075) = ((kk + 1 : Nat) : Int) := by rw [w64 (by omega) (by omega)]; omega
      rw [e1, wu (n := kk + 1) (by omega), wu_ (n := ((kk + 1 : Nat) : Int) * 4503599627370496) (by omega) (by omega), wu_ (n := ((kk + 1 : Nat) : Int) * 4503599627370496 + M) (by omega) (by omega), wu_ (by omega) (by omega)]
      congr 1
      omega
/-- what is nearest at a place: the whole number and its place, ahead of a carry's -/
theorem near_j2 {M0 : Nat} {go : Bool} {q : Int} (h : M0 + go.toNat ≤ 2 ^ 53) (hq : -3000 ≤ q) (hq2 : q ≤ 10000000) : Ev (fun k => custodyref04_near.j2 k 53 q (M0 : Int) go) (if M0 + go.toNat = 2 ^ 53 then ((2 ^ 52 : Nat) : Int) else ((M0 + go.toNat : Nat) : Int), if M0 + go.toNat = 2 ^ 53 then q + 1 else q) := by
  have e53 : IntKind.u64.wrap (53 : Int) = 53 := wu (n := 53) (by decide)
  have es : shr .u64 0 0 = shr .u64 0 0 := rfl
  have esh : shl .u64 1 53 = 9007199254740992 := by decide
  refine Ev.step (f := fun _ => some _) (fun k => ?_) (Ev.now _)
  simp only [custodyref04_near.j2, e53, esh]
  cases go
  · rw [if_neg (by decide), if_pos (by decide), Bool.toNat_false, Nat.add_zero]
    by_cases hc : M0 = 2 ^ 53
    · rw [if_pos (by omega), if_pos hc, if_pos hc, hc]
      rw [w64 (by omega) (by omega)]
      rfl
    · rw [if_neg (by omega), if_neg hc, if_neg hc]
  · rw [if_pos rfl, if_pos (by decide), Bool.toNat_true]
    rw [Bool.toNat_true] at h
    have e1 : IntKind.u64.wrap ((M0 : Int) + 1) = ((M0 + 1 : Nat) : Int) := by rw [wu_ (by omega) (by omega)]; omega
    rw [e1]
    by_cases hc : M0 + 1 = 2 ^ 53
    · rw [if_pos (by omega), if_pos hc, if_pos hc, hc]
      rw [w64 (by omega) (by omega)]
      rfl
    · rw [if_neg (by omega), if_neg hc, if_neg hc]
theorem near_j1 {M0 : Nat} {half rest : Bool} {q : Int} (h : M0 + (half && (rest || M0 % 2 == 1)).toNat ≤ 2 ^ 53) (hq : -3000 ≤ q) (hq2 : q ≤ 10000000) : Ev (fun k => custodyref04_near.j1 k 53 q (M0 : Int) half rest) (if M0 + (half && (rest || M0 % 2 == 1)).toNat = 2 ^ 53 then ((2 ^ 52 : Nat) : Int) else ((M0 + (half && (rest || M0 % 2 == 1)).toNat : Nat) : Int), if M0 + (half && (rest || M0 % 2 == 1)).toNat = 2 ^ 53 then q + 1 else q) := by
  refine Ev.step (f := fun k => custodyref04_near.j2 k 53 q (M0 : Int) (half && (rest || M0 % 2 == 1))) (fun k => ?_) (near_j2 h hq hq2)
  simp only [custodyref04_near.j1]
  cases half
  · rw [if_neg (by decide)]; rfl
  · rw [if_pos rfl]
    cases rest
    · rw [if_neg (by decide)]
      congr 1
      have : Int.tmod (M0 : Int) 2 = ((M0 % 2 : Nat) : Int) := by rw [Int.tmod_eq_emod_of_nonneg (by omega)]; omega
      rw [this]
      have h4 : M0 % 2 = 0 ∨ M0 % 2 = 1 := by omega
      rcases h4 with h4 | h4 <;> rw [h4] <;> rfl
    · rw [if_pos rfl]; rfl
/-- half to even, by the bits -/
theorem rne_bits (n d : Nat) (more : Bool) : rne (2 * n + more.toNat) (2 ^ (d + 2)) = n / 2 ^ (d + 1) + ((n / 2 ^ d % 2 == 1) && ((more || decide (n % 2 ^ d ≠ 0)) || n / 2 ^ (d + 1) % 2 == 1)).toNat := by
  have hp : (2 : Nat) ^ (d + 2) = 2 * 2 ^ (d + 1) := by rw [Nat.pow_succ, Nat.mul_comm]
  have hp1 : (2 : Nat) ^ (d + 1) = 2 ^ d * 2 := Nat.pow_succ ..
  have hH : 0 < 2 ^ d := Nat.two_pow_pos d
  have hlow : n % 2 ^ d < 2 ^ d := Nat.mod_lt _ hH
  have hs : more.toNat ≤ 1 := by cases more <;> decide
  have e1 : (2 * n + more.toNat) / 2 ^ (d + 2) = n / 2 ^ (d + 1) := by
    rw [hp, ← Nat.div_div_eq_div_mul]
    congr 1
    omega
  have e2 : (2 * n + more.toNat) % 2 ^ (d + 2) = more.toNat + 2 * (n % 2 ^ (d + 1)) := by
    rw [hp, Nat.mod_mul]
    congr 1
    · omega
    · congr 2
      omega
  have e3 : n % 2 ^ (d + 1) = n % 2 ^ d + 2 ^ d * (n / 2 ^ d % 2) := by rw [hp1, Nat.mod_mul]
  unfold rne
  rw [e1, e2, e3, hp, hp1]
  congr 1
  have hh : n / 2 ^ d % 2 = 0 ∨ n / 2 ^ d % 2 = 1 := by
    have : n / 2 ^ d % 2 < 2 := Nat.mod_lt _ (by decide)
    omega
  clear e1 e2 e3
  generalize n / 2 ^ d % 2 = h at *
  generalize n / (2 ^ d * 2) % 2 = o at *
  generalize n % 2 ^ d = low at *
  generalize 2 ^ d = H at *
  rcases hh with rfl | rfl
  · rw [if_neg (by rw [Nat.mul_zero]; omega)]; rfl
  · rw [Nat.mul_one]
    cases more
    · rw [Bool.toNat_false] at *
      by_cases hl : low = 0
      · subst hl
        by_cases ho : o = 1
        · subst ho; rw [if_pos (by omega)]; rfl
        · rw [if_neg (by omega)]
          have : (o == 1) = false := by simp [ho]
          rw [this]; rfl
      · rw [if_pos (by omega), decide_eq_true hl]; rfl
    · rw [Bool.toNat_true] at *
      rw [if_pos (by omega)]; rfl
/-- the rung that rounding comes to -/
def nearR (X : Nat) (a b : Nat) : Nat := min (rung (X * 2 ^ a) (2 ^ b)) INF
set_option maxRecDepth 2000 in
theorem round_ev (s : Bool) {n : Nat} {e : Int} (more : Bool) (hn : n ≠ 0) (hl : (dig n).length ≤ 9000) (he0 : -3000 ≤ e) (he1 : e ≤ 3000) (hm : more = true → 2 ^ 54 ≤ n) (a b : Nat) (hab : e + 1073 = (a : Int) - b) :
    Ev (fun k => custodyref04_Round.f k s (I (dig n)) e more) ((wd s (nearR (2 * n + more.toNat) a b) : Nat) : Int) := by
  obtain ⟨L, hL⟩ := exists_BL n
  have hL0 : n < 2 ^ L := hL.lt
  have hL1 : 1 ≤ L := by
    rcases Nat.eq_zero_or_pos L with h | h
    · rw [h, Nat.pow_zero] at hL0; omega
    · exact h
  obtain ⟨L', rfl⟩ : ∃ m, L = m + 1 := ⟨L - 1, by omega⟩
  have hL2 : 2 ^ L' ≤ n := by
    rcases Nat.lt_or_ge n (2 ^ L') with h | h
    · have := (hL L').2 h; omega
    · exact h
  have hL3 : L' + 1 ≤ 32 * 9000 := DG.bl_len hL hl
  have hs : more.toNat ≤ 1 := by cases more <;> decide
  obtain ⟨kk, hkk⟩ : ∃ kk : Nat, (kk : Int) = max ((L' : Int) + 1 - 53 + e + 1074) 0 := ⟨((max ((L' : Int) + 1 - 53 + e + 1074) 0)).toNat, by omega⟩
  have hq : (if wrap64 (wrap64 (((L' + 1 : Nat) : Int) - 53) + e) < -1074 then (-1074 : Int) else wrap64 (wrap64 (((L' + 1 : Nat) : Int) - 53) + e)) = (kk : Int) - 1074 := by
    rw [w64 (i := ((L' + 1 : Nat) : Int) - 53) (by omega) (by omega), w64 (by omega) (by omega)]
    split <;> omega
  have hpl : pl ((2 * n + more.toNat) * 2 ^ a) (2 ^ b) = kk := by
    have hX : 2 * n + more.toNat < 2 ^ (L' + 2) := by
      have : (2 : Nat) ^ (L' + 2) = 2 * 2 ^ (L' + 1) := by rw [Nat.pow_succ, Nat.mul_comm]
      omega
    have hX2 : 2 ^ (L' + 1) ≤ 2 * n + more.toNat := by
      have : (2 : Nat) ^ (L' + 1) = 2 * 2 ^ L' := by rw [Nat.pow_succ, Nat.mul_comm]
      omega
    refine pl_unique ?_ (fun hk0 => ?_)
    · rw [Nat.div_lt_iff_lt_mul (Nat.two_pow_pos _), ← Nat.pow_add]
      refine Nat.lt_of_lt_of_le (Nat.mul_lt_mul_of_pos_right hX (Nat.two_pow_pos _)) ?_
      rw [← Nat.pow_add]
      exact Nat.pow_le_pow_right (by decide) (by omega)
    · rw [Nat.le_div_iff_mul_le (Nat.two_pow_pos _), ← Nat.pow_add]
      refine Nat.le_trans ?_ (Nat.mul_le_mul_right _ hX2)
      rw [← Nat.pow_add]
      exact Nat.pow_le_pow_right (by decide) (by omega)
  have hhi := rung_hi ((2 * n + more.toNat) * 2 ^ a) (2 ^ b) (Nat.two_pow_pos _)
  have hlo := rung_lo ((2 * n + more.toNat) * 2 ^ a) (2 ^ b) (Nat.two_pow_pos _)
  rw [hpl] at hhi hlo
  -- what is nearest
  have hnear : ∀ M : Nat, M = rne ((2 * n + more.toNat) * 2 ^ a) (2 ^ b * 2 ^ kk) → Ev (fun k => custodyref04_near.f k (I (dig n)) e more 53 (-1074)) (if M = 2 ^ 53 then ((2 ^ 52 : Nat) : Int) else (M : Int), if M = 2 ^ 53 then (kk : Int) - 1074 + 1 else (kk : Int) - 1074) := by
    intro M hM
    unfold custodyref04_near.f
    refine Ev.bind (bits_ev hL (by omega)) ?_
    refine Ev.congr (f := fun k => custodyref04_near.j0 k (I (dig n)) e more 53 ((kk : Int) - 1074)) (fun k => ?_) ?_
    · rw [← hq]; split <;> rfl
    · have ew : wrap64 ((kk : Int) - 1074 - e) = (kk : Int) - 1074 - e := w64 (by omega) (by omega)
      by_cases hd : (kk : Int) - 1074 - e ≤ 0
      · -- every bit is kept
        obtain ⟨u, hu⟩ : ∃ u : Nat, (u : Int) = e - ((kk : Int) - 1074) := ⟨(e - ((kk : Int) - 1074)).toNat, by omega⟩
        have hL53 : L' + 1 + u ≤ 53 := by omega
        have hmore : more = false := by
          cases hmm : more
          · rfl
          · have h54 := hm hmm
            have : (2 : Nat) ^ (L' + 1) ≤ 2 ^ 53 := Nat.pow_le_pow_right (by decide) (by omega)
            have e54 : (2 : Nat) ^ 54 = 2 ^ 53 * 2 := Nat.pow_succ ..
            omega
        have hMn : M = n * 2 ^ u := by
          rw [hM, hmore, Bool.toNat_false, Nat.add_zero]
          have : 2 * n * 2 ^ a = n * 2 ^ u * (2 ^ b * 2 ^ kk) := by
            have e1 : 2 ^ u * (2 ^ b * 2 ^ kk) = 2 * 2 ^ a := by
              rw [← Nat.pow_add, ← Nat.pow_add, Nat.mul_comm 2, ← Nat.pow_succ]
              congr 1
              omega
            rw [Nat.mul_assoc n, e1]
            ac_rfl
          rw [this, rne_exact _ _ (Nat.mul_pos (Nat.two_pow_pos _) (Nat.two_pow_pos _))]
        have hlt : n * 2 ^ u < 2 ^ 53 := by
          refine Nat.lt_of_lt_of_le (Nat.mul_lt_mul_of_pos_right hL0 (Nat.two_pow_pos _)) ?_
          rw [← Nat.pow_add]
          exact Nat.pow_le_pow_right (by decide) hL53
        have hne : M ≠ 2 ^ 53 := by rw [hMn]; exact Nat.ne_of_lt hlt
        rw [if_neg hne, if_neg hne, hMn]
        have ew2 : wrap64 (-((kk : Int) - 1074 - e)) = (u : Int) := by rw [w64 (by omega) (by omega)]; omega
        refine Ev.step (f := fun k => (custodyref04_Up.f k (I (dig n)) (u : Int)).bind fun t => (custodyref04_Small.f t).bind fun t2 => some (t2, (kk : Int) - 1074)) (fun k => ?_) ?_
        · simp only [custodyref04_near.j0, ew]
          rw [if_pos hd, ew2]
        · refine Ev.bind (up_ev (by omega) (by omega)) ?_
          refine Ev.congr (f := fun _ => some (((n * 2 ^ u : Nat) : Int), (kk : Int) - 1074)) (fun k => ?_) (Ev.now _)
          rw [small_f (by omega), Option.bind_some]
      · -- d bits and one more are left over
        obtain ⟨d, hdd⟩ : ∃ d : Nat, (d : Int) + 1 = (kk : Int) - 1074 - e := ⟨((kk : Int) - 1074 - e - 1).toNat, by omega⟩
        have hMb : M = n / 2 ^ (d + 1) + ((n / 2 ^ d % 2 == 1) && ((more || decide (n % 2 ^ d ≠ 0)) || n / 2 ^ (d + 1) % 2 == 1)).toNat := by
          rw [hM, ← rne_bits]
          refine rne_eq (Nat.mul_pos (Nat.two_pow_pos _) (Nat.two_pow_pos _)) (Nat.two_pow_pos _) ?_
          rw [Nat.mul_assoc]
          congr 1
          rw [← Nat.pow_add, ← Nat.pow_add]
          congr 1
          omega
        have hM53 : M ≤ 2 ^ 53 := by rw [hM]; exact hhi
        have ed : ((kk : Int) - 1074 - e) = ((d + 1 : Nat) : Int) := by omega
        have ed1 : wrap64 ((kk : Int) - 1074 - e - 1) = (d : Int) := by rw [w64 (by omega) (by omega)]; omega
        have hb := bit_f (a := n) (i := d) (by omega) (by omega)
        have hsm : n / 2 ^ (d + 1) < 18446744073709551616 := by
          have : n / 2 ^ (d + 1) ≤ M := by rw [hMb]; exact Nat.le_add_right ..
          omega
        refine Ev.step (f := fun k => (custodyref04_Down.f k (I (dig n)) ((d + 1 : Nat) : Int)).bind fun t386 => ((custodyref04_Small.f t386).bind fun t389 => (if more = true then (custodyref04_near.j1 k 53 ((kk : Int) - 1074) t389 (((n / 2 ^ d % 2 : Nat) : Int) == 1) true) else ((custodyref04_Beneath.f k (I (dig n)) (d : Int)).bind fun t391 => (custodyref04_near.j1 k 53 ((kk : Int) - 1074) t389 (((n / 2 ^ d % 2 : Nat) : Int) == 1) t391))))) (fun k => ?_) ?_
        · simp only [custodyref04_near.j0, ew]
          rw [if_neg hd, ed1, ed]
          simp only [hb, Option.bind_some]
        · refine Ev.bind (down_ev (by omega) (by omega)) ?_
          have hbit : (((n / 2 ^ d % 2 : Nat) : Int) == 1) = (n / 2 ^ d % 2 == 1) := by
            have h4 : n / 2 ^ d % 2 = 0 ∨ n / 2 ^ d % 2 = 1 := by omega
            rcases h4 with h4 | h4 <;> rw [h4] <;> rfl
          simp only [small_f hsm, Option.bind_some, hbit]
          rw [hMb] at hM53 ⊢
          cases more
          · refine Ev.congr (f := fun k => (custodyref04_Beneath.f k (I (dig n)) (d : Int)).bind fun t391 => (custodyref04_near.j1 k 53 ((kk : Int) - 1074) ((n / 2 ^ (d + 1) : Nat) : Int) (n / 2 ^ d % 2 == 1) t391)) (fun k => if_neg (by decide)) ?_
            refine Ev.bind (beneath_ev (by omega) (by omega)) ?_
            exact near_j1 hM53 (by omega) (by omega)
          · refine Ev.congr (f := fun k => custodyref04_near.j1 k 53 ((kk : Int) - 1074) ((n / 2 ^ (d + 1) : Nat) : Int) (n / 2 ^ d % 2 == 1) true) (fun k => if_pos rfl) ?_
            exact near_j1 hM53 (by omega) (by omega)
  unfold custodyref04_Round.f
  unfold nearR rung
  rw [hpl]
  have hI : INF = 2047 * 2 ^ 52 := rfl
  refine Ev.bind (hnear _ rfl) ?_
  generalize rne ((2 * n + more.toNat) * 2 ^ a) (2 ^ b * 2 ^ kk) = M at hhi hlo ⊢
  clear hnear hpl hq hL hL0 hL2
  dsimp only
  have hinf : ∀ k : Nat, (custodyref04_signed.f s 9218868437227405312) = some ((wd s INF : Nat) : Int) := fun k => signed_f s (r := INF) (by decide)
  by_cases hc : M = 2 ^ 53
  · rw [if_pos hc, if_pos hc, hc]
    by_cases h1 : kk < 2045
    · refine Ev.congr (f := fun k => (custodyref04_laid.f k ((2 ^ 52 : Nat) : Int) ((kk : Int) - 1074 + 1)).bind fun t395 => ((custodyref04_signed.f s t395).bind fun t396 => some t396)) (fun k => if_neg (by omega)) ?_
      have := laid_ev (M := 2 ^ 52) (kk := kk + 1) (fun _ => Nat.le_refl _) (by decide) (by omega)
      rw [show (((kk + 1 : Nat) : Int) - 1074) = (kk : Int) - 1074 + 1 by omega] at this
      have e1 : min (kk * 2 ^ 52 + 2 ^ 53) INF = (kk + 1) * 2 ^ 52 + 2 ^ 52 := by rw [Nat.min_eq_left (by omega)]; omega
      rw [e1]
      have e2 : (kk + 1) * 2 ^ 52 + 2 ^ 52 < 2 ^ 63 := by omega
      generalize (kk + 1) * 2 ^ 52 + 2 ^ 52 = R at *
      refine Ev.bind this ?_
      refine Ev.congr (f := fun _ => some _) (fun k => ?_) (Ev.now _)
      rw [signed_f s e2, Option.bind_some]
    · refine Ev.congr (f := fun _ => some ((wd s INF : Nat) : Int)) (fun k => ?_) ?_
      · rw [if_pos (by omega), hinf k]; rfl
      · rw [Nat.min_eq_right (by omega)]; exact Ev.now _
  · rw [if_neg hc, if_neg hc]
    by_cases h1 : kk ≤ 2045
    · refine Ev.congr (f := fun k => (custodyref04_laid.f k (M : Int) ((kk : Int) - 1074)).bind fun t395 => ((custodyref04_signed.f s t395).bind fun t396 => some t396)) (fun k => if_neg (by omega)) ?_
      have := laid_ev hlo (by omega) h1
      rw [Nat.min_eq_left (by omega)]
      have e2 : kk * 2 ^ 52 + M < 2 ^ 63 := by omega
      generalize kk * 2 ^ 52 + M = R at *
      refine Ev.bind this ?_
      refine Ev.congr (f := fun _ => some _) (fun k => ?_) (Ev.now _)
      rw [signed_f s e2, Option.bind_some]
    · have := hlo (by omega)
      refine Ev.congr (f := fun _ => some ((wd s INF : Nat) : Int)) (fun k => ?_) ?_
      · rw [if_pos (by omega), hinf k]; rfl
      · rw [Nat.min_eq_right (by omega)]; exact Ev.now _
end FL
end Go.Proofs.YtmepjcnpbjdlkaaGreatDoor
/- the document's sums, quotients, comparisons of numbers with a point, as they are printed, come to the model's: plain. -/
namespace Go.Proofs.YtmepjcnpbjdlkaaGreatDoor
set_option linter.unusedVariables false
set_option linter.unusedSimpArgs false
open Go.RowKit Go.Proofs.YtmepjcnpbjdlkaaGreatDoorW.PrintWords Go.Proofs.YtmepjcnpbjdlkaaGreatDoorW.PrintLast Go.Proofs.YtmepjcnpbjdlkaaGreatDoorW.PrintMore
namespace FL
open PPriceClean
open DG (I dig val low Ok BL w64 wu wu_ rd_I I_len I_snoc dig_ok val_dig getD_div len_le_iff b_eq b_pos and32 trim_ev up_ev small_f bit_f bits_ev exists_BL dig_zero list_ev plus_ev minus_ev cmp_ev over_ev cmpN)
attribute [local irreducible] EE ONE

theorem cls_fin {a : Nat} (h : rg a < INF) : cls a ≠ 0 ∧ cls a ≠ 1 ∧ (cls a = 2 ↔ rg a = 0) := by
  unfold cls
  rw [if_neg (by omega), if_neg (by omega)]
  by_cases h0 : rg a = 0
  · rw [if_pos h0]; exact ⟨by decide, by decide, fun _ => h0, fun _ => rfl⟩
  · rw [if_neg h0]
    refine ⟨?_, ?_, fun h => ?_, fun h => absurd h h0⟩
    · split <;> decide
    · split <;> decide
    · split at h <;> cases h
theorem cls_inf {a : Nat} (h : rg a = INF) : cls a = 1 := by
  unfold cls
  rw [if_neg (by omega), if_pos h]
/-- digits of a number below a power of two -/
theorem len_pow {n k : Nat} (h : n < 2 ^ (32 * k)) : (dig n).length ≤ k := (len_le_iff n k).2 (by rw [b_pow]; exact h)
theorem len53 {m : Nat} (h : m < 2 ^ 53) : (dig m).length ≤ 2 := len_pow (Nat.lt_trans h (by decide))
theorem list53 {m : Nat} (h : m < 2 ^ 53) : Ev (fun k => custodyref04_List.f k (m : Int)) (I (dig m)) := list_ev (by omega)
theorem len0 (n : Nat) : ((I (dig n)).length : Int) = 0 ↔ n = 0 := by
  rw [I_len]
  constructor
  · intro h
    have := (len_le_iff n 0).1 (by omega)
    rw [Nat.pow_zero] at this
    omega
  · intro h
    rw [h, dig_zero]
    rfl
theorem fromInt_ev {n : Int} (h0 : 0 ≤ n) (h1 : n < 9223372036854775808) : Ev (fun k => custodyref04_FromInt.f k n) ((fint n : Nat) : Int) := by
  obtain ⟨m, rfl⟩ := Int.eq_ofNat_of_zero_le h0
  obtain ⟨E, hE, hO⟩ := one_is
  unfold custodyref04_FromInt.f fint
  rw [decide_eq_false (by omega), Int.natAbs_natCast]
  by_cases hz : m = 0
  · subst hz
    refine Ev.congr (f := fun _ => some 0) (fun k => if_pos rfl) ?_
    rw [Nat.zero_mul, rung_zero 1 (by decide), Nat.min_eq_left (Nat.zero_le _)]
    exact Ev.now _
  · have hw : IntKind.u64.wrap (m : Int) = (m : Int) := wu (by omega)
    refine Ev.congr (f := fun k => (custodyref04_List.f k (m : Int)).bind fun t429 => ((custodyref04_Round.f k false t429 0 false).bind fun t432 => some t432)) (fun k => ?_) ?_
    · rw [if_neg (by omega), if_neg (by omega), hw]
    · refine Ev.bind (list_ev (by omega)) ?_
      have hl : (dig m).length ≤ 9000 := Nat.le_trans (len_pow (n := m) (k := 2) (by omega)) (by decide)
      have := round_ev false false hz hl (e := 0) (by decide) (by decide) (fun h => by cases h) (E - 1) 0 (by omega)
      have e : nearR (2 * m + false.toNat) (E - 1) 0 = min (rung (m * ONE) 1) INF := by
        unfold nearR
        rw [Bool.toNat_false, Nat.add_zero, Nat.pow_zero, hO, Nat.mul_comm 2 m, Nat.mul_assoc, Nat.mul_comm 2, ← Nat.pow_succ, show (E - 1).succ = E by omega]
      rw [e] at this
      exact Ev.bind this (Ev.now _)
theorem div_parts {m n e' f' : Nat} (hm : m ≠ 0) (hm53 : m < 2 ^ 53) (hn : n ≠ 0) (hn53 : n < 2 ^ 53) (he : e' ≤ 2045) (hf : f' ≤ 2045) (s : Bool) :
    Ev (fun k => (custodyref04_List.f k (m : Int)).bind fun t409 => ((custodyref04_Up.f k t409 110).bind fun t412 => ((custodyref04_List.f k (n : Int)).bind fun t415 => ((custodyref04_Over.f k t412 t415).bind fun bt418 => ((custodyref04_Round.f k s bt418.1 (wrap64 ((wrap64 (((-1074 : Int) + e') - (-1074 + f'))) - 110)) (decide ((bt418.2.length : Int) > 0))).bind fun t424 => (some t424)))))) ((wd s (min (rung (m * 2 ^ e' * ONE) (n * 2 ^ f')) INF) : Nat) : Int) := by
  obtain ⟨E, hE, hO⟩ := one_is
  have hn0 : 0 < n := Nat.pos_of_ne_zero hn
  refine Ev.bind (list53 hm53) ?_
  have hup := up_ev (x := m) (n := 110) (Nat.le_trans (len53 hm53) (by decide)) (by decide)
  refine Ev.bind hup ?_
  refine Ev.bind (list53 hn53) ?_
  have hbig : m * 2 ^ 110 < 2 ^ (32 * 6) := by
    refine Nat.lt_of_lt_of_le (Nat.mul_lt_mul_of_pos_right hm53 (Nat.two_pow_pos _)) ?_
    decide
  have hlb : (dig (m * 2 ^ 110)).length ≤ 6 := len_pow hbig
  refine Ev.bind (over_ev hn0 (Nat.le_trans hlb (by decide)) (Nat.le_trans (len53 hn53) (by decide))) ?_
  dsimp only
  have hQ : 2 ^ 57 ≤ m * 2 ^ 110 / n := by
    rw [Nat.le_div_iff_mul_le hn0]
    refine Nat.le_trans (Nat.mul_le_mul_left _ (Nat.le_of_lt hn53)) ?_
    rw [← Nat.pow_add]
    refine Nat.le_trans (Nat.le_of_eq (Nat.one_mul _).symm) (Nat.mul_le_mul (by omega) (by decide))
  have hql : (dig (m * 2 ^ 110 / n)).length ≤ 9000 := Nat.le_trans (DG.len_mono (Nat.div_le_self ..)) (Nat.le_trans hlb (by decide))
  have ew : wrap64 ((wrap64 (((-1074 : Int) + e') - (-1074 + f'))) - 110) = (e' : Int) - f' - 110 := by
    rw [w64 (i := ((-1074 : Int) + e') - (-1074 + f')) (by omega) (by omega), w64 (by omega) (by omega)]; omega
  rw [ew]
  have h57 : (2 : Nat) ^ 57 = 144115188075855872 := rfl
  have h54 : (2 : Nat) ^ 54 = 18014398509481984 := rfl
  have h53 : (2 : Nat) ^ 53 = 9007199254740992 := rfl
  generalize hmm : decide (((I (dig (m * 2 ^ 110 % n))).length : Int) > 0) = more
  have hmore : more.toNat = if m * 2 ^ 110 % n = 0 then 0 else 1 := by
    rw [← hmm]
    have := len0 (m * 2 ^ 110 % n)
    by_cases h : m * 2 ^ 110 % n = 0
    · rw [if_pos h, decide_eq_false (by have := this.2 h; omega)]; rfl
    · rw [if_neg h, decide_eq_true (by have : ¬ ((I (dig (m * 2 ^ 110 % n))).length : Int) = 0 := fun h2 => h (this.1 h2); omega)]; rfl
  have := round_ev s more (n := m * 2 ^ 110 / n) (by omega) hql (e := (e' : Int) - f' - 110) (by omega) (by omega) (fun _ => by omega) (e' + (E - 111)) f' (by omega)
  have e : nearR (2 * (m * 2 ^ 110 / n) + more.toNat) (e' + (E - 111)) f' = min (rung (m * 2 ^ e' * ONE) (n * 2 ^ f')) INF := by
    unfold nearR
    rw [hmore, rung_sticky _ _ _ _ hn0 (by omega), hO]
    congr 2
    rw [Nat.mul_assoc, Nat.mul_assoc, ← Nat.pow_add, ← Nat.pow_add]
    congr 2
    omega
  rw [e] at this
  exact Ev.bind this (Ev.now _)
/-- the divisor: finite and not nothing, or infinite -/
theorem div_ev {x y : Nat} (hx : x < 2 ^ 64) (hy : y < 2 ^ 64) (hfx : rg x < INF) (hfy : rg y < INF) (h0 : rg y ≠ 0) : Ev (fun k => custodyref04_Div.f k (x : Int) (y : Int)) ((fdiv x y : Nat) : Int) := by
  obtain ⟨a0, a1, a2⟩ := cls_fin hfx
  obtain ⟨b0, b1, b2⟩ := cls_fin hfy
  have b2' : cls y ≠ 2 := fun h => h0 (b2.1 h)
  have hUy : 0 < U y := Nat.pos_of_ne_zero fun h => h0 (U_zero.1 h)
  unfold custodyref04_Div.f
  refine Ev.bind (class_ev hx) ?_
  refine Ev.bind (class_ev hy) ?_
  refine Ev.congr (f := fun k => custodyref04_Div.j0 k (x : Int) (y : Int) (cls x) (cls y) false) (fun k => ?_) ?_
  · rw [if_neg a0, if_neg b0, if_neg a1]
    have : (cls y == 2) = false := by simp [b2']
    rw [this]
    split <;> rfl
  refine Ev.step (f := fun k => custodyref04_Div.j1 k (x : Int) (y : Int) (cls x) (cls y) (neg x != neg y) false) (fun k => ?_) ?_
  · simp only [custodyref04_Div.j0, negative_f hx, negative_f hy, Option.bind_some]
    have : (cls y == 2) = false := by simp [b2']
    rw [if_neg (by decide), if_neg a1, this]
  refine Ev.step (f := fun k => custodyref04_Div.j2 k (x : Int) (y : Int) (neg x != neg y) (decide (rg x = 0))) (fun k => ?_) ?_
  · simp only [custodyref04_Div.j1]
    rw [if_neg (by decide)]
    by_cases hz : rg x = 0
    · rw [if_pos (a2.2 hz), decide_eq_true hz]
    · have : (cls y == 1) = false := by simp [b1]
      rw [if_neg (fun h => hz (a2.1 h)), decide_eq_false hz, this]
  unfold fdiv
  have hxor : (neg x ^^ neg y) = (neg x != neg y) := rfl
  rw [hxor]
  generalize (neg x != neg y) = s
  by_cases hz : rg x = 0
  · rw [decide_eq_true hz, U_zero.2 hz, Nat.zero_mul, rung_zero _ hUy, Nat.min_eq_left (Nat.zero_le _)]
    refine Ev.step (f := fun _ => some ((wd s 0 : Nat) : Int)) (fun k => ?_) (Ev.now _)
    simp only [custodyref04_Div.j2]
    have := signed_f s (r := 0) (by decide)
    rw [if_pos trivial]
    simp only [Int.natCast_zero] at this
    rw [this, Option.bind_some]
  · rw [decide_eq_false hz]
    obtain ⟨m, e, hp, hu, hm, he, hmz⟩ := parts_f hx hfx
    obtain ⟨n, f, hp', hu', hn, hf, hnz⟩ := parts_f hy hfy
    rw [← hu, ← hu']
    refine Ev.step (f := fun k => (custodyref04_List.f k (m : Int)).bind fun t409 => ((custodyref04_Up.f k t409 110).bind fun t412 => ((custodyref04_List.f k (n : Int)).bind fun t415 => ((custodyref04_Over.f k t412 t415).bind fun bt418 => ((custodyref04_Round.f k s bt418.1 (wrap64 ((wrap64 (((-1074 : Int) + e) - (-1074 + f))) - 110)) (decide ((bt418.2.length : Int) > 0))).bind fun t424 => (some t424)))))) (fun k => ?_) (div_parts (fun h => hz (hmz.1 h)) hm (fun h => h0 (hnz.1 h)) hn he hf s)
    simp only [custodyref04_Div.j2, hp, hp', Option.bind_some]
    rw [if_neg (by decide)]
theorem div_inf_ev {x y : Nat} (hx : x < 2 ^ 64) (hy : y < 2 ^ 64) (hfx : rg x < INF) (hfy : rg y = INF) : Ev (fun k => custodyref04_Div.f k (x : Int) (y : Int)) ((wd (neg x ^^ neg y) 0 : Nat) : Int) := by
  obtain ⟨a0, a1, a2⟩ := cls_fin hfx
  have b1 := cls_inf hfy
  unfold custodyref04_Div.f
  refine Ev.bind (class_ev hx) ?_
  refine Ev.bind (class_ev hy) ?_
  rw [b1]
  refine Ev.congr (f := fun k => custodyref04_Div.j0 k (x : Int) (y : Int) (cls x) 1 false) (fun k => ?_) ?_
  · rw [if_neg a0, if_neg (by decide), if_neg a1]
    split <;> rfl
  refine Ev.step (f := fun k => custodyref04_Div.j1 k (x : Int) (y : Int) (cls x) 1 (neg x != neg y) false) (fun k => ?_) ?_
  · simp only [custodyref04_Div.j0, negative_f hx, negative_f hy, Option.bind_some]
    rw [if_neg (by decide), if_neg a1]
    rfl
  refine Ev.step (f := fun k => custodyref04_Div.j2 k (x : Int) (y : Int) (neg x != neg y) true) (fun k => ?_) ?_
  · simp only [custodyref04_Div.j1]
    rw [if_neg (by decide)]
    split <;> rfl
  refine Ev.step (f := fun _ => some ((wd (neg x != neg y) 0 : Nat) : Int)) (fun k => ?_) (Ev.now _)
  simp only [custodyref04_Div.j2]
  have := signed_f (neg x != neg y) (r := 0) (by decide)
  simp only [Int.natCast_zero] at this
  rw [if_pos trivial, this, Option.bind_some]
end FL
end Go.Proofs.YtmepjcnpbjdlkaaGreatDoor
/- the document's sums and comparisons of numbers with a point, as they are printed, come to the model's: plain. -/
namespace Go.Proofs.YtmepjcnpbjdlkaaGreatDoor
set_option linter.unusedVariables false
set_option linter.unusedSimpArgs false
open Go.RowKit Go.Proofs.YtmepjcnpbjdlkaaGreatDoorW.PrintWords Go.Proofs.YtmepjcnpbjdlkaaGreatDoorW.PrintLast Go.Proofs.YtmepjcnpbjdlkaaGreatDoorW.PrintMore
namespace FL
open PPriceClean
open DG (I dig val low Ok BL w64 wu wu_ rd_I I_len I_snoc dig_ok val_dig getD_div len_le_iff b_eq b_pos and32 trim_ev up_ev small_f bit_f bits_ev exists_BL dig_zero list_ev plus_ev minus_ev cmp_ev over_ev cmpN)
attribute [local irreducible] EE ONE

theorem sg_add_same (s : Bool) (a c : Nat) : sg s (a + c) = sg s a + sg s c := by cases s <;> simp [sg] <;> omega
/-- the exact sum -/
theorem sum_ev {x y : Nat} (hx : x < 2 ^ 64) (hy : y < 2 ^ 64) (hfx : rg x < INF) (hfy : rg y < INF) :
    ∃ (s : Bool) (n g : Nat), Ev (fun k => custodyref04_Sum.f k (x : Int) (y : Int)) (s, I (dig n), (-1074 : Int) + g) ∧ sg s (n * 2 ^ g) = S x + S y ∧ g ≤ 2045 ∧ (dig n).length ≤ 9000 := by
  obtain ⟨m, e, hp, hu, hm, he, hmz⟩ := parts_f hx hfx
  obtain ⟨n, f, hp', hu', hn, hf, hnz⟩ := parts_f hy hfy
  obtain ⟨g, hg⟩ : ∃ g, g = min e f := ⟨_, rfl⟩
  have hge : g ≤ e := by omega
  have hgf : g ≤ f := by omega
  -- both are laid at the lesser place
  obtain ⟨K, hK⟩ : ∃ K : Nat, K = 67 := ⟨_, rfl⟩
  have hlen : ∀ {u v : Nat}, u < 2 ^ 53 → v ≤ 2045 → (dig (u * 2 ^ v)).length ≤ K := fun {u v} h1 h2 => len_pow (by
    refine Nat.lt_of_lt_of_le (Nat.mul_lt_mul_of_pos_right h1 (Nat.two_pow_pos _)) ?_
    rw [← Nat.pow_add]
    exact Nat.pow_le_pow_right (by decide) (by omega))
  have l1 := hlen (u := m) (v := e - g) hm (by omega)
  have l2 := hlen (u := n) (v := f - g) hn (by omega)
  have u1 := up_ev (x := m) (n := e - g) (Nat.le_trans (len53 hm) (by decide)) (by omega)
  have u2 := up_ev (x := n) (n := f - g) (Nat.le_trans (len53 hn) (by decide)) (by omega)
  have w1 : wrap64 (((-1074 : Int) + e) - (-1074 + g)) = ((e - g : Nat) : Int) := by rw [w64 (by omega) (by omega)]; omega
  have w2 : wrap64 (((-1074 : Int) + f) - (-1074 + g)) = ((f - g : Nat) : Int) := by rw [w64 (by omega) (by omega)]; omega
  have p1 : m * 2 ^ (e - g) * 2 ^ g = U x := by rw [← hu, Nat.mul_assoc, ← Nat.pow_add, Nat.sub_add_cancel hge]
  have p2 : n * 2 ^ (f - g) * 2 ^ g = U y := by rw [← hu', Nat.mul_assoc, ← Nat.pow_add, Nat.sub_add_cancel hgf]
  generalize m * 2 ^ (e - g) = A at *
  generalize n * 2 ^ (f - g) = B at *
  have hj : ∀ s t : Bool, s = neg x → t = neg y → ∃ (r : Bool) (c : Nat), Ev (fun k => custodyref04_Sum.j0 k s (m : Int) ((-1074 : Int) + e) t (n : Int) ((-1074 : Int) + f) ((-1074 : Int) + g)) (r, I (dig c), (-1074 : Int) + g) ∧ sg r (c * 2 ^ g) = S x + S y ∧ (dig c).length ≤ 9000 := by
    intro s t hs ht
    have hS : S x + S y = sg s (A * 2 ^ g) + sg t (B * 2 ^ g) := by unfold S; rw [← hs, ← ht, p1, p2]
    rw [hS]
    have hstep : ∀ (r : Bool × List Int × Int), Ev (fun k => if (s == t) = true then ((custodyref04_Plus.f k (I (dig A)) (I (dig B))).bind fun t451 => (some (s, t451, (-1074 : Int) + g))) else ((custodyref04_Cmp.f k (I (dig A)) (I (dig B))).bind fun t454 => (if t454 < 0 then ((custodyref04_Minus.f k (I (dig B)) (I (dig A))).bind fun t455 => (some (t, t455, (-1074 : Int) + g))) else ((custodyref04_Minus.f k (I (dig A)) (I (dig B))).bind fun t458 => (some (s, t458, (-1074 : Int) + g)))))) r → Ev (fun k => custodyref04_Sum.j0 k s (m : Int) ((-1074 : Int) + e) t (n : Int) ((-1074 : Int) + f) ((-1074 : Int) + g)) r := by
      intro r h
      refine Ev.step (f := fun k => (custodyref04_List.f k (m : Int)).bind fun t439 => ((custodyref04_Up.f k t439 ((e - g : Nat) : Int)).bind fun t442 => ((custodyref04_List.f k (n : Int)).bind fun t445 => ((custodyref04_Up.f k t445 ((f - g : Nat) : Int)).bind fun t448 => (if (s == t) = true then ((custodyref04_Plus.f k t442 t448).bind fun t451 => (some (s, t451, (-1074 : Int) + g))) else ((custodyref04_Cmp.f k t442 t448).bind fun t454 => (if t454 < 0 then ((custodyref04_Minus.f k t448 t442).bind fun t455 => (some (t, t455, (-1074 : Int) + g))) else ((custodyref04_Minus.f k t442 t448).bind fun t458 => (some (s, t458, (-1074 : Int) + g)))))))))) (fun k => ?_) ?_
      · simp only [custodyref04_Sum.j0, w1, w2]
      · exact Ev.bind (list53 hm) (Ev.bind u1 (Ev.bind (list53 hn) (Ev.bind u2 h)))
    by_cases hst : s = t
    · subst hst
      refine ⟨s, A + B, hstep _ (Ev.congr (f := fun k => (custodyref04_Plus.f k (I (dig A)) (I (dig B))).bind fun t451 => (some (s, t451, (-1074 : Int) + g))) (fun k => if_pos (by simp)) (Ev.bind (plus_ev (by omega) (by omega)) (Ev.now _))), ?_, ?_⟩
      · rw [Nat.add_mul, sg_add_same]
      · exact Nat.le_trans (DG.len_mono (y := 2 * max A B) (by omega)) (Nat.le_trans (DG.len_double (y := max A B) (by omega)) (by
          rcases Nat.le_total A B with c | c
          · rw [Nat.max_eq_right c]; omega
          · rw [Nat.max_eq_left c]; omega))
    · have hne : ¬ (s == t) = true := by simpa using hst
      have hc := cmp_ev (x := A) (y := B) (by omega)
      by_cases hlt : A < B
      · have hcm : cmpN A B = -1 := by unfold cmpN; rw [if_pos hlt]
        rw [hcm] at hc
        refine ⟨t, B - A, hstep _ (Ev.congr (f := fun k => (custodyref04_Cmp.f k (I (dig A)) (I (dig B))).bind fun t454 => (if t454 < 0 then ((custodyref04_Minus.f k (I (dig B)) (I (dig A))).bind fun t455 => (some (t, t455, (-1074 : Int) + g))) else ((custodyref04_Minus.f k (I (dig A)) (I (dig B))).bind fun t458 => (some (s, t458, (-1074 : Int) + g))))) (fun k => if_neg hne) (Ev.bind hc (Ev.congr (f := fun k => (custodyref04_Minus.f k (I (dig B)) (I (dig A))).bind fun t455 => (some (t, t455, (-1074 : Int) + g))) (fun k => if_pos (by decide)) (Ev.bind (minus_ev (by omega) (by omega)) (Ev.now _))))), ?_, ?_⟩
        · have e1 : (B - A) * 2 ^ g + A * 2 ^ g = B * 2 ^ g := by rw [← Nat.add_mul, Nat.sub_add_cancel (Nat.le_of_lt hlt)]
          generalize (B - A) * 2 ^ g = c at *
          generalize A * 2 ^ g = a' at *
          generalize B * 2 ^ g = b' at *
          clear p1 p2
          cases s <;> cases t <;> simp [sg] at hst ⊢ <;> omega
        · exact Nat.le_trans (DG.len_mono (Nat.sub_le ..)) (by omega)
      · have hcm : ¬ cmpN A B < 0 := by unfold cmpN; rw [if_neg hlt]; split <;> decide
        refine ⟨s, A - B, hstep _ (Ev.congr (f := fun k => (custodyref04_Cmp.f k (I (dig A)) (I (dig B))).bind fun t454 => (if t454 < 0 then ((custodyref04_Minus.f k (I (dig B)) (I (dig A))).bind fun t455 => (some (t, t455, (-1074 : Int) + g))) else ((custodyref04_Minus.f k (I (dig A)) (I (dig B))).bind fun t458 => (some (s, t458, (-1074 : Int) + g))))) (fun k => if_neg hne) (Ev.bind hc (Ev.congr (f := fun k => (custodyref04_Minus.f k (I (dig A)) (I (dig B))).bind fun t458 => (some (s, t458, (-1074 : Int) + g))) (fun k => if_neg hcm) (Ev.bind (minus_ev (by omega) (by omega)) (Ev.now _))))), ?_, ?_⟩
        · have e1 : (A - B) * 2 ^ g + B * 2 ^ g = A * 2 ^ g := by rw [← Nat.add_mul, Nat.sub_add_cancel (by omega)]
          generalize (A - B) * 2 ^ g = c at *
          generalize A * 2 ^ g = a' at *
          generalize B * 2 ^ g = b' at *
          clear p1 p2
          cases s <;> cases t <;> simp [sg] at hst ⊢ <;> omega
        · exact Nat.le_trans (DG.len_mono (Nat.sub_le ..)) (by omega)
  obtain ⟨r, c, h1, h2, h3⟩ := hj _ _ rfl rfl
  refine ⟨r, c, g, ?_, h2, by omega, h3⟩
  unfold custodyref04_Sum.f
  refine Ev.congr (fun k => ?_) h1
  simp only [hp, hp', Option.bind_some]
  by_cases hc : f < e
  · rw [if_pos (by omega)]
    have : g = f := by omega
    rw [this]
  · rw [if_neg (by omega)]
    have : g = e := by omega
    rw [this]
theorem S_zero {a : Nat} : S a = 0 ↔ rg a = 0 := by
  unfold S
  have := sg_natAbs (neg a) (U a)
  rw [← U_zero]
  omega
theorem add_ev {x y : Nat} (hx : x < 2 ^ 64) (hy : y < 2 ^ 64) (hfx : rg x < INF) (hfy : rg y < INF) : Ev (fun k => custodyref04_Add.f k (x : Int) (y : Int)) ((fadd x y : Nat) : Int) := by
  obtain ⟨a0, a1, a2⟩ := cls_fin hfx
  obtain ⟨b0, b1, b2⟩ := cls_fin hfy
  obtain ⟨s, n, g, hs, hv, hg, hl⟩ := sum_ev hx hy hfx hfy
  unfold custodyref04_Add.f
  refine Ev.bind (class_ev hx) ?_
  refine Ev.bind (class_ev hy) ?_
  refine Ev.congr (f := fun k => custodyref04_Add.j0 k (x : Int) (y : Int) (cls x) (cls y) false) (fun k => ?_) ?_
  · have : (cls y == 0) = false := by simp [b0]
    rw [if_neg a0, this]
  refine Ev.step (f := fun k => custodyref04_Add.j1 k (x : Int) (y : Int) (cls x) (cls y) false) (fun k => ?_) ?_
  · simp only [custodyref04_Add.j0]
    rw [if_neg (by decide), if_neg a1]
  refine Ev.step (f := fun k => (custodyref04_Sum.f k (x : Int) (y : Int)).bind fun bt463 => (if (bt463.2.1.length : Int) = 0 then (if (x : Int) = 9223372036854775808 then ((custodyref04_signed.f ((y : Int) == 9223372036854775808) 0).bind fun t468 => (some t468)) else ((custodyref04_signed.f false 0).bind fun t469 => (some t469))) else ((custodyref04_Round.f k bt463.1 bt463.2.1 bt463.2.2 false).bind fun t470 => (some t470)))) (fun k => ?_) ?_
  · simp only [custodyref04_Add.j1]
    rw [if_neg (by decide), if_neg a1, if_neg b1]
  refine Ev.bind hs ?_
  dsimp only
  have hz := len0 n
  have hp : 0 < 2 ^ g := Nat.two_pow_pos g
  unfold fadd addS
  rw [← hv, sg_natAbs]
  have h0 : ∀ s, custodyref04_signed.f s 0 = some ((wd s 0 : Nat) : Int) := fun s => by
    have := signed_f s (r := 0) (by decide)
    simpa using this
  by_cases hn : n = 0
  · have hsz : sg s (n * 2 ^ g) = 0 := by rw [hn, Nat.zero_mul]; cases s <;> rfl
    rw [if_pos hsz]
    rw [hsz] at hv
    rw [hn, Nat.zero_mul, rung_zero 1 (by decide), Nat.min_eq_left (Nat.zero_le _)]
    refine Ev.congr (f := fun _ => some _) (fun k => ?_) (Ev.now _)
    rw [if_pos (by rw [dig_zero]; rfl)]
    -- both are -0, or the sum is 0
    have hkey : (neg x && neg y) = (decide (x = 2 ^ 63) && decide (y = 2 ^ 63)) := by
      have e1 : ∀ a : Nat, a < 2 ^ 64 → rg a = 0 → neg a = decide (a = 2 ^ 63) := fun a ha hr => by
        have := wd_of ha
        rw [hr] at this
        unfold wd at this
        cases hna : neg a
        · rw [hna] at this
          simp only [Bool.false_eq_true, if_false] at this
          rw [← this]; rfl
        · rw [hna] at this
          simp only [if_true] at this
          rw [← this]; rfl
      by_cases hboth : neg x = true ∧ neg y = true
      · have hx0 : S x ≤ 0 := by unfold S sg; rw [hboth.1]; simp
        have hy0 : S y ≤ 0 := by unfold S sg; rw [hboth.2]; simp
        rw [e1 x hx (S_zero.1 (by omega)), e1 y hy (S_zero.1 (by omega))]
      · have hl : (neg x && neg y) = false := by
          cases h1 : neg x
          · rfl
          · cases h2 : neg y
            · rfl
            · exact absurd ⟨h1, h2⟩ hboth
        rw [hl]
        symm
        have e2 : neg (2 ^ 63) = true := by decide
        cases h1 : decide (x = 2 ^ 63)
        · rfl
        · cases h2 : decide (y = 2 ^ 63)
          · rfl
          · exfalso
            have h1 := of_decide_eq_true h1
            have h2 := of_decide_eq_true h2
            rw [h1, h2] at hl
            rw [e2] at hl
            cases hl
    rw [hkey]
    by_cases h1 : x = 2 ^ 63
    · rw [if_pos (by omega), decide_eq_true h1, Bool.true_and]
      have : ((y : Int) == 9223372036854775808) = decide (y = 2 ^ 63) := by
        by_cases h2 : y = 2 ^ 63
        · rw [decide_eq_true h2, h2]; rfl
        · rw [decide_eq_false h2]; simp; omega
      rw [this, h0]; rfl
    · rw [if_neg (by omega), decide_eq_false h1, Bool.false_and, h0]; rfl
  · have hnz : n * 2 ^ g ≠ 0 := fun h => by rcases Nat.mul_eq_zero.1 h with h | h <;> omega
    have hsz : sg s (n * 2 ^ g) ≠ 0 := fun h => by
      have := sg_natAbs s (n * 2 ^ g)
      rw [h] at this
      exact hnz this.symm
    rw [if_neg hsz]
    have hsn : decide (sg s (n * 2 ^ g) < 0) = s := by
      cases s
      · refine decide_eq_false ?_; simp only [sg, Bool.false_eq_true, if_false]; omega
      · refine decide_eq_true ?_; simp only [sg, if_true]; omega
    rw [hsn]
    refine Ev.congr (f := fun k => (custodyref04_Round.f k s (I (dig n)) ((-1074 : Int) + g) false).bind fun t470 => some t470) (fun k => if_neg (fun h => hn (hz.1 h))) ?_
    have e : nearR (2 * n + false.toNat) g 1 = min (rung (n * 2 ^ g) 1) INF := by
      unfold nearR
      rw [Bool.toNat_false, Nat.add_zero, Nat.pow_one]
      have : rung (2 * n * 2 ^ g) 2 = rung (n * 2 ^ g) 1 := by
        have := rung_mul 2 (n * 2 ^ g) 1 (by decide)
        rw [← this, Nat.mul_assoc]
      rw [this]
    have := round_ev s false hn hl (e := (-1074 : Int) + g) (by omega) (by omega) (fun h => by cases h) g 1 (by omega)
    rw [e] at this
    exact Ev.bind this (Ev.now _)
theorem add_inf_ev {x y : Nat} (hx : x < 2 ^ 64) (hy : y < 2 ^ 64) (hfx : rg x < INF) (hfy : rg y = INF) : Ev (fun k => custodyref04_Add.f k (x : Int) (y : Int)) ((y : Nat) : Int) := by
  obtain ⟨a0, a1, a2⟩ := cls_fin hfx
  have b1 := cls_inf hfy
  unfold custodyref04_Add.f
  refine Ev.bind (class_ev hx) ?_
  refine Ev.bind (class_ev hy) ?_
  rw [b1]
  refine Ev.congr (f := fun k => custodyref04_Add.j0 k (x : Int) (y : Int) (cls x) 1 false) (fun k => ?_) ?_
  · rw [if_neg a0]; rfl
  refine Ev.step (f := fun k => custodyref04_Add.j1 k (x : Int) (y : Int) (cls x) 1 false) (fun k => ?_) ?_
  · simp only [custodyref04_Add.j0]
    rw [if_neg (by decide), if_neg a1]
  refine Ev.step (f := fun _ => some ((y : Nat) : Int)) (fun k => ?_) (Ev.now _)
  simp only [custodyref04_Add.j1]
  rw [if_neg (by decide), if_neg a1, if_pos trivial]
theorem neg_ev {y : Nat} (hy : y < 2 ^ 64) (hfy : rg y < INF) : Ev (fun k => custodyref04_Neg.f k (y : Int)) ((wd (!neg y) (rg y) : Nat) : Int) := by
  obtain ⟨b0, b1, b2⟩ := cls_fin hfy
  unfold custodyref04_Neg.f
  refine Ev.bind (class_ev hy) ?_
  refine Ev.congr (f := fun _ => some _) (fun k => ?_) (Ev.now _)
  have e1 : Go.bits .and .u64 (y : Int) 9223372036854775807 = ((rg y : Nat) : Int) := and_low hy 63 (by decide) (by decide)
  have hr : rg y < 2 ^ 63 := Nat.mod_lt _ (by decide)
  rw [if_neg b0, negative_f hy, Option.bind_some, e1, signed_f _ hr, Option.bind_some]
theorem S_opp {y : Nat} : S (wd (!neg y) (rg y)) = - S y := by
  have hr : rg y < 2 ^ 63 := Nat.mod_lt _ (by decide)
  unfold S U
  rw [neg_wd hr, rg_wd hr]
  cases neg y <;> simp [sg]
theorem less_ev {x y : Nat} (hx : x < 2 ^ 64) (hy : y < 2 ^ 64) (hfx : rg x < INF) (hfy : rg y < INF) : Ev (fun k => custodyref04_Less.f k (x : Int) (y : Int)) (decide (S x < S y)) := by
  obtain ⟨a0, a1, a2⟩ := cls_fin hfx
  obtain ⟨b0, b1, b2⟩ := cls_fin hfy
  have hr : rg y < 2 ^ 63 := Nat.mod_lt _ (by decide)
  obtain ⟨s, n, g, hs, hv, hg, hl⟩ := sum_ev (x := x) (y := wd (!neg y) (rg y)) hx (wd_lt hr) hfx (by rw [rg_wd hr]; exact hfy)
  rw [S_opp] at hv
  unfold custodyref04_Less.f
  refine Ev.bind (class_ev hx) ?_
  refine Ev.bind (class_ev hy) ?_
  refine Ev.congr (f := fun k => custodyref04_Less.j0 k (x : Int) (y : Int) (cls x) (cls y) false) (fun k => ?_) ?_
  · rw [if_neg a0, if_neg b0, if_neg a1]
  refine Ev.step (f := fun k => (custodyref04_Neg.f k (y : Int)).bind fun t500 => ((custodyref04_Sum.f k (x : Int) t500).bind fun bt501 => (if bt501.1 = true then (some (decide ((bt501.2.1.length : Int) > 0))) else (some false)))) (fun k => ?_) ?_
  · simp only [custodyref04_Less.j0]
    rw [if_neg (by decide), if_neg a1, if_neg b1]
  refine Ev.bind (neg_ev hy hfy) ?_
  refine Ev.bind hs ?_
  dsimp only
  have hz := len0 n
  have hp : 0 < 2 ^ g := Nat.two_pow_pos g
  refine Ev.congr (f := fun _ => some (decide (S x < S y))) (fun k => ?_) (Ev.now _)
  cases s
  · rw [if_neg (by decide)]
    congr 1
    symm
    refine decide_eq_false ?_
    simp only [sg, Bool.false_eq_true, if_false] at hv
    omega
  · rw [if_pos rfl]
    congr 1
    simp only [sg, if_true] at hv
    by_cases hn : n = 0
    · rw [decide_eq_false (by have := hz.2 hn; omega), decide_eq_false (by rw [hn, Nat.zero_mul] at hv; omega)]
    · have hnz : n * 2 ^ g ≠ 0 := fun h => by rcases Nat.mul_eq_zero.1 h with h | h <;> omega
      rw [decide_eq_true (by have : ¬ ((I (dig n)).length : Int) = 0 := fun h => hn (hz.1 h); omega), decide_eq_true (by omega)]
theorem less_inf_ev {x y : Nat} (hx : x < 2 ^ 64) (hy : y < 2 ^ 64) (hfx : rg x < INF) (hfy : rg y = INF) : Ev (fun k => custodyref04_Less.f k (x : Int) (y : Int)) (!neg y) := by
  obtain ⟨a0, a1, a2⟩ := cls_fin hfx
  have b1 := cls_inf hfy
  unfold custodyref04_Less.f
  refine Ev.bind (class_ev hx) ?_
  refine Ev.bind (class_ev hy) ?_
  rw [b1]
  refine Ev.congr (f := fun k => custodyref04_Less.j0 k (x : Int) (y : Int) (cls x) 1 false) (fun k => ?_) ?_
  · rw [if_neg a0, if_neg (by decide), if_neg a1]
  refine Ev.step (f := fun _ => some (!neg y)) (fun k => ?_) (Ev.now _)
  simp only [custodyref04_Less.j0]
  rw [if_neg (by decide), if_neg a1, if_pos trivial, negative_f hy]
  rfl
end FL
end Go.Proofs.YtmepjcnpbjdlkaaGreatDoor
