/- bits.Mul64 by at most a million: by contract. -/
import Derived.Test.YtkhhkbigpaoinaaDayDiv
namespace Go.Proofs.Ytkhhkbigpaoinaa
set_option linter.unusedVariables false
set_option linter.unusedSimpArgs false
open Go.RowKit
attribute [local irreducible] Go.wpStill

theorem and32 (x : Nat) (hx : x < 18446744073709551616) : Go.bits .and .u64 (x : Int) 4294967295 = ((x % 4294967296 : Nat) : Int) := by
  have h1 := bits_and_u64_nat x 4294967295 hx (by omega)
  rw [show (4294967295 : Nat) = 2 ^ 32 - 1 from rfl, Nat.and_two_pow_sub_one_eq_mod] at h1
  exact h1
set_option maxRecDepth 100000 in
set_option maxHeartbeats 4000000 in
theorem mul64_mio (x y : Nat) (hx : x < 9223372036854775808) (hy : y ≤ 1000000) (w : World) :
    Calls Try.prog 58 #[.int .u64 x, .int .u64 y] w fun e w' => e = .returned (.tuple #[.int .u64 (x * y / 18446744073709551616 : Nat), .int .u64 (x * y % 18446744073709551616 : Nat)]) ∧ w = w' := by
  obtain ⟨x0, hx0⟩ : ∃ x0 : Nat, x0 = x % 4294967296 := ⟨_, rfl⟩
  obtain ⟨x1, hx1⟩ : ∃ x1 : Nat, x1 = x / 4294967296 := ⟨_, rfl⟩
  have K1 : Go.bits .and .u64 (x : Int) 4294967295 = (x0 : Int) := by rw [and32 x (by omega), hx0]
  have K2 : (x : Int) / 4294967296 = (x1 : Int) := by omega
  have K3 : Go.bits .and .u64 (y : Int) 4294967295 = (y : Int) := by rw [and32 y (by omega)]; omega
  have K4 : (y : Int) / 4294967296 = 0 := by omega
  have hxx : x = x1 * 4294967296 + x0 := by rw [hx0, hx1, Nat.mul_comm]; exact (Nat.div_add_mod x 4294967296).symm
  have hN : x * y = x1 * y * 4294967296 + x0 * y := by rw [hxx, Nat.add_mul, Nat.mul_right_comm]
  have hp0 : x0 * y ≤ 4294967296 * 1000000 := Nat.mul_le_mul (by omega) hy
  have hp1 : x1 * y ≤ 2147483648 * 1000000 := Nat.mul_le_mul (by omega) hy
  have e0 : (x0 : Int) * (y : Int) = ((x0 * y : Nat) : Int) := by push_cast; rfl
  have e1 : (x1 : Int) * (y : Int) = ((x1 * y : Nat) : Int) := by push_cast; rfl
  have e2 : (x : Int) * (y : Int) = ((x * y : Nat) : Int) := by push_cast; rfl
  generalize x0 * y = p0 at *
  generalize x1 * y = p1 at *
  generalize x * y = N at *
  obtain ⟨t, ht⟩ : ∃ t : Nat, t = p1 + p0 / 4294967296 := ⟨_, rfl⟩
  have W0 : IntKind.u64.wrap (p0 : Int) = (p0 : Int) := by rw [IntKind.wrap_u64]; omega
  have W1 : IntKind.u64.wrap (p1 : Int) = (p1 : Int) := by rw [IntKind.wrap_u64]; omega
  have T1 : (p1 : Int) + (p0 : Int) / 4294967296 = (t : Int) := by omega
  have T2 : IntKind.u64.wrap (t : Int) = (t : Int) := by rw [IntKind.wrap_u64]; omega
  obtain ⟨t0, ht0⟩ : ∃ t0 : Nat, t0 = t % 4294967296 := ⟨_, rfl⟩
  obtain ⟨t1, ht1⟩ : ∃ t1 : Nat, t1 = t / 4294967296 := ⟨_, rfl⟩
  have K5 : Go.bits .and .u64 (t : Int) 4294967295 = (t0 : Int) := by rw [and32 t (by omega), ht0]
  have K6 : (t : Int) / 4294967296 = (t1 : Int) := by omega
  have K7 : (t0 : Int) / 4294967296 = 0 := by omega
  have W2 : IntKind.u64.wrap (t0 : Int) = (t0 : Int) := by rw [IntKind.wrap_u64]; omega
  have W3 : IntKind.u64.wrap (t1 : Int) = (t1 : Int) := by rw [IntKind.wrap_u64]; omega
  have W4 : IntKind.u64.wrap (N : Int) = ((N % 18446744073709551616 : Nat) : Int) := by rw [IntKind.wrap_u64]; omega
  have HHI := Lib.hid (show t1 = N / 18446744073709551616 by omega)
  obtain ⟨nl, hnl⟩ : ∃ nl : Nat, nl = N % 18446744073709551616 := ⟨_, rfl⟩
  rw [← hnl] at W4
  have HNL := Lib.hid hnl
  clear hx0 hx1 hxx hN ht ht0 ht1 hp0 hp1 hnl
  go_enter Try.func58, Try.ntmps58
  go_wp2_with fail
  go_ret2
  exact ⟨by rw [← HHI.out, ← HNL.out]; rfl, rfl⟩
set_option maxRecDepth 100000 in
set_option maxHeartbeats 4000000 in
theorem div64_any (hi lo : Nat) (hh2 : hi < 1000000) (hl : lo < 18446744073709551616) (w : World) :
    Calls Try.prog 59 #[.int .u64 hi, .int .u64 lo, .int .u64 1000000] w fun e w' => e = .returned (.tuple #[.int .u64 ((hi * 18446744073709551616 + lo) / 1000000 : Nat), .int .u64 ((hi * 18446744073709551616 + lo) % 1000000 : Nat)]) ∧ Below w.heap.size w w' := by
  by_cases h0 : 0 < hi
  · exact div64_mio hi lo h0 hh2 hl w
  · obtain rfl : hi = 0 := by omega
    have HE1 := Lib.hid (show ((lo : Int) / 1000000) = (((0 * 18446744073709551616 + lo) / 1000000 : Nat) : Int) by omega)
    have HE2 := Lib.hid (show ((lo : Int) % 1000000) = (((0 * 18446744073709551616 + lo) % 1000000 : Nat) : Int) by omega)
    have T1 : (lo : Int).tdiv 1000000 = (lo : Int) / 1000000 := Int.tdiv_eq_ediv_of_nonneg (by omega)
    have T2 : (lo : Int).tmod 1000000 = (lo : Int) % 1000000 := Int.tmod_eq_emod_of_nonneg (by omega)
    have W1 : IntKind.u64.wrap ((lo : Int) / 1000000) = (lo : Int) / 1000000 := by rw [IntKind.wrap_u64]; omega
    have W2 : IntKind.u64.wrap ((lo : Int) % 1000000) = (lo : Int) % 1000000 := by rw [IntKind.wrap_u64]; omega
    go_enter Try.func59, Try.ntmps59
    go_wp2_with fail
    first | go_ret2 | (go_region; go_wp2_with fail; go_ret2)
    first | exact ⟨by rw [← HE1.out, ← HE2.out]; rfl, Below.refl _ _⟩ | exact ⟨by rw [← HE1.out, ← HE2.out]; rfl, (Below.refl _ _).drew⟩
set_option maxRecDepth 100000 in
set_option maxHeartbeats 4000000 in
theorem divided_any (x y : Nat) (hx : x < 9223372036854775808) (hy : y ≤ 1000000) (w : World) :
    Calls Try.prog 46 #[.int .i64 x, .int .i64 y, .int .i64 1000000] w fun e w' => e = .returned (.tuple #[.int .u64 (x * y / 1000000 : Nat), .int .u64 (x * y % 1000000 : Nat), .bool true]) ∧ Below w.heap.size w w' := by
  have hb : x * y ≤ 9223372036854775808 * 1000000 := Nat.mul_le_mul (by omega) hy
  have HM := Lib.hid (mul64_mio x y hx hy)
  generalize hN : x * y = N at *
  obtain ⟨h, hh⟩ : ∃ h : Nat, h = N / 18446744073709551616 := ⟨_, rfl⟩
  obtain ⟨l, hl⟩ : ∃ l : Nat, l = N % 18446744073709551616 := ⟨_, rfl⟩
  rw [← hh, ← hl] at HM
  have hhb : h < 1000000 := by omega
  have hNe : h * 18446744073709551616 + l = N := by omega
  have HD := Lib.hid (div64_any h l hhb (by omega))
  rw [hNe] at HD
  have d1 : decide ((1000000 : Int) ≤ (h : Int)) = false := decide_eq_false (by omega)
  have Wx : IntKind.u64.wrap (x : Int) = (x : Int) := by rw [IntKind.wrap_u64]; omega
  have Wy : IntKind.u64.wrap (y : Int) = (y : Int) := by rw [IntKind.wrap_u64]; omega
  have HN := Lib.hid hN
  clear hh hl hb hNe hN
  obtain ⟨q, hq⟩ : ∃ q : Nat, q = N / 1000000 := ⟨_, rfl⟩
  obtain ⟨r, hr⟩ : ∃ r : Nat, r = N % 1000000 := ⟨_, rfl⟩
  rw [← hq, ← hr] at HD
  have HQ := Lib.hid hq
  have HRR := Lib.hid hr
  clear hq hr
  go_enter Try.func46, Try.ntmps46
  go_wp2_with fail
  refine (HM.out _).mono ?_
  rintro e w1 ⟨rfl, rfl⟩
  go_wp2_with fail
  refine (HD.out _).mono ?_
  rintro e w2 ⟨rfl, hb2⟩
  go_wp2_with fail
  go_ret3
  exact ⟨by rw [← HQ.out, ← HRR.out]; rfl, hb2⟩
set_option maxRecDepth 100000 in
set_option maxHeartbeats 4000000 in
theorem mulDiv_any (x y : Nat) (hx : x < 9223372036854775808) (hy : y ≤ 1000000) (w : World) :
    Calls Try.prog 29 #[.int .i64 x, .int .i64 y, .int .i64 1000000, .int .i64 0] w fun e w' => e = .returned (.tuple #[.int .i64 (x * y / 1000000 : Nat), .nilIface]) ∧ Below w.heap.size w w' := by
  have hb : x * y ≤ 9223372036854775807 * 1000000 := Nat.mul_le_mul (by omega) hy
  have HD := Lib.hid (divided_any x y hx hy)
  generalize hN : x * y = N at *
  obtain ⟨q, hq⟩ : ∃ q : Nat, q = N / 1000000 := ⟨_, rfl⟩
  obtain ⟨r, hr⟩ : ∃ r : Nat, r = N % 1000000 := ⟨_, rfl⟩
  rw [← hq, ← hr] at HD
  have hqb : q ≤ 9223372036854775807 := by omega
  have hrb : r < 1000000 := by omega
  have HQ := Lib.hid hq
  have HN := Lib.hid hN
  clear hb hr hq hN
  have a1 : decide ((x : Int) < 0) = false := decide_eq_false (by omega)
  have a2 : decide ((y : Int) < 0) = false := decide_eq_false (by omega)
  have a3 : decide ((9223372036854775807 : Int) < (q : Int)) = false := decide_eq_false (by omega)
  have a4 : IntKind.u64.wrap (1000000 - (r : Int)) = 1000000 - (r : Int) := by rw [IntKind.wrap_u64]; omega
  have a5 : IntKind.i64.wrap (q : Int) = (q : Int) := IntWalk.i64_in _ (by omega)
  go_enter Try.func29, Try.ntmps29
  go_wp2_with fail
  refine (HD.out _).mono ?_
  rintro e w1 ⟨rfl, hb1⟩
  go_wp2_with fail
  go_ret2
  exact ⟨by rw [← HQ.out]; rfl, hb1⟩
end Go.Proofs.Ytkhhkbigpaoinaa
