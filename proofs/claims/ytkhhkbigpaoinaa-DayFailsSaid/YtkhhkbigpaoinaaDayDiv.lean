/- bits.Div64 by a million: by contract (under way). -/
import Derived.Test.YtkhhkbigpaoinaaReg
import Derived.Test.YtkhhkbigpaoinaaExec
import Derived.Laws.Bits64b
namespace Go.Proofs.Ytkhhkbigpaoinaa
set_option linter.unusedVariables false
set_option linter.unusedSimpArgs false
open Go.RowKit
attribute [local irreducible] Go.wpStill

set_option maxRecDepth 100000 in
theorem len64_mio (w : World) : Calls Try.prog 74 #[.int .u64 1000000] w fun e w' => e = .returned (.int .i64 20) ∧ Below w.heap.size w w' := by
  go_enter Try.func74, Try.ntmps74
  go_wp2_with fail
  go_ret
  exact ⟨by first | rfl | kernel_rfl | decide +kernel, Below.refl _ _⟩
theorem lz_mio (w : World) : Calls Try.prog 75 #[.int .u64 1000000] w fun e w' => e = .returned (.int .i64 44) ∧ Below w.heap.size w w' := by
  go_enter Try.func75, Try.ntmps75
  go_wp2_with fail
  refine (len64_mio _).mono ?_
  rintro e w1 ⟨rfl, hb⟩
  go_wp2_with fail
  go_ret
  exact ⟨rfl, hb⟩
set_option maxRecDepth 100000 in
set_option maxHeartbeats 4000000 in
theorem div64_mio (hi lo : Nat) (hh : 0 < hi) (hh2 : hi < 1000000) (hl : lo < 18446744073709551616) (w : World) :
    Calls Try.prog 59 #[.int .u64 hi, .int .u64 lo, .int .u64 1000000] w fun e w' => e = .returned (.tuple #[.int .u64 ((hi * 18446744073709551616 + lo) / 1000000 : Nat), .int .u64 ((hi * 18446744073709551616 + lo) % 1000000 : Nat)]) ∧ Below w.heap.size w w' := by
  have d1 : decide ((1000000 : Int) ≤ (hi : Int)) = false := decide_eq_false (by omega)
  have d2 : ((hi : Int) == 0) = false := by simp; omega
  have K1 : Go.bits .and .u64 17592186044416000000 4294967295 = 0 := by kernel_rfl
  obtain ⟨A, hA⟩ : ∃ A : Nat, A = hi * 17592186044416 + lo / 1048576 := ⟨_, rfl⟩
  obtain ⟨t, ht⟩ : ∃ t : Nat, t = lo % 1048576 := ⟨_, rfl⟩
  have K2 : Go.bits .or .u64 ((hi : Int) * 17592186044416) ((lo : Int) / 1048576) = (A : Int) := by
    have h1 := bits_or_u64_nat (hi * 17592186044416) (lo / 1048576) (by omega) (by omega)
    have h2 : hi * 17592186044416 ||| lo / 1048576 = A := by
      have := Nat.two_pow_add_eq_or_of_lt (i := 44) (b := lo / 1048576) (by omega) hi
      rw [hA, Nat.mul_comm hi]
      exact this.symm
    rw [h2] at h1
    simpa using h1
  have K3 : IntKind.u64.wrap ((lo : Int) * 17592186044416) = (t : Int) * 17592186044416 := by (rw [IntKind.wrap_u64]; omega)
  have K3b : (t : Int) * 17592186044416 / 4294967296 = (t : Int) * 4096 := by omega
  have K4 : Go.bits .and .u64 ((t : Int) * 17592186044416) 4294967295 = 0 := by
    have h1 := bits_and_u64_nat (t * 17592186044416) 4294967295 (by omega) (by omega)
    have h2 : t * 17592186044416 &&& 4294967295 = 0 := by
      rw [show (4294967295 : Nat) = 2 ^ 32 - 1 from rfl, Nat.and_two_pow_sub_one_eq_mod]
      omega
    rw [h2] at h1
    simpa using h1
  have hAb : A < 17592186044416000000 := by omega
  have htb : t < 1048576 := by omega
  obtain ⟨q1, hq1⟩ : ∃ q1 : Nat, q1 = A / 4096000000 := ⟨_, rfl⟩
  obtain ⟨r1, hr1⟩ : ∃ r1 : Nat, r1 = A % 4096000000 := ⟨_, rfl⟩
  have hq1b : q1 < 4294967296 := by omega
  have hr1b : r1 < 4096000000 := by omega
  have KQ : (A : Int) / 4096000000 = (q1 : Int) := by omega
  have KQ2 : (A : Int).tdiv 4096000000 = (q1 : Int) := by rw [Int.tdiv_eq_ediv_of_nonneg (by omega)]; omega
  have KR : (A : Int) - (q1 : Int) * 4096000000 = (r1 : Int) := by omega
  have d3 : decide ((4294967296 : Int) ≤ (q1 : Int)) = false := decide_eq_false (by omega)
  have d4 : decide ((4294967296 : Int) * (r1 : Int) + (t : Int) * 4096 < 0) = false := decide_eq_false (by omega)
  have HF := Lib.hid (show hi * 18446744073709551616 + lo = (A * 4294967296 + t * 4096) / 4096 by omega)
  have hAq : A = q1 * 4096000000 + r1 := by rw [hq1, hr1, Nat.mul_comm]; exact (Nat.div_add_mod A 4096000000).symm
  obtain ⟨a1, ha1⟩ : ∃ a1 : Nat, a1 = A * 4294967296 % 18446744073709551616 := ⟨_, rfl⟩
  obtain ⟨a2, ha2⟩ : ∃ a2 : Nat, a2 = (a1 + t * 4096) % 18446744073709551616 := ⟨_, rfl⟩
  obtain ⟨a3, ha3⟩ : ∃ a3 : Nat, a3 = q1 * 17592186044416000000 % 18446744073709551616 := ⟨_, rfl⟩
  obtain ⟨u, hu⟩ : ∃ u : Nat, u = r1 * 4294967296 + t * 4096 := ⟨_, rfl⟩
  have W1 : IntKind.u64.wrap ((A : Int) * 4294967296) = (a1 : Int) := by (rw [IntKind.wrap_u64]; omega)
  have W2 : IntKind.u64.wrap ((a1 : Int) + (t : Int) * 4096) = (a2 : Int) := by (rw [IntKind.wrap_u64]; omega)
  have W3 : IntKind.u64.wrap ((q1 : Int) * 17592186044416000000) = (a3 : Int) := by (rw [IntKind.wrap_u64]; omega)
  have W4 : IntKind.u64.wrap ((a2 : Int) - (a3 : Int)) = (u : Int) := by (rw [IntKind.wrap_u64]; omega)
  have hub : u < 17592186044416000000 := by omega
  obtain ⟨q0, hq0⟩ : ∃ q0 : Nat, q0 = u / 4096000000 := ⟨_, rfl⟩
  obtain ⟨r0, hr0⟩ : ∃ r0 : Nat, r0 = u % 4096000000 := ⟨_, rfl⟩
  have hq0b : q0 < 4294967296 := by omega
  have hr0b : r0 < 4096000000 := by omega
  have KQ0 : (u : Int) / 4096000000 = (q0 : Int) := by omega
  have KQ02 : (u : Int).tdiv 4096000000 = (q0 : Int) := by rw [Int.tdiv_eq_ediv_of_nonneg (by omega)]; omega
  have KR0 : (u : Int) - (q0 : Int) * 4096000000 = (r0 : Int) := by omega
  have d5 : decide ((4294967296 : Int) ≤ (q0 : Int)) = false := decide_eq_false (by omega)
  have d6 : decide ((4294967296 : Int) * (r0 : Int) < 0) = false := decide_eq_false (by omega)
  obtain ⟨b1, hb1⟩ : ∃ b1 : Nat, b1 = u * 4294967296 % 18446744073709551616 := ⟨_, rfl⟩
  obtain ⟨b2, hb2⟩ : ∃ b2 : Nat, b2 = q0 * 17592186044416000000 % 18446744073709551616 := ⟨_, rfl⟩
  have hAu : u = q0 * 4096000000 + r0 := by rw [hq0, hr0, Nat.mul_comm]; exact (Nat.div_add_mod u 4096000000).symm
  have W5 : IntKind.u64.wrap ((u : Int) * 4294967296) = (b1 : Int) := by (rw [IntKind.wrap_u64]; omega)
  have W6 : IntKind.u64.wrap (b1 : Int) = (b1 : Int) := by (rw [IntKind.wrap_u64]; omega)
  have W7 : IntKind.u64.wrap ((q0 : Int) * 17592186044416000000) = (b2 : Int) := by (rw [IntKind.wrap_u64]; omega)
  have W8 : IntKind.u64.wrap ((b1 : Int) - (b2 : Int)) = (r0 : Int) * 4294967296 := by (rw [IntKind.wrap_u64]; omega)
  have HFIN := Lib.hid (show q1 * 4294967296 + q0 = (hi * 18446744073709551616 + lo) / 1000000 ∧ r0 / 4096 = (hi * 18446744073709551616 + lo) % 1000000 by rw [HF.out]; omega)
  have HE1 := Lib.hid (show ((q1 : Int) * 4294967296 + (q0 : Int)) = (((hi * 18446744073709551616 + lo) / 1000000 : Nat) : Int) by rw [← HFIN.out.1]; omega)
  have HE2 := Lib.hid (show ((r0 : Int) * 4294967296 / 17592186044416) = (((hi * 18446744073709551616 + lo) % 1000000 : Nat) : Int) by rw [← HFIN.out.2]; omega)
  clear hA ht hq1 hr1 hAq ha1 ha2 ha3 hu hq0 hr0 hb1 hb2 hAu HF
  go_enter Try.func59, Try.ntmps59
  go_wp2_with fail
  refine (lz_mio _).mono ?_
  rintro e w1 ⟨rfl, hb⟩
  go_wp2_with fail
  go_loopw [15, 16] (fun a b wr => a = .int .u64 q1 ∧ b = .int .u64 r1 ∧ wr = w1) (fun _ _ _ => 0)
  case atStart => exact ⟨rfl, rfl, rfl⟩
  case round =>
    obtain ⟨rfl, rfl, rfl⟩ := hrel
    go_wp2_with fail
    obtain ⟨wz, rfl⟩ : ∃ wz, wz = wr := ⟨wr, rfl⟩
    go_loopw [16, 18] (fun a b wr2 => a = .int .u64 r0 ∧ b = .int .u64 q0 ∧ wr2 = wz) (fun _ _ _ => 0)
    case atStart => exact ⟨rfl, rfl, rfl⟩
    case round =>
      obtain ⟨rfl, rfl, rfl⟩ := hrel
      go_wp2_with fail
      go_ret2
      exact ⟨by rw [← HE1.out, ← HE2.out]; rfl, hb⟩
end Go.Proofs.Ytkhhkbigpaoinaa
