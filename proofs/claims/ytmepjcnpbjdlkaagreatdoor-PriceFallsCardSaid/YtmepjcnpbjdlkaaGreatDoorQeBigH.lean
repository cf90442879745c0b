/- texts of this claim, laid together: BigH. -/
import Derived.Test.YtmepjcnpbjdlkaaGreatDoorQeBigG
/- big: divide by contract. -/
namespace Go.Proofs.YtmepjcnpbjdlkaaGreatDoor
set_option linter.unusedVariables false
set_option linter.unusedSimpArgs false
open Go.RowKit
attribute [local irreducible] Go.wpStill

namespace DG
theorem getD_val {L : List Nat} (h : Ok L) (j : Nat) : L.getD j 0 = val L / b ^ j % b := by
  induction L generalizing j with
  | nil => simp [val]
  | cons d ds ih =>
    cases j with
    | zero =>
      rw [List.getD_cons_zero, Nat.pow_zero, Nat.div_one, val_cons, Nat.add_mul_mod_self_left, Nat.mod_eq_of_lt h.head]
    | succ j =>
      rw [List.getD_cons_succ, ih h.tail, val_cons, Nat.pow_succ, Nat.mul_comm (b ^ j) b, ← Nat.div_div_eq_div_mul, Nat.add_mul_div_left _ _ b_pos, Nat.div_eq_of_lt h.head, Nat.zero_add]
theorem pow_b (j : Nat) : b ^ j = 2 ^ (32 * j) := by rw [Nat.pow_mul]; rfl
/-- a bit of a row of digits -/
theorem bit_at {L : List Nat} (h : Ok L) (i : Nat) : L.getD (i / 32) 0 / 2 ^ (i % 32) % 2 = val L / 2 ^ i % 2 := by
  rw [getD_val h]
  have e1 : val L / 2 ^ i = val L / b ^ (i / 32) / 2 ^ (i % 32) := by
    rw [Nat.div_div_eq_div_mul, pow_b, ← Nat.pow_add]
    congr 2
    omega
  rw [e1]
  generalize val L / b ^ (i / 32) = y
  have hr : i % 32 < 32 := by omega
  generalize i % 32 = r at hr
  have h1 := Nat.testBit_mod_two_pow y 32 r
  rw [Nat.testBit_eq_decide_div_mod_eq, Nat.testBit_eq_decide_div_mod_eq, decide_eq_true hr, Bool.true_and] at h1
  have h2 : (y % 2 ^ 32 / 2 ^ r % 2 = 1) ↔ (y / 2 ^ r % 2 = 1) := by simpa using h1
  show y % 2 ^ 32 / 2 ^ r % 2 = y / 2 ^ r % 2
  omega
/-- a bit is set of a quotient -/
theorem set_bit {L : List Nat} {Q i : Nat} (h : Ok L) (hv : val L = Q * 2 ^ (i + 1)) (hi : i / 32 < L.length) :
    L.getD (i / 32) 0 ||| 2 ^ (i % 32) < 4294967296 ∧ val (L.set (i / 32) (L.getD (i / 32) 0 ||| 2 ^ (i % 32))) = (2 * Q + 1) * 2 ^ i := by
  have hg := getD_val h (i / 32)
  have hlt := h.get (i / 32)
  have hr : i % 32 < 32 := by omega
  have hi2 : i = 32 * (i / 32) + i % 32 := by omega
  generalize hj : i / 32 = j at *
  generalize hrr : i % 32 = r at *
  have hdig : val L / b ^ j = Q * 2 ^ (r + 1) := by
    rw [hv, hi2, pow_b, show 32 * j + r + 1 = 32 * j + (r + 1) by omega, Nat.pow_add 2 (32 * j) (r + 1), ← Nat.mul_assoc, Nat.mul_comm Q, Nat.mul_assoc, Nat.mul_div_cancel_left _ (Nat.two_pow_pos _)]
  rw [hdig] at hg
  have hdiv : 2 ^ (r + 1) ∣ L.getD j 0 := by
    rw [hg, show b = 2 ^ 32 from rfl]
    exact (Nat.dvd_mod_iff (Nat.pow_dvd_pow 2 (by omega))).2 (Nat.dvd_mul_left _ _)
  obtain ⟨c, hc⟩ := hdiv
  have hor : L.getD j 0 ||| 2 ^ r = L.getD j 0 + 2 ^ r := by
    rw [hc, ← Nat.two_pow_add_eq_or_of_lt (Nat.pow_lt_pow_right (by decide) (by omega)) c]
  have hlt2 : L.getD j 0 ||| 2 ^ r < 2 ^ 32 := Nat.or_lt_two_pow hlt (Nat.pow_lt_pow_right (by decide) hr)
  refine ⟨hlt2, ?_⟩
  have hs := val_set L j (L.getD j 0 ||| 2 ^ r) (by omega)
  rw [hor] at hs ⊢
  have e1 : b ^ j * (L.getD j 0 + 2 ^ r) = b ^ j * L.getD j 0 + b ^ j * 2 ^ r := Nat.mul_add ..
  have e2 : b ^ j * 2 ^ r = 2 ^ i := by rw [pow_b, ← Nat.pow_add]; congr 1; omega
  have e3 : (2 * Q + 1) * 2 ^ i = Q * 2 ^ (i + 1) + 2 ^ i := by
    rw [Nat.add_mul, Nat.one_mul, Nat.pow_succ, Nat.mul_comm 2 Q, Nat.mul_assoc, Nat.mul_comm 2 (2 ^ i)]
  omega
end DG
theorem OwnW.keep {w w' : World} {g : Nat} {L : List Nat} (h : OwnW w g L) (hk : KeepsW w w') : OwnW w' g L := hk _ _ h
theorem below_of_grown {w w1 w2 : World} {B p : Nat} (h : Below B w w1) (hB : B ≤ w1.heap.size) (g : w1.grownBy w2 (some p)) (hp : B ≤ p) : Below B w w2 := h.grown g hB fun k hk => by injection hk with hk; omega
/-- the state of a division: n bits are to come -/
def Dvd (A Y : Nat) (xs L : List Nat) (R n : Nat) : Prop := ∃ Q, DG.Ok L ∧ L.length = xs.length ∧ A / 2 ^ n = Q * Y + R ∧ R < Y ∧ DG.val L = Q * 2 ^ n
theorem div_half (A n : Nat) : A / 2 ^ n = 2 * (A / 2 ^ (n + 1)) + A / 2 ^ n % 2 := by
  rw [Nat.pow_succ, ← Nat.div_div_eq_div_mul]
  omega
theorem Dvd.less {A Y : Nat} {xs L : List Nat} {R n : Nat} (h : Dvd A Y xs L R (n + 1)) (hc : 2 * R + A / 2 ^ n % 2 < Y) : Dvd A Y xs L (2 * R + A / 2 ^ n % 2) n := by
  obtain ⟨Q, h1, h2, h3, h4, h5⟩ := h
  refine ⟨2 * Q, h1, h2, ?_, hc, ?_⟩
  · rw [div_half, h3, Nat.mul_add, Nat.mul_assoc]; omega
  · rw [h5, Nat.pow_succ, Nat.mul_comm 2 Q, Nat.mul_assoc, Nat.mul_comm 2]
theorem Dvd.more {A Y : Nat} {xs L : List Nat} {R n : Nat} (h : Dvd A Y xs L R (n + 1)) (hc : Y ≤ 2 * R + A / 2 ^ n % 2) (hi : n / 32 < xs.length) : L.getD (n / 32) 0 ||| 2 ^ (n % 32) < 4294967296 ∧ Dvd A Y xs (L.set (n / 32) (L.getD (n / 32) 0 ||| 2 ^ (n % 32))) (2 * R + A / 2 ^ n % 2 - Y) n := by
  obtain ⟨Q, h1, h2, h3, h4, h5⟩ := h
  obtain ⟨h6, h7⟩ := DG.set_bit h1 h5 (by omega)
  have hb : A / 2 ^ n % 2 < 2 := Nat.mod_lt _ (by decide)
  refine ⟨h6, 2 * Q + 1, h1.set _ h6, by rw [List.length_set]; exact h2, ?_, by omega, h7⟩
  rw [div_half, h3, Nat.mul_add, Nat.add_mul (2 * Q) 1 Y, Nat.one_mul, Nat.mul_assoc 2 Q Y]; omega
theorem Dvd.done {A Y : Nat} {xs L : List Nat} {R : Nat} (h : Dvd A Y xs L R 0) (hY : 0 < Y) : DG.val L = A / Y ∧ R = A % Y ∧ DG.Ok L ∧ L.length = xs.length := by
  obtain ⟨Q, h1, h2, h3, h4, h5⟩ := h
  rw [Nat.pow_zero, Nat.div_one] at h3
  rw [Nat.pow_zero, Nat.mul_one] at h5
  refine ⟨?_, ?_, h1, h2⟩
  · rw [h5, h3, Nat.mul_comm, Nat.mul_add_div hY, Nat.div_eq_of_lt h4, Nat.add_zero]
  · rw [h3, Nat.mul_comm, Nat.mul_add_mod, Nat.mod_eq_of_lt h4]
theorem Dvd.start {A Y : Nat} {xs : List Nat} (hA : A < 2 ^ (32 * xs.length)) (hY : 0 < Y) : Dvd A Y xs (List.replicate xs.length 0) 0 (32 * xs.length) := by
  refine ⟨0, fun d hd => ?_, by simp, by rw [Nat.div_eq_of_lt hA, Nat.zero_mul], hY, by rw [DG.val_zeros, Nat.zero_mul]⟩
  rw [(List.mem_replicate.1 hd).2]; exact DG.b_pos
theorem shl_or (l r : Nat) (hl : l < 4294967296) (hr : r < 32) : Go.bits .or .u32 (l : Int) (IntKind.u32.wrap ((2 : Int) ^ r)) = ((l ||| 2 ^ r : Nat) : Int) := by
  have hp2 : 2 ^ r < 4294967296 := Nat.pow_lt_pow_right (a := 2) (m := r) (n := 32) (by decide) hr
  have e : ((2 : Int) ^ r) = ((2 ^ r : Nat) : Int) := by rw [Int.natCast_pow]; rfl
  rw [e, IntKind.wrap_u32]
  generalize 2 ^ r = z at *
  have e2 : (z : Int) % 4294967296 = (z : Int) := by omega
  rw [e2, (andor_nat _ _ hl hp2).2]
set_option maxHeartbeats 8000000 in
theorem divide_any {va vb : Value} {xs ys : List Nat} (w : World) (ha : Ws w va xs) (hb : Ws w vb ys) (hY : 0 < DG.val ys) (hYc : ys = DG.dig (DG.val ys)) (hlx : xs.length ≤ 30000) (hly : ys.length ≤ 30000) : Calls Tryz.prog 139 #[va, vb] w fun e w' => ∃ v1 v2 zs, e = .returned (.tuple #[v1, v2]) ∧ Ws w' v1 zs ∧ DG.val zs = DG.val xs / DG.val ys ∧ Ws w' v2 (DG.dig (DG.val xs % DG.val ys)) ∧ Below w.heap.size w w' := by
  have hbit := fun i => DG.bit_at ha.ok i
  have hA : DG.val xs < 2 ^ (32 * xs.length) := by rw [← DG.pow_b]; exact DG.val_lt ha.ok
  have hst := Dvd.start hA hY
  have hgx := fun i => ha.ok.get i
  rw [DG.b_eq] at hgx
  have hRl : ∀ R, R < DG.val ys → (DG.dig R).length ≤ 30000 := fun R h => by
    have := DG.len_mono (Nat.le_of_lt h)
    rw [← hYc] at this
    omega
  have HWA := Lib.hid ha
  have HWB := Lib.hid hb
  obtain ⟨ao, ca, rfl⟩ := ha.slice
  obtain ⟨bo, cb, rfl⟩ := hb.slice
  have hmk := make_words xs.length (by omega)
  have hown : OwnW (w.alloc (.cells ((List.replicate xs.length 0).map wd).toArray 215)) w.heap.size (List.replicate xs.length 0) := heap_alloc_new w _
  have hbel : Below w.heap.size w (w.alloc (.cells ((List.replicate xs.length 0).map wd).toArray 215)) := (Below.refl _ _).alloc (Nat.le_refl _) _
  have hown2 := hown.below ((Below.refl _ _).alloc (Nat.le_refl _) (.cells #[.bool false, .slice none 0 0] 171))
  have hbel2 := hbel.alloc hbel.size (.cells #[.bool false, .slice none 0 0] 171)
  have hbig : BigFrom (w.heap.size + 2) ((w.alloc (.cells ((List.replicate xs.length 0).map wd).toArray 215)).alloc (.cells #[.bool false, .slice none 0 0] 171)) (w.alloc (.cells ((List.replicate xs.length 0).map wd).toArray 215)).heap.size false 0 := ⟨_, heap_alloc_new _ _, by rw [DG.dig_zero]; exact Ws.nil _, fun k hk => by cases hk⟩
  have hsz1 : (w.alloc (.cells ((List.replicate xs.length 0).map wd).toArray 215)).heap.size = w.heap.size + 1 := by simp
  rw [hsz1] at hbig
  clear hsz1
  generalize hxA : DG.val xs = A at *
  generalize hyY : DG.val ys = Y at *
  have HBIT := Lib.hid hbit
  have HST := Lib.hid hst
  have HGX := Lib.hid hgx
  have HRL := Lib.hid hRl
  have HYY := Lib.hid hyY
  have HYC := Lib.hid hYc
  have HOWN := Lib.hid hown2
  have HBEL := Lib.hid hbel2
  have HBIG := Lib.hid hbig
  clear ha hb hbit hA hst hgx hRl hYc hown hbel hown2 hbel2 hbig hxA hyY
  generalize hob : (Obj.cells ((List.replicate xs.length 0).map wd).toArray 215) = ob at *
  go_enter Tryz.func139, Tryz.ntmps139
  go_wp2_with fail
  generalize hw0 : (w.alloc ob).alloc (.cells #[.bool false, .slice none 0 0] 171) = w0 at *
  have HW0 := Lib.hid hw0
  clear hw0 hmk hob
  go_loopw [8] (fun k wr => ∃ (n R : Nat) (L : List Nat), k = .int .i64 ((n : Int) - 1) ∧ n ≤ 32 * xs.length ∧ Dvd A Y xs L R n ∧ OwnW wr w.heap.size L ∧ BigFrom (w.heap.size + 2) wr (w.heap.size + 1) false R ∧ Below w.heap.size w wr) (fun k _ => (intOf k + 1).toNat)
  case atStart => exact ⟨32 * xs.length, 0, _, by go_num, Nat.le_refl _, HST.out, HOWN.out, HBIG.out, HBEL.out⟩
  case round =>
    obtain ⟨n, R, L, rfl, hn, hD, hO, hB, hW⟩ := hrel
    rcases Nat.eq_zero_or_pos n with h0 | h0
    · subst h0
      have e0 : ((0 : Nat) : Int) - 1 = -1 := rfl
      rw [e0]
      obtain ⟨h1, h2, h3, h4⟩ := hD.done hY
      obtain ⟨v, hp, hv⟩ := hB.at
      have hws := hO.ws h3 (by omega)
      rw [h4] at hws
      have hc1 : wr.cell? ⟨w.heap.size + 1, 1, none⟩ = some v := by rw [cell_of_row _ _ _ _ _ _ hp]; rfl
      rw [h2] at hv
      have HV := Lib.hid hv
      have HWS := Lib.hid hws
      have HL := Lib.hid h1
      have hpl := lt_of_block hp
      have HC1 := Lib.hid hc1
      obtain ⟨co, cc, rfl⟩ := hv.slice
      clear e0 h1 h2 h3 h4 hp hv hws hO hD
      generalize (DG.dig (A % Y)).length = lr at *
      go_wp2_with fail
      rename_i HK
      refine wp_region_held_drew (S := fun w' => w'.cell? ⟨w.heap.size + 1, 1, none⟩ = some (.slice co lr cc)) (by kernel_rfl) HC1.out (fun hHeld => ?_)
      (refine rg_yes 0 ?v1 (by simp only [List.getElem?_toArray, List.getElem?_cons_succ, List.getElem?_cons_zero]; rfl) (by kernel_rfl) (by kernel_rfl) (by kernel_rfl) (by exact fun _ _ _ h => h) (by kernel_rfl) (by assumption) ?y1 ?z1; case y1 => (intro w hSw; (try dsimp only at hSw); go_simp; (try (rw [if_neg (by omega)])); (try with_reducible rfl)))
      (try simp only [Act.put, List.setIfInBounds_toArray, List.set_cons_zero, List.set_cons_succ])
      (refine rg_yes 1 ?v2 (by simp only [List.getElem?_toArray, List.getElem?_cons_succ, List.getElem?_cons_zero]; rfl) (by kernel_rfl) (by kernel_rfl) (by kernel_rfl) (by exact fun _ _ _ h => h) (by kernel_rfl) (by assumption) ?y2 ?z2; case y2 => (intro w hSw; (try dsimp only at hSw); go_simp; (try (rw [if_neg (by omega)])); (try with_reducible rfl)))
      (try simp only [Act.put, List.setIfInBounds_toArray, List.set_cons_zero, List.set_cons_succ])
      (refine rg_yes 2 ?v3 (by simp only [List.getElem?_toArray, List.getElem?_cons_succ, List.getElem?_cons_zero]; rfl) (by kernel_rfl) (by kernel_rfl) (by kernel_rfl) (by exact fun _ _ _ h => h) (by kernel_rfl) (by assumption) ?y3 ?z3; case y3 => (intro w hSw; (try dsimp only at hSw); go_simp; (try (rw [if_neg (by omega)])); (try with_reducible rfl)))
      (try simp only [Act.put, List.setIfInBounds_toArray, List.set_cons_zero, List.set_cons_succ])
      (refine rg_yes 3 ?v4 (by simp only [List.getElem?_toArray, List.getElem?_cons_succ, List.getElem?_cons_zero]; rfl) (by kernel_rfl) (by kernel_rfl) (by kernel_rfl) (by exact fun _ _ _ h => h) (by kernel_rfl) (by assumption) ?y4 ?z4; case y4 => (intro w hSw; (try dsimp only at hSw); go_simp; (try (rw [if_neg (by omega)])); (try with_reducible rfl)))
      (try simp only [Act.put, List.setIfInBounds_toArray, List.set_cons_zero, List.set_cons_succ])
      refine rg_yes 4 _ (by simp only [List.getElem?_toArray, List.getElem?_cons_succ, List.getElem?_cons_zero]; rfl) (by kernel_rfl) (by kernel_rfl) (by kernel_rfl) (by exact fun _ _ _ h => h) (by kernel_rfl) (by assumption) (by exact fun w' hS => (exec_load_at hS rfl rfl (fun w => by kernel_rfl))) ?_
      (try simp only [Act.put, List.setIfInBounds_toArray, List.set_cons_zero, List.set_cons_succ])
      (refine rg_yes 5 ?v5 (by simp only [List.getElem?_toArray, List.getElem?_cons_succ, List.getElem?_cons_zero]; rfl) (by kernel_rfl) (by kernel_rfl) (by kernel_rfl) (by exact fun _ _ _ h => h) (by kernel_rfl) (by assumption) ?y5 ?z5; case y5 => (intro w hSw; (try dsimp only at hSw); go_simp; (try (rw [if_neg (by omega)])); (try with_reducible rfl)))
      (try simp only [Act.put, List.setIfInBounds_toArray, List.set_cons_zero, List.set_cons_succ])
      (refine rg_yes 6 ?v6 (by simp only [List.getElem?_toArray, List.getElem?_cons_succ, List.getElem?_cons_zero]; rfl) (by kernel_rfl) (by kernel_rfl) (by kernel_rfl) (by exact fun _ _ _ h => h) (by kernel_rfl) (by assumption) ?y6 ?z6; case y6 => (intro w hSw; (try dsimp only at hSw); go_simp; (try (rw [if_neg (by omega)])); (try with_reducible rfl)))
      (try simp only [Act.put, List.setIfInBounds_toArray, List.set_cons_zero, List.set_cons_succ])
      refine wpAnyH_done (by kernel_rfl) ?_ _
      apply HK
      go_wp2_with fail
      go_ret2
      exact ⟨_, _, L, rfl, HWS.out, HL.out, HV.out, hW.drew⟩
    · obtain ⟨i, rfl⟩ : ∃ m, n = m + 1 := ⟨n - 1, by omega⟩
      have e1 : ((i + 1 : Nat) : Int) - 1 = (i : Int) := by omega
      rw [e1]
      have hge : decide ((i : Int) ≥ 0) = true := decide_eq_true (by omega)
      have hq : Int.tdiv (i : Int) 32 = ((i / 32 : Nat) : Int) := by rw [Int.tdiv_eq_ediv_of_nonneg (by omega)]; omega
      have hr : Int.tmod (i : Int) 32 = ((i % 32 : Nat) : Int) := by rw [Int.tmod_eq_emod_of_nonneg (by omega)]; omega
      have hil : i / 32 < xs.length := by omega
      have hR := HRL.out R (by obtain ⟨Q, _, _, _, h, _⟩ := hD; exact h)
      obtain ⟨v, hp, hv⟩ := hB.at
      have hlsh := lsh1_own (w.heap.size + 1) (w.heap.size + 1) _ _ R wr hp hB.at (by omega)
      have hpl := lt_of_block hp
      have HLSH := Lib.hid hlsh
      have HD := Lib.hid hD
      have HOKL := Lib.hid (show DG.Ok L by obtain ⟨Q, h, _⟩ := hD; exact h)
      have HO := Lib.hid hO
      have HWR := Lib.hid hW
      have HBB := Lib.hid hB.at
      obtain ⟨g, rfl, _⟩ := (HWA.out.below hW).cell hil
      clear e1 hp hv hlsh hO hB hW h0 hD
      go_wp2_with fail
      refine HLSH.out.mono ?_
      rintro e w1 ⟨rfl, hB1, hg1⟩
      replace hB1 := hB1.low (show w.heap.size + 2 ≤ wr.heap.size by omega)
      have hW1 := below_of_grown HWR.out HWR.out.size hg1 (by omega)
      have hO1 := HO.out.keep (HBB.out.keeps hg1)
      obtain ⟨g', hgg, hcx, _⟩ := (HWA.out.below hW1).cell hil
      obtain rfl : g = g' := by injection hgg with hgg; injection hgg
      unfold wd at hcx
      have hgx := HGX.out (i / 32)
      generalize hx : xs.getD (i / 32) 0 = x at *
      have hbe := HBIT.out i
      rw [hx] at hbe
      have hand : Go.bits .and .u32 ((x : Int) / 2 ^ (i % 32)) 1 = ((A / 2 ^ i % 2 : Nat) : Int) := by
        have e : ((x : Int) / 2 ^ (i % 32)) = ((x / 2 ^ (i % 32) : Nat) : Int) := by simp
        have hl2 : x / 2 ^ (i % 32) ≤ x := Nat.div_le_self ..
        rw [e]
        have := bits_mask .u32 32 (by decide) (fun n h0 h1 => by rw [IntKind.wrap_u32]; omega) 1 (by decide) ((x / 2 ^ (i % 32) : Nat) : Int) (Int.natCast_nonneg _) (by rw [show (2 : Int) ^ 32 = 4294967296 from rfl]; omega)
        rw [show ((2 : Int) ^ 1 - 1) = 1 from rfl, show ((2 : Int) ^ 1) = 2 from rfl] at this
        rw [this, ← hbe]
        omega
      have hless := HD.out.less
      have hmore := HD.out.more
      have hbl : A / 2 ^ i % 2 < 2 := Nat.mod_lt _ (by decide)
      generalize A / 2 ^ i % 2 = bt at *
      obtain ⟨v1, hp1, hv1⟩ := hB1.at
      have hw1s := lt_of_block hp1
      have hc1 : w1.cell? ⟨w.heap.size + 1, 1, none⟩ = some v1 := by rw [cell_of_row _ _ _ _ _ _ hp1]; rfl
      have hpl := fun w2 (h : Below w1.heap.size w1 w2) ys (hy : Ws w2 (.slice (some ⟨w1.heap.size, 0, none⟩) 1 1) ys) (hl : ys.length ≤ 30000) => plus_own w2 (hv1.below h) hy (by have := DG.len_double (x := 2 * R) (y := R) (by omega); omega)
      obtain ⟨d1, dc, rfl⟩ := hv1.slice
      have HLESS := Lib.hid hless
      have HMORE := Lib.hid hmore
      have HPL := Lib.hid hpl
      have HX := Lib.hid hx
      have HB1 := Lib.hid hB1
      have HO1 := Lib.hid hO1
      have HW1 := Lib.hid hW1
      have HC1 := Lib.hid hc1
      clear hB1 hO1 hW1 hx hgg hg1 hless hmore hbe hp1 hv1 hpl HD HO HWR HBB HLSH
      generalize (DG.dig (2 * R)).length = l1 at *
      rcases (by omega : bt = 0 ∨ bt = 1) with hb0 | hb1
      · subst hb0
        have hb0 : (((0 : Nat) : Int) == 1) = false := rfl
        obtain ⟨wm, hwm⟩ : ∃ wm, wm = w1 := ⟨_, rfl⟩
        subst hwm
        have HBm := HB1
        have HOm := HO1
        have HWm := HW1
        clear HB1 HO1 HW1 HC1 HPL hc1
        obtain ⟨vm, hpm, hvm⟩ := HBm.out.at
        have hcm : wm.cell? ⟨w.heap.size + 1, 1, none⟩ = some vm := by rw [cell_of_row _ _ _ _ _ _ hpm]; rfl
        have hord := order_any wm hvm (HWB.out.below HWm.out)
        rw [DG.val_dig, HYY.out] at hord
        have hdl := lt_of_block hpm
        by_cases hle : Y ≤ 2 * R + 0
        · have hcmp : decide (DG.cmpN (2 * R + 0) Y ≥ 0) = true := decide_eq_true (by
            unfold DG.cmpN
            rw [if_neg (show ¬ 2 * R + 0 < Y by omega)]
            split <;> decide)
          have hmin := fun w2 (h : Below wm.heap.size wm w2) => minus_own w2 (hvm.below h) ((HWB.out.below HWm.out).below h) (by rw [DG.val_dig, HYY.out]; exact hle) (by rw [HYC.out]; exact DG.len_mono hle)
          rw [DG.val_dig, HYY.out] at hmin
          have hto := fun w2 v zs (h : Below wm.heap.size wm w2) (hz : Ws w2 v zs) hB => to_own (v := v) (ds := zs) (w.heap.size + 2) false w2 ((h.block _ hdl).trans hpm) hz hB
          obtain ⟨hor1, hD2⟩ := HMORE.out hle hil
          have hLl : i / 32 < L.length := by
            obtain ⟨Q, _, h, _⟩ := hD2
            rw [List.length_set] at h
            omega
          obtain ⟨dm, dmc, rfl⟩ := hvm.slice
          have HORD := Lib.hid hord
          have HMIN := Lib.hid hmin
          have HTO := Lib.hid hto
          have HD2 := Lib.hid hD2
          clear hpm hvm hord hmin hto hD2 hle
          generalize (DG.dig (2 * R + 0)).length = lm at *
          generalize DG.cmpN (2 * R + 0) Y = cmp at *
          go_wp2_with fail
          refine HORD.out.mono ?_
          rintro e wm ⟨rfl, rfl⟩
          go_wp2_with fail
          refine (HMIN.out _ (Below.refl _ _)).mono ?_
          rintro e w5 ⟨v5, zs, rfl, hz, hzl, hzv, hb5, hz5⟩
          clear hzl
          obtain ⟨d5, dc5, rfl⟩ := hz.slice
          have hto5 := HTO.out w5 _ _ hb5 hz (fun k hk => by have := hz5 k hk; omega)
          clear hz5
          rw [hzv, Bool.false_and] at hto5
          have HT5 := Lib.hid hto5
          have HB5 := Lib.hid hb5
          have HBm5 := Lib.hid (HBm.out.at.below hb5)
          have HOm5 := Lib.hid (HOm.out.below hb5)
          have HWm5 := Lib.hid (HWm.out.trans (hb5.mono HWm.out.size))
          clear hto5 hb5 hz hzv
          generalize zs.length = lz at *
          go_wp2_with fail
          refine HT5.out.mono ?_
          rintro e w6 ⟨rfl, h1, h2⟩
          have hW6 := (below_of_grown HWm5.out HWm5.out.size h2 (by omega)).drew
          have hO6 := (HOm5.out.keep (HBm5.out.keeps h2)).below (Below.refl w6.heap.size w6).drew
          have h1d := h1.below (Below.refl w6.heap.size w6).drew
          obtain ⟨hz1, hz2⟩ := hO6.cell (i := i / 32) hLl
          have hset := hO6.set (i / 32) (L.getD (i / 32) 0 ||| 2 ^ (i % 32))
          have hW7 : Below w.heap.size w (w6.drew.setCell ⟨w.heap.size, i / 32, none⟩ (wd (L.getD (i / 32) 0 ||| 2 ^ (i % 32)))) := hW6.setCell (Nat.le_refl _) _
          have hB7 : BigFrom (w.heap.size + 2) (w6.drew.setCell ⟨w.heap.size, i / 32, none⟩ (wd (L.getD (i / 32) 0 ||| 2 ^ (i % 32)))) (w.heap.size + 1) false (2 * R + 0 - Y) := h1d.past (g := w.heap.size) (by omega) (by omega) fun k hk => heap_setCell_other _ _ _ _ hk
          unfold wd at hz1 hset hW7 hB7
          have hor2 := shl_or (L.getD (i / 32) 0) (i % 32) (HOKL.out.get _) (by omega)
          have HOR2 := Lib.hid hor2
          clear hor2
          have H6 := Lib.hid h1
          have HO7 := Lib.hid hset
          have HW7 := Lib.hid hW7
          have HB7 := Lib.hid hB7
          clear h1 h1d h2 hW6 hO6 hset hW7 hB7
          generalize L.getD (i / 32) 0 ||| 2 ^ (i % 32) = d at *
          generalize L.getD (i / 32) 0 = l at *
          have hr32 : i % 32 < 32 := by omega
          generalize i / 32 = j at *
          generalize i % 32 = r at *
          go_wp2_with fail
          refine wp_region_till (k := 10) (S := fun w' => w'.cell? ⟨w.heap.size, j, none⟩ = some (.int .u32 (l : Int))) (by kernel_rfl) ?_
          have hHeld : w6.drew.cell? ⟨w.heap.size, j, none⟩ = some (.int .u32 (l : Int)) := hz1
          have hwj : IntKind.i64.wrap (j : Int) = (j : Int) := IntWalk.i64_in _ (by omega)
          have hwr : IntKind.i64.wrap (r : Int) = (r : Int) := IntWalk.i64_in _ (by omega)
          (refine rt_yes 0 ?v7 (by simp only [List.getElem?_toArray, List.getElem?_cons_succ, List.getElem?_cons_zero]; rfl) (by kernel_rfl) (by kernel_rfl) (by kernel_rfl) (by kernel_rfl) (by exact fun _ _ _ h => h) (by kernel_rfl) (by exact fun _ => hHeld) ?y7 ?z7; case y7 => (intro w; go_simp; (try (rw [if_neg (by omega)])); (try with_reducible rfl)))
          (try simp only [Act.put, List.setIfInBounds_toArray, List.set_cons_zero, List.set_cons_succ])
          (refine rt_yes 1 ?v8 (by simp only [List.getElem?_toArray, List.getElem?_cons_succ, List.getElem?_cons_zero]; rfl) (by kernel_rfl) (by kernel_rfl) (by kernel_rfl) (by kernel_rfl) (by exact fun _ _ _ h => h) (by kernel_rfl) (by exact fun _ => hHeld) ?y8 ?z8; case y8 => (intro w; go_simp; (try (rw [if_neg (by omega)])); (try with_reducible rfl)))
          (try simp only [Act.put, List.setIfInBounds_toArray, List.set_cons_zero, List.set_cons_succ])
          (refine rt_yes 2 ?v9 (by simp only [List.getElem?_toArray, List.getElem?_cons_succ, List.getElem?_cons_zero]; rfl) (by kernel_rfl) (by kernel_rfl) (by kernel_rfl) (by kernel_rfl) (by exact fun _ _ _ h => h) (by kernel_rfl) (by exact fun _ => hHeld) ?y9 ?z9; case y9 => (intro w; go_simp; (try (rw [if_neg (by omega)])); (try with_reducible rfl)))
          (try simp only [Act.put, List.setIfInBounds_toArray, List.set_cons_zero, List.set_cons_succ])
          (refine rt_yes 3 ?v10 (by simp only [List.getElem?_toArray, List.getElem?_cons_succ, List.getElem?_cons_zero]; rfl) (by kernel_rfl) (by kernel_rfl) (by kernel_rfl) (by kernel_rfl) (by exact fun _ _ _ h => h) (by kernel_rfl) (by exact fun _ => hHeld) ?y10 ?z10; case y10 => (intro w; go_simp; (try (rw [if_neg (by omega)])); (try with_reducible rfl)))
          (try simp only [Act.put, List.setIfInBounds_toArray, List.set_cons_zero, List.set_cons_succ])
          refine rt_load 4 _ (by simp only [List.getElem?_toArray, List.getElem?_cons_succ, List.getElem?_cons_zero]; rfl) (by kernel_rfl) (by kernel_rfl) (by kernel_rfl) (by kernel_rfl) (by kernel_rfl) (by kernel_rfl) (by exact fun _ _ _ h => h) (by kernel_rfl) hHeld (fun w' hS => (exec_load_at hS rfl rfl (fun w => by kernel_rfl))) ?_
          (try simp only [Act.put, List.setIfInBounds_toArray, List.set_cons_zero, List.set_cons_succ])
          (refine rt_yes 5 ?v11 (by simp only [List.getElem?_toArray, List.getElem?_cons_succ, List.getElem?_cons_zero]; rfl) (by kernel_rfl) (by kernel_rfl) (by kernel_rfl) (by kernel_rfl) (by exact fun _ _ _ h => h) (by kernel_rfl) (by exact fun _ => hHeld) ?y11 ?z11; case y11 => (intro w; go_simp; (try (rw [if_neg (by omega)])); (try with_reducible rfl)))
          (try simp only [Act.put, List.setIfInBounds_toArray, List.set_cons_zero, List.set_cons_succ])
          (refine rt_yes 6 ?v12 (by simp only [List.getElem?_toArray, List.getElem?_cons_succ, List.getElem?_cons_zero]; rfl) (by kernel_rfl) (by kernel_rfl) (by kernel_rfl) (by kernel_rfl) (by exact fun _ _ _ h => h) (by kernel_rfl) (by exact fun _ => hHeld) ?y12 ?z12; case y12 => (intro w; go_simp; (try (rw [if_neg (by omega)])); (try with_reducible rfl)))
          (try simp only [Act.put, List.setIfInBounds_toArray, List.set_cons_zero, List.set_cons_succ])
          (refine rt_yes 7 ?v13 (by simp only [List.getElem?_toArray, List.getElem?_cons_succ, List.getElem?_cons_zero]; rfl) (by kernel_rfl) (by kernel_rfl) (by kernel_rfl) (by kernel_rfl) (by exact fun _ _ _ h => h) (by kernel_rfl) (by exact fun _ => hHeld) ?y13 ?z13; case y13 => (intro w; go_simp; (try (rw [if_neg (by omega)])); (try with_reducible rfl)))
          (try simp only [Act.put, List.setIfInBounds_toArray, List.set_cons_zero, List.set_cons_succ])
          (refine rt_yes 8 ?v14 (by simp only [List.getElem?_toArray, List.getElem?_cons_succ, List.getElem?_cons_zero]; rfl) (by kernel_rfl) (by kernel_rfl) (by kernel_rfl) (by kernel_rfl) (by exact fun _ _ _ h => h) (by kernel_rfl) (by exact fun _ => hHeld) ?y14 ?z14; case y14 => (intro w; go_simp; (try (rw [if_neg (by omega)])); (try with_reducible rfl)))
          (try simp only [Act.put, List.setIfInBounds_toArray, List.set_cons_zero, List.set_cons_succ])
          rw [HOR2.out]
          (refine rt_yes 9 ?v15 (by simp only [List.getElem?_toArray, List.getElem?_cons_succ, List.getElem?_cons_zero]; rfl) (by kernel_rfl) (by kernel_rfl) (by kernel_rfl) (by kernel_rfl) (by exact fun _ _ _ h => h) (by kernel_rfl) (by exact fun _ => hHeld) ?y15 ?z15; case y15 => (intro w; go_simp; (try (rw [if_neg (by omega)])); (try with_reducible rfl)))
          (try simp only [Act.put, List.setIfInBounds_toArray, List.set_cons_zero, List.set_cons_succ])
          refine rt_skip 10 (w6.drew.setCell ⟨w.heap.size, j, none⟩ (.int .u32 (d : Int))) (by simp only [List.getElem?_toArray, List.getElem?_cons_succ, List.getElem?_cons_zero]; rfl) (by kernel_rfl) (by kernel_rfl) (by go_simp) (till_past (by kernel_rfl)) ?_
          (try simp only [Act.put, List.setIfInBounds_toArray, List.set_cons_zero, List.set_cons_succ])
          refine rt_done (by kernel_rfl) ?_ _
          generalize w6.drew.setCell ⟨w.heap.size, j, none⟩ (.int .u32 (d : Int)) = w9 at *
          clear hHeld
          go_wp2_with fail
          exact ⟨⟨i, _, _, by go_num, by omega, HD2.out, HO7.out, HB7.out, HW7.out⟩, by simp [intOf] <;> omega⟩
        · have hcmp : decide (DG.cmpN (2 * R + 0) Y ≥ 0) = false := decide_eq_false (by
            unfold DG.cmpN
            rw [if_pos (show 2 * R + 0 < Y by omega)]
            decide)
          have HD2 := Lib.hid (HLESS.out (by omega))
          obtain ⟨dm, dmc, rfl⟩ := hvm.slice
          have HORD := Lib.hid hord
          clear hpm hvm hord hle
          generalize (DG.dig (2 * R + 0)).length = lm at *
          generalize DG.cmpN (2 * R + 0) Y = cmp at *
          go_wp2_with fail
          refine HORD.out.mono ?_
          rintro e wm ⟨rfl, rfl⟩
          go_wp2_with fail
          exact ⟨⟨i, _, L, by go_num, by omega, HD2.out, HOm.out, HBm.out, HWm.out⟩, by simp [intOf] <;> omega⟩
      · subst hb1
        have hb0 : (((1 : Nat) : Int) == 1) = true := rfl
        have hone : Ws (w1.alloc (.cells #[.int .u32 1] 215)) (.slice (some ⟨w1.heap.size, 0, none⟩) 1 1) [1] := ⟨_, _, rfl, by simp, by simp, DG.Ok.nil.cons (by decide), .inr ⟨w1.heap.size, _, rfl, heap_alloc_new w1 _, fun i hi => by
          match i, hi with
          | 0, _ => rfl⟩⟩
        have hb1 : Below w1.heap.size w1 (w1.alloc (.cells #[.int .u32 1] 215)) := (Below.refl _ _).alloc (Nat.le_refl _) _
        have hpl1 := HPL.out _ hb1 [1] hone (by simp)
        rw [DG.val_dig, show DG.val [1] = 1 from rfl] at hpl1
        have HPL1 := Lib.hid hpl1
        have HBL1 := Lib.hid hb1
        clear hpl1 hone hb1 HPL
        go_wp2_with fail
        refine HPL1.out.mono ?_
        rintro e w2 ⟨v2, zs, rfl, hz, hzv, hb2, hz5⟩
        have hb3 : Below w1.heap.size w1 w2 := HBL1.out.trans (hb2.mono HBL1.out.size)
        have hBB := HB1.out.at.below hb3
        obtain ⟨va2, hpa, _⟩ := id hBB
        have hto2 := to_own (w.heap.size + 2) false w2 hpa hz (fun k hk => by have := hz5 k hk; simp at this; omega)
        clear hz5
        rw [hzv, Bool.false_and] at hto2
        have HT2 := Lib.hid hto2
        have HBB2 := Lib.hid hBB
        have HO2 := Lib.hid (HO1.out.below hb3)
        have HW2 := Lib.hid (HW1.out.trans (hb3.mono HW1.out.size))
        obtain ⟨d2, dc2, rfl⟩ := hz.slice
        clear hto2 hBB hpa hb2 hb3 hz hzv
        generalize zs.length = lz at *
        go_wp2_with fail
        refine HT2.out.mono ?_
        rintro e wm ⟨rfl, h1, h2⟩
        have HBm := Lib.hid h1
        have HWm := Lib.hid (below_of_grown HW2.out HW2.out.size h2 (by omega))
        have HOm := Lib.hid (HO2.out.keep (HBB2.out.keeps h2))
        clear h1 h2 HBB2 HO2 HW2 HT2 HBL1 HPL1 HB1 HO1 HW1
        obtain ⟨vm, hpm, hvm⟩ := HBm.out.at
        have hcm : wm.cell? ⟨w.heap.size + 1, 1, none⟩ = some vm := by rw [cell_of_row _ _ _ _ _ _ hpm]; rfl
        have hord := order_any wm hvm (HWB.out.below HWm.out)
        rw [DG.val_dig, HYY.out] at hord
        have hdl := lt_of_block hpm
        by_cases hle : Y ≤ 2 * R + 1
        · have hcmp : decide (DG.cmpN (2 * R + 1) Y ≥ 0) = true := decide_eq_true (by
            unfold DG.cmpN
            rw [if_neg (show ¬ 2 * R + 1 < Y by omega)]
            split <;> decide)
          have hmin := fun w2 (h : Below wm.heap.size wm w2) => minus_own w2 (hvm.below h) ((HWB.out.below HWm.out).below h) (by rw [DG.val_dig, HYY.out]; exact hle) (by rw [HYC.out]; exact DG.len_mono hle)
          rw [DG.val_dig, HYY.out] at hmin
          have hto := fun w2 v zs (h : Below wm.heap.size wm w2) (hz : Ws w2 v zs) hB => to_own (v := v) (ds := zs) (w.heap.size + 2) false w2 ((h.block _ hdl).trans hpm) hz hB
          obtain ⟨hor1, hD2⟩ := HMORE.out hle hil
          have hLl : i / 32 < L.length := by
            obtain ⟨Q, _, h, _⟩ := hD2
            rw [List.length_set] at h
            omega
          obtain ⟨dm, dmc, rfl⟩ := hvm.slice
          have HORD := Lib.hid hord
          have HMIN := Lib.hid hmin
          have HTO := Lib.hid hto
          have HD2 := Lib.hid hD2
          clear hpm hvm hord hmin hto hD2 hle
          generalize (DG.dig (2 * R + 1)).length = lm at *
          generalize DG.cmpN (2 * R + 1) Y = cmp at *
          go_wp2_with fail
          refine HORD.out.mono ?_
          rintro e wm ⟨rfl, rfl⟩
          go_wp2_with fail
          refine (HMIN.out _ (Below.refl _ _)).mono ?_
          rintro e w5 ⟨v5, zs, rfl, hz, hzl, hzv, hb5, hz5⟩
          clear hzl
          obtain ⟨d5, dc5, rfl⟩ := hz.slice
          have hto5 := HTO.out w5 _ _ hb5 hz (fun k hk => by have := hz5 k hk; omega)
          clear hz5
          rw [hzv, Bool.false_and] at hto5
          have HT5 := Lib.hid hto5
          have HB5 := Lib.hid hb5
          have HBm5 := Lib.hid (HBm.out.at.below hb5)
          have HOm5 := Lib.hid (HOm.out.below hb5)
          have HWm5 := Lib.hid (HWm.out.trans (hb5.mono HWm.out.size))
          clear hto5 hb5 hz hzv
          generalize zs.length = lz at *
          go_wp2_with fail
          refine HT5.out.mono ?_
          rintro e w6 ⟨rfl, h1, h2⟩
          have hW6 := (below_of_grown HWm5.out HWm5.out.size h2 (by omega)).drew
          have hO6 := (HOm5.out.keep (HBm5.out.keeps h2)).below (Below.refl w6.heap.size w6).drew
          have h1d := h1.below (Below.refl w6.heap.size w6).drew
          obtain ⟨hz1, hz2⟩ := hO6.cell (i := i / 32) hLl
          have hset := hO6.set (i / 32) (L.getD (i / 32) 0 ||| 2 ^ (i % 32))
          have hW7 : Below w.heap.size w (w6.drew.setCell ⟨w.heap.size, i / 32, none⟩ (wd (L.getD (i / 32) 0 ||| 2 ^ (i % 32)))) := hW6.setCell (Nat.le_refl _) _
          have hB7 : BigFrom (w.heap.size + 2) (w6.drew.setCell ⟨w.heap.size, i / 32, none⟩ (wd (L.getD (i / 32) 0 ||| 2 ^ (i % 32)))) (w.heap.size + 1) false (2 * R + 1 - Y) := h1d.past (g := w.heap.size) (by omega) (by omega) fun k hk => heap_setCell_other _ _ _ _ hk
          unfold wd at hz1 hset hW7 hB7
          have hor2 := shl_or (L.getD (i / 32) 0) (i % 32) (HOKL.out.get _) (by omega)
          have HOR2 := Lib.hid hor2
          clear hor2
          have H6 := Lib.hid h1
          have HO7 := Lib.hid hset
          have HW7 := Lib.hid hW7
          have HB7 := Lib.hid hB7
          clear h1 h1d h2 hW6 hO6 hset hW7 hB7
          generalize L.getD (i / 32) 0 ||| 2 ^ (i % 32) = d at *
          generalize L.getD (i / 32) 0 = l at *
          have hr32 : i % 32 < 32 := by omega
          generalize i / 32 = j at *
          generalize i % 32 = r at *
          go_wp2_with fail
          refine wp_region_till (k := 10) (S := fun w' => w'.cell? ⟨w.heap.size, j, none⟩ = some (.int .u32 (l : Int))) (by kernel_rfl) ?_
          have hHeld : w6.drew.cell? ⟨w.heap.size, j, none⟩ = some (.int .u32 (l : Int)) := hz1
          have hwj : IntKind.i64.wrap (j : Int) = (j : Int) := IntWalk.i64_in _ (by omega)
          have hwr : IntKind.i64.wrap (r : Int) = (r : Int) := IntWalk.i64_in _ (by omega)
          (refine rt_yes 0 ?v16 (by simp only [List.getElem?_toArray, List.getElem?_cons_succ, List.getElem?_cons_zero]; rfl) (by kernel_rfl) (by kernel_rfl) (by kernel_rfl) (by kernel_rfl) (by exact fun _ _ _ h => h) (by kernel_rfl) (by exact fun _ => hHeld) ?y16 ?z16; case y16 => (intro w; go_simp; (try (rw [if_neg (by omega)])); (try with_reducible rfl)))
          (try simp only [Act.put, List.setIfInBounds_toArray, List.set_cons_zero, List.set_cons_succ])
          (refine rt_yes 1 ?v17 (by simp only [List.getElem?_toArray, List.getElem?_cons_succ, List.getElem?_cons_zero]; rfl) (by kernel_rfl) (by kernel_rfl) (by kernel_rfl) (by kernel_rfl) (by exact fun _ _ _ h => h) (by kernel_rfl) (by exact fun _ => hHeld) ?y17 ?z17; case y17 => (intro w; go_simp; (try (rw [if_neg (by omega)])); (try with_reducible rfl)))
          (try simp only [Act.put, List.setIfInBounds_toArray, List.set_cons_zero, List.set_cons_succ])
          (refine rt_yes 2 ?v18 (by simp only [List.getElem?_toArray, List.getElem?_cons_succ, List.getElem?_cons_zero]; rfl) (by kernel_rfl) (by kernel_rfl) (by kernel_rfl) (by kernel_rfl) (by exact fun _ _ _ h => h) (by kernel_rfl) (by exact fun _ => hHeld) ?y18 ?z18; case y18 => (intro w; go_simp; (try (rw [if_neg (by omega)])); (try with_reducible rfl)))
          (try simp only [Act.put, List.setIfInBounds_toArray, List.set_cons_zero, List.set_cons_succ])
          (refine rt_yes 3 ?v19 (by simp only [List.getElem?_toArray, List.getElem?_cons_succ, List.getElem?_cons_zero]; rfl) (by kernel_rfl) (by kernel_rfl) (by kernel_rfl) (by kernel_rfl) (by exact fun _ _ _ h => h) (by kernel_rfl) (by exact fun _ => hHeld) ?y19 ?z19; case y19 => (intro w; go_simp; (try (rw [if_neg (by omega)])); (try with_reducible rfl)))
          (try simp only [Act.put, List.setIfInBounds_toArray, List.set_cons_zero, List.set_cons_succ])
          refine rt_load 4 _ (by simp only [List.getElem?_toArray, List.getElem?_cons_succ, List.getElem?_cons_zero]; rfl) (by kernel_rfl) (by kernel_rfl) (by kernel_rfl) (by kernel_rfl) (by kernel_rfl) (by kernel_rfl) (by exact fun _ _ _ h => h) (by kernel_rfl) hHeld (fun w' hS => (exec_load_at hS rfl rfl (fun w => by kernel_rfl))) ?_
          (try simp only [Act.put, List.setIfInBounds_toArray, List.set_cons_zero, List.set_cons_succ])
          (refine rt_yes 5 ?v20 (by simp only [List.getElem?_toArray, List.getElem?_cons_succ, List.getElem?_cons_zero]; rfl) (by kernel_rfl) (by kernel_rfl) (by kernel_rfl) (by kernel_rfl) (by exact fun _ _ _ h => h) (by kernel_rfl) (by exact fun _ => hHeld) ?y20 ?z20; case y20 => (intro w; go_simp; (try (rw [if_neg (by omega)])); (try with_reducible rfl)))
          (try simp only [Act.put, List.setIfInBounds_toArray, List.set_cons_zero, List.set_cons_succ])
          (refine rt_yes 6 ?v21 (by simp only [List.getElem?_toArray, List.getElem?_cons_succ, List.getElem?_cons_zero]; rfl) (by kernel_rfl) (by kernel_rfl) (by kernel_rfl) (by kernel_rfl) (by exact fun _ _ _ h => h) (by kernel_rfl) (by exact fun _ => hHeld) ?y21 ?z21; case y21 => (intro w; go_simp; (try (rw [if_neg (by omega)])); (try with_reducible rfl)))
          (try simp only [Act.put, List.setIfInBounds_toArray, List.set_cons_zero, List.set_cons_succ])
          (refine rt_yes 7 ?v22 (by simp only [List.getElem?_toArray, List.getElem?_cons_succ, List.getElem?_cons_zero]; rfl) (by kernel_rfl) (by kernel_rfl) (by kernel_rfl) (by kernel_rfl) (by exact fun _ _ _ h => h) (by kernel_rfl) (by exact fun _ => hHeld) ?y22 ?z22; case y22 => (intro w; go_simp; (try (rw [if_neg (by omega)])); (try with_reducible rfl)))
          (try simp only [Act.put, List.setIfInBounds_toArray, List.set_cons_zero, List.set_cons_succ])
          (refine rt_yes 8 ?v23 (by simp only [List.getElem?_toArray, List.getElem?_cons_succ, List.getElem?_cons_zero]; rfl) (by kernel_rfl) (by kernel_rfl) (by kernel_rfl) (by kernel_rfl) (by exact fun _ _ _ h => h) (by kernel_rfl) (by exact fun _ => hHeld) ?y23 ?z23; case y23 => (intro w; go_simp; (try (rw [if_neg (by omega)])); (try with_reducible rfl)))
          (try simp only [Act.put, List.setIfInBounds_toArray, List.set_cons_zero, List.set_cons_succ])
          rw [HOR2.out]
          (refine rt_yes 9 ?v24 (by simp only [List.getElem?_toArray, List.getElem?_cons_succ, List.getElem?_cons_zero]; rfl) (by kernel_rfl) (by kernel_rfl) (by kernel_rfl) (by kernel_rfl) (by exact fun _ _ _ h => h) (by kernel_rfl) (by exact fun _ => hHeld) ?y24 ?z24; case y24 => (intro w; go_simp; (try (rw [if_neg (by omega)])); (try with_reducible rfl)))
          (try simp only [Act.put, List.setIfInBounds_toArray, List.set_cons_zero, List.set_cons_succ])
          refine rt_skip 10 (w6.drew.setCell ⟨w.heap.size, j, none⟩ (.int .u32 (d : Int))) (by simp only [List.getElem?_toArray, List.getElem?_cons_succ, List.getElem?_cons_zero]; rfl) (by kernel_rfl) (by kernel_rfl) (by go_simp) (till_past (by kernel_rfl)) ?_
          (try simp only [Act.put, List.setIfInBounds_toArray, List.set_cons_zero, List.set_cons_succ])
          refine rt_done (by kernel_rfl) ?_ _
          generalize w6.drew.setCell ⟨w.heap.size, j, none⟩ (.int .u32 (d : Int)) = w9 at *
          clear hHeld
          go_wp2_with fail
          exact ⟨⟨i, _, _, by go_num, by omega, HD2.out, HO7.out, HB7.out, HW7.out⟩, by simp [intOf] <;> omega⟩
        · have hcmp : decide (DG.cmpN (2 * R + 1) Y ≥ 0) = false := decide_eq_false (by
            unfold DG.cmpN
            rw [if_pos (show 2 * R + 1 < Y by omega)]
            decide)
          have HD2 := Lib.hid (HLESS.out (by omega))
          obtain ⟨dm, dmc, rfl⟩ := hvm.slice
          have HORD := Lib.hid hord
          clear hpm hvm hord hle
          generalize (DG.dig (2 * R + 1)).length = lm at *
          generalize DG.cmpN (2 * R + 1) Y = cmp at *
          go_wp2_with fail
          refine HORD.out.mono ?_
          rintro e wm ⟨rfl, rfl⟩
          go_wp2_with fail
          exact ⟨⟨i, _, L, by go_num, by omega, HD2.out, HOm.out, HBm.out, HWm.out⟩, by simp [intOf] <;> omega⟩
end Go.Proofs.YtmepjcnpbjdlkaaGreatDoor
