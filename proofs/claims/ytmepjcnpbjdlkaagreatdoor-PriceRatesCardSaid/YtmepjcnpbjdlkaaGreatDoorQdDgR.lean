/- texts of this claim, laid together: DgR, DgS, DgT. -/
import Derived.Test.YtmepjcnpbjdlkaaGreatDoorQdPPriceCleanx5
import Derived.Test.YtmepjcnpbjdlkaaGreatDoorQdDig
import Derived.Laws.BitsLemmas
/- what the document's functions over lists of digits (as they are printed) come to, in numbers: plain. -/
namespace Go.Proofs.YtmepjcnpbjdlkaaGreatDoor
set_option linter.unusedVariables false
set_option linter.unusedSimpArgs false
open Go.RowKit Go.Proofs.YtmepjcnpbjdlkaaGreatDoorW.PrintWords Go.Proofs.YtmepjcnpbjdlkaaGreatDoorW.PrintLast Go.Proofs.YtmepjcnpbjdlkaaGreatDoorW.PrintMore
namespace DG
open PPriceClean
/-- digits as Go's whole numbers -/
def I (ds : List Nat) : List Int := ds.map fun d : Nat => (d : Int)
theorem I_len (ds : List Nat) : (I ds).length = ds.length := List.length_map ..
theorem I_app (xs ys : List Nat) : I xs ++ I ys = I (xs ++ ys) := (List.map_append ..).symm
theorem I_snoc (xs : List Nat) (y : Nat) : I xs ++ [(y : Int)] = I (xs ++ [y]) := I_app xs [y]
theorem I_take (xs : List Nat) (n : Nat) : (I xs).take n = I (xs.take n) := (List.map_take ..).symm
theorem rd_I (ds : List Nat) (n : Nat) : rd (I ds) (n : Int) = ((ds.getD n 0 : Nat) : Int) := by
  unfold rd I
  rw [List.getD_eq_getElem?_getD, List.getD_eq_getElem?_getD, List.getElem?_map, Int.toNat_natCast]
  cases ds[n]? <;> rfl
theorem w64 {i : Int} (h : -9223372036854775808 ≤ i) (h2 : i < 9223372036854775808) : wrap64 i = i := by unfold wrap64; omega
theorem wu_ {n : Int} (h0 : 0 ≤ n) (h1 : n < 18446744073709551616) : IntKind.u64.wrap n = n := by simp [IntKind.wrap, IntKind.bits, IntKind.signed]; omega
theorem wu {n : Nat} (h : n < 18446744073709551616) : IntKind.u64.wrap (n : Int) = (n : Int) := wu_ (by omega) (by omega)
theorem and32 {n : Nat} (h : n < 18446744073709551616) : Go.bits .and .u64 (n : Int) 4294967295 = ((n % b : Nat) : Int) := by
  have := bits_mask .u64 64 (by decide) (fun n h0 h1 => wu_ h0 (by simpa using h1)) 32 (by decide) (n : Int) (by omega) (by norm_cast)
  simp only [b_eq]
  have e : ((2 : Int) ^ 32 - 1) = 4294967295 := by decide
  rw [e] at this
  rw [this]
  omega
theorem div32 (n : Nat) : ((n : Int) / 4294967296) = ((n / b : Nat) : Int) := by rw [b_eq]; omega

theorem trim_l {ds : List Nat} (h : Ok ds) (hl : ds.length ≤ 1000000) : ∀ n, n ≤ ds.length → (∀ i, n ≤ i → ds.getD i 0 = 0) → ∀ k, n < k → custodyref04_Trim.l0 k (I ds) (n : Int) = some (I (dig (val ds))) := by
  intro n
  induction n with
  | zero =>
    intro hn hz k hk
    obtain ⟨k, rfl⟩ : ∃ m, k = m + 1 := ⟨k - 1, by omega⟩
    simp only [custodyref04_Trim.l0]
    rw [if_neg (by omega), if_pos (by omega), if_pos (by omega)]
    rw [← dig_take h hn hz (.inl rfl), I_take]
    rfl
  | succ n ih =>
    intro hn hz k hk
    obtain ⟨k, rfl⟩ : ∃ m, k = m + 1 := ⟨k - 1, by omega⟩
    simp only [custodyref04_Trim.l0]
    have e : wrap64 (((n + 1 : Nat) : Int) - 1) = (n : Int) := by rw [w64 (by omega) (by omega)]; omega
    rw [if_pos (by omega), e, if_pos (by omega), if_pos (by rw [I_len]; omega), rd_I]
    by_cases h0 : ds.getD n 0 = 0
    · rw [if_pos (by omega)]
      refine ih (by omega) (fun i hi => ?_) k (by omega)
      rcases Nat.lt_or_ge n i with h1 | h1
      · exact hz i h1
      · have : i = n := by omega
        subst this; exact h0
    · rw [if_neg (by omega), if_pos (by omega), if_pos (by rw [I_len]; omega)]
      rw [← dig_take h hn hz (.inr h0), I_take]
      rfl
theorem trim_f {ds : List Nat} (h : Ok ds) (hl : ds.length ≤ 1000000) {k : Nat} (hk : ds.length < k) : custodyref04_Trim.f k (I ds) = some (I (dig (val ds))) := by
  unfold custodyref04_Trim.f
  rw [I_len]
  refine trim_l h hl ds.length (Nat.le_refl _) (fun i hi => ?_) k hk
  rw [List.getD_eq_getElem?_getD, List.getElem?_eq_none hi]; rfl
theorem trim_ev {ds : List Nat} (h : Ok ds) (hl : ds.length ≤ 1000000) : Ev (fun k => custodyref04_Trim.f k (I ds)) (I (dig (val ds))) := ⟨ds.length + 1, fun k hk => trim_f h hl (by omega)⟩
theorem list_ev {x : Nat} (hx : x < 18446744073709551616) : Ev (fun k => custodyref04_List.f k (x : Int)) (I (dig x)) := by
  unfold custodyref04_List.f
  rw [and32 hx, div32]
  have ho : Ok [x % b, x / b] := (Ok.nil.cons (by rw [b_eq]; omega)).cons (Nat.mod_lt _ b_pos)
  have := trim_ev ho (by simp)
  have e : val [x % b, x / b] = x := by simp only [val]; rw [Nat.mul_zero, Nat.add_zero]; exact Nat.mod_add_div x b
  rw [e] at this
  exact Ev.bind this (Ev.now _)

theorem cmp_l {x y : Nat} (hl : (dig x).length ≤ 1000000) (he : (dig x).length = (dig y).length) : ∀ n, n ≤ (dig x).length → (∀ i, n ≤ i → (dig x).getD i 0 = (dig y).getD i 0) → ∀ k, n < k → custodyref04_Cmp.l0 k (I (dig x)) (I (dig y)) ((n : Int) - 1) = some (cmpN x y) := by
  intro n
  induction n with
  | zero =>
    intro hn hz k hk
    obtain ⟨k, rfl⟩ : ∃ m, k = m + 1 := ⟨k - 1, by omega⟩
    simp only [custodyref04_Cmp.l0]
    rw [if_neg (by omega)]
    have := eq_of_all (xs := dig x) (ys := dig y) fun i => hz i (by omega)
    rw [val_dig, val_dig] at this
    unfold cmpN
    rw [if_neg (by omega), if_neg (by omega)]
  | succ n ih =>
    intro hn hz k hk
    obtain ⟨k, rfl⟩ : ∃ m, k = m + 1 := ⟨k - 1, by omega⟩
    simp only [custodyref04_Cmp.l0]
    have e : ((n + 1 : Nat) : Int) - 1 = (n : Int) := by omega
    rw [e, if_pos (by omega), if_pos (by omega), if_pos (by rw [I_len]; omega), if_pos (by rw [I_len]; omega), rd_I, rd_I]
    unfold cmpN
    rcases Nat.lt_trichotomy ((dig x).getD n 0) ((dig y).getD n 0) with h1 | h1 | h1
    · have := lt_of_top (dig_ok x) (dig_ok y) h1 fun i hi => hz i hi
      rw [val_dig, val_dig] at this
      rw [if_pos (by omega), if_pos this]
    · rw [if_neg (by omega), if_neg (by omega), w64 (by omega) (by omega)]
      refine ih (by omega) (fun i hi => ?_) k (by omega)
      rcases Nat.lt_or_ge n i with h2 | h2
      · exact hz i h2
      · have : i = n := by omega
        subst this; exact h1
    · have := lt_of_top (dig_ok y) (dig_ok x) h1 fun i hi => (hz i hi).symm
      rw [val_dig, val_dig] at this
      rw [if_neg (by omega), if_pos (by omega), if_neg (by omega), if_pos this]
theorem cmp_ev {x y : Nat} (hl : (dig x).length ≤ 1000000) : Ev (fun k => custodyref04_Cmp.f k (I (dig x)) (I (dig y))) (cmpN x y) := by
  unfold custodyref04_Cmp.f
  simp only [I_len]
  rcases Nat.lt_trichotomy (dig x).length (dig y).length with h | h | h
  · have := lt_of_len h
    refine ⟨0, fun k _ => ?_⟩
    dsimp only
    rw [if_pos (by omega)]; unfold cmpN; rw [if_pos this]
  · refine ⟨(dig x).length + 1, fun k hk => ?_⟩
    dsimp only
    rw [if_neg (by omega), if_neg (by omega), w64 (by omega) (by omega)]
    refine cmp_l hl h (dig x).length (Nat.le_refl _) (fun i hi => ?_) k (by omega)
    rw [List.getD_eq_getElem?_getD, List.getElem?_eq_none hi, List.getD_eq_getElem?_getD, List.getElem?_eq_none (by omega)]
  · have := lt_of_len h
    refine ⟨0, fun k _ => ?_⟩
    dsimp only
    rw [if_neg (by omega), if_pos (by omega)]; unfold cmpN; rw [if_neg (by omega), if_pos this]

theorem plus_l {xs ys : List Nat} (hx : Ok xs) (hy : Ok ys) (hlx : xs.length ≤ 100000) (hly : ys.length ≤ 100000) : ∀ d (acc : List Nat) (c : Nat), d + acc.length = max xs.length ys.length → Ok acc → c ≤ 1 → val acc + b ^ acc.length * c = low xs acc.length + low ys acc.length →
    Ev (fun k => custodyref04_Plus.l0 k (I xs) (I ys) (I acc) (c : Int) (acc.length : Int)) (I (dig (val xs + val ys))) := by
  intro d
  induction d with
  | zero =>
    intro acc c hd ha hc hv
    have hmx : xs.length ≤ acc.length := by omega
    have hmy : ys.length ≤ acc.length := by omega
    have ha1 : Ok (acc ++ [c]) := ha.snoc (by rw [b_eq]; omega)
    have hv1 : val (acc ++ [c]) = val xs + val ys := by rw [val_snoc, hv, low_all xs hmx, low_all ys hmy]
    refine Ev.step (f := fun k => custodyref04_Plus.j1 k (I xs) (I ys) (I acc) (c : Int) (acc.length : Int) false) (fun k => ?_) (Ev.step (f := fun k => (custodyref04_Trim.f k (I acc ++ [(c : Int)])).bind fun t => some t) (fun k => ?_) ?_)
    · simp only [custodyref04_Plus.l0]
      rw [if_neg (by rw [I_len]; omega)]
      congr 1
      exact decide_eq_false (by rw [I_len]; omega)
    · simp only [custodyref04_Plus.j1]
      rw [if_neg (by decide), if_pos (by rw [I_len]; omega)]
    · rw [I_snoc, ← hv1]
      exact Ev.bind (trim_ev ha1 (by rw [List.length_append, List.length_singleton]; omega)) (Ev.now _)
  | succ d ih =>
    intro acc c hd ha hc hv
    obtain ⟨h1, h2, h3⟩ := plus_step hx hy hc hv
    generalize hs : c + xs.getD acc.length 0 + ys.getD acc.length 0 = s at h1 h2 h3
    have hx1 := hx.get acc.length
    have hy1 := hy.get acc.length
    rw [b_eq] at hx1 hy1
    refine Ev.step (f := fun k => custodyref04_Plus.j1 k (I xs) (I ys) (I acc) (c : Int) (acc.length : Int) true) (fun k => ?_) (Ev.step (f := fun k => custodyref04_Plus.l0 k (I xs) (I ys) (I (acc ++ [s % b])) ((s / b : Nat) : Int) ((acc ++ [s % b]).length : Int)) (fun k => ?_) (ih (acc ++ [s % b]) (s / b) (by rw [List.length_append, List.length_singleton]; omega) (ha.snoc (Nat.mod_lt _ b_pos)) h2 h3))
    · simp only [custodyref04_Plus.l0]
      by_cases h : acc.length < xs.length
      · rw [if_pos (by rw [I_len]; omega)]
      · rw [if_neg (by rw [I_len]; omega)]
        congr 1
        exact decide_eq_true (by rw [I_len]; omega)
    · have el : wrap64 ((acc.length : Int) + 1) = ((acc ++ [s % b]).length : Int) := by rw [w64 (by omega) (by omega), List.length_append, List.length_singleton]; omega
      simp only [custodyref04_Plus.j1, rd_I, el, ← Int.natCast_add]
      rw [if_pos trivial]
      by_cases h : acc.length < xs.length
      · rw [if_pos (by rw [I_len]; omega), if_pos (by omega)]
        by_cases h' : acc.length < ys.length
        · rw [if_pos (by rw [I_len]; omega), if_pos (by rw [I_len]; omega), wu (n := c + xs.getD acc.length 0) (by omega), ← Int.natCast_add, hs, wu h1, and32 h1, div32, I_snoc]
        · have h0 := beyond h'
          rw [h0, Nat.add_zero] at hs
          rw [if_neg (by rw [I_len]; omega), if_pos (by rw [I_len]; omega), hs, wu h1, and32 h1, div32, I_snoc]
      · have h' : acc.length < ys.length := by omega
        have h0 := beyond h
        rw [h0, Nat.add_zero] at hs
        rw [if_neg (by rw [I_len]; omega), if_pos (by rw [I_len]; omega), if_pos (by omega), if_pos (by rw [I_len]; omega), hs, wu h1, and32 h1, div32, I_snoc]
theorem plus_ev {x y : Nat} (hlx : (dig x).length ≤ 100000) (hly : (dig y).length ≤ 100000) : Ev (fun k => custodyref04_Plus.f k (I (dig x)) (I (dig y))) (I (dig (x + y))) := by
  unfold custodyref04_Plus.f
  have := plus_l (dig_ok x) (dig_ok y) hlx hly _ [] 0 (by simp; rfl) Ok.nil (by omega) (by simp [val, low_zero])
  rw [val_dig, val_dig] at this
  exact this
end DG
end Go.Proofs.YtmepjcnpbjdlkaaGreatDoor
/- differences, doubles, bits of the document's lists of digits: plain. -/
namespace Go.Proofs.YtmepjcnpbjdlkaaGreatDoor
set_option linter.unusedVariables false
set_option linter.unusedSimpArgs false
open Go.RowKit Go.Proofs.YtmepjcnpbjdlkaaGreatDoorW.PrintWords Go.Proofs.YtmepjcnpbjdlkaaGreatDoorW.PrintLast Go.Proofs.YtmepjcnpbjdlkaaGreatDoorW.PrintMore
namespace DG
open PPriceClean
theorem minus_l {xs ys : List Nat} (hx : Ok xs) (hy : Ok ys) (hlx : xs.length ≤ 100000) (hly : ys.length ≤ xs.length) (hle : val ys ≤ val xs) : ∀ d (acc : List Nat) (l : Nat), d + acc.length = xs.length → Ok acc → l ≤ 1 → val acc + low ys acc.length = low xs acc.length + b ^ acc.length * l →
    Ev (fun k => custodyref04_Minus.l0 k (I xs) (I ys) (I acc) (l : Int) (acc.length : Int)) (I (dig (val xs - val ys))) := by
  intro d
  induction d with
  | zero =>
    intro acc l hd ha hl hv
    rw [low_all xs (by omega), low_all ys (by omega)] at hv
    have hl0 : l = 0 := by
      have := val_lt ha
      rcases Nat.eq_zero_or_pos l with h | h
      · exact h
      · have : l = 1 := by omega
        subst this
        omega
    subst hl0
    have hv1 : val acc = val xs - val ys := by omega
    refine Ev.step (f := fun k => (custodyref04_Trim.f k (I acc)).bind fun t => some t) (fun k => ?_) ?_
    · simp only [custodyref04_Minus.l0]
      rw [if_neg (by rw [I_len]; omega)]
    · rw [← hv1]
      exact Ev.bind (trim_ev ha (by omega)) (Ev.now _)
  | succ d ih =>
    intro acc l hd ha hl hv
    obtain ⟨h1, h2, h3⟩ := minus_step hx hy hl hv
    have hx1 := hx.get acc.length
    generalize ht : l + ys.getD acc.length 0 = t at h1 h2 h3
    generalize hdd : (if xs.getD acc.length 0 < t then xs.getD acc.length 0 + b - t else xs.getD acc.length 0 - t) = dd at h1 h3
    generalize hll : (if xs.getD acc.length 0 < t then 1 else 0) = l' at h3
    have hl' : l' ≤ 1 := by rw [← hll]; split <;> omega
    refine Ev.step (f := fun k => custodyref04_Minus.l0 k (I xs) (I ys) (I (acc ++ [dd])) (l' : Int) ((acc ++ [dd]).length : Int)) (fun k => ?_) (ih (acc ++ [dd]) l' (by rw [List.length_append, List.length_singleton]; omega) (ha.snoc h1) hl' h3)
    have el : wrap64 ((acc.length : Int) + 1) = ((acc ++ [dd]).length : Int) := by rw [w64 (by omega) (by omega), List.length_append, List.length_singleton]; omega
    rw [b_eq] at hx1 h2 hdd
    simp only [custodyref04_Minus.l0, rd_I, el]
    rw [if_pos (by rw [I_len]; omega)]
    by_cases h : acc.length < ys.length
    · rw [if_pos (by rw [I_len]; omega), if_pos (by omega), ← Int.natCast_add, ht, wu (by omega)]
      by_cases hc : xs.getD acc.length 0 < t
      · rw [if_pos hc] at hdd hll
        rw [if_pos (by omega), if_pos (by rw [I_len]; omega), wu_ (n := ((xs.getD acc.length 0 : Nat) : Int) + 4294967296) (by omega) (by omega), wu_ (by omega) (by omega)]
        have e : ((xs.getD acc.length 0 : Nat) : Int) + 4294967296 - (t : Int) = (dd : Int) := by omega
        rw [e, I_snoc, ← hll]; rfl
      · rw [if_neg hc] at hdd hll
        rw [if_neg (by omega), if_pos (by rw [I_len]; omega), wu_ (by omega) (by omega)]
        have e : ((xs.getD acc.length 0 : Nat) : Int) - (t : Int) = (dd : Int) := by omega
        rw [e, I_snoc, ← hll]; rfl
    · have h0 := beyond h
      rw [h0, Nat.add_zero] at ht
      subst ht
      rw [if_neg (by rw [I_len]; omega), if_pos (by omega)]
      by_cases hc : xs.getD acc.length 0 < l
      · rw [if_pos hc] at hdd hll
        rw [if_pos (by omega), if_pos (by rw [I_len]; omega), wu_ (n := ((xs.getD acc.length 0 : Nat) : Int) + 4294967296) (by omega) (by omega), wu_ (by omega) (by omega)]
        have e : ((xs.getD acc.length 0 : Nat) : Int) + 4294967296 - (l : Int) = (dd : Int) := by omega
        rw [e, I_snoc, ← hll]; rfl
      · rw [if_neg hc] at hdd hll
        rw [if_neg (by omega), if_pos (by rw [I_len]; omega), wu_ (by omega) (by omega)]
        have e : ((xs.getD acc.length 0 : Nat) : Int) - (l : Int) = (dd : Int) := by omega
        rw [e, I_snoc, ← hll]; rfl
theorem minus_ev {x y : Nat} (hlx : (dig x).length ≤ 100000) (h : y ≤ x) : Ev (fun k => custodyref04_Minus.f k (I (dig x)) (I (dig y))) (I (dig (x - y))) := by
  unfold custodyref04_Minus.f
  have := minus_l (dig_ok x) (dig_ok y) hlx (len_mono h) (by rw [val_dig, val_dig]; exact h) _ [] 0 (by simp; rfl) Ok.nil (by omega) (by simp [val, low_zero])
  rw [val_dig, val_dig] at this
  exact this

theorem up_idx {i : Nat} (h : i ≤ 1000000) : wrap64 ((i : Int) + 1) = ((i + 1 : Nat) : Int) := by rw [w64 (by omega) (by omega)]; omega
theorem up_mod {n q r : Nat} (hn : n = 32 * q + r) (hr : r < 32) : Int.tmod (n : Int) 32 = (r : Int) := by rw [Int.tmod_eq_emod_of_nonneg (by omega)]; omega
theorem up_shl {xs : List Nat} (hx : Ok xs) {r : Nat} (hr : r < 32) (i : Nat) : shl .u64 ((xs.getD i 0 : Nat) : Int) (r : Int) = ((xs.getD i 0 * 2 ^ r : Nat) : Int) := by
  have h1 := hx.get i
  rw [b_eq] at h1
  have hp : 2 ^ r ≤ 2147483648 := Nat.pow_le_pow_right (n := 2) (i := r) (j := 31) (by decide) (by omega)
  generalize xs.getD i 0 = v at h1
  have h2 : v * 2 ^ r ≤ 4294967296 * 2147483648 := Nat.mul_le_mul (by omega) hp
  unfold shl
  have e1 : min (Int.toNat (r : Int)) (IntKind.bits .u64) = r := by simp [IntKind.bits]; omega
  rw [e1]
  have e2 : (v : Int) * 2 ^ r = ((v * 2 ^ r : Nat) : Int) := by rw [Int.natCast_mul, Int.natCast_pow]; rfl
  rw [e2, wu (by omega)]
theorem up_l1 {xs : List Nat} (hx : Ok xs) (hlx : xs.length ≤ 100000) {n q r : Nat} (hn : n = 32 * q + r) (hr : r < 32) (hq : q ≤ 100000) : ∀ d (acc : List Nat) (i c : Nat), d + i = xs.length → Ok acc → acc.length = q + i → c < 2 ^ r → val acc + b ^ acc.length * c = b ^ q * (2 ^ r * low xs i) →
    Ev (fun k => custodyref04_Up.l1 k (I xs) (n : Int) (I acc) (c : Int) (i : Int)) (I (dig (val xs * 2 ^ n))) := by
  intro d
  have hp : 2 ^ r ≤ 2 ^ 31 := Nat.pow_le_pow_right (by decide) (by omega)
  induction d with
  | zero =>
    intro acc i c hd ha hl hc hv
    have hcb : c < b := by rw [b_eq]; omega
    have hv1 : val (acc ++ [c]) = val xs * 2 ^ n := by
      rw [val_snoc, hv, low_all xs (by omega), hn, Nat.pow_add, Nat.pow_mul]
      rw [show (2 : Nat) ^ 32 = b from rfl, Nat.mul_comm (val xs), Nat.mul_assoc]
    refine Ev.step (f := fun k => (custodyref04_Trim.f k (I acc ++ [(c : Int)])).bind fun t => some t) (fun k => ?_) ?_
    · simp only [custodyref04_Up.l1]
      rw [if_neg (by rw [I_len]; omega), if_pos (by rw [I_len]; omega)]
    · rw [I_snoc, ← hv1]
      exact Ev.bind (trim_ev (ha.snoc hcb) (by rw [List.length_append, List.length_singleton]; omega)) (Ev.now _)
  | succ d ih =>
    intro acc i c hd ha hl hc hv
    obtain ⟨h1, h2, h3⟩ := up_step hx hr hc hl hv
    generalize hs : xs.getD i 0 * 2 ^ r + c = s at h1 h2 h3
    refine Ev.step (f := fun k => custodyref04_Up.l1 k (I xs) (n : Int) (I (acc ++ [s % b])) ((s / b : Nat) : Int) ((i + 1 : Nat) : Int)) (fun k => ?_) (ih (acc ++ [s % b]) (i + 1) (s / b) (by omega) (ha.snoc (Nat.mod_lt _ b_pos)) (by rw [List.length_append, List.length_singleton]; omega) h2 h3)
    have el := up_idx (i := i) (by omega)
    have em := up_mod hn hr
    have es := up_shl hx hr i
    clear h3 h2 hv hc hp
    simp only [custodyref04_Up.l1, rd_I, el, em, wu (n := r) (by omega), es, ← Int.natCast_add, hs]
    have c1 : (i : Int) < ((I xs).length : Int) := by rw [I_len]; clear hs el es; omega
    have c2 : (0 : Int) ≤ (i : Int) := Int.natCast_nonneg _
    have c3 : (0 : Int) ≤ (r : Int) := Int.natCast_nonneg _
    have c4 : (I acc).length < 17592186044416 := by rw [I_len]; clear hs el es; omega
    rw [if_pos c1, if_pos c2, if_pos c3, if_pos c4, wu h1, and32 h1, div32, I_snoc]
theorem up_l0 {xs : List Nat} (hx : Ok xs) (hlx : xs.length ≤ 100000) {n q r : Nat} (hn : n = 32 * q + r) (hr : r < 32) (hq : q ≤ 100000) : ∀ d (i : Nat), d + i = q →
    Ev (fun k => custodyref04_Up.l0 k (I xs) (n : Int) (I (List.replicate i 0)) (i : Int)) (I (dig (val xs * 2 ^ n))) := by
  intro d
  have et : wrap64 (Int.tdiv (n : Int) 32) = (q : Int) := by rw [Int.tdiv_eq_ediv_of_nonneg (by omega), w64 (by omega) (by omega)]; omega
  induction d with
  | zero =>
    intro i hi
    have e : i = q := by omega
    subst e
    refine Ev.step (f := fun k => custodyref04_Up.l1 k (I xs) (n : Int) (I (List.replicate i 0)) ((0 : Nat) : Int) ((0 : Nat) : Int)) (fun k => ?_) ?_
    · simp only [custodyref04_Up.l0, et]
      rw [if_neg (by omega), Int.natCast_zero]
    · refine up_l1 hx hlx hn hr hq xs.length (List.replicate i 0) 0 0 (by omega) (fun d hd => ?_) (by simp) (Nat.two_pow_pos r) ?_
      · rw [(List.mem_replicate.1 hd).2]; exact b_pos
      · rw [val_zeros, low_zero, Nat.mul_zero, Nat.mul_zero, Nat.mul_zero]
  | succ d ih =>
    intro i hi
    refine Ev.step (f := fun k => custodyref04_Up.l0 k (I xs) (n : Int) (I (List.replicate (i + 1) 0)) ((i + 1 : Nat) : Int)) (fun k => ?_) (ih (i + 1) (by omega))
    have el : wrap64 ((i : Int) + 1) = ((i + 1 : Nat) : Int) := by rw [w64 (by omega) (by omega)]; omega
    simp only [custodyref04_Up.l0, et, el]
    rw [if_pos (by omega), if_pos (by rw [I_len, List.length_replicate]; omega), List.replicate_succ', ← I_snoc]
    rfl
theorem up_ev {x n : Nat} (hlx : (dig x).length ≤ 100000) (hn : n ≤ 3000000) : Ev (fun k => custodyref04_Up.f k (I (dig x)) (n : Int)) (I (dig (x * 2 ^ n))) := by
  unfold custodyref04_Up.f
  have := up_l0 (dig_ok x) hlx (n := n) (q := n / 32) (r := n % 32) (by omega) (by omega) (by omega) (n / 32) 0 (by omega)
  rw [val_dig] at this
  exact this

theorem bits_l : ∀ (x n : Nat), BL x n → n ≤ 64 → ∀ (c : Nat), c + n ≤ 100000000 → ∀ k, n < k → custodyref04_Bits.l0 k (c : Int) (x : Int) = some ((c + n : Nat) : Int) := by
  intro x n
  induction n generalizing x with
  | zero =>
    intro h _ c hc k hk
    obtain ⟨k, rfl⟩ : ∃ m, k = m + 1 := ⟨k - 1, by omega⟩
    have : x = 0 := by have := h.lt; simpa using this
    subst this
    simp only [custodyref04_Bits.l0]
    rw [if_neg (by omega)]
    rfl
  | succ n ih =>
    intro h hn c hc k hk
    obtain ⟨k, rfl⟩ : ∃ m, k = m + 1 := ⟨k - 1, by omega⟩
    have hx : x ≠ 0 := fun e => by subst e; have := (h 0).2 (by simp); omega
    have h2 : BL (x / 2) n := by
      obtain ⟨m, hm⟩ := exists_BL (x / 2)
      have := h.unique (hm.half hx)
      have e : n = m := by omega
      rw [e]; exact hm
    simp only [custodyref04_Bits.l0]
    have e1 : ((x : Int) / 2) = ((x / 2 : Nat) : Int) := by omega
    rw [if_pos (by omega), w64 (by omega) (by omega), e1]
    have := ih (x / 2) h2 (by omega) (c + 1) (by omega) k (by omega)
    rw [show ((c : Int) + 1) = ((c + 1 : Nat) : Int) from rfl, this]
    congr 2
    omega
theorem bits_ev {a n : Nat} (h : BL a n) (hl : (dig a).length ≤ 100000) : Ev (fun k => custodyref04_Bits.f k (I (dig a))) (n : Int) := by
  by_cases h0 : a = 0
  · subst h0
    have := h.unique BL.zero
    subst this
    exact ⟨0, fun k _ => by simp only [dig_zero]; rfl⟩
  · have hne : dig a ≠ [] := by rw [dig_pos h0]; exact List.cons_ne_nil _ _
    have hlen : 0 < (dig a).length := List.length_pos_iff.2 hne
    obtain ⟨L, hL⟩ : ∃ L, (dig a).length = L + 1 := ⟨(dig a).length - 1, by omega⟩
    generalize ht : (dig a).getD L 0 = t
    have htb : t < b := ht ▸ (dig_ok a).get L
    have hv : a = low (dig a) L + b ^ L * t := by
      have := low_all (dig a) (k := L + 1) (by omega)
      rw [low_succ, val_dig, ht] at this
      exact this.symm
    have hlo : low (dig a) L < b ^ L := by
      have := val_lt ((dig_ok a).take L)
      rw [List.length_take, Nat.min_eq_left (by omega)] at this
      exact this
    obtain ⟨m, hm⟩ := exists_BL t
    have ht0 : t ≠ 0 := by
      have := dig_last a hne
      rw [List.getLast_eq_getElem] at this
      rw [← ht, List.getD_eq_getElem?_getD, List.getElem?_eq_getElem (by omega)]
      simpa [hL] using this
    have hm32 : m ≤ 32 := (hm 32).2 htb
    have hn : n = 32 * L + m := by
      refine h.unique (fun j => ?_)
      have hb : b ^ L = 2 ^ (32 * L) := by rw [Nat.pow_mul]; rfl
      constructor
      · intro hj
        have h1 : t < 2 ^ (j - 32 * L) := (hm _).1 (by omega)
        have h2 : b ^ L * (t + 1) ≤ b ^ L * 2 ^ (j - 32 * L) := Nat.mul_le_mul_left _ h1
        have h3 : b ^ L * 2 ^ (j - 32 * L) = 2 ^ j := by rw [hb, ← Nat.pow_add]; congr 1; omega
        rw [Nat.mul_add, Nat.mul_one] at h2
        omega
      · intro hj
        rcases Nat.lt_or_ge j (32 * L + m) with h1 | h1
        · exfalso
          have hmp : 1 ≤ m := by
            rcases Nat.eq_zero_or_pos m with e | e
            · subst e; have := hm.lt; simp at this; omega
            · exact e
          have h2 : 2 ^ (m - 1) ≤ t := by
            rcases Nat.lt_or_ge t (2 ^ (m - 1)) with h3 | h3
            · have := (hm (m - 1)).2 h3; omega
            · exact h3
          have h3 : b ^ L * 2 ^ (m - 1) ≤ b ^ L * t := Nat.mul_le_mul_left _ h2
          have h4 : b ^ L * 2 ^ (m - 1) = 2 ^ (32 * L + (m - 1)) := by rw [hb, ← Nat.pow_add]
          have h5 : 2 ^ j ≤ 2 ^ (32 * L + (m - 1)) := Nat.pow_le_pow_right (by decide) (by omega)
          omega
        · exact h1
    refine ⟨m + 1, fun k hk => ?_⟩
    simp only [custodyref04_Bits.f, I_len, hL]
    have e1 : wrap64 (((L + 1 : Nat) : Int) - 1) = (L : Int) := by rw [w64 (by omega) (by omega)]; omega
    have e2 : wrap64 (32 * (L : Int)) = ((32 * L : Nat) : Int) := by rw [w64 (by omega) (by omega)]; omega
    rw [if_neg (by omega), e1, if_pos (by omega), if_pos (by omega), rd_I, ht, e2]
    rw [bits_l t m hm (by omega) (32 * L) (by omega) k (by omega), hn]
/-- a bit -/
theorem bit_f {a i : Nat} (hl : (dig a).length ≤ 100000) (hi : i ≤ 3000000) : custodyref04_Bit.f (I (dig a)) (i : Int) = some ((a / 2 ^ i % 2 : Nat) : Int) := by
  have et : wrap64 (Int.tdiv (i : Int) 32) = ((i / 32 : Nat) : Int) := by rw [Int.tdiv_eq_ediv_of_nonneg (by omega), w64 (by omega) (by omega)]; omega
  have em : Int.tmod (i : Int) 32 = ((i % 32 : Nat) : Int) := by rw [Int.tmod_eq_emod_of_nonneg (by omega)]; omega
  have hd := getD_div a (i / 32)
  have key : (dig a).getD (i / 32) 0 / 2 ^ (i % 32) % 2 = a / 2 ^ i % 2 := by
    rw [hd]
    have e1 : a / 2 ^ i = a / b ^ (i / 32) / 2 ^ (i % 32) := by
      rw [Nat.div_div_eq_div_mul]
      congr 1
      have hb : b ^ (i / 32) = 2 ^ (32 * (i / 32)) := by rw [Nat.pow_mul]; rfl
      rw [hb, ← Nat.pow_add]
      congr 1
      omega
    rw [e1]
    generalize a / b ^ (i / 32) = y
    have hr : i % 32 < 32 := by omega
    generalize i % 32 = r at hr
    have h1 := Nat.testBit_mod_two_pow y 32 r
    rw [Nat.testBit_eq_decide_div_mod_eq, Nat.testBit_eq_decide_div_mod_eq, decide_eq_true hr, Bool.true_and] at h1
    have h2 : (y % 2 ^ 32 / 2 ^ r % 2 = 1) ↔ (y / 2 ^ r % 2 = 1) := by simpa using h1
    show y % 2 ^ 32 / 2 ^ r % 2 = y / 2 ^ r % 2
    omega
  unfold custodyref04_Bit.f
  rw [et, em, I_len]
  by_cases h : i / 32 < (dig a).length
  · rw [if_neg (by omega), if_pos (by omega), if_pos (by omega), if_pos (by rw [wu (n := i % 32) (by omega)]; omega), wu (n := i % 32) (by omega), rd_I]
    have e : shr .u64 (((dig a).getD (i / 32) 0 : Nat) : Int) ((i % 32 : Nat) : Int) = (((dig a).getD (i / 32) 0 / 2 ^ (i % 32) : Nat) : Int) := by
      unfold shr
      have e1 : min (Int.toNat ((i % 32 : Nat) : Int)) (IntKind.bits .u64) = i % 32 := by simp [IntKind.bits]; omega
      rw [e1]
      simp
    rw [e]
    have hb := (dig_ok a).get (i / 32)
    have hlt : (dig a).getD (i / 32) 0 / 2 ^ (i % 32) < 18446744073709551616 := by
      have := Nat.div_le_self ((dig a).getD (i / 32) 0) (2 ^ (i % 32))
      rw [b_eq] at hb
      omega
    have hm := bits_mask .u64 64 (by decide) (fun n h0 h1 => wu_ h0 (by simpa using h1)) 1 (by decide) (((dig a).getD (i / 32) 0 / 2 ^ (i % 32) : Nat) : Int) (Int.natCast_nonneg _) (by
      have : (2 : Int) ^ 64 = 18446744073709551616 := by decide
      omega)
    rw [show ((2 : Int) ^ 1 - 1) = 1 from rfl] at hm
    rw [hm, show ((2 : Int) ^ 1) = 2 from rfl]
    congr 1
    omega
  · rw [if_pos (by omega)]
    rw [beyond h] at key
    simp only [Nat.zero_div, Nat.zero_mod] at key
    rw [← key]
    rfl
end DG
end Go.Proofs.YtmepjcnpbjdlkaaGreatDoor
/- quotients of lists of digits, rounded: plain. -/
namespace Go.Proofs.YtmepjcnpbjdlkaaGreatDoor
set_option linter.unusedVariables false
set_option linter.unusedSimpArgs false
open Go.RowKit Go.Proofs.YtmepjcnpbjdlkaaGreatDoorW.PrintWords Go.Proofs.YtmepjcnpbjdlkaaGreatDoorW.PrintLast Go.Proofs.YtmepjcnpbjdlkaaGreatDoorW.PrintMore
namespace DG
open PPriceClean
theorem I_one : I (dig 1) = [1] := by rw [dig_one]; rfl
theorem over_l {a Y : Nat} (hY : 0 < Y) (ha : (dig a).length ≤ 10000) (hy : (dig Y).length ≤ 10000) : ∀ n : Nat, n ≤ 400000 → ∀ q r : Nat, a / 2 ^ n = q * Y + r → r < Y → q ≤ a →
    Ev (fun k => custodyref04_Over.l0 k (I (dig a)) (I (dig Y)) (I (dig q)) (I (dig r)) ((n : Int) - 1)) (I (dig (a / Y)), I (dig (a % Y))) := by
  intro n
  induction n with
  | zero =>
    intro _ q r h1 h2 _
    rw [Nat.pow_zero, Nat.div_one] at h1
    refine Ev.step (f := fun k => some (I (dig q), I (dig r))) (fun k => ?_) ?_
    · simp only [custodyref04_Over.l0]
      rw [if_neg (by omega)]
    · have e1 : a / Y = q := by rw [h1, Nat.mul_comm, Nat.mul_add_div hY, Nat.div_eq_of_lt h2, Nat.add_zero]
      have e2 : a % Y = r := by rw [h1, Nat.mul_comm, Nat.mul_add_mod, Nat.mod_eq_of_lt h2]
      rw [e1, e2]
      exact Ev.now _
  | succ n ih =>
    intro hn q r h1 h2 hq
    have hr1 : (dig r).length ≤ 10000 := Nat.le_trans (len_mono (Nat.le_of_lt h2)) hy
    have hq1 : (dig q).length ≤ 10000 := Nat.le_trans (len_mono hq) ha
    have hd : a / 2 ^ n = 2 * (a / 2 ^ (n + 1)) + a / 2 ^ n % 2 := by
      rw [Nat.pow_succ, ← Nat.div_div_eq_div_mul]
      omega
    have hle : a / 2 ^ n ≤ a := Nat.div_le_self ..
    have hbl : a / 2 ^ n % 2 < 2 := Nat.mod_lt _ (by decide)
    have hbit := bit_f (a := a) (i := n) (by omega) (by omega)
    generalize a / 2 ^ (n + 1) = A at h1 hd
    generalize hbb : a / 2 ^ n % 2 = bt at hd hbl hbit
    have hqA : (2 * q) * Y = 2 * (q * Y) := Nat.mul_assoc ..
    have ew : wrap64 ((n : Int) - 1) = (n : Int) - 1 := w64 (by omega) (by omega)
    have up1 : ∀ x, (dig x).length ≤ 10000 → Ev (fun k => custodyref04_Up.f k (I (dig x)) 1) (I (dig (2 * x))) := fun x hx => by
      have := up_ev (x := x) (n := 1) (by omega) (by omega)
      rw [Nat.pow_one, Nat.mul_comm] at this
      exact this
    have plus1 : ∀ x, (dig x).length ≤ 10001 → Ev (fun k => custodyref04_Plus.f k (I (dig x)) [1]) (I (dig (x + 1))) := fun x hx => by
      have := plus_ev (x := x) (y := 1) (by omega) (by rw [dig_one]; simp)
      rwa [I_one] at this
    have hj : ∀ r3, r3 < 2 * Y → a / 2 ^ n = 2 * (q * Y) + r3 → Ev (fun k => custodyref04_Over.j1 k (I (dig a)) (I (dig Y)) (I (dig q)) (I (dig r3)) (n : Int)) (I (dig (a / Y)), I (dig (a % Y))) := by
      intro r3 h3 h4
      have hr3 : (dig r3).length ≤ 10001 := Nat.le_trans (len_double (x := r3) (y := Y) (by omega)) (by omega)
      refine Ev.step (f := fun k => (custodyref04_Up.f k (I (dig q)) 1).bind fun t263 => ((custodyref04_Cmp.f k (I (dig r3)) (I (dig Y))).bind fun t266 => (if t266 ≥ 0 then ((custodyref04_Minus.f k (I (dig r3)) (I (dig Y))).bind fun t267 => ((custodyref04_Plus.f k t263 (([1] : List Int))).bind fun t273 => (custodyref04_Over.l0 k (I (dig a)) (I (dig Y)) t273 t267 ((n : Int) - 1)))) else (custodyref04_Over.l0 k (I (dig a)) (I (dig Y)) t263 (I (dig r3)) ((n : Int) - 1))))) (fun k => by simp only [custodyref04_Over.j1, ew]) ?_
      refine Ev.bind (up1 q hq1) ?_
      refine Ev.bind (cmp_ev (x := r3) (y := Y) (by omega)) ?_
      have hq2 : (dig (2 * q)).length ≤ 10001 := Nat.le_trans (len_double (x := 2 * q) (y := q) (by omega)) (by omega)
      by_cases hc : Y ≤ r3
      · have e : cmpN r3 Y ≥ 0 := by unfold cmpN; rw [if_neg (by omega)]; split <;> decide
        refine Ev.congr (f := fun k => (custodyref04_Minus.f k (I (dig r3)) (I (dig Y))).bind fun t267 => ((custodyref04_Plus.f k (I (dig (2 * q))) (([1] : List Int))).bind fun t273 => (custodyref04_Over.l0 k (I (dig a)) (I (dig Y)) t273 t267 ((n : Int) - 1)))) (fun k => if_pos e) ?_
        refine Ev.bind (minus_ev (by omega) hc) ?_
        refine Ev.bind (plus1 (2 * q) hq2) ?_
        refine ih (by omega) (2 * q + 1) (r3 - Y) ?_ (by omega) ?_
        · rw [Nat.add_mul, Nat.one_mul, hqA]; omega
        · have h5 : (2 * q + 1) * 1 ≤ (2 * q + 1) * Y := Nat.mul_le_mul_left _ hY
          rw [Nat.add_mul (2 * q) 1 Y, hqA, Nat.one_mul] at h5
          omega
      · have e : ¬ cmpN r3 Y ≥ 0 := by unfold cmpN; rw [if_pos (by omega)]; decide
        refine Ev.congr (f := fun k => custodyref04_Over.l0 k (I (dig a)) (I (dig Y)) (I (dig (2 * q))) (I (dig r3)) ((n : Int) - 1)) (fun k => if_neg e) ?_
        refine ih (by omega) (2 * q) r3 ?_ (by omega) ?_
        · rw [hqA]; omega
        · have h5 : (2 * q) * 1 ≤ (2 * q) * Y := Nat.mul_le_mul_left _ hY
          rw [hqA] at h5
          omega
    refine Ev.step (f := fun k => (custodyref04_Up.f k (I (dig r)) 1).bind fun t253 => if ((bt : Nat) : Int) = 1 then ((custodyref04_Plus.f k t253 (([1] : List Int))).bind fun t260 => (custodyref04_Over.j1 k (I (dig a)) (I (dig Y)) (I (dig q)) t260 (n : Int))) else (custodyref04_Over.j1 k (I (dig a)) (I (dig Y)) (I (dig q)) t253 (n : Int))) (fun k => ?_) ?_
    · have en : ((n + 1 : Nat) : Int) - 1 = (n : Int) := by omega
      simp only [custodyref04_Over.l0, en, hbit, Option.bind_some]
      rw [if_pos (by omega)]
    · refine Ev.bind (up1 r hr1) ?_
      by_cases hb1 : bt = 1
      · refine Ev.congr (f := fun k => (custodyref04_Plus.f k (I (dig (2 * r))) (([1] : List Int))).bind fun t260 => (custodyref04_Over.j1 k (I (dig a)) (I (dig Y)) (I (dig q)) t260 (n : Int))) (fun k => if_pos (by omega)) ?_
        refine Ev.bind (plus1 (2 * r) (Nat.le_trans (len_double (x := 2 * r) (y := r) (by omega)) (by omega))) ?_
        exact hj (2 * r + 1) (by omega) (by omega)
      · refine Ev.congr (f := fun k => custodyref04_Over.j1 k (I (dig a)) (I (dig Y)) (I (dig q)) (I (dig (2 * r))) (n : Int)) (fun k => if_neg (by omega)) ?_
        exact hj (2 * r) (by omega) (by omega)
theorem bl_len {a n M : Nat} (hn : BL a n) (hl : (dig a).length ≤ M) : n ≤ 32 * M := (hn _).2 (by
  have h1 := (len_le_iff a M).1 hl
  have key : ∀ M, b ^ M = 2 ^ (32 * M) := fun M => by rw [Nat.pow_mul]; rfl
  rw [key] at h1
  exact h1)
theorem over_ev {a Y : Nat} (hY : 0 < Y) (ha : (dig a).length ≤ 10000) (hy : (dig Y).length ≤ 10000) : Ev (fun k => custodyref04_Over.f k (I (dig a)) (I (dig Y))) (I (dig (a / Y)), I (dig (a % Y))) := by
  obtain ⟨n, hn⟩ := exists_BL a
  have hn2 : n ≤ 32 * 10000 := bl_len hn ha
  unfold custodyref04_Over.f
  refine Ev.bind (bits_ev hn (by omega)) ?_
  have ew : wrap64 ((n : Int) - 1) = (n : Int) - 1 := w64 (by omega) (by omega)
  have := over_l hY ha hy n (by omega) 0 0 (by rw [Nat.div_eq_of_lt hn.lt, Nat.zero_mul]) hY (Nat.zero_le _)
  simp only [ew]
  rw [dig_zero] at this
  exact this
theorem small_f {x : Nat} (h : x < 18446744073709551616) : custodyref04_Small.f (I (dig x)) = some (x : Int) := by
  have h0 : rd (I (dig x)) 0 = ((x % b : Nat) : Int) := by
    have := rd_I (dig x) 0
    rw [getD_div, Nat.pow_zero, Nat.div_one] at this
    exact this
  have h1 : rd (I (dig x)) 1 = ((x / b % b : Nat) : Int) := by
    have := rd_I (dig x) 1
    rw [getD_div, Nat.pow_one] at this
    exact this
  have hl := len_le_iff x
  unfold custodyref04_Small.f
  rw [I_len, h0, h1]
  rcases Nat.lt_trichotomy (dig x).length 1 with hc | hc | hc
  · have := (hl 0).1 (by omega)
    rw [Nat.pow_zero] at this
    rw [if_neg (by omega), if_neg (by omega)]
    congr 1; omega
  · have := (hl 1).1 (by omega)
    rw [Nat.pow_one] at this
    rw [if_pos (by omega), if_pos (by omega), if_neg (by omega), Nat.mod_eq_of_lt this]
  · rw [if_pos (by omega), if_pos (by omega), if_pos (by omega), if_pos (by omega)]
    rw [b_eq]
    rw [wu_ (n := ((x / 4294967296 % 4294967296 : Nat) : Int) * 4294967296) (by omega) (by omega), wu_ (by omega) (by omega)]
    congr 1; omega
theorem rounded_ev {a Y : Nat} (hY : 0 < Y) (ha : (dig a).length ≤ 9000) (hy : (dig Y).length ≤ 9000) (mode : Int) : Ev (fun k => custodyref04_Rounded.f k (I (dig a)) (I (dig Y)) mode) (rounded a Y mode) := by
  have hr : a % Y < Y := Nat.mod_lt _ hY
  have hr1 : (dig (a % Y)).length ≤ 9000 := Nat.le_trans (len_mono (Nat.le_of_lt hr)) hy
  have hq1 : (dig (a / Y)).length ≤ 9000 := Nat.le_trans (len_mono (Nat.div_le_self ..)) ha
  have j1 : ∀ q, (dig q).length ≤ 9001 → Ev (fun k => custodyref04_Rounded.j1 k (I (dig q))) (if q < 9223372036854775808 then ((q : Int), 0) else (0, 9)) := by
    intro q hq
    obtain ⟨n, hn⟩ := exists_BL q
    refine Ev.step (f := fun k => (custodyref04_Bits.f k (I (dig q))).bind fun t299 => (if t299 > 63 then (some (0, 9)) else ((custodyref04_Small.f (I (dig q))).bind fun t300 => (some (wrap64 (t300), 0))))) (fun k => by simp only [custodyref04_Rounded.j1]) ?_
    refine Ev.bind (bits_ev hn (by omega)) ?_
    have h63 := hn 63
    rw [show (2 : Nat) ^ 63 = 9223372036854775808 from rfl] at h63
    by_cases hc : q < 9223372036854775808
    · rw [if_pos hc]
      refine Ev.congr (f := fun _ => some ((q : Int), 0)) (fun k => ?_) (Ev.now _)
      rw [if_neg (by omega), small_f (by omega), Option.bind_some, w64 (by omega) (by omega)]
    · rw [if_neg hc]
      exact Ev.congr (f := fun _ => some (0, 9)) (fun k => if_pos (by omega)) (Ev.now _)
  have j0t : Ev (fun k => custodyref04_Rounded.j0 k (I (dig (a / Y))) true) (if a / Y + 1 < 9223372036854775808 then (((a / Y + 1 : Nat) : Int), 0) else (0, 9)) := by
    refine Ev.step (f := fun k => (custodyref04_List.f k 1).bind fun t293 => ((custodyref04_Plus.f k (I (dig (a / Y))) t293).bind fun t296 => (custodyref04_Rounded.j1 k t296))) (fun k => by simp only [custodyref04_Rounded.j0]; rw [if_pos trivial]) ?_
    refine Ev.bind (list_ev (x := 1) (by decide)) ?_
    refine Ev.bind (plus_ev (x := a / Y) (y := 1) (by omega) (by rw [dig_one]; simp)) ?_
    exact j1 _ (Nat.le_trans (len_double (x := a / Y + 1) (y := a / Y) (by omega)) (by omega))
  have j0f : Ev (fun k => custodyref04_Rounded.j0 k (I (dig (a / Y))) false) (if a / Y < 9223372036854775808 then (((a / Y : Nat) : Int), 0) else (0, 9)) := by
    refine Ev.step (f := fun k => custodyref04_Rounded.j1 k (I (dig (a / Y)))) (fun k => by simp only [custodyref04_Rounded.j0]; rw [if_neg (by decide)]) (j1 _ (by omega))
  have jt : goesUp (a / Y) (a % Y) Y mode = true → Ev (fun k => custodyref04_Rounded.j0 k (I (dig (a / Y))) true) (rounded a Y mode) := fun h => by
    unfold rounded quo; rw [h]; exact j0t
  have jf : goesUp (a / Y) (a % Y) Y mode = false → Ev (fun k => custodyref04_Rounded.j0 k (I (dig (a / Y))) false) (rounded a Y mode) := fun h => by
    unfold rounded quo; rw [h]; exact j0f
  unfold custodyref04_Rounded.f
  refine Ev.bind (over_ev hY (by omega) (by omega)) ?_
  dsimp only
  refine Ev.bind (plus_ev (x := a % Y) (y := a % Y) (by omega) (by omega)) ?_
  refine Ev.bind (cmp_ev (x := a % Y + a % Y) (y := Y) (Nat.le_trans (len_double (x := a % Y + a % Y) (y := a % Y) (by omega)) (by omega))) ?_
  have hb0 : custodyref04_Bit.f (I (dig (a / Y))) 0 = some ((a / Y % 2 : Nat) : Int) := by
    have := bit_f (a := a / Y) (i := 0) (by omega) (by omega)
    rw [Nat.pow_zero, Nat.div_one] at this
    exact this
  have ht : Ev (fun k => custodyref04_Trim.f k (I (dig (a % Y)))) (I (dig (a % Y))) := by
    have := trim_ev (dig_ok (a % Y)) (by omega)
    rwa [val_dig] at this
  have hl0 : ((I (dig (a % Y))).length : Int) > 0 ↔ 0 < a % Y := by
    rw [I_len]
    by_cases h : a % Y = 0
    · rw [h, dig_zero]; simp
    · rw [dig_pos h, List.length_cons]; omega
  have hcm : cmpN (a % Y + a % Y) Y = if 2 * (a % Y) < Y then -1 else if Y < 2 * (a % Y) then 1 else 0 := by unfold cmpN; rw [Nat.two_mul]
  rw [hcm]
  simp only [hb0, Option.bind_some]
  have hgo : goesUp (a / Y) (a % Y) Y mode = decide (mode = 1 ∧ 0 < a % Y ∨ mode = 2 ∧ Y ≤ 2 * (a % Y) ∨ mode = 3 ∧ (Y < 2 * (a % Y) ∨ Y = 2 * (a % Y) ∧ a / Y % 2 = 1)) := rfl
  generalize goesUp (a / Y) (a % Y) Y mode = gu at jt jf hgo
  generalize custodyref04_Rounded.j0 = J at jt jf ⊢
  generalize a / Y = q at *
  generalize a % Y = r at *
  by_cases m1 : mode = 1
  · refine Ev.congr (f := fun k => (custodyref04_Trim.f k (I (dig r))).bind fun t290 => if (t290.length : Int) > 0 then J k (I (dig q)) true else J k (I (dig q)) false) (fun k => ?_) (Ev.bind ht ?_)
    · rw [if_pos m1]
      congr 1
      funext t
      rw [if_neg (show ¬ mode = 2 by omega), if_neg (show ¬ mode = 3 by omega)]
    · by_cases hc : 0 < r
      · exact Ev.congr (f := fun k => J k (I (dig q)) true) (fun k => if_pos (hl0.2 hc)) (jt (by rw [hgo]; exact decide_eq_true (by omega)))
      · exact Ev.congr (f := fun k => J k (I (dig q)) false) (fun k => if_neg (fun h => hc (hl0.1 h))) (jf (by rw [hgo]; exact decide_eq_false (by omega)))
  · by_cases m2 : mode = 2
    · by_cases hc : Y ≤ 2 * r
      · refine Ev.congr (f := fun k => J k (I (dig q)) true) (fun k => ?_) (jt (by rw [hgo]; exact decide_eq_true (by omega)))
        rw [if_neg m1, if_pos m2, if_neg (by omega : ¬ 2 * r < Y), if_pos (by split <;> decide)]
      · refine Ev.congr (f := fun k => J k (I (dig q)) false) (fun k => ?_) (jf (by rw [hgo]; exact decide_eq_false (by omega)))
        rw [if_neg m1, if_pos m2, if_pos (by omega : 2 * r < Y), if_neg (by decide), if_neg (show ¬ mode = 3 by omega)]
    · by_cases m3 : mode = 3
      · rcases Nat.lt_trichotomy Y (2 * r) with hc | hc | hc
        · refine Ev.congr (f := fun k => J k (I (dig q)) true) (fun k => ?_) (jt (by rw [hgo]; exact decide_eq_true (by omega)))
          rw [if_neg m1, if_neg m2, if_pos m3, if_neg (by omega : ¬ 2 * r < Y), if_pos hc, if_pos (by decide)]
        · by_cases ho : q % 2 = 1
          · refine Ev.congr (f := fun k => J k (I (dig q)) true) (fun k => ?_) (jt (by rw [hgo]; exact decide_eq_true (by omega)))
            rw [if_neg m1, if_neg m2, if_pos m3, if_neg (by omega : ¬ 2 * r < Y), if_neg (by omega : ¬ Y < 2 * r), if_neg (by decide), if_pos rfl, ho]
            rfl
          · refine Ev.congr (f := fun k => J k (I (dig q)) false) (fun k => ?_) (jf (by rw [hgo]; exact decide_eq_false (by omega)))
            have h0 : q % 2 = 0 := by omega
            rw [if_neg m1, if_neg m2, if_pos m3, if_neg (by omega : ¬ 2 * r < Y), if_neg (by omega : ¬ Y < 2 * r), if_neg (by decide), if_pos rfl, h0]
            rfl
        · refine Ev.congr (f := fun k => J k (I (dig q)) false) (fun k => ?_) (jf (by rw [hgo]; exact decide_eq_false (by omega)))
          rw [if_neg m1, if_neg m2, if_pos m3, if_pos hc, if_neg (by decide), if_neg (by decide)]
      · refine Ev.congr (f := fun k => J k (I (dig q)) false) (fun k => ?_) (jf (by rw [hgo]; exact decide_eq_false (by omega)))
        rw [if_neg m1, if_neg m2, if_neg m3]
end DG
end Go.Proofs.YtmepjcnpbjdlkaaGreatDoor
