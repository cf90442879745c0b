/- the laws' own small functions on texts: works, put, turned, digit, Pick. -/
import Derived.Test.YtenpakddifebbaaDoorCodesLaw
import Derived.IntWalk
namespace Go.Proofs.YtenpakddifebbaaDoor
set_option linter.unusedVariables false
set_option linter.unusedSimpArgs false
open Go.RowKit

theorem digit_any (c : Int) (w : World) : Calls Tryd.prog 17 #[.int .u8 c] w fun e w' => e = .returned (.bool (decide (48 ≤ c ∧ c ≤ 57))) ∧ w' = w := by
  by_cases h : 48 ≤ c
  · by_cases h2 : c ≤ 57
    · have e : decide (48 ≤ c ∧ c ≤ 57) = true := by simp; omega
      rw [e]
      clear e
      go_enter Tryd.func17, Tryd.ntmps17
      go_wp2
      go_ret
      exact ⟨rfl, rfl⟩
    · have e : decide (48 ≤ c ∧ c ≤ 57) = false := by simp; omega
      rw [e]
      clear e
      go_enter Tryd.func17, Tryd.ntmps17
      go_wp2
      go_ret
      exact ⟨rfl, rfl⟩
  · have e : decide (48 ≤ c ∧ c ≤ 57) = false := by simp; omega
    rw [e]
    clear e
    go_enter Tryd.func17, Tryd.ntmps17
    go_wp2
    go_ret
    exact ⟨rfl, rfl⟩

theorem pick_any (k n : Int) (w : World) (hk0 : -9223372036854775808 ≤ k) (hk1 : k ≤ 9223372036854775807) (hn : 1 ≤ n) (hn1 : n ≤ 1000) :
    Calls Tryd.prog 16 #[.int .i64 k, .int .i64 n] w fun e w' => (∃ i : Int, 0 ≤ i ∧ i < n ∧ e = .returned (.int .i64 i)) ∧ w' = w := by
  have h1 := Int.tmod_lt_of_pos k (by omega : 0 < n)
  have h2 : -n < k.tmod n := by
    have := Int.tmod_lt_of_pos (-k) (by omega : 0 < n)
    rw [Int.neg_tmod] at this
    omega
  by_cases h : k.tmod n < 0
  · go_enter Tryd.func16, Tryd.ntmps16
    go_wp2
    go_ret
    exact ⟨⟨k.tmod n + n, by omega, by omega, rfl⟩, rfl⟩
  · go_enter Tryd.func16, Tryd.ntmps16
    go_wp2
    go_ret
    exact ⟨⟨k.tmod n, by omega, by omega, rfl⟩, rfl⟩

/-- a text with another byte at a place -/
def setB (s : ByteArray) (i : Nat) (c : UInt8) : ByteArray := ⟨(s.data.toList.set i c).toArray⟩
theorem setB_size (s : ByteArray) (i : Nat) (c : UInt8) : (setB s i c).size = s.size := by
  show (s.data.toList.set i c).toArray.size = s.size
  simp
theorem setB_eq (s : ByteArray) (i : Nat) (c : UInt8) (hi : i < s.size) : s.extract 0 i ++ ({ data := #[c] } : ByteArray) ++ s.extract (i + 1) s.size = setB s i c := by
  apply str_ext
  have hl : i < s.data.toList.length := by simpa using hi
  have e : (setB s i c).data.toList = s.data.toList.set i c := by simp [setB]
  rw [e, List.set_eq_take_append_cons_drop, if_pos hl]
  simp [List.take_of_length_le]
set_option maxRecDepth 100000 in
set_option maxHeartbeats 1000000 in
theorem put_any (s : ByteArray) (i c : Nat) (w : World) (hi : i < s.size) (hs : s.size ≤ 1000) (hc : c < 256) :
    Calls Tryd.prog 18 #[.string s, .int .i64 i, .int .u8 c] w fun e w' => e = .returned (.string (setB s i (UInt8.ofNat c))) ∧ Below w.heap.size w w' := by
  have e1 : ({ data := #[UInt8.ofNat c] } : ByteArray).size = 1 := rfl
  have hE := setB_eq s i (UInt8.ofNat c) hi
  have HE := Lib.hid hE
  clear hE
  have hcv : (convert 38 9 (.slice (some ⟨w.heap.size, 0, none⟩) 1 1)).run Tryd.prog ((w.alloc (.cells #[.int .u8 (c : Int)] 5)).drew) = .ok (.string ⟨#[UInt8.ofNat c]⟩) ((w.alloc (.cells #[.int .u8 (c : Int)] 5)).drew) := run_byteString w.drew c hc
  have hle : i ≤ s.size := by omega
  have hle1 : i + 1 ≤ s.size := by omega
  have hw1 : IntKind.i64.wrap ((i : Int) + 1) = (i : Int) + 1 := IntWalk.i64_in _ (by omega)
  have hn1 : (0 : Int) ≤ (i : Int) + 1 := by omega
  have hn3 : (i : Int) + 1 ≤ (s.size : Int) := by omega
  have hn2 : ((i : Int) + 1).toNat = i + 1 := by omega
  go_enter Tryd.func18, Tryd.ntmps18
  go_wp2_with fail
  refine wp_region_held_drew (S := fun _ => True) (by kernel_rfl) trivial (fun hHeld => ?_)
  (refine rg_yes 0 ?v1 (by simp only [List.getElem?_toArray, List.getElem?_cons_succ, List.getElem?_cons_zero]; rfl) (by kernel_rfl) (by kernel_rfl) (by kernel_rfl) (by exact fun _ _ _ h => h) (by kernel_rfl) (by assumption) ?y1 ?z1; case y1 => (intro w hSw; (try dsimp only at hSw); go_simp; (try (rw [if_neg (by omega)])); (try with_reducible rfl)))
  (try simp only [Act.put, List.setIfInBounds_toArray, List.set_cons_zero, List.set_cons_succ])
  (refine rg_yes 1 ?v2 (by simp only [List.getElem?_toArray, List.getElem?_cons_succ, List.getElem?_cons_zero]; rfl) (by kernel_rfl) (by kernel_rfl) (by kernel_rfl) (by exact fun _ _ _ h => h) (by kernel_rfl) (by assumption) ?y2 ?z2; case y2 => (intro w hSw; (try dsimp only at hSw); go_simp; (try (rw [if_neg (by omega)])); (try with_reducible rfl)))
  (try simp only [Act.put, List.setIfInBounds_toArray, List.set_cons_zero, List.set_cons_succ])
  (refine rg_yes 2 ?v3 (by simp only [List.getElem?_toArray, List.getElem?_cons_succ, List.getElem?_cons_zero]; rfl) (by kernel_rfl) (by kernel_rfl) (by kernel_rfl) (by exact fun _ _ _ h => h) (by kernel_rfl) (by assumption) ?y3 ?z3; case y3 => (intro w hSw; (try dsimp only at hSw); go_simp; (try (rw [if_neg (by omega)])); (try with_reducible rfl)))
  (try simp only [Act.put, List.setIfInBounds_toArray, List.set_cons_zero, List.set_cons_succ])
  (refine rg_yes 3 ?v4 (by simp only [List.getElem?_toArray, List.getElem?_cons_succ, List.getElem?_cons_zero]; rfl) (by kernel_rfl) (by kernel_rfl) (by kernel_rfl) (by exact fun _ _ _ h => h) (by kernel_rfl) (by assumption) ?y4 ?z4; case y4 => (intro w hSw; (try dsimp only at hSw); go_simp; (try (rw [if_neg (by omega)])); (try with_reducible rfl)))
  (try simp only [Act.put, List.setIfInBounds_toArray, List.set_cons_zero, List.set_cons_succ])
  (refine rg_yes 7 ?v5 (by simp only [List.getElem?_toArray, List.getElem?_cons_succ, List.getElem?_cons_zero]; rfl) (by kernel_rfl) (by kernel_rfl) (by kernel_rfl) (by exact fun _ _ _ h => h) (by kernel_rfl) (by assumption) ?y5 ?z5; case y5 => (intro w hSw; (try dsimp only at hSw); go_simp; (try (rw [if_neg (by omega)])); (try with_reducible rfl)))
  (try simp only [Act.put, List.setIfInBounds_toArray, List.set_cons_zero, List.set_cons_succ])
  (refine rg_yes 8 ?v6 (by simp only [List.getElem?_toArray, List.getElem?_cons_succ, List.getElem?_cons_zero]; rfl) (by kernel_rfl) (by kernel_rfl) (by kernel_rfl) (by exact fun _ _ _ h => h) (by kernel_rfl) (by assumption) ?y6 ?z6; case y6 => (intro w hSw; (try dsimp only at hSw); go_simp; (try (rw [if_neg (by omega)])); (try with_reducible rfl)))
  (try simp only [Act.put, List.setIfInBounds_toArray, List.set_cons_zero, List.set_cons_succ])
  (refine rg_yes 9 ?v7 (by simp only [List.getElem?_toArray, List.getElem?_cons_succ, List.getElem?_cons_zero]; rfl) (by kernel_rfl) (by kernel_rfl) (by kernel_rfl) (by exact fun _ _ _ h => h) (by kernel_rfl) (by assumption) ?y7 ?z7; case y7 => (intro w hSw; (try dsimp only at hSw); go_simp; (try (rw [if_neg (by omega)])); (try with_reducible rfl)))
  (try simp only [Act.put, List.setIfInBounds_toArray, List.set_cons_zero, List.set_cons_succ])
  (refine rg_yes 10 ?v8 (by simp only [List.getElem?_toArray, List.getElem?_cons_succ, List.getElem?_cons_zero]; rfl) (by kernel_rfl) (by kernel_rfl) (by kernel_rfl) (by exact fun _ _ _ h => h) (by kernel_rfl) (by assumption) ?y8 ?z8; case y8 => (intro w hSw; (try dsimp only at hSw); go_simp; (try (rw [if_neg (by omega)])); (try with_reducible rfl)))
  (try simp only [Act.put, List.setIfInBounds_toArray, List.set_cons_zero, List.set_cons_succ])
  refine rg_one 4 _ _ (by simp only [List.getElem?_toArray, List.getElem?_cons_succ, List.getElem?_cons_zero]; rfl) (by kernel_rfl) (by kernel_rfl) (by go_simp; first | exact ⟨rfl, rfl⟩ | rfl) trivial (fun hHeld => ?_)
  (try simp only [Act.put, List.setIfInBounds_toArray, List.set_cons_zero, List.set_cons_succ])
  refine rg_one 5 _ _ (by simp only [List.getElem?_toArray, List.getElem?_cons_succ, List.getElem?_cons_zero]; rfl) (by kernel_rfl) (by kernel_rfl) (by go_simp; first | exact ⟨rfl, rfl⟩ | rfl) trivial (fun hHeld => ?_)
  (try simp only [Act.put, List.setIfInBounds_toArray, List.set_cons_zero, List.set_cons_succ])
  (refine rg_yes 6 ?v9 (by simp only [List.getElem?_toArray, List.getElem?_cons_succ, List.getElem?_cons_zero]; rfl) (by kernel_rfl) (by kernel_rfl) (by kernel_rfl) (by exact fun _ _ _ h => h) (by kernel_rfl) (by assumption) ?y9 ?z9; case y9 => (intro w hSw; (try dsimp only at hSw); go_simp; (try (rw [if_neg (by omega)])); (try with_reducible rfl)))
  (try simp only [Act.put, List.setIfInBounds_toArray, List.set_cons_zero, List.set_cons_succ])
  (refine rg_yes 11 ?v10 (by simp only [List.getElem?_toArray, List.getElem?_cons_succ, List.getElem?_cons_zero]; rfl) (by kernel_rfl) (by kernel_rfl) (by kernel_rfl) (by exact fun _ _ _ h => h) (by kernel_rfl) (by assumption) ?y10 ?z10; case y10 => (intro w hSw; (try dsimp only at hSw); go_simp; (try (rw [if_neg (by omega)])); (try with_reducible rfl)))
  (try simp only [Act.put, List.setIfInBounds_toArray, List.set_cons_zero, List.set_cons_succ])
  (refine rg_yes 12 ?v11 (by simp only [List.getElem?_toArray, List.getElem?_cons_succ, List.getElem?_cons_zero]; rfl) (by kernel_rfl) (by kernel_rfl) (by kernel_rfl) (by exact fun _ _ _ h => h) (by kernel_rfl) (by assumption) ?y11 ?z11; case y11 => (intro w hSw; (try dsimp only at hSw); go_simp; (try (rw [if_neg (by omega)])); (try with_reducible rfl)))
  (try simp only [Act.put, List.setIfInBounds_toArray, List.set_cons_zero, List.set_cons_succ])
  refine wpAnyH_done (by kernel_rfl) ?_ _
  rw [HE.out]
  go_wp2
  go_ret
  exact ⟨rfl, ((Below.refl _ _).alloc (Nat.le_refl _) _).drew⟩

def turnB (s : ByteArray) (i : Nat) : ByteArray := setB (setB s i (s.data.toList.getD (i + 1) 0)) (i + 1) (s.data.toList.getD i 0)
set_option maxRecDepth 100000 in
set_option maxHeartbeats 1000000 in
theorem turned_any (s : ByteArray) (i : Nat) (w : World) (hi : i + 1 < s.size) (hs : s.size ≤ 1000) :
    Calls Tryd.prog 20 #[.string s, .int .i64 i] w fun e w' => e = .returned (.string (turnB s i)) ∧ Below w.heap.size w w' := by
  have hle : i ≤ s.size := by omega
  have hlt : i < s.size := by omega
  have hw1 : IntKind.i64.wrap ((i : Int) + 1) = (i : Int) + 1 := IntWalk.i64_in _ (by omega)
  have hn1 : (0 : Int) ≤ (i : Int) + 1 := by omega
  have hn3 : (i : Int) + 1 < (s.size : Int) := by omega
  have hn2 : ((i : Int) + 1).toNat = i + 1 := by omega
  go_enter Tryd.func20, Tryd.ntmps20
  go_wp2_with fail
  refine wp_region_held_drew (S := fun w' => Below w.heap.size w w') (by kernel_rfl) (Below.refl _ _).drew (fun hHeld => ?_)
  (refine rg_yes 0 ?v12 (by simp only [List.getElem?_toArray, List.getElem?_cons_succ, List.getElem?_cons_zero]; rfl) (by kernel_rfl) (by kernel_rfl) (by kernel_rfl) (by exact fun _ _ _ h => h) (by kernel_rfl) (by assumption) ?y12 ?z12; case y12 => (intro w hSw; (try dsimp only at hSw); go_simp; (try (rw [if_neg (by omega)])); (try with_reducible rfl)))
  (try simp only [Act.put, List.setIfInBounds_toArray, List.set_cons_zero, List.set_cons_succ])
  (refine rg_yes 1 ?v13 (by simp only [List.getElem?_toArray, List.getElem?_cons_succ, List.getElem?_cons_zero]; rfl) (by kernel_rfl) (by kernel_rfl) (by kernel_rfl) (by exact fun _ _ _ h => h) (by kernel_rfl) (by assumption) ?y13 ?z13; case y13 => (intro w hSw; (try dsimp only at hSw); go_simp; (try (rw [if_neg (by omega)])); (try with_reducible rfl)))
  (try simp only [Act.put, List.setIfInBounds_toArray, List.set_cons_zero, List.set_cons_succ])
  (refine rg_yes 2 ?v14 (by simp only [List.getElem?_toArray, List.getElem?_cons_succ, List.getElem?_cons_zero]; rfl) (by kernel_rfl) (by kernel_rfl) (by kernel_rfl) (by exact fun _ _ _ h => h) (by kernel_rfl) (by assumption) ?y14 ?z14; case y14 => (intro w hSw; (try dsimp only at hSw); go_simp; (try (rw [if_neg (by omega)])); (try with_reducible rfl)))
  (try simp only [Act.put, List.setIfInBounds_toArray, List.set_cons_zero, List.set_cons_succ])
  (refine rg_yes 3 ?v15 (by simp only [List.getElem?_toArray, List.getElem?_cons_succ, List.getElem?_cons_zero]; rfl) (by kernel_rfl) (by kernel_rfl) (by kernel_rfl) (by exact fun _ _ _ h => h) (by kernel_rfl) (by assumption) ?y15 ?z15; case y15 => (intro w hSw; (try dsimp only at hSw); go_simp; (try (rw [if_neg (by omega)])); (try with_reducible rfl)))
  (try simp only [Act.put, List.setIfInBounds_toArray, List.set_cons_zero, List.set_cons_succ])
  (refine rg_yes 4 ?v16 (by simp only [List.getElem?_toArray, List.getElem?_cons_succ, List.getElem?_cons_zero]; rfl) (by kernel_rfl) (by kernel_rfl) (by kernel_rfl) (by exact fun _ _ _ h => h) (by kernel_rfl) (by assumption) ?y16 ?z16; case y16 => (intro w hSw; (try dsimp only at hSw); go_simp; (try (rw [if_neg (by omega)])); (try with_reducible rfl)))
  (try simp only [Act.put, List.setIfInBounds_toArray, List.set_cons_zero, List.set_cons_succ])
  (refine rg_yes 5 ?v17 (by simp only [List.getElem?_toArray, List.getElem?_cons_succ, List.getElem?_cons_zero]; rfl) (by kernel_rfl) (by kernel_rfl) (by kernel_rfl) (by exact fun _ _ _ h => h) (by kernel_rfl) (by assumption) ?y17 ?z17; case y17 => (intro w hSw; (try dsimp only at hSw); go_simp; (try (rw [if_neg (by omega)])); (try with_reducible rfl)))
  (try simp only [Act.put, List.setIfInBounds_toArray, List.set_cons_zero, List.set_cons_succ])
  (refine rg_yes 7 ?v18 (by simp only [List.getElem?_toArray, List.getElem?_cons_succ, List.getElem?_cons_zero]; rfl) (by kernel_rfl) (by kernel_rfl) (by kernel_rfl) (by exact fun _ _ _ h => h) (by kernel_rfl) (by assumption) ?y18 ?z18; case y18 => (intro w hSw; (try dsimp only at hSw); go_simp; (try (rw [if_neg (by omega)])); (try with_reducible rfl)))
  (try simp only [Act.put, List.setIfInBounds_toArray, List.set_cons_zero, List.set_cons_succ])
  (refine rg_yes 8 ?v19 (by simp only [List.getElem?_toArray, List.getElem?_cons_succ, List.getElem?_cons_zero]; rfl) (by kernel_rfl) (by kernel_rfl) (by kernel_rfl) (by exact fun _ _ _ h => h) (by kernel_rfl) (by assumption) ?y19 ?z19; case y19 => (intro w hSw; (try dsimp only at hSw); go_simp; (try (rw [if_neg (by omega)])); (try with_reducible rfl)))
  (try simp only [Act.put, List.setIfInBounds_toArray, List.set_cons_zero, List.set_cons_succ])
  (refine rg_yes 9 ?v20 (by simp only [List.getElem?_toArray, List.getElem?_cons_succ, List.getElem?_cons_zero]; rfl) (by kernel_rfl) (by kernel_rfl) (by kernel_rfl) (by exact fun _ _ _ h => h) (by kernel_rfl) (by assumption) ?y20 ?z20; case y20 => (intro w hSw; (try dsimp only at hSw); go_simp; (try (rw [if_neg (by omega)])); (try with_reducible rfl)))
  (try simp only [Act.put, List.setIfInBounds_toArray, List.set_cons_zero, List.set_cons_succ])
  (refine rg_yes 10 ?v21 (by simp only [List.getElem?_toArray, List.getElem?_cons_succ, List.getElem?_cons_zero]; rfl) (by kernel_rfl) (by kernel_rfl) (by kernel_rfl) (by exact fun _ _ _ h => h) (by kernel_rfl) (by assumption) ?y21 ?z21; case y21 => (intro w hSw; (try dsimp only at hSw); go_simp; (try (rw [if_neg (by omega)])); (try with_reducible rfl)))
  (try simp only [Act.put, List.setIfInBounds_toArray, List.set_cons_zero, List.set_cons_succ])
  (refine rg_yes 11 ?v22 (by simp only [List.getElem?_toArray, List.getElem?_cons_succ, List.getElem?_cons_zero]; rfl) (by kernel_rfl) (by kernel_rfl) (by kernel_rfl) (by exact fun _ _ _ h => h) (by kernel_rfl) (by assumption) ?y22 ?z22; case y22 => (intro w hSw; (try dsimp only at hSw); go_simp; (try (rw [if_neg (by omega)])); (try with_reducible rfl)))
  (try simp only [Act.put, List.setIfInBounds_toArray, List.set_cons_zero, List.set_cons_succ])
  refine rg_call 6 _ _ (by simp only [List.getElem?_toArray, List.getElem?_cons_succ, List.getElem?_cons_zero]; rfl) (by kernel_rfl) (by kernel_rfl) (fun w => by go_simp; exact ⟨rfl, rfl⟩) ?_
  have h1 := put_any s i s[i+1].toNat w.drew hlt hs s[i+1].toNat_lt
  rw [UInt8.ofNat_toNat] at h1
  refine h1.mono ?_
  rintro e w1 ⟨rfl, hb1⟩
  refine ⟨_, rfl, hHeld.trans (hb1.mono hHeld.size), fun hHeld => ?_⟩
  have h2 := put_any (setB s i s[i+1]) (i + 1) s[i].toNat w1 (by rw [setB_size]; exact hi) (by rw [setB_size]; exact hs) s[i].toNat_lt
  have e1 : ((i + 1 : Nat) : Int) = (i : Int) + 1 := by omega
  have e2 : setB (setB s i s[i+1]) (i + 1) (UInt8.ofNat s[i].toNat) = turnB s i := by
    unfold turnB
    rw [byte_at s _ hi, byte_at s _ hlt]
    simp
  rw [e1, e2] at h2
  clear e1 e2
  (try simp only [Act.put, List.setIfInBounds_toArray, List.set_cons_zero, List.set_cons_succ])
  refine rg_call 12 _ _ (by simp only [List.getElem?_toArray, List.getElem?_cons_succ, List.getElem?_cons_zero]; rfl) (by kernel_rfl) (by kernel_rfl) (fun w => by go_simp; exact ⟨rfl, rfl⟩) ?_
  refine h2.mono ?_
  rintro e w2 ⟨rfl, hb2⟩
  refine ⟨_, rfl, hHeld.trans (hb2.mono hHeld.size), fun hHeld => ?_⟩
  (refine rg_yes 13 ?v23 (by simp only [List.getElem?_toArray, List.getElem?_cons_succ, List.getElem?_cons_zero]; rfl) (by kernel_rfl) (by kernel_rfl) (by kernel_rfl) (by exact fun _ _ _ h => h) (by kernel_rfl) (by assumption) ?y23 ?z23; case y23 => (intro w hSw; (try dsimp only at hSw); go_simp; (try (rw [if_neg (by omega)])); (try with_reducible rfl)))
  (try simp only [Act.put, List.setIfInBounds_toArray, List.set_cons_zero, List.set_cons_succ])
  refine wpAnyH_done (by kernel_rfl) ?_ _
  go_wp2
  go_ret
  exact ⟨rfl, hHeld⟩

def goodL : List UInt8 := [85, 83, 48, 51, 55, 56, 51, 51, 49, 48, 48, 53]
def badL : List UInt8 := [85, 83, 48, 51, 55, 56, 51, 51, 49, 48, 48, 52]
theorem goodR : isinR goodL = (0, none) := by decide +kernel
theorem badR : isinR badL = (7, none) := by decide +kernel
set_option maxRecDepth 100000 in
set_option maxHeartbeats 1000000 in
theorem works_any (w : World) (hok : Ok w) :
    Calls Tryd.prog 15 #[] w fun e w' => e = .returned (.bool true) ∧ Below w.heap.size w w' := by
  have HOK := Lib.hid hok
  clear hok
  have h1 : ∀ w, Ok w → Calls Tryd.prog 10 #[.string ⟨#[85, 83, 48, 51, 55, 56, 51, 51, 49, 48, 48, 53]⟩] w (RetArr goodL (0, none) w) := fun w hok => by
    have := isinf_any ⟨#[85, 83, 48, 51, 55, 56, 51, 51, 49, 48, 48, 53]⟩ w (by decide) hok
    rw [show (⟨#[85, 83, 48, 51, 55, 56, 51, 51, 49, 48, 48, 53]⟩ : ByteArray).data.toList = goodL from rfl, goodR, if_pos rfl] at this
    exact this
  have h2 : ∀ w, Ok w → Calls Tryd.prog 10 #[.string ⟨#[85, 83, 48, 51, 55, 56, 51, 51, 49, 48, 48, 52]⟩] w (RetArr (zeros 12) (7, none) w) := fun w hok => by
    have := isinf_any ⟨#[85, 83, 48, 51, 55, 56, 51, 51, 49, 48, 48, 52]⟩ w (by decide) hok
    rw [show (⟨#[85, 83, 48, 51, 55, 56, 51, 51, 49, 48, 48, 52]⟩ : ByteArray).data.toList = badL from rfl, badR, if_neg (by decide)] at this
    exact this
  have hz : bytesV (zeros 12) = #[.int .u8 0, .int .u8 0, .int .u8 0, .int .u8 0, .int .u8 0, .int .u8 0, .int .u8 0, .int .u8 0, .int .u8 0, .int .u8 0, .int .u8 0, .int .u8 0] := by rfl
  have H1 := Lib.hid h1
  have H2 := Lib.hid h2
  have hlen : goodL.length = 12 := rfl
  have hT : ∀ w, Calls Tryd.prog 33 #[.agg (bytesV goodL)] w fun e w' => e = .returned (.string ⟨#[85, 83, 48, 51, 55, 56, 51, 51, 49, 48, 48, 53]⟩) ∧ Below w.heap.size w w' := fun w => textIsin_any goodL w hlen
  have HT := Lib.hid hT
  clear h1 h2 hT
  go_enter Tryd.func15, Tryd.ntmps15
  go_wp2_with fail
  refine (H1.out _ HOK.out).mono ?_
  rintro e w1 ⟨v, rfl, hE, hb1⟩
  obtain ⟨rfl, _⟩ := hE.zero rfl
  go_wp2_with (refine wpList_store_any rfl 25 _ _ rfl w1.heap.size (bytesV goodL) rfl rfl 25 _ (heap_alloc_new w1 _) (by kernel_rfl) rfl (bytesV_one _) ?_; intro w2 hr2 hs2 hbl2 _)
  have hb2 := hbl2 _ _ (hb1.alloc hb1.size _) hb1.size
  have hlt := lt_of_block hr2
  generalize w1.heap.size = g at hr2 hlt ⊢
  clear hb1 hbl2 hs2
  refine (H2.out _ (Ok.below HOK.out hb2)).mono ?_
  rintro e w3 ⟨v2, rfl, hE2, hb3⟩
  rw [hz]
  have hr3 := rowAt_below hr2 hb3
  have hlt3 := Nat.lt_of_lt_of_le hlt hb3.size
  have hbw3 := hb2.trans (hb3.mono hb2.size)
  clear hr2 hb3
  have hr4' : ∀ w4 : World, (∀ k, k ≠ w3.heap.size → w4.heap[k]? = (w3.alloc (.cells #[.int .u8 0, .int .u8 0, .int .u8 0, .int .u8 0, .int .u8 0, .int .u8 0, .int .u8 0, .int .u8 0, .int .u8 0, .int .u8 0, .int .u8 0, .int .u8 0] 25)).heap[k]?) → w4.heap[g]? = some (.cells (bytesV goodL) 25 (0, 0)) := fun w4 h => by
    rw [h g (Nat.ne_of_lt hlt3)]
    exact (heap_alloc_old w3 _ hlt3).trans hr3
  have HR4 := Lib.hid hr4'
  clear hr4'
  go_wp2_with (first
    | (refine wpList_store_any rfl 25 _ _ rfl w3.heap.size _ rfl rfl 25 _ (heap_alloc_new w3 _) (by kernel_rfl) rfl (by simp [Value.oneCell']) ?_; intro w4 hr4 hs4 hbl4 hot4; have hr5 := HR4.out w4 hot4; have hbw4 := hbl4 _ _ (hbw3.alloc hbw3.size _) hbw3.size)
    | (refine wpList_val _ (by kernel_rfl) (exec_load_row hr5 rfl rfl Tryd.underlying25 rfl (by kernel_rfl)) ?_))
  refine (HT.out _).mono ?_
  rintro e w5 ⟨rfl, hb5⟩
  have hbw5 := hbw4.trans (hb5.mono hbw4.size)
  go_wp2_with fail
  refine (plain_any v2 7 7 none true _ hE2 (by simp) (Ok.below HOK.out hbw5).1).mono ?_
  rintro e w6 ⟨rfl, hb6⟩
  go_wp2_with fail
  go_ret
  exact ⟨rfl, hbw5.trans (hb6.mono hbw5.size)⟩
end Go.Proofs.YtenpakddifebbaaDoor
