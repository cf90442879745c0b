/- codes.Currency, Account, Bic and the document's: by contract. -/
import Derived.Test.YtenpakddifebbaaGreatDoorLei
namespace Go.Proofs.YtenpakddifebbaaGreatDoor
set_option linter.unusedVariables false
set_option linter.unusedSimpArgs false
open Go.RowKit

theorem setCell_row {w : World} {g : Nat} {cs : Array Value} {t : TypeId} {fr : Nat × Nat} (h : w.heap[g]? = some (.cells cs t fr)) (k : Nat) (v : Value) : (w.setCell ⟨g, k, none⟩ v).heap[g]? = some (.cells (cs.setIfInBounds k v) t fr) := by
  have hlt := lt_of_block h
  have hv : w.heap[g] = .cells cs t fr := (Array.getElem?_eq_some_iff.1 h).2
  unfold World.setCell
  rw [Array.getElem?_eq_getElem (by simpa using hlt)]
  simp [Array.getElem_modify, hv]
theorem free_of_row {w : World} {g : Nat} {cs : Array Value} {t : TypeId} (h : w.heap[g]? = some (.cells cs t (0, 0))) (k : Nat) : w.frozen? ⟨g, k, none⟩ = false := by simp [World.frozen?, h]

def formCur : List UInt8 := [67, 67, 67]
theorem currency_any (s : ByteArray) (w : World) (hs : s.size ≤ 140737488351232) (hok : Ok w) :
    Calls Tryz.prog 16 #[.string s] w (RetErr (hasR s.data.toList formCur) w) := by
  have h := fun w => has_form s formCur w (by omega) (by decide) (by decide)
  generalize hasR s.data.toList formCur = r at h ⊢
  go_enter Tryz.func16, Tryz.ntmps16
  go_wp2_with fail
  refine (h _ hok).mono ?_
  rintro e w1 ⟨v, rfl, hE, hB⟩
  go_wp2_with fail
  go_ret
  exact ⟨v, rfl, hE, hB⟩
theorem currencyRef_any (s : ByteArray) (w : World) (hs : s.size ≤ 140737488351232) :
    Calls Tryz.prog 34 #[.string s] w fun e w' => e = .returned (.tuple #[.int .i64 (hasR s.data.toList formCur).1, .int .i64 (atOf (hasR s.data.toList formCur).2)]) ∧ Below w.heap.size w w' := by
  have h := fun w => hasRef_form s formCur w hs (by decide) (by decide)
  generalize hasR s.data.toList formCur = r at h ⊢
  go_enter Tryz.func34, Tryz.ntmps34
  go_wp2_with fail
  refine (h _).mono ?_
  rintro e w1 ⟨rfl, hB⟩
  go_wp2_with fail
  go_ret2
  exact ⟨rfl, hB⟩

def accN (n : Nat) : Nat := min (max n 1) 34
def formAcc (n : Nat) : List UInt8 := List.replicate (accN n) 83
theorem repeatAcc (n : Nat) (w : World) (hn : n ≤ 34) : Calls Tryz.prog 30 #[.string ⟨#[83]⟩, .int .i64 n] w fun e w' => e = .returned (.string ⟨(List.replicate n 83).toArray⟩) ∧ Below w.heap.size w w' := by
  have h := Tryz.strings_Repeat ⟨#[83]⟩ n w (by omega) (by
    have : (⟨#[83]⟩ : ByteArray).size = 1 := rfl
    rw [this]; omega)
  have e : (Lib.repeatL (⟨#[83]⟩ : ByteArray).data.toList n) = List.replicate n 83 := by
    clear h hn
    show Lib.repeatL [83] n = _
    induction n with
    | zero => rfl
    | succ n ih => simp [Lib.repeatL] at ih ⊢; simp_all [List.replicate_succ]
  rw [e] at h
  exact h
theorem account_any (s : ByteArray) (w : World) (hs : s.size ≤ 140737488351232) (hok : Ok w) :
    Calls Tryz.prog 17 #[.string s] w (RetErr (hasR s.data.toList (formAcc s.size)) w) := by
  have h34 : accN s.size ≤ 34 := by unfold accN; omega
  have hk : min (max (s.size : Int) 1) 34 = (accN s.size : Int) := by unfold accN; omega
  have h := fun w => has_form s (formAcc s.size) w (by omega) (by simp [formAcc]; omega) (by simp [formAcc])
  have hr := fun w => repeatAcc (accN s.size) w h34
  have e : (List.replicate (accN s.size) (83 : UInt8)).toArray = (formAcc s.size).toArray := rfl
  rw [e] at hr
  generalize hasR s.data.toList (formAcc s.size) = r at h ⊢
  generalize (⟨(formAcc s.size).toArray⟩ : ByteArray) = F at h hr
  generalize accN s.size = n at h34 hk hr
  go_enter Tryz.func17, Tryz.ntmps17
  go_wp2_with fail
  refine (hr _).mono ?_
  rintro e w1 ⟨rfl, hb1⟩
  go_wp2_with fail
  refine (h _ (Ok.below hok hb1)).mono ?_
  rintro e w2 ⟨v, rfl, hE, hb2⟩
  go_wp2_with fail
  go_ret
  exact ⟨v, rfl, hE, hb1.trans (hb2.mono hb1.size)⟩

theorem formAcc_len (n : Nat) : (formAcc n).length = accN n := by simp [formAcc]
theorem formAcc_at (n j : Nat) (h : j < accN n) : (formAcc n).getD j 0 = 83 := by
  rw [List.getD_eq_getElem?_getD, List.getElem?_eq_getElem (by rw [formAcc_len]; exact h)]
  simp [formAcc]
theorem signB_eq (c : Int) : signB c = isB c 83 := by
  unfold signB isB
  simp
set_option maxRecDepth 100000 in
set_option maxHeartbeats 1000000 in
theorem accountRef_any (s : ByteArray) (w : World) (hs : s.size ≤ 140737488351232) :
    Calls Tryz.prog 35 #[.string s] w fun e w' => e = .returned (.tuple #[.int .i64 (hasR s.data.toList (formAcc s.size)).1, .int .i64 (atOf (hasR s.data.toList (formAcc s.size)).2)]) ∧ Below w.heap.size w w' := by
  by_cases h0 : s.size = 0
  · have hR : hasR s.data.toList (formAcc s.size) = (2, none) := by
      unfold hasR
      rw [if_pos (by rw [formAcc_len, len_str, h0]; decide)]
    rw [hR]
    clear hR
    go_enter Tryz.func35, Tryz.ntmps35
    go_wp2
    go_ret2
    exact ⟨rfl, Below.refl _ _⟩
  by_cases h34 : 34 < s.size
  · have hR : hasR s.data.toList (formAcc s.size) = (3, none) := by
      have : accN s.size = 34 := by unfold accN; omega
      unfold hasR
      rw [if_neg (by rw [formAcc_len, len_str]; omega), if_pos (by rw [formAcc_len, len_str]; omega)]
    rw [hR]
    clear hR
    go_enter Tryz.func35, Tryz.ntmps35
    go_wp2
    go_ret2
    exact ⟨rfl, Below.refl _ _⟩
  have hacc : accN s.size = s.size := by unfold accN; omega
  have hlen : s.data.toList.length = (formAcc s.size).length := by rw [formAcc_len, hacc, len_str]
  have hat : ∀ j, j < s.size → (formAcc s.size).getD j 0 = 83 := fun j hj => formAcc_at _ _ (by omega)
  generalize formAcc s.size = F at hlen hat ⊢
  have HL := Lib.hid hlen
  have HAT := Lib.hid hat
  have kz : ((s.size : Int) == 0) = false := by simp only [beq_eq_false_iff_ne, ne_eq]; omega
  have k34 : ¬ ((34 : Int) < (s.size : Int)) := by omega
  clear hlen hat hacc h0 h34
  go_enter Tryz.func35, Tryz.ntmps35
  go_wp2
  go_loopw [4] (fun i wr => ∃ k : Nat, k ≤ s.size ∧ i = .int .i64 k ∧ Below w.heap.size w wr ∧ ∀ j, j < k → isB (s.data.toList.getD j 0).toNat (F.getD j 0).toNat = true) (fun i _ => s.size - (intOf i).toNat)
  case atStart => exact ⟨0, Nat.zero_le _, rfl, Below.refl _ _, fun j hj => absurd hj (by omega)⟩
  case round =>
    obtain ⟨k, hk, rfl, hB, hj⟩ := hrel
    have HJ := Lib.hid hj
    clear hj
    by_cases hlt : k < s.size
    · have hlti : (k : Int) < (s.size : Int) := by omega
      have b1 := byte_at s k hlt
      have b2 := HAT.out k hlt
      have HB1 := Lib.hid b1
      have HB2 := Lib.hid b2
      clear b1 b2
      have hsg := fun w => isSign_any (s[k].toNat) w
      rw [signB_eq] at hsg
      cases hb : isB (s[k].toNat) 83
      · have hR : hasR s.data.toList F = (6, some (0, (k : Int))) := hasR_bad _ _ k HL.out (by simpa using hlt) HJ.out (by rw [HB1.out, HB2.out]; exact hb)
        rw [hb] at hsg
        have HR := Lib.hid hR
        clear hR hb
        go_wp2_with fail
        refine (hsg _).mono ?_
        rintro e w1 ⟨rfl, rfl⟩
        go_wp2_with fail
        go_ret2
        rw [HR.out]
        exact ⟨rfl, hB⟩
      · rw [hb] at hsg
        have HB := Lib.hid hb
        clear hb
        go_wp2_with fail
        refine (hsg _).mono ?_
        rintro e w1 ⟨rfl, rfl⟩
        go_wp2
        refine ⟨⟨k + 1, by omega, by go_num, hB, fun j hj => ?_⟩, by simp [intOf]; omega⟩
        rcases Nat.lt_or_eq_of_le (Nat.lt_succ_iff.1 hj) with h | h
        · exact HJ.out j h
        · subst h; rw [HB1.out, HB2.out]; exact HB.out
    · obtain rfl : k = s.size := by omega
      have hR : hasR s.data.toList F = (0, none) := hasR_ok _ _ HL.out (fun j hj => HJ.out j (by simpa using hj))
      have HR := Lib.hid hR
      clear hR
      go_wp2
      go_ret2
      rw [HR.out]
      exact ⟨rfl, hB⟩
end Go.Proofs.YtenpakddifebbaaGreatDoor
