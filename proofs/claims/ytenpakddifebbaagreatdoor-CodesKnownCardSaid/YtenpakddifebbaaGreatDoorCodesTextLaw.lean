/- the law CodesText walked. -/
import Derived.Test.YtenpakddifebbaaGreatDoorText
namespace Go.Proofs.YtenpakddifebbaaGreatDoor
set_option linter.unusedVariables false
set_option linter.unusedSimpArgs false
open Go.RowKit Go.Shelf

def headB (s : ByteArray) (n : Nat) : ByteArray := if n < s.size then s.extract 0 n else s
theorem headB_list (s : ByteArray) (n : Nat) : (headB s n).data.toList = s.data.toList.take n := by
  unfold headB
  split
  · simp
  · rw [List.take_of_length_le (by simp; omega)]
theorem headB_size (s : ByteArray) (n : Nat) : (headB s n).size ≤ n := by
  have : (headB s n).data.toList.length ≤ n := by rw [headB_list]; simp; omega
  simpa using this
theorem head_any (s : ByteArray) (n : Nat) (w : World) (hn : 1 ≤ n) (hn2 : n ≤ 1000) (hs : s.size ≤ 140737488351232) :
    Calls Tryz.prog 64 #[.string s, .int .i64 n] w fun e w' => e = .returned (.string (headB s n)) ∧ w = w' := by
  by_cases h : n < s.size
  · have e : headB s n = s.extract 0 n := by simp [headB, h]
    rw [e]
    go_enter Tryz.func64, Tryz.ntmps64
    go_wp2
    go_ret
    exact ⟨rfl, rfl⟩
  · have e : headB s n = s := by simp [headB, h]
    rw [e]
    go_enter Tryz.func64, Tryz.ntmps64
    go_wp2
    go_ret
    exact ⟨rfl, rfl⟩

def lenOf : Value → Nat | .string b => b.size | _ => 0
theorem fixed_pad (n : Nat) (l : List UInt8) (k : Nat) (h : (l.take n).length + k = n) : fixed n l = l.take n ++ List.replicate k 0 := by
  apply List.ext_getElem?
  intro i
  simp only [fixed, List.getElem?_map, List.getElem?_append, List.length_take, List.getElem?_take, List.getElem?_replicate]
  simp only [List.length_take] at h
  by_cases hi : i < n
  · rw [List.getElem?_range hi]
    by_cases hl : i < l.length
    · have : i < min n l.length := by omega
      simp [this, hi, hl]
    · have h1 : ¬ i < min n l.length := by omega
      have h2 : i - min n l.length < k := by omega
      have h3 : l[i]? = none := by simp; omega
      simp [h1, h2, h3]
  · have h1 : ¬ i < min n l.length := by omega
    have h2 : ¬ i - min n l.length < k := by omega
    rw [List.getElem?_eq_none (by simp; omega)]
    simp [h1, h2]

set_option maxHeartbeats 800000 in
theorem codesText_law (s : ByteArray) (w : World) (hs : s.size ≤ 140737488351232) :
    Calls Tryz.prog 42 #[.string s] w fun e w' => e = .returned (.bool true) ∧ Below w.heap.size w w' := by
  go_enter Tryz.func42, Tryz.ntmps42
  have h12 := head_any s 12
  have h20 := head_any s 20
  go_wp2_with fail
  refine (head_any s 12 _ (by omega) (by omega) hs).mono ?_
  rintro e w' ⟨rfl, rfl⟩
  go_wp2_with fail
  refine (head_any s 20 _ (by omega) (by omega) hs).mono ?_
  rintro e w' ⟨rfl, rfl⟩
  go_wp2_with fail
  generalize hA : headB s 12 = A0
  generalize hC : headB s 20 = C0
  have HA := Lib.hid hA
  have HC := Lib.hid hC
  clear hA hC
  go_loop [3] (fun a => ∃ b : ByteArray, ∃ k : Nat, a = .string b ∧ b.size ≤ 12 ∧ b.data.toList = s.data.toList.take 12 ++ List.replicate k 0) (fun a => 12 - lenOf a)
  case atStart => exact ⟨A0, 0, rfl, by rw [← HA.out]; exact headB_size s 12, by rw [← HA.out, headB_list]; simp⟩
  case round =>
    obtain ⟨b, k, rfl, hb, hl⟩ := hrel
    have HL := Lib.hid hl
    clear hl
    by_cases hlt : b.size < 12
    · go_wp2
      go_round
      case rel =>
        have e1 : ({ data := #[0] } : ByteArray).size = 1 := rfl
        refine ⟨_, k + 1, rfl, by simp [e1]; omega, ?_⟩
        have := HL.out
        simp [this, List.replicate_succ']
      case measure =>
        have e1 : ({ data := #[0] } : ByteArray).size = 1 := rfl
        simp [lenOf, e1]; omega
    · go_wp2
      go_loop [4] (fun a => ∃ c : ByteArray, ∃ j : Nat, a = .string c ∧ c.size ≤ 20 ∧ c.data.toList = s.data.toList.take 20 ++ List.replicate j 0) (fun a => 20 - lenOf a)
      case atStart => exact ⟨C0, 0, rfl, by rw [← HC.out]; exact headB_size s 20, by rw [← HC.out, headB_list]; simp⟩
      case round =>
        obtain ⟨c, j, rfl, hc, hm⟩ := hrel
        have HM := Lib.hid hm
        clear hm
        by_cases hlt2 : c.size < 20
        · go_wp2
          go_round
          case rel =>
            have e1 : ({ data := #[0] } : ByteArray).size = 1 := rfl
            refine ⟨_, j + 1, rfl, by simp [e1]; omega, ?_⟩
            have := HM.out
            simp [this, List.replicate_succ']
          case measure =>
            have e1 : ({ data := #[0] } : ByteArray).size = 1 := rfl
            simp [lenOf, e1]; omega
        · have f12 : fixed 12 s.data.toList = b.data.toList := by
            have hl := HL.out
            have e : b.data.toList.length = 12 := by rw [len_str]; omega
            rw [hl]; refine fixed_pad _ _ _ ?_
            rw [hl] at e; simpa using e
          have f20 : fixed 20 s.data.toList = c.data.toList := by
            have hl := HM.out
            have e : c.data.toList.length = 20 := by rw [len_str]; omega
            rw [hl]; refine fixed_pad _ _ _ ?_
            rw [hl] at e; simpa using e
          have F12 := Lib.hid f12
          have F20 := Lib.hid f20
          clear f12 f20
          go_wp2_with fail
          refine (isin_any s _ hs).mono ?_
          rintro e w1 ⟨rfl, hB1⟩
          go_wp2_with fail
          refine (textIsin_any _ _ (fixed_length _ _)).mono ?_
          rintro e w2 ⟨rfl, hB2⟩
          rw [F12.out]
          go_wp2_with fail
          refine (lei_any s _ hs).mono ?_
          rintro e w3 ⟨rfl, hB3⟩
          go_wp2_with fail
          refine (textLei_any _ _ (fixed_length _ _)).mono ?_
          rintro e w4 ⟨rfl, hB4⟩
          rw [F20.out]
          go_wp2_with fail
          go_ret
          exact ⟨rfl, hB1.trans ((hB2.mono hB1.size).trans ((hB3.mono (Nat.le_trans hB1.size hB2.size)).trans (hB4.mono (Nat.le_trans (Nat.le_trans hB1.size hB2.size) hB3.size))))⟩

end Go.Proofs.YtenpakddifebbaaGreatDoor
