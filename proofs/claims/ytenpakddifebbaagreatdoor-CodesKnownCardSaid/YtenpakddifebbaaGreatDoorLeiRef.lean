/- the document's answers on LEIs: Remainder, LeiDigits, Lei. -/
import Derived.Test.YtenpakddifebbaaGreatDoorRefCodes
import Derived.IntWalk
namespace Go.Proofs.YtenpakddifebbaaGreatDoor
set_option linter.unusedVariables false
set_option linter.unusedSimpArgs false
open Go.RowKit

def formLei : List UInt8 := [83, 83, 83, 83, 83, 83, 83, 83, 83, 83, 83, 83, 83, 83, 83, 83, 83, 83, 68, 68]
def formLeiHead : List UInt8 := [83, 83, 83, 83, 83, 83, 83, 83, 83, 83, 83, 83, 83, 83, 83, 83, 83, 83]
def leiDigitsR (l : List UInt8) : List UInt8 := if (hasR l formLeiHead).1 = 0 then digits2 l else []
def leiR (l : List UInt8) : Int × Option (Int × Int) := if (hasR l formLei).1 = 0 then (if l.drop 18 = digits2 (l.take 18) then (0, none) else (7, none)) else hasR l formLei

set_option maxRecDepth 100000 in
set_option maxHeartbeats 1000000 in
theorem remRef_any (v : Value) (l : List Int) (w : World) (hl : l.length ≤ 1000) (hd : ∀ d ∈ l, 0 ≤ d ∧ d ≤ 9) (hr : ReadInts v l w) :
    Calls Tryz.prog 63 #[v] w fun e w' => e = .returned (.int .i64 (remOf l)) ∧ w = w' := by
  obtain ⟨a, cap, rfl, hc⟩ := hr
  have HC := Lib.hid hc
  have HD := Lib.hid hd
  clear hc hd
  go_enter Tryz.func63, Tryz.ntmps63
  go_wp2
  go_loop [3, 4] (fun r i => ∃ (j : Nat) (R : Int), j ≤ l.length ∧ r = .int .i64 R ∧ i = .int .i64 j ∧ Hid (R = remOf (l.take j)) ∧ 0 ≤ R ∧ R ≤ 96) (fun _ i => (l.length - intOf i).toNat)
  case atStart => exact ⟨0, 0, Nat.zero_le _, rfl, rfl, by show _ = _; simp [remOf], by omega, by omega⟩
  case round =>
    obtain ⟨j, R, hj, rfl, rfl, hR, hR0, hR1⟩ := hrel
    by_cases hlt : j < l.length
    · obtain ⟨g, off, rfl, hcell⟩ := HC.out j hlt
      have hdig := HD.out _ (List.getElem_mem hlt)
      have hsn : remOf (l.take (j + 1)) = (remOf (l.take j) * 10 + l[j]) % 97 := by
        rw [List.take_succ_eq_append_getElem hlt, remOf_snoc]
      rw [← hR.out] at hsn
      have HS := Lib.hid hsn
      clear hsn hR
      generalize l[j] = d at *
      obtain ⟨d0, d1⟩ := hdig
      go_wp2
      go_round
      case rel => exact ⟨j + 1, (R * 10 + d) % 97, by omega, by congr 1; rw [Int.mul_comm 10 R], by go_num, HS.out.symm, by omega, by omega⟩
      case measure => simp [intOf]; omega
    · obtain rfl : j = l.length := by omega
      have h2 := hR.out
      rw [List.take_length] at h2
      go_wp2
      go_ret
      exact ⟨rfl, rfl⟩

theorem run_byteString2 (w : World) (c d : Nat) (h : c < 256) (h2 : d < 256) : (convert 46 9 (.slice (some ⟨w.heap.size, 0, none⟩) 2 2)).run Tryz.prog (w.alloc (.cells #[.int .u8 (c : Int), .int .u8 (d : Int)] 5)) = .ok (.string ⟨#[UInt8.ofNat c, UInt8.ofNat d]⟩) (w.alloc (.cells #[.int .u8 (c : Int), .int .u8 (d : Int)] 5)) := by
  have e : ((UInt8.ofNat c).toNat : Int) = c := by
    have : c % 256 = c := Nat.mod_eq_of_lt h
    simp [this]
  have e2 : ((UInt8.ofNat d).toNat : Int) = d := by
    have : d % 256 = d := Nat.mod_eq_of_lt h2
    simp [this]
  have := run_convert_bytes_back (P := Tryz.prog) (w.alloc (.cells #[.int .u8 (c : Int), .int .u8 (d : Int)] 5)) 46 9 5 ⟨w.heap.size, 0, none⟩ 2 [UInt8.ofNat c, UInt8.ofNat d] Tryz.underlying46 Tryz.underlying5 Tryz.underlying9 (fun j hj => by
    have hj0 : j = 0 ∨ j = 1 := by simp at hj; omega
    rcases hj0 with rfl | rfl
    · show (w.alloc (.cells #[.int .u8 (c : Int), .int .u8 (d : Int)] 5)).cell? ⟨w.heap.size, 0, none⟩ = _
      rw [cell_of_row _ _ _ _ _ _ (heap_alloc_new _ _)]
      simp [e]
      omega
    · show (w.alloc (.cells #[.int .u8 (c : Int), .int .u8 (d : Int)] 5)).cell? ⟨w.heap.size, 1, none⟩ = _
      rw [cell_of_row _ _ _ _ _ _ (heap_alloc_new _ _)]
      simp [e2]
      omega)
  exact this

set_option maxRecDepth 100000 in
set_option maxHeartbeats 1000000 in
theorem leiDigitsRef_any (s : ByteArray) (w : World) (hs : s.size ≤ 140737488351232) :
    Calls Tryz.prog 41 #[.string s] w fun e w' => e = .returned (.tuple #[.string ⟨(leiDigitsR s.data.toList).toArray⟩, .int .i64 (hasR s.data.toList formLeiHead).1, .int .i64 (atOf (hasR s.data.toList formLeiHead).2)]) ∧ Below w.heap.size w w' := by
  by_cases h1 : (hasR s.data.toList formLeiHead).1 = 0
  · have hsig := hasR_signs h1
    have hlen := (hasR_fits h1).1
    have h18 : s.size = 18 := by simpa [formLeiHead] using hlen
    have hz := hasR_zero h1
    have e2 : ({ data := #[48, 48] } : ByteArray).size = 2 := rfl
    have hcat : (s ++ ({ data := #[48, 48] } : ByteArray)).data.toList = s.data.toList ++ [48, 48] := by simp
    have hsig2 : ∀ c ∈ s.data.toList ++ [48, 48], isSign c = true := by
      intro c hc
      simp at hc
      rcases hc with hc | rfl
      · exact hsig c (by simpa using hc)
      · rfl
    have hdig := spread_digits _ hsig2
    have hsl := spread_len (s.data.toList ++ [48, 48])
    have hll : (s.data.toList ++ [48, 48]).length = 20 := by simp; omega
    have hR : leiDigitsR s.data.toList = [UInt8.ofNat (48 + (98 - remOf (spread (s.data.toList ++ [48, 48]))).toNat / 10), UInt8.ofNat (48 + (98 - remOf (spread (s.data.toList ++ [48, 48]))).toNat % 10)] := by
      unfold leiDigitsR; rw [if_pos h1]; rfl
    have hbd := remOf_bd (spread (s.data.toList ++ [48, 48]))
    have HL : Hid ((spread (s.data.toList ++ [48, 48])).length ≤ 1000) := by show _ ≤ _; omega
    have HR := Lib.hid hR
    have HZ := Lib.hid hz
    have HC := Lib.hid hcat
    have HS := Lib.hid hsig2
    have HG := Lib.hid hdig
    clear hR hz hcat hsig2 hdig hsl hll hsig hlen h1
    generalize hq : remOf (spread (s.data.toList ++ [48, 48])) = q at *
    have HQ := Lib.hid hq
    clear hq
    obtain ⟨q0, q1⟩ := hbd
    obtain ⟨n, hn⟩ : ∃ n : Nat, 98 - q = n := ⟨(98 - q).toNat, by omega⟩
    have hn2 : n ≤ 98 := by omega
    have hnt : (98 - q).toNat = n := by omega
    rw [hnt] at HR
    have hcv := fun w => run_byteString2 w (48 + n / 10) (48 + n % 10) (by omega) (by omega)
    have HCV := Lib.hid hcv
    clear hcv
    go_enter Tryz.func41, Tryz.ntmps41
    go_wp2_with fail
    refine (hasRef_form s formLeiHead _ hs (by decide) (by decide)).mono ?_
    rintro e w1 ⟨rfl, hB⟩
    rw [HZ.out]
    go_wp2_with fail
    refine (spread_any _ _ (by simp [e2]; omega) (by rw [HC.out]; exact HS.out)).mono ?_
    rintro e w2 ⟨v, rfl, ho, hB2⟩
    rw [HC.out] at ho
    go_wp2_with fail
    refine (remRef_any v _ _ HL.out HG.out ho.read).mono ?_
    rintro e w3 ⟨rfl, rfl⟩
    rw [HQ.out]
    have hcv := HCV.out w2
    have e3 : ((48 + n / 10 : Nat) : Int) = 48 + (n : Int) / 10 := by omega
    have e4 : ((48 + n % 10 : Nat) : Int) = 48 + (n : Int) % 10 := by omega
    rw [e3, e4] at hcv
    clear e3 e4
    have k1 : IntKind.u8.wrap (48 + (n : Int) / 10) = 48 + (n : Int) / 10 := IntWalk.u8_in _ (by omega)
    have k2 : IntKind.u8.wrap (48 + (n : Int) % 10) = 48 + (n : Int) % 10 := IntWalk.u8_in _ (by omega)
    have k3 : IntKind.i64.wrap (98 - q) = n := by rw [hn]; exact IntWalk.i64_in _ (by omega)
    go_wp2
    go_ret3
    rw [HZ.out, HR.out]
    exact ⟨by simp [atOf], (hB.trans (hB2.mono hB.size)).alloc (Nat.le_trans hB.size hB2.size) _⟩
  · have e : leiDigitsR s.data.toList = [] := by unfold leiDigitsR; rw [if_neg h1]
    rw [e]
    generalize hr : hasR s.data.toList formLeiHead = r at *
    have HR := Lib.hid hr
    have h1b : (r.1 != 0) = true := by simpa using h1
    clear e hr h1
    go_enter Tryz.func41, Tryz.ntmps41
    go_wp2_with fail
    refine (hasRef_form s formLeiHead _ hs (by decide) (by decide)).mono ?_
    rintro e w1 ⟨rfl, hB⟩
    rw [HR.out]
    go_wp2
    go_ret3
    exact ⟨rfl, hB⟩

theorem hasR_head {l : List UInt8} (h : (hasR l formLei).1 = 0) : (hasR (l.take 18) formLeiHead).1 = 0 ∧ l.length = 20 := by
  obtain ⟨hl, hf⟩ := hasR_fits h
  have h20 : l.length = 20 := by simpa [formLei] using hl
  refine ⟨?_, h20⟩
  rw [hasR_ok _ _ (by simp [formLeiHead]; omega) (fun j hj => ?_)]
  have hj18 : j < 18 := by simp at hj; omega
  have e1 : (l.take 18).getD j 0 = l.getD j 0 := by
    rw [List.getD_eq_getElem?_getD, List.getD_eq_getElem?_getD, List.getElem?_take, if_pos hj18]
  have e2 : formLei.getD j 0 = formLeiHead.getD j 0 := by
    have : ∀ j : Fin 18, formLei.getD j 0 = formLeiHead.getD j 0 := by decide
    exact this ⟨j, hj18⟩
  have := hf j (by omega)
  rw [e1, ← e2]
  exact this
theorem leiDigits_of {l : List UInt8} (h : (hasR l formLei).1 = 0) : leiDigitsR (l.take 18) = digits2 (l.take 18) := by
  unfold leiDigitsR
  rw [if_pos (hasR_head h).1]
theorem strNe {a b : ByteArray} (h : a.data.toList ≠ b.data.toList) : (a.toList == b.toList) = false := by
  rw [ByteArray.toList_eq, ByteArray.toList_eq]
  simpa using h

set_option maxRecDepth 100000 in
set_option maxHeartbeats 1000000 in
theorem leiRef_any (s : ByteArray) (w : World) (hs : s.size ≤ 140737488351232) :
    Calls Tryz.prog 39 #[.string s] w fun e w' => e = .returned (.tuple #[.int .i64 (leiR s.data.toList).1, .int .i64 (atOf (leiR s.data.toList).2)]) ∧ Below w.heap.size w w' := by
  by_cases h1 : (hasR s.data.toList formLei).1 = 0
  · have hz := hasR_zero h1
    have h20 : s.size = 20 := by have := (hasR_head h1).2; simpa using this
    have hle : (18 : Nat) ≤ s.size := by omega
    have hd := fun w => leiDigitsRef_any (s.extract 0 18) w (by simp; omega)
    have et : (s.extract 0 18).data.toList = s.data.toList.take 18 := by simp
    have er : (s.extract 18 s.size).data.toList = s.data.toList.drop 18 := by simp [List.take_of_length_le]
    rw [et, leiDigits_of h1, hasR_zero (hasR_head h1).1] at hd
    have HD := Lib.hid hd
    have HZ := Lib.hid hz
    clear hd hz
    by_cases h2 : s.data.toList.drop 18 = digits2 (s.data.toList.take 18)
    · have hR : leiR s.data.toList = (0, none) := by unfold leiR; rw [if_pos h1, if_pos h2]
      have hS : (⟨(digits2 (s.data.toList.take 18)).toArray⟩ : ByteArray) = s.extract 18 s.size := by
        apply str_ext
        rw [er, h2]
      rw [hS] at HD
      have HR := Lib.hid hR
      clear hR hS h1 h2 et er
      have hself : ((s.extract 18 s.size).toList == (s.extract 18 s.size).toList) = true := by simp
      go_enter Tryz.func39, Tryz.ntmps39
      go_wp2_with fail
      refine (hasRef_form s formLei _ hs (by decide) (by decide)).mono ?_
      rintro e w1 ⟨rfl, hB⟩
      rw [HZ.out]
      go_wp2_with fail
      refine (HD.out _).mono ?_
      rintro e w2 ⟨rfl, hB2⟩
      go_wp2
      go_ret2
      rw [HR.out]
      exact ⟨rfl, hB.trans (hB2.mono hB.size)⟩
    · have hR : leiR s.data.toList = (7, none) := by unfold leiR; rw [if_pos h1, if_neg h2]
      have hne : ((s.extract 18 s.size).toList == (⟨(digits2 (s.data.toList.take 18)).toArray⟩ : ByteArray).toList) = false := strNe (by rw [er]; exact h2)
      rw [h20] at hne
      generalize (⟨(digits2 (s.data.toList.take 18)).toArray⟩ : ByteArray) = D at hne HD
      have HR := Lib.hid hR
      clear hR h1 h2 et er
      go_enter Tryz.func39, Tryz.ntmps39
      go_wp2_with fail
      refine (hasRef_form s formLei _ hs (by decide) (by decide)).mono ?_
      rintro e w1 ⟨rfl, hB⟩
      rw [HZ.out]
      go_wp2_with fail
      refine (HD.out _).mono ?_
      rintro e w2 ⟨rfl, hB2⟩
      go_wp2
      go_ret2
      rw [HR.out]
      exact ⟨rfl, hB.trans (hB2.mono hB.size)⟩
  · have e : leiR s.data.toList = hasR s.data.toList formLei := by unfold leiR; rw [if_neg h1]
    rw [e]
    generalize hr : hasR s.data.toList formLei = r at *
    have HR := Lib.hid hr
    have h1b : (r.1 != 0) = true := by simpa using h1
    clear e hr h1
    go_enter Tryz.func39, Tryz.ntmps39
    go_wp2_with fail
    refine (hasRef_form s formLei _ hs (by decide) (by decide)).mono ?_
    rintro e w1 ⟨rfl, hB⟩
    rw [HR.out]
    go_wp2
    go_ret2
    exact ⟨rfl, hB⟩
end Go.Proofs.YtenpakddifebbaaGreatDoor
