/- texts of this claim, laid together: CodesEach. -/
import Derived.Test.YtmepjcnpbjdlkaaGreatDoorQbBase
/- codes.each with the closures of luhn and digits: by contract. -/
namespace Go.Proofs.YtmepjcnpbjdlkaaGreatDoor
set_option linter.unusedVariables false
set_option linter.unusedSimpArgs false
open Go.RowKit

def isSign (c : UInt8) : Bool := (48 ≤ c.toNat && c.toNat ≤ 57) || (65 ≤ c.toNat && c.toNat ≤ 90)
/-- the digits of a sign -/
def signDigits (c : UInt8) : List Int := if c.toNat ≤ 57 then [(c.toNat : Int) - 48] else [((c.toNat : Int) - 65) / 10 + 1, ((c.toNat : Int) - 65) % 10]
def spread (l : List UInt8) : List Int := l.flatMap signDigits
theorem spread_snoc (l : List UInt8) (c : UInt8) : spread (l ++ [c]) = spread l ++ signDigits c := by simp [spread]
def tw (d : Int) : Int := if 4 < d then d * 2 % 10 + 1 else d * 2 % 10
def luhnStep (p : Int × Int) (d : Int) : Int × Int := ((p.2 + d) % 10, (p.1 + tw d) % 10)
def luhnOf (ds : List Int) : Int × Int := ds.foldl luhnStep (0, 0)
theorem luhnOf_snoc (ds : List Int) (d : Int) : luhnOf (ds ++ [d]) = luhnStep (luhnOf ds) d := by simp [luhnOf]
def LuhnBd (p : Int × Int) : Prop := (0 ≤ p.1 ∧ p.1 ≤ 9) ∧ (0 ≤ p.2 ∧ p.2 ≤ 9)
theorem luhnFold_bd (ds : List Int) : ∀ p, LuhnBd p → LuhnBd (ds.foldl luhnStep p) := by
  induction ds with
  | nil => exact fun p h => h
  | cons d ds ih => exact fun p _ => ih _ (by unfold LuhnBd luhnStep; dsimp only; omega)
theorem luhnOf_bd (ds : List Int) : LuhnBd (luhnOf ds) := luhnFold_bd ds _ (by simp [LuhnBd])
theorem below_two {B e o : Nat} {w : World} {x y : Value} (he : B ≤ e) (ho : B ≤ o) : Below B w ((w.setCell ⟨e, 0, none⟩ x).setCell ⟨o, 0, none⟩ y) :=
  ((Below.refl _ _).setCell (p := ⟨e, 0, none⟩) he _).setCell (p := ⟨o, 0, none⟩) ho _

set_option maxHeartbeats 400000 in
theorem luhnc_any (d ev od : Int) (be bo : Nat) (w : World) (hd : 0 ≤ d ∧ d ≤ 9) (hev : 0 ≤ ev ∧ ev ≤ 9) (hod : 0 ≤ od ∧ od ≤ 9) (hne : be ≠ bo)
    (he : w.heap[be]? = some (.cells #[.int .i64 ev] 3 (0, 0))) (ho : w.heap[bo]? = some (.cells #[.int .i64 od] 3 (0, 0))) :
    Calls Tryz.prog 153 #[.int .i64 d, .pointer (some ⟨bo, 0, none⟩), .pointer (some ⟨be, 0, none⟩)] w fun e w' => e = .returned (.tuple #[]) ∧
      w' = (w.setCell ⟨be, 0, none⟩ (.int .i64 (luhnStep (ev, od) d).1)).setCell ⟨bo, 0, none⟩ (.int .i64 (luhnStep (ev, od) d).2) := by
  have ce := cell_of_one he
  have co := cell_of_one ho
  have fe := free_of_one he
  have fo := free_of_one ho
  clear he ho
  obtain ⟨hd0, hd1⟩ := hd
  obtain ⟨e0, e1⟩ := hev
  obtain ⟨o0, o1⟩ := hod
  by_cases h4 : 4 < d
  · go_enter Tryz.func153, Tryz.ntmps153
    go_wp2
    go_end0
    exact ⟨rfl, by simp [luhnStep, tw, h4]⟩
  · go_enter Tryz.func153, Tryz.ntmps153
    go_wp2
    go_end0
    have h4' : ¬ 4 < d := by omega
    exact ⟨rfl, by simp [luhnStep, tw, h4']⟩

/-- what the two counters of luhn hold behind the digits ds -/
def LuhnAt (be bo : Nat) (ds : List Int) (w : World) : Prop :=
  w.heap[be]? = some (.cells #[.int .i64 (luhnOf ds).1] 3 (0, 0)) ∧ w.heap[bo]? = some (.cells #[.int .i64 (luhnOf ds).2] 3 (0, 0))
theorem luhnAt_step {be bo : Nat} {ds : List Int} {w : World} (d : Int) (h : LuhnAt be bo ds w) (hne : be ≠ bo) :
    LuhnAt be bo (ds ++ [d]) ((w.setCell ⟨be, 0, none⟩ (.int .i64 (luhnStep ((luhnOf ds).1, (luhnOf ds).2) d).1)).setCell ⟨bo, 0, none⟩ (.int .i64 (luhnStep ((luhnOf ds).1, (luhnOf ds).2) d).2)) := by
  obtain ⟨h1, h2⟩ := h
  unfold LuhnAt
  rw [luhnOf_snoc]
  constructor
  · rw [heap_setCell_other _ _ _ _ hne]
    exact one_setCell h1
  · exact one_setCell (by rw [heap_setCell_other _ _ _ _ hne.symm]; exact h2)
theorem luhnStep_call (d : Int) (be bo : Nat) (ds : List Int) (w : World) (hd0 : 0 ≤ d) (hd1 : d ≤ 9) (hne : be ≠ bo) (B : Nat) (hB : B ≤ be) (hB2 : B ≤ bo) (h : LuhnAt be bo ds w) :
    Calls Tryz.prog 153 #[.int .i64 d, .pointer (some ⟨bo, 0, none⟩), .pointer (some ⟨be, 0, none⟩)] w fun e w' => e = .returned (.tuple #[]) ∧ LuhnAt be bo (ds ++ [d]) w' ∧ Below B w w' := by
  refine (luhnc_any d _ _ be bo w ⟨hd0, hd1⟩ (luhnOf_bd ds).1 (luhnOf_bd ds).2 hne h.1 h.2).mono ?_
  rintro e w' ⟨rfl, rfl⟩
  exact ⟨rfl, luhnAt_step d h hne, below_two hB hB2⟩
theorem sign_cases {c : UInt8} (h : isSign c = true) : (48 ≤ (c.toNat : Int) ∧ (c.toNat : Int) ≤ 57) ∨ (65 ≤ (c.toNat : Int) ∧ (c.toNat : Int) ≤ 90) := by
  simp [isSign] at h
  omega
set_option maxHeartbeats 1000000 in
theorem each_luhn (s : ByteArray) (be bo B : Nat) (w : World) (hne : be ≠ bo) (hB1 : B ≤ be) (hB2 : B ≤ bo) (hs : s.size ≤ 140737488351232) (hsig : ∀ c ∈ s.data.toList, isSign c = true) (h : LuhnAt be bo [] w) :
    Calls Tryz.prog 152 #[.string s, .func (.func 153) #[] #[.pointer (some ⟨bo, 0, none⟩), .pointer (some ⟨be, 0, none⟩)]] w fun e w' => e = .returned (.tuple #[]) ∧ LuhnAt be bo (spread s.data.toList) w' ∧ Below B w w' := by
  go_enter Tryz.func152, Tryz.ntmps152
  go_wp2_with fail
  go_loopw [7] (fun i wr => ∃ k : Nat, k ≤ s.size ∧ i = .int .i64 k ∧ LuhnAt be bo (spread (s.data.toList.take k)) wr ∧ Below B w wr) (fun i _ => s.size - (intOf i).toNat)
  case atStart => exact ⟨0, Nat.zero_le _, rfl, by simpa [spread] using h, Below.refl _ _⟩
  case round =>
    obtain ⟨k, hk, rfl, hst, hBw⟩ := hrel
    by_cases hlt : k < s.size
    · have hmem : s[k] ∈ s.data.toList := by
        rw [← byte_at s k hlt, List.getD_eq_getElem?_getD, List.getElem?_eq_getElem (by simpa using hlt)]
        exact List.getElem_mem _
      have hsg := sign_cases (hsig _ hmem)
      have hsp : spread (s.data.toList.take (k + 1)) = spread (s.data.toList.take k) ++ signDigits s[k] := by
        rw [← spread_snoc]
        congr 1
        rw [List.take_succ_eq_append_getElem (by simpa using hlt)]
        congr 2
      have HSP := Lib.hid hsp
      clear hsp hmem
      rcases hsg with ⟨c1, c2⟩ | ⟨c1, c2⟩
      · have hd : signDigits s[k] = [((s[k]).toNat : Int) - 48] := by unfold signDigits; rw [if_pos (by omega)]
        rw [hd] at HSP
        clear hd
        go_wp2_with fail
        refine (luhnStep_call _ be bo _ _ (by omega) (by omega) hne B hB1 hB2 hst).mono ?_
        rintro e w1 ⟨rfl, h1, hBw1⟩
        go_wp2
        exact ⟨⟨k + 1, by omega, by go_num, by rw [HSP.out]; exact h1, hBw.trans hBw1⟩, by simp [intOf]; omega⟩
      · have hd : signDigits s[k] = [((s[k]).toNat - 65 : Int) / 10 + 1, ((s[k]).toNat - 65 : Int) % 10] := by unfold signDigits; rw [if_neg (by omega)]
        rw [hd, show spread (s.data.toList.take k) ++ [((s[k]).toNat - 65 : Int) / 10 + 1, ((s[k]).toNat - 65 : Int) % 10] = (spread (s.data.toList.take k) ++ [((s[k]).toNat - 65 : Int) / 10 + 1]) ++ [((s[k]).toNat - 65 : Int) % 10] by simp] at HSP
        clear hd
        go_wp2_with fail
        refine (luhnStep_call _ be bo _ _ (by omega) (by omega) hne B hB1 hB2 hst).mono ?_
        rintro e w1 ⟨rfl, h1, hBw1⟩
        go_wp2_with fail
        refine (luhnStep_call _ be bo _ _ (by omega) (by omega) hne B hB1 hB2 h1).mono ?_
        rintro e w2 ⟨rfl, h2, hBw2⟩
        go_wp2
        exact ⟨⟨k + 1, by omega, by go_num, by rw [HSP.out]; exact h2, hBw.trans (hBw1.trans hBw2)⟩, by simp [intOf]; omega⟩
    · obtain rfl : k = s.size := by omega
      rw [List.take_of_length_le (by simp)] at hst
      go_wp2
      go_end0
      exact ⟨rfl, hst, hBw⟩
end Go.Proofs.YtmepjcnpbjdlkaaGreatDoor
