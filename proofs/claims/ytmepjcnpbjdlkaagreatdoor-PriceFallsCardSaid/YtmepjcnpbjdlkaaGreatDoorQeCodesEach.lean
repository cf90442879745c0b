/- texts of this claim, laid together: CodesEach, Codes. -/
import Derived.Test.YtmepjcnpbjdlkaaGreatDoorQeBase
import Derived.Test.YtmepjcnpbjdlkaaGreatDoorQeErr
import Derived.Test.YtmepjcnpbjdlkaaGreatDoorQeShelf
import Derived.Lib.ItoaLen
/- codes.each with the closures of luhn and digits: by contract. -/
namespace Go.Proofs.YtmepjcnpbjdlkaaGreatDoor
set_option linter.unusedVariables false
set_option linter.unusedSimpArgs false
open Go.RowKit

def isSign (c : UInt8) : Bool := (48 ≤ c.toNat && c.toNat ≤ 57) || (65 ≤ c.toNat && c.toNat ≤ 90)
/-- the digits of a sign -/
def signDigits (c : UInt8) : List Int := if c.toNat ≤ 57 then [(c.toNat : Int) - 48] else [((c.toNat : Int) - 65) / 10 + 1, ((c.toNat : Int) - 65) % 10]
def spread (l : List UInt8) : List Int := l.flatMap signDigits
theorem spread_snoc (l : List UInt8) (c : UInt8) : spread (l ++ [c]) = spread l ++ signDigits c := by simp [spread]
def tw (d : Int) : Int := if 4 < d then d * 2 % 10 + 1 else d * 2 % 10
def luhnStep (p : Int × Int) (d : Int) : Int × Int := ((p.2 + d) % 10, (p.1 + tw d) % 10)
def luhnOf (ds : List Int) : Int × Int := ds.foldl luhnStep (0, 0)
theorem luhnOf_snoc (ds : List Int) (d : Int) : luhnOf (ds ++ [d]) = luhnStep (luhnOf ds) d := by simp [luhnOf]
def LuhnBd (p : Int × Int) : Prop := (0 ≤ p.1 ∧ p.1 ≤ 9) ∧ (0 ≤ p.2 ∧ p.2 ≤ 9)
theorem luhnFold_bd (ds : List Int) : ∀ p, LuhnBd p → LuhnBd (ds.foldl luhnStep p) := by
  induction ds with
  | nil => exact fun p h => h
  | cons d ds ih => exact fun p _ => ih _ (by unfold LuhnBd luhnStep; dsimp only; omega)
theorem luhnOf_bd (ds : List Int) : LuhnBd (luhnOf ds) := luhnFold_bd ds _ (by simp [LuhnBd])
theorem below_two {B e o : Nat} {w : World} {x y : Value} (he : B ≤ e) (ho : B ≤ o) : Below B w ((w.setCell ⟨e, 0, none⟩ x).setCell ⟨o, 0, none⟩ y) :=
  ((Below.refl _ _).setCell (p := ⟨e, 0, none⟩) he _).setCell (p := ⟨o, 0, none⟩) ho _

set_option maxHeartbeats 400000 in
theorem luhnc_any (d ev od : Int) (be bo : Nat) (w : World) (hd : 0 ≤ d ∧ d ≤ 9) (hev : 0 ≤ ev ∧ ev ≤ 9) (hod : 0 ≤ od ∧ od ≤ 9) (hne : be ≠ bo)
    (he : w.heap[be]? = some (.cells #[.int .i64 ev] 3 (0, 0))) (ho : w.heap[bo]? = some (.cells #[.int .i64 od] 3 (0, 0))) :
    Calls Tryz.prog 153 #[.int .i64 d, .pointer (some ⟨bo, 0, none⟩), .pointer (some ⟨be, 0, none⟩)] w fun e w' => e = .returned (.tuple #[]) ∧
      w' = (w.setCell ⟨be, 0, none⟩ (.int .i64 (luhnStep (ev, od) d).1)).setCell ⟨bo, 0, none⟩ (.int .i64 (luhnStep (ev, od) d).2) := by
  have ce := cell_of_one he
  have co := cell_of_one ho
  have fe := free_of_one he
  have fo := free_of_one ho
  clear he ho
  obtain ⟨hd0, hd1⟩ := hd
  obtain ⟨e0, e1⟩ := hev
  obtain ⟨o0, o1⟩ := hod
  by_cases h4 : 4 < d
  · go_enter Tryz.func153, Tryz.ntmps153
    go_wp2
    go_end0
    exact ⟨rfl, by simp [luhnStep, tw, h4]⟩
  · go_enter Tryz.func153, Tryz.ntmps153
    go_wp2
    go_end0
    have h4' : ¬ 4 < d := by omega
    exact ⟨rfl, by simp [luhnStep, tw, h4']⟩

/-- what the two counters of luhn hold behind the digits ds -/
def LuhnAt (be bo : Nat) (ds : List Int) (w : World) : Prop :=
  w.heap[be]? = some (.cells #[.int .i64 (luhnOf ds).1] 3 (0, 0)) ∧ w.heap[bo]? = some (.cells #[.int .i64 (luhnOf ds).2] 3 (0, 0))
theorem luhnAt_step {be bo : Nat} {ds : List Int} {w : World} (d : Int) (h : LuhnAt be bo ds w) (hne : be ≠ bo) :
    LuhnAt be bo (ds ++ [d]) ((w.setCell ⟨be, 0, none⟩ (.int .i64 (luhnStep ((luhnOf ds).1, (luhnOf ds).2) d).1)).setCell ⟨bo, 0, none⟩ (.int .i64 (luhnStep ((luhnOf ds).1, (luhnOf ds).2) d).2)) := by
  obtain ⟨h1, h2⟩ := h
  unfold LuhnAt
  rw [luhnOf_snoc]
  constructor
  · rw [heap_setCell_other _ _ _ _ hne]
    exact one_setCell h1
  · exact one_setCell (by rw [heap_setCell_other _ _ _ _ hne.symm]; exact h2)
theorem luhnStep_call (d : Int) (be bo : Nat) (ds : List Int) (w : World) (hd0 : 0 ≤ d) (hd1 : d ≤ 9) (hne : be ≠ bo) (B : Nat) (hB : B ≤ be) (hB2 : B ≤ bo) (h : LuhnAt be bo ds w) :
    Calls Tryz.prog 153 #[.int .i64 d, .pointer (some ⟨bo, 0, none⟩), .pointer (some ⟨be, 0, none⟩)] w fun e w' => e = .returned (.tuple #[]) ∧ LuhnAt be bo (ds ++ [d]) w' ∧ Below B w w' := by
  refine (luhnc_any d _ _ be bo w ⟨hd0, hd1⟩ (luhnOf_bd ds).1 (luhnOf_bd ds).2 hne h.1 h.2).mono ?_
  rintro e w' ⟨rfl, rfl⟩
  exact ⟨rfl, luhnAt_step d h hne, below_two hB hB2⟩
theorem sign_cases {c : UInt8} (h : isSign c = true) : (48 ≤ (c.toNat : Int) ∧ (c.toNat : Int) ≤ 57) ∨ (65 ≤ (c.toNat : Int) ∧ (c.toNat : Int) ≤ 90) := by
  simp [isSign] at h
  omega
set_option maxHeartbeats 1000000 in
theorem each_luhn (s : ByteArray) (be bo B : Nat) (w : World) (hne : be ≠ bo) (hB1 : B ≤ be) (hB2 : B ≤ bo) (hs : s.size ≤ 140737488351232) (hsig : ∀ c ∈ s.data.toList, isSign c = true) (h : LuhnAt be bo [] w) :
    Calls Tryz.prog 152 #[.string s, .func (.func 153) #[] #[.pointer (some ⟨bo, 0, none⟩), .pointer (some ⟨be, 0, none⟩)]] w fun e w' => e = .returned (.tuple #[]) ∧ LuhnAt be bo (spread s.data.toList) w' ∧ Below B w w' := by
  go_enter Tryz.func152, Tryz.ntmps152
  go_wp2_with fail
  go_loopw [7] (fun i wr => ∃ k : Nat, k ≤ s.size ∧ i = .int .i64 k ∧ LuhnAt be bo (spread (s.data.toList.take k)) wr ∧ Below B w wr) (fun i _ => s.size - (intOf i).toNat)
  case atStart => exact ⟨0, Nat.zero_le _, rfl, by simpa [spread] using h, Below.refl _ _⟩
  case round =>
    obtain ⟨k, hk, rfl, hst, hBw⟩ := hrel
    by_cases hlt : k < s.size
    · have hmem : s[k] ∈ s.data.toList := by
        rw [← byte_at s k hlt, List.getD_eq_getElem?_getD, List.getElem?_eq_getElem (by simpa using hlt)]
        exact List.getElem_mem _
      have hsg := sign_cases (hsig _ hmem)
      have hsp : spread (s.data.toList.take (k + 1)) = spread (s.data.toList.take k) ++ signDigits s[k] := by
        rw [← spread_snoc]
        congr 1
        rw [List.take_succ_eq_append_getElem (by simpa using hlt)]
        congr 2
      have HSP := Lib.hid hsp
      clear hsp hmem
      rcases hsg with ⟨c1, c2⟩ | ⟨c1, c2⟩
      · have hd : signDigits s[k] = [((s[k]).toNat : Int) - 48] := by unfold signDigits; rw [if_pos (by omega)]
        rw [hd] at HSP
        clear hd
        go_wp2_with fail
        refine (luhnStep_call _ be bo _ _ (by omega) (by omega) hne B hB1 hB2 hst).mono ?_
        rintro e w1 ⟨rfl, h1, hBw1⟩
        go_wp2
        exact ⟨⟨k + 1, by omega, by go_num, by rw [HSP.out]; exact h1, hBw.trans hBw1⟩, by simp [intOf]; omega⟩
      · have hd : signDigits s[k] = [((s[k]).toNat - 65 : Int) / 10 + 1, ((s[k]).toNat - 65 : Int) % 10] := by unfold signDigits; rw [if_neg (by omega)]
        rw [hd, show spread (s.data.toList.take k) ++ [((s[k]).toNat - 65 : Int) / 10 + 1, ((s[k]).toNat - 65 : Int) % 10] = (spread (s.data.toList.take k) ++ [((s[k]).toNat - 65 : Int) / 10 + 1]) ++ [((s[k]).toNat - 65 : Int) % 10] by simp] at HSP
        clear hd
        go_wp2_with fail
        refine (luhnStep_call _ be bo _ _ (by omega) (by omega) hne B hB1 hB2 hst).mono ?_
        rintro e w1 ⟨rfl, h1, hBw1⟩
        go_wp2_with fail
        refine (luhnStep_call _ be bo _ _ (by omega) (by omega) hne B hB1 hB2 h1).mono ?_
        rintro e w2 ⟨rfl, h2, hBw2⟩
        go_wp2
        exact ⟨⟨k + 1, by omega, by go_num, by rw [HSP.out]; exact h2, hBw.trans (hBw1.trans hBw2)⟩, by simp [intOf]; omega⟩
    · obtain rfl : k = s.size := by omega
      rw [List.take_of_length_le (by simp)] at hst
      go_wp2
      go_end0
      exact ⟨rfl, hst, hBw⟩
end Go.Proofs.YtmepjcnpbjdlkaaGreatDoor
/- package codes, function by function: by contract. -/
namespace Go.Proofs.YtmepjcnpbjdlkaaGreatDoor
set_option linter.unusedVariables false
set_option linter.unusedSimpArgs false
open Go.RowKit

/-- is a byte what a form's letter says? -/
def isB (c f : Int) : Bool := (decide (48 ≤ c ∧ c ≤ 57) && f != 67) || (decide (65 ≤ c ∧ c ≤ 90) && f != 68)
set_option maxHeartbeats 1000000 in
theorem is_any (c f : Int) (w : World) (hc : 0 ≤ c ∧ c ≤ 255) :
    Calls Tryz.prog 151 #[.int .u8 c, .int .i32 f] w fun e w' => e = .returned (.bool (isB c f)) ∧ w = w' := by
  obtain ⟨hc0, hc1⟩ := hc
  rcases Int.lt_or_le c 48 with h | h
  · have e : isB c f = false := by unfold isB; rw [decide_eq_false (by omega), decide_eq_false (by omega)]; rfl
    rw [e]
    go_enter Tryz.func151, Tryz.ntmps151
    go_wp2
    go_ret
    exact ⟨rfl, rfl⟩
  rcases Int.lt_or_le 57 c with h1 | h1
  · rcases Int.lt_or_le c 65 with h2 | h2
    · have e : isB c f = false := by unfold isB; rw [decide_eq_false (by omega), decide_eq_false (by omega)]; rfl
      rw [e]
      go_enter Tryz.func151, Tryz.ntmps151
      go_wp2
      go_ret
      exact ⟨rfl, rfl⟩
    rcases Int.lt_or_le 90 c with h3 | h3
    · have e : isB c f = false := by unfold isB; rw [decide_eq_false (by omega), decide_eq_false (by omega)]; rfl
      rw [e]
      go_enter Tryz.func151, Tryz.ntmps151
      go_wp2
      go_ret
      exact ⟨rfl, rfl⟩
    · have e : isB c f = (f != 68) := by unfold isB; rw [decide_eq_false (by omega), decide_eq_true (by omega)]; simp
      rw [e]
      cases h5 : (f != 68)
      all_goals
        go_enter Tryz.func151, Tryz.ntmps151
        go_wp2
        go_ret
        exact ⟨rfl, rfl⟩
  · have e : isB c f = (f != 67) := by unfold isB; rw [decide_eq_true (by omega), decide_eq_false (by omega)]; simp
    rw [e]
    cases h5 : (f != 67)
    all_goals
      go_enter Tryz.func151, Tryz.ntmps151
      go_wp2
      go_ret
      exact ⟨rfl, rfl⟩

/-- the first place at which a text is not what its form says, from place i on -/
def firstBad : List UInt8 → List UInt8 → Nat → Option Nat
  | c :: s, f :: r, i => if isB c.toNat f.toNat then firstBad s r (i + 1) else some i
  | _, _, _ => none
/-- what is wrong with a text that should have a form: the number, and its place -/
def hasR (s form : List UInt8) : Int × Option (Int × Int) :=
  if s.length < form.length then (2, none) else if form.length < s.length then (3, none) else
    match firstBad s form 0 with
    | some i => (6, some (0, (i : Int)))
    | none => (0, none)
theorem firstBad_drop (s f : List UInt8) : ∀ (k i : Nat), k ≤ s.length → k ≤ f.length → (∀ j, j < k → isB (s.getD j 0).toNat (f.getD j 0).toNat = true) → firstBad s f i = firstBad (s.drop k) (f.drop k) (i + k) := by
  induction s generalizing f with
  | nil => intro k i h1 h2 _; have : k = 0 := by simpa using h1
           subst this; simp
  | cons c s ih =>
    intro k i h1 h2 hj
    cases f with
    | nil => have : k = 0 := by simpa using h2
             subst this; simp
    | cons g f =>
      cases k with
      | zero => simp
      | succ k =>
        have h0 := hj 0 (by omega)
        simp at h0
        simp only [firstBad, h0, if_true, List.drop_succ_cons]
        rw [ih f k (i + 1) (by simpa using h1) (by simpa using h2) (fun j hlt => by simpa using hj (j + 1) (by omega))]
        congr 1; omega
theorem hasR_bad (s f : List UInt8) (k : Nat) (hl : s.length = f.length) (hk : k < s.length) (hj : ∀ j, j < k → isB (s.getD j 0).toNat (f.getD j 0).toNat = true) (hb : isB (s.getD k 0).toNat (f.getD k 0).toNat = false) :
    hasR s f = (6, some (0, (k : Int))) := by
  have h1 : firstBad s f 0 = some k := by
    rw [firstBad_drop s f k 0 (by omega) (by omega) hj, List.drop_eq_getElem_cons hk, List.drop_eq_getElem_cons (by omega : k < f.length)]
    have e1 : s.getD k 0 = s[k] := by rw [List.getD_eq_getElem?_getD, List.getElem?_eq_getElem hk]; rfl
    have e2 : f.getD k 0 = f[k] := by rw [List.getD_eq_getElem?_getD, List.getElem?_eq_getElem (by omega)]; rfl
    rw [e1, e2] at hb
    simp [firstBad, hb]
  unfold hasR
  rw [if_neg (by omega), if_neg (by omega), h1]
theorem hasR_ok (s f : List UInt8) (hl : s.length = f.length) (hj : ∀ j, j < s.length → isB (s.getD j 0).toNat (f.getD j 0).toNat = true) : hasR s f = (0, none) := by
  have h1 : firstBad s f 0 = none := by
    rw [firstBad_drop s f s.length 0 (by omega) (by omega) hj, List.drop_length]
    simp [firstBad]
  unfold hasR
  rw [if_neg (by omega), if_neg (by omega), h1]

/-- the two variables of the library that the calls read: the type's handle and the table of powers -/
def Lib10 (w : World) : Prop := Lib.TabIs Tryz.prog w "internal/strconv.uint64pow10" .u64 Lib.pow10Tab
def Ok (w : World) : Prop := EType w ∧ Lib10 w ∧ 2 < w.heap.size
theorem gTab : Tryz.prog.globalNamed "internal/strconv.uint64pow10" = some 2 := by kernel_rfl
theorem Ok.below {w w' : World} (h : Ok w) (hb : Below w.heap.size w w') : Ok w' :=
  ⟨h.1.below hb, var?_below hb gTab h.2.2 h.2.1, Nat.lt_of_lt_of_le h.2.2 hb.size⟩
theorem below_grow (w : World) (k : Nat) (os : Array Obj) : Below w.heap.size w (Go.Sort.grow (w.drewN k) os) :=
  ⟨rfl, rfl, rfl, by simp [Go.Sort.grow, World.drewN], fun i hi => by
    show (w.heap ++ os)[i]? = _
    rw [Array.getElem?_append, if_pos hi]⟩

theorem itoa_any (n : Int) (w : World) (h0 : -9223372036854775808 ≤ n) (h1 : n ≤ 9223372036854775807) (hok : Ok w) :
    Calls Tryz.prog 150 #[.int .i64 n] w fun e w' => ∃ t : ByteArray, t.size ≤ 21 ∧ e = .returned (.string t) ∧ Below w.heap.size w w' := by
  refine (Tryz.strconv_Itoa n h0 h1 w hok.2.1).mono ?_
  rintro e w' ⟨rfl, k, os, rfl⟩
  exact ⟨_, by show (Lib.itoa n).toArray.size ≤ 21; simpa using Lib.itoa_length_le n h0 h1, rfl, below_grow _ _ _⟩
/-- a call hands back an error with this number and place, in new memory -/
def RetErr (r : Int × Option (Int × Int)) (w : World) (e : Ending) (w' : World) : Prop := ∃ v, e = .returned v ∧ ErrP v r.1 r.2 ∧ Below w.heap.size w w'

set_option maxHeartbeats 1000000 in
theorem has_any (s form : ByteArray) (w : World) (hs : s.size ≤ 140737488400000) (hf : form.size ≤ 1000) (ha : ∀ k (h : k < form.size), (form[k]'h).toNat < 128) (hok : Ok w) :
    Calls Tryz.prog 136 #[.string s, .string form] w (RetErr (hasR s.data.toList form.data.toList) w) := by
  have HOK := Lib.hid hok
  clear hok
  rcases Nat.lt_trichotomy s.size form.size with hlt | heq | hgt
  · have e : hasR s.data.toList form.data.toList = (2, none) := by unfold hasR; rw [if_pos (by simpa using hlt)]
    rw [e]
    clear e
    go_enter Tryz.func136, Tryz.ntmps136
    go_wp2_with fail
    refine (itoa_any _ _ (by omega) (by omega) HOK.out).mono ?_
    rintro e w1 ⟨t, ht, rfl, hB⟩
    have e6 : ({ data := #[32, 98, 121, 116, 101, 115] } : ByteArray).size = 6 := rfl
    go_wp2
    go_ret
    exact ⟨_, rfl, .plain (errIs_Ref _ _ 2 rfl (by omega) (by omega)) (noPlace_Ref _ _), hB⟩
  · have hlen : s.data.toList.length = form.data.toList.length := by simpa using heq
    have HL := Lib.hid hlen
    clear hlen
    have hsz := heq
    have e2 : ((s.size : Int) < (form.size : Int)) = False := by simp; omega
    have HQ := Lib.hid heq
    clear heq
    have h1 : ¬ s.size < form.size := by omega
    have h2 : ¬ form.size < s.size := by omega
    clear hsz e2
    go_enter Tryz.func136, Tryz.ntmps136
    go_wp2
    go_loopw [5] (fun _ wr => ∃ k : Nat, k ≤ form.size ∧ wr = w.iter form k ∧ ∀ j, j < k → isB (s.data.toList.getD j 0).toNat (form.data.toList.getD j 0).toNat = true) (fun _ wr => form.size - wr.iterPos w.heap.size)
    case atStart => exact ⟨0, Nat.zero_le _, rfl, fun j hj => absurd hj (by omega)⟩
    case round =>
      obtain ⟨k, hk, rfl, hj⟩ := hrel
      have HJ := Lib.hid hj
      clear hj
      by_cases hlt : k < form.size
      · have hks : k < s.size := by omega
        have hnx := run_next_ascii (P := Tryz.prog) w form k 0 hlt (ha k hlt)
        have b1 := byte_at s k hks
        have b2 := byte_at form k hlt
        have hc255 : (s[k].toNat : Int) ≤ 255 := by have := s[k].toNat_lt; omega
        clear ha
        cases hb : isB (s[k].toNat) (form[k].toNat)
        · have hR : hasR s.data.toList form.data.toList = (6, some (0, (k : Int))) := hasR_bad _ _ k HL.out (by simpa using hks) HJ.out (by rw [b1, b2]; exact hb)
          have HR := Lib.hid hR
          clear hR b1 b2
          go_wp2_with fail
          refine (is_any _ _ _ ⟨by omega, hc255⟩).mono ?_
          rintro e w1 ⟨rfl, rfl⟩
          go_wp2
          go_ret
          rw [HR.out]
          exact ⟨_, rfl, .fault (by omega) (by omega), (Below.refl _ _).alloc (Nat.le_refl _) _⟩
        · have HB := Lib.hid hb
          clear hb
          have HB1 := Lib.hid b1
          have HB2 := Lib.hid b2
          clear b1 b2
          go_wp2_with fail
          refine (is_any _ _ _ ⟨by omega, hc255⟩).mono ?_
          rintro e w1 ⟨rfl, rfl⟩
          rw [HB.out]
          go_wp2
          refine ⟨⟨k + 1, by omega, rfl, fun j hj => ?_⟩, by simp; omega⟩
          rcases Nat.lt_or_eq_of_le (Nat.lt_succ_iff.1 hj) with h | h
          · exact HJ.out j h
          · subst h; rw [HB1.out, HB2.out]; exact HB.out
      · obtain rfl : k = form.size := by omega
        have hnx := run_next_end (P := Tryz.prog) w form form.size 0 hlt
        have hR : hasR s.data.toList form.data.toList = (0, none) := hasR_ok _ _ HL.out (fun j hj => HJ.out j (by have := HL.out; simp at this hj; omega))
        have HR := Lib.hid hR
        clear hR ha
        go_wp2
        go_ret
        rw [HR.out]
        exact ⟨_, rfl, .nil, (Below.refl _ _).alloc (Nat.le_refl _) _⟩
  · have e : hasR s.data.toList form.data.toList = (3, none) := by unfold hasR; rw [if_neg (by simp; omega), if_pos (by simpa using hgt)]
    rw [e]
    clear e
    go_enter Tryz.func136, Tryz.ntmps136
    go_wp2_with fail
    refine (itoa_any _ _ (by omega) (by omega) HOK.out).mono ?_
    rintro e w1 ⟨t, ht, rfl, hB⟩
    have e6 : ({ data := #[32, 98, 121, 116, 101, 115] } : ByteArray).size = 6 := rfl
    go_wp2
    go_ret
    exact ⟨_, rfl, .plain (errIs_Ref _ _ 3 rfl (by omega) (by omega)) (noPlace_Ref _ _), hB⟩
end Go.Proofs.YtmepjcnpbjdlkaaGreatDoor
