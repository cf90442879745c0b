/- prio: Len, Peek, Pop, New by contract. -/
import Derived.Test.YtffioombjejchaaPrioH
import Derived.Test.YtffioombjejchaaStG
namespace Go.Proofs.Ytffioombjejchaa.St
set_option linter.unusedVariables false
set_option linter.unusedSimpArgs false
open Go.RowKit
attribute [local irreducible] Go.wpStill

theorem Live.len_val {w : World} {h c : Nat} {fall : Bool} {es : List (Str × Int)} {came : Int} {sl : Value} (a : Live w h c fall es came sl) : (es = [] ∧ sl = .slice none 0 0) ∨ ∃ g cap, sl = .slice (some ⟨g, 0, none⟩) es.length cap := by
  rcases a.2.2.2 with ⟨h1, h0⟩ | ⟨g, cap, cur, rfl, _⟩
  · exact .inl ⟨List.length_eq_zero_iff.1 h0, h1⟩
  · exact .inr ⟨g, cap, rfl⟩
theorem len_any (h c : Nat) (fall : Bool) (es : List (Str × Int)) (came : Int) (r : Option Nat) (w : World) (hA : HeapAt w h c fall es came r) (hb : es.length ≤ 140737488351232) :
    Calls Try.prog 31 #[.pointer (some ⟨h, 0, none⟩)] w fun e w' => e = .returned (.int .i64 es.length) ∧ w = w' := by
  obtain ⟨sl, hr, hL, hH⟩ := hA
  have c1 : w.cell? ⟨h, 1, none⟩ = some sl := by rw [cell_of_row _ _ _ _ _ _ hL.2.1]; rfl
  rcases hL.len_val with ⟨rfl, rfl⟩ | ⟨g, cap, rfl⟩
  · go_enter Try.func31, Try.ntmps31
    go_wp2_with fail
    go_ret
    exact ⟨rfl, rfl⟩
  · go_enter Try.func31, Try.ntmps31
    go_wp2_with fail
    go_ret
    exact ⟨rfl, rfl⟩
def PopPost (w : World) (h c : Nat) (fall : Bool) (es : List (Str × Int)) (came : Int) (r : Option Nat) (e : Ending) (w' : World) : Prop :=
  ∃ es', e = .returned (.tuple #[.string (HP.at' es 0).1, .bool true]) ∧ HeapAt w' h c fall es' came r ∧ es.Perm (HP.at' es 0 :: es') ∧ Tch w w' h r r
set_option maxRecDepth 100000 in
set_option maxHeartbeats 1000000 in
theorem pop_some (h c : Nat) (fall : Bool) (es : List (Str × Int)) (came : Int) (r : Option Nat) (w : World) (hA : HeapAt w h c fall es came r) (hn : 0 < es.length) (hb : es.length ≤ 140737488351232) :
    Calls Try.prog 34 #[.pointer (some ⟨h, 0, none⟩)] w (PopPost w h c fall es came r) := by
  obtain ⟨sl, hr, hL, hH⟩ := hA
  obtain ⟨g, cap, rfl, hgh⟩ := hL.row hn
  subst hr
  have c1 : w.cell? ⟨h, 1, none⟩ = some (.slice (some ⟨g, 0, none⟩) es.length cap) := by rw [cell_of_row _ _ _ _ _ _ hL.2.1]; rfl
  obtain ⟨hg1, hg2⟩ := hL.glt
  have hhl := hL.hlt
  have hz : ((es.length : Int) == 0) = false := by simp; exact List.ne_nil_of_length_pos hn
  have HN := Lib.hid hn
  have HH := Lib.hid hH
  clear hn hH
  go_enter Try.func34, Try.ntmps34
  go_wp2_with fail
  refine (take_any h c g cap es.length fall es came 0 _ hL HN.out rfl hb HH.out).mono ?_
  rintro e w2 ⟨es2, rfl, hL2, hP2, hH2, hT2⟩
  go_wp2_with fail
  go_ret2
  exact ⟨es2, rfl, ⟨.slice (some ⟨g, 0, none⟩) es2.length cap, rfl, hL2, hH2⟩, hP2, hT2⟩
set_option maxRecDepth 100000 in
theorem pop_none (h c : Nat) (fall : Bool) (came : Int) (r : Option Nat) (w : World) (hA : HeapAt w h c fall [] came r) :
    Calls Try.prog 34 #[.pointer (some ⟨h, 0, none⟩)] w fun e w' => e = .returned (.tuple #[.string ByteArray.empty, .bool false]) ∧ Below w.heap.size w w' := by
  obtain ⟨sl, hr, hL, hH⟩ := hA
  have c1 : w.cell? ⟨h, 1, none⟩ = some sl := by rw [cell_of_row _ _ _ _ _ _ hL.2.1]; rfl
  have hhl := hL.hlt
  have hl0 : ((([] : List (Str × Int)).length : Nat)) = 0 := rfl
  rcases hL.len_val with ⟨_, rfl⟩ | ⟨g, cap, rfl⟩
  all_goals
    go_enter Try.func34, Try.ntmps34
    go_wp2_with fail
    go_ret2
    exact ⟨rfl, Below.refl _ _⟩
set_option maxRecDepth 100000 in
theorem peek_none (h c : Nat) (fall : Bool) (came : Int) (r : Option Nat) (w : World) (hA : HeapAt w h c fall [] came r) :
    Calls Try.prog 33 #[.pointer (some ⟨h, 0, none⟩)] w fun e w' => e = .returned (.tuple #[.string ByteArray.empty, .bool false]) ∧ Below w.heap.size w w' := by
  obtain ⟨sl, hr, hL, hH⟩ := hA
  have c1 : w.cell? ⟨h, 1, none⟩ = some sl := by rw [cell_of_row _ _ _ _ _ _ hL.2.1]; rfl
  have hhl := hL.hlt
  rcases hL.len_val with ⟨_, rfl⟩ | ⟨g, cap, rfl⟩
  all_goals
    go_enter Try.func33, Try.ntmps33
    go_wp2_with fail
    go_ret2
    exact ⟨rfl, Below.refl _ _⟩
set_option maxRecDepth 100000 in
theorem peek_some (h c : Nat) (fall : Bool) (es : List (Str × Int)) (came : Int) (r : Option Nat) (w : World) (hA : HeapAt w h c fall es came r) (hn : 0 < es.length) (hb : es.length ≤ 140737488351232) :
    Calls Try.prog 33 #[.pointer (some ⟨h, 0, none⟩)] w fun e w' => e = .returned (.tuple #[.string (HP.at' es 0).1, .bool true]) ∧ Below w.heap.size w w' := by
  obtain ⟨sl, hr, hL, hH⟩ := hA
  obtain ⟨g, cap, rfl, hgh⟩ := hL.row hn
  have c1 : w.cell? ⟨h, 1, none⟩ = some (.slice (some ⟨g, 0, none⟩) es.length cap) := by rw [cell_of_row _ _ _ _ _ _ hL.2.1]; rfl
  obtain ⟨hg1, hg2⟩ := hL.glt
  have hhl := hL.hlt
  have e0 := hL.ent 0 hn 0 (by omega)
  have e1 := hL.ent 0 hn 1 (by omega)
  simp only [encP, List.getElem?_cons_zero, List.getElem?_cons_succ, Nat.add_zero, Nat.zero_mul, Nat.zero_add] at e0 e1
  have hz : ((es.length : Int) == 0) = false := by simp; exact List.ne_nil_of_length_pos hn
  go_enter Try.func33, Try.ntmps33
  go_wp2_with fail
  go_ret2
  exact ⟨rfl, Below.refl _ _⟩
end Go.Proofs.Ytffioombjejchaa.St
