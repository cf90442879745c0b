/- texts of this claim, laid together: CalK, CoupA. -/
import Derived.Test.YtmepjcnpbjdlkaaGreatDoorQdPriceA
import Derived.Test.YtmepjcnpbjdlkaaGreatDoorQdCalM
import Derived.Test.YtmepjcnpbjdlkaaGreatDoorQdPriceC
/- the document's months back of a date, and the date of a day: by contract. -/
namespace Go.Proofs.YtmepjcnpbjdlkaaGreatDoor
set_option linter.unusedVariables false
set_option linter.unusedSimpArgs false
open Go.RowKit
attribute [local irreducible] Go.wpStill

def OfR (n : Int) (w : World) (e : Ending) (w' : World) : Prop := ∃ y m d : Int, e = .returned (.tuple #[.agg #[.int .i64 y, .int .i64 m, .int .i64 d], .int .i64 0]) ∧ Cal.Is n y m d ∧ Below w.heap.size w w'
/-- the two rows of Of: the result's, and the date under way -/
structure Two (w wr : World) (g2 g4 : Nat) (c q : Int) : Prop where
  r2 : wr.heap[g2]? = some (.cells #[.int .i64 0, .int .i64 0, .int .i64 0] 72 (0, 0))
  r4 : wr.heap[g4]? = some (.cells #[.int .i64 c, .int .i64 q, .int .i64 0] 72 (0, 0))
  bl : Below w.heap.size w wr
theorem Two.drew {w wr : World} {g2 g4 : Nat} {c q : Int} (h : Two w wr g2 g4 c q) : Two w wr.drew g2 g4 c q := ⟨h.r2, h.r4, h.bl.drew⟩
theorem Two.year {w wr : World} {g2 g4 : Nat} {c q : Int} (h : Two w wr g2 g4 c q) (hne : g2 ≠ g4) (hg : w.heap.size ≤ g4) (c' : Int) : Two w (wr.setCell ⟨g4, 0, none⟩ (.int .i64 c')) g2 g4 c' q :=
  ⟨(heap_setCell_other _ _ _ _ hne).trans h.r2, setCell_row h.r4 0 _, below_setCell_ge (p := ⟨g4, 0, none⟩) h.bl hg _⟩
theorem Two.month {w wr : World} {g2 g4 : Nat} {c q : Int} (h : Two w wr g2 g4 c q) (hne : g2 ≠ g4) (hg : w.heap.size ≤ g4) (q' : Int) : Two w (wr.setCell ⟨g4, 1, none⟩ (.int .i64 q')) g2 g4 c q' :=
  ⟨(heap_setCell_other _ _ _ _ hne).trans h.r2, setCell_row h.r4 1 _, below_setCell_ge (p := ⟨g4, 1, none⟩) h.bl hg _⟩
theorem frozen_of_row {w : World} {g : Nat} {cs : Array Value} {t : TypeId} (h : w.heap[g]? = some (.cells cs t (0, 0))) : ∀ o, w.frozen? ⟨g, o, none⟩ = false := fun o => by simp [World.frozen?, h]
set_option maxHeartbeats 4000000 in
theorem refOf_any (n : Int) (w : World) (h0 : 1 ≤ n) (h1 : n ≤ 3652059) : Calls Tryz.prog 40 #[.int .i64 n] w (OfR n w) := by
  have hd : dayB n = true := by simp [dayB]; omega
  have HD := Lib.hid hd
  clear hd
  have hTw : Two w ((w.alloc (.cells #[.int .i64 0, .int .i64 0, .int .i64 0] 72)).alloc (.cells #[.int .i64 1, .int .i64 1, .int .i64 0] 72)) w.heap.size (w.heap.size + 1) 1 1 := by
    have a := heap_alloc_new w (.cells #[.int .i64 0, .int .i64 0, .int .i64 0] 72)
    have b := heap_alloc_new (w.alloc (.cells #[.int .i64 0, .int .i64 0, .int .i64 0] 72)) (.cells #[.int .i64 1, .int .i64 1, .int .i64 0] 72)
    have hsz : (w.alloc (.cells #[.int .i64 0, .int .i64 0, .int .i64 0] 72)).heap.size = w.heap.size + 1 := by simp
    rw [hsz] at b
    exact ⟨rowAt_below a ((Below.refl _ _).alloc (Nat.le_refl _) _), b, ((Below.refl _ _).alloc (Nat.le_refl _) _).alloc (by simp) _⟩
  have HT := Lib.hid hTw
  clear hTw
  go_enter Tryz.func40, Tryz.ntmps40
  go_wp2_with (refine (is03_any n _).mono ?_; rintro e w1 ⟨rfl, rfl⟩; rw [HD.out])
  have hms : w.heap.size ≤ w.heap.size + 1 := Nat.le_succ _
  have hne : w.heap.size ≠ w.heap.size + 1 := by omega
  obtain ⟨c0, c1, c2⟩ := cells_of_row3 HT.out.r4
  have hz := frozen_of_row HT.out.r4
  generalize ((w.alloc (.cells #[.int .i64 0, .int .i64 0, .int .i64 0] 72)).alloc (.cells #[.int .i64 1, .int .i64 1, .int .i64 0] 72)) = w4 at *
  generalize hg4 : w.heap.size + 1 = g4 at *
  generalize hg2 : w.heap.size = g2 at *
  clear hg4
  go_loopw [0] (fun t wr => ∃ c : Int, 1 ≤ c ∧ c ≤ 9999 ∧ t = .int .i64 (n - Cal.ys c) ∧ 1 ≤ n - Cal.ys c ∧ Two w wr g2 g4 c 1) (fun t _ => (intOf t).toNat)
  case atStart => exact ⟨1, by omega, by omega, by rw [show Cal.ys 1 = 0 by decide]; go_num, by rw [show Cal.ys 1 = 0 by decide]; omega, HT.out⟩
  case round =>
    obtain ⟨c, hc1, hc9, rfl, hp, hTr⟩ := hrel
    clear c0 c1 c2 hz
    obtain ⟨c0, c1, c2⟩ := cells_of_row3 hTr.r4
    have hz := frozen_of_row hTr.r4
    have hys := Cal.ys_succ c hc1
    have hyb : 0 ≤ Cal.ys c ∧ Cal.ys c ≤ 3651695 := by unfold Cal.ys; omega
    have hl := Cal.lpN_01 c
    have hYD := Lib.hid (fun w => refYearDays_any c w (by omega))
    have hlast : c = 9999 → n - Cal.ys c ≤ 365 + Cal.lpN c := by rintro rfl; have h10 : Cal.ys (9999 + 1) = 3652059 := Cal.ys_last; omega
    have HYS := Lib.hid hys
    have HTR := Lib.hid hTr
    clear hys hTr
    generalize hZ : Cal.ys c = Z at *
    generalize hLP : Cal.lpN c = lp at *
    have HZ := Lib.hid hZ
    have HLP := Lib.hid hLP
    clear hZ hLP
    by_cases hlt : 365 + lp < n - Z
    · have hd : decide (365 + lp < n - Z) = true := decide_eq_true hlt
      have hc99 : c < 9999 := by
        by_cases e : c = 9999
        · have := hlast e; omega
        · omega
      clear hlast
      go_wp2_with fail
      refine (hYD.out _).mono ?_
      rintro e w3 ⟨rfl, rfl⟩
      go_wp2_with fail
      refine (hYD.out _).mono ?_
      rintro e w3 ⟨rfl, rfl⟩
      go_wp2_with fail
      have hys := HYS.out
      exact ⟨⟨c + 1, by omega, by omega, by rw [hys]; go_num, by omega, HTR.out.year hne (by omega) _⟩, by simp [intOf]; omega⟩
    · have hd : decide (365 + lp < n - Z) = false := decide_eq_false hlt
      clear hlast
      go_wp2_with fail
      refine (hYD.out _).mono ?_
      rintro e w3 ⟨rfl, rfl⟩
      go_wp2_with fail
      clear hd c0 c1 c2 hz hYD
      go_loopw [0] (fun t wq => ∃ q : Int, 1 ≤ q ∧ q ≤ 12 ∧ t = .int .i64 (n - Z - Cal.cum c q) ∧ 1 ≤ n - Z - Cal.cum c q ∧ Two w wq g2 g4 c q) (fun t _ => (intOf t).toNat)
      case atStart => exact ⟨1, by omega, by omega, by rw [Cal.cum_one]; go_num, by rw [Cal.cum_one]; omega, HTR.out⟩
      case round =>
        obtain ⟨q, hq1, hq12, rfl, hp2, hTq⟩ := hrel
        obtain ⟨c0, c1, c2⟩ := cells_of_row3 hTq.r4
        have hz := frozen_of_row hTq.r4
        have hcs := Cal.cum_succ c q hq1 hq12
        have hcb := Cal.cum_bd c q hq1 hq12
        have hmb := Cal.mlen_bd c q hq1 hq12
        have hMD := Lib.hid (fun w => refMonthDays_any c q w (by omega) hq1 hq12)
        have hlast : q = 12 → n - Z - Cal.cum c q ≤ Cal.mlen c q := by
          rintro rfl
          have he : Cal.cum c (12 + 1) = 365 + Cal.lpN c := Cal.cum_end c
          rw [HLP.out] at he
          omega
        have HCS := Lib.hid hcs
        have HTQ := Lib.hid hTq
        clear hcs hTq
        generalize hC : Cal.cum c q = C at *
        generalize hL : Cal.mlen c q = L at *
        have HC := Lib.hid hC
        have HL := Lib.hid hL
        clear hC hL
        by_cases hlt2 : L < n - Z - C
        · have hd : decide (L < n - Z - C) = true := decide_eq_true hlt2
          have hq11 : q < 12 := by
            by_cases e : q = 12
            · have := hlast e; omega
            · omega
          clear hlast
          go_wp2_with fail
          refine (hMD.out _).mono ?_
          rintro e w3 ⟨rfl, rfl⟩
          go_wp2_with fail
          refine (hMD.out _).mono ?_
          rintro e w3 ⟨rfl, rfl⟩
          go_wp2_with fail
          have hcs := HCS.out
          exact ⟨⟨q + 1, by omega, by omega, by rw [hcs]; go_num, by omega, HTQ.out.month hne (by omega) _⟩, by simp [intOf]; omega⟩
        · have hd : decide (L < n - Z - C) = false := decide_eq_false hlt2
          clear hlast
          go_wp2_with fail
          refine (hMD.out _).mono ?_
          rintro e w3 ⟨rfl, rfl⟩
          have h6 : (wr.setCell ⟨g4, 2, none⟩ (.int .i64 (n - Z - C))).heap[g4]? = some (.cells #[.int .i64 c, .int .i64 q, .int .i64 (n - Z - C)] 72 (0, 0)) := setCell_row HTQ.out.r4 2 _
          have h62 := (heap_setCell_other wr ⟨g4, 2, none⟩ _ (.int .i64 (n - Z - C)) hne).trans HTQ.out.r2
          have hb6 := below_setCell_ge (p := ⟨g4, 2, none⟩) HTQ.out.bl (by show w.heap.size ≤ g4; omega) (.int .i64 (n - Z - C))
          have H6 := Lib.hid h6
          have H62 := Lib.hid h62
          have HB6 := Lib.hid hb6
          clear h6 h62 hb6
          go_wp2_with (first | refine wpList_val (.agg #[.int .i64 c, .int .i64 q, .int .i64 (n - Z - C)]) (by kernel_rfl) (exec_load_row H6.out rfl rfl Tryz.underlying72 rfl (by kernel_rfl)) ?_ | (refine wpList_store_any rfl 72 _ _ rfl g2 #[.int .i64 c, .int .i64 q, .int .i64 (n - Z - C)] rfl rfl _ _ H62.out (by kernel_rfl) rfl (by simp [Value.oneCell']) ?_; intro w7 h7 s7 bl7 ot7; have H7 := Lib.hid h7; have HBL := Lib.hid bl7; clear h7 bl7 ot7))
          refine bodyPost_ret (v := _) (results_cell_row_tmp rfl _ _ g2 72 _ (0, 0) _ rfl H7.out Tryz.underlying72 rfl (by kernel_rfl)) rfl ?_
          refine ⟨c, q, n - Z - C, rfl, ⟨hc1, hc9, hq1, hq12, hp2, by rw [HL.out]; omega, by unfold Cal.numOf; rw [HZ.out, HC.out]; omega⟩, HBL.out _ _ HB6.out (by omega)⟩
end Go.Proofs.YtmepjcnpbjdlkaaGreatDoor
/- the coupons of a security, plainly. -/
namespace Go.Proofs.YtmepjcnpbjdlkaaGreatDoor
set_option linter.unusedVariables false
set_option linter.unusedSimpArgs false
open Go.RowKit
attribute [local irreducible] Go.wpStill

end Go.Proofs.YtmepjcnpbjdlkaaGreatDoor
