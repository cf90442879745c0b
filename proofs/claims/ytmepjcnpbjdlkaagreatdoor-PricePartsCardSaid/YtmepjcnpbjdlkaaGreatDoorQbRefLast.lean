/- texts of this claim, laid together: RefLast. -/
import Derived.Test.YtmepjcnpbjdlkaaGreatDoorQbRefFrac
import Derived.Test.YtmepjcnpbjdlkaaGreatDoorQbAccA
/- the document's last by contract. -/
namespace Go.Proofs.YtmepjcnpbjdlkaaGreatDoor
set_option linter.unusedVariables false
set_option linter.unusedSimpArgs false
open Go.RowKit
attribute [local irreducible] Go.wpStill

theorem ref_quo2 (k per : Int) (h0 : 0 ≤ k) (h1 : k ≤ 1000000) (hp : perB per = true) : IntKind.i64.wrap ((IntKind.i64.wrap (k * 12)).tdiv per) = (12 / per) * k := by
  rw [IntWalk.i64_in (k * 12) (by omega)]
  unfold perB at hp
  simp at hp
  have e : ∀ p q : Int, 0 < p → p * q = 12 → (k * 12).tdiv p = q * k := fun p q hp0 hpq => by
    rw [show k * 12 = p * (q * k) by rw [← hpq, Int.mul_comm k, Int.mul_assoc]]
    exact Int.mul_tdiv_cancel_left _ (by omega)
  rcases hp with ((rfl | rfl) | rfl) | rfl
  · rw [e 1 12 (by decide) (by decide), IntWalk.i64_in _ (by omega)]; rfl
  · rw [e 2 6 (by decide) (by decide), IntWalk.i64_in _ (by omega)]; rfl
  · rw [e 4 3 (by decide) (by decide), IntWalk.i64_in _ (by omega)]; rfl
  · rw [e 12 1 (by decide) (by decide), IntWalk.i64_in _ (by omega)]; rfl
set_option maxRecDepth 100000 in
set_option maxHeartbeats 8000000 in
theorem refLast_any (s : SecV) (day : Int) (w : World) (hk : s.kind = 2) (h0 : checkN s = 0) (hds : s.start ≤ day) (hde : day ≤ s.finish) : Calls Tryz.prog 73 #[.agg (secC s), .int .i64 day] w fun e w' => ∃ f, e = .returned (.int .i64 f) ∧ LastIs s day f ∧ Below w.heap.size w w' := by
  obtain ⟨hper, hd1, hd2, hsf⟩ := bond_facts h0 hk
  have hs1 : 1 ≤ s.start := by simp [dayB] at hd1; omega
  have hfin : 1 ≤ s.finish ∧ s.finish ≤ 3652059 := by simpa [dayB] using hd2
  have hLI : ∀ y m d, Cal.Is s.finish y m d → ∀ k : Nat, (∀ j, j < k → day < Cal.cd (Cal.mon y m) d (12 / s.per) j) → Cal.cd (Cal.mon y m) d (12 / s.per) k ≤ day → LastIs s day (max s.start (Cal.cd (Cal.mon y m) d (12 / s.per) k)) := fun y m d hI k h1 h2 => ⟨y, m, d, k, hI, h1, h2, rfl⟩
  generalize LastIs s = LI at *
  have HG := Lib.hid (heap_alloc_new w (.cells (secC s) 25))
  have z0 := (Below.refl w.heap.size w).alloc (Nat.le_refl _) (.cells (secC s) 25)
  have hcell : ∀ w1, Below (w.alloc (.cells (secC s) 25)).heap.size (w.alloc (.cells (secC s) 25)) w1 → w1.cell? ⟨w.heap.size, 15, none⟩ = some (.int .i64 s.per) ∧ w1.cell? ⟨w.heap.size, 17, none⟩ = some (.int .i64 s.start) ∧ w1.cell? ⟨w.heap.size, 18, none⟩ = some (.int .i64 s.finish) := fun w1 h => by
    have e := rowAt_below (heap_alloc_new w (.cells (secC s) 25)) h
    exact ⟨by rw [cell_of_row _ _ _ _ _ _ e]; rfl, by rw [cell_of_row _ _ _ _ _ _ e]; rfl, by rw [cell_of_row _ _ _ _ _ _ e]; rfl⟩
  generalize secC s = cs at *
  generalize s.per = per at *
  generalize s.start = start at *
  generalize s.finish = finish at *
  have HC := Lib.hid hcell
  have HZ := Lib.hid z0
  have HLI := Lib.hid hLI
  clear hcell z0 hLI h0 hk HG
  obtain ⟨k15, k17, k18⟩ := HC.out _ (Below.refl _ _)
  have hszw : w.heap.size < (w.alloc (.cells cs 25)).heap.size := by simp
  have hOf := Lib.hid (fun w => refOf_any finish w hfin.1 hfin.2)
  generalize hw1 : w.alloc (.cells cs 25) = w1 at *
  go_enter Tryz.func73, Tryz.ntmps73
  go_wp2_with fail
  refine (hOf.out _).mono ?_
  rintro e w2 ⟨y, m, d, rfl, hI, hB2⟩
  have HW1 := Lib.hid hw1
  have hb3 := hB2.alloc (hB2.size) (.cells #[.int .i64 0, .int .i64 0, .int .i64 0] 72)
  have HB3 := Lib.hid hb3
  have HG5 := Lib.hid (heap_alloc_new w2 (.cells #[.int .i64 0, .int .i64 0, .int .i64 0] 72))
  have hs2 := hB2.size
  clear hw1 hB2 hb3 k15 k17 k18
  go_upto_region 2 with (first | (refine wpList_store_any rfl 72 _ _ rfl w2.heap.size #[.int .i64 y, .int .i64 m, .int .i64 d] rfl rfl _ _ HG5.out (by kernel_rfl) rfl (by simp [Value.oneCell']) ?_; intro w3 h3 s3 bl3 ot3; have HR5 := Lib.hid h3; have HB4 := Lib.hid (bl3 _ _ HB3.out hs2); have hs3 := s3; clear h3 s3 bl3 ot3))
  have hsz3 : w2.heap.size < w3.heap.size := by rw [hs3]; simp
  clear hs3
  obtain ⟨k15, k17, k18⟩ := HC.out _ HB4.out
  obtain ⟨p1, p2, t1, t2, pt⟩ := per_facts hper
  have hQ := fun k h0 h1 => ref_quo2 k per h0 h1 hper
  obtain ⟨y1, y2, m1, m2, d1, d2, -⟩ := id hI
  have hd31 : d ≤ 31 := by have := Cal.mlen_bd y m m1 m2; omega
  have hBk := fun k w h0 h1 => back_any y m d k w y1 y2 m1 m2 d1 hd31 h0 h1
  have hEb : 12 ≤ Cal.mon y m ∧ Cal.mon y m ≤ 120000 := by unfold Cal.mon; omega
  have hcdb := fun j h => Cal.cd_bound (E := Cal.mon y m) (d := d) (j := j) hs1 t1 h
  have hli := HLI.out y m d hI
  have hself := Cal.onM_self hI
  have hcd : ∀ j : Nat, (if Cal.mon y m - (12 / per) * j < 12 then 0 else Cal.onM (Cal.mon y m - (12 / per) * j) d) = Cal.cd (Cal.mon y m) d (12 / per) j := fun j => rfl
  have hcd00 : Cal.cd (Cal.mon y m) d (12 / per) 0 = finish := by
    have e0 : Cal.mon y m - (12 / per) * ((0 : Nat) : Int) = Cal.mon y m := by simp
    unfold Cal.cd
    rw [e0, if_neg (by omega), hself]
  unfold BackP at hBk
  generalize hE : Cal.mon y m = E at *
  generalize hst : 12 / per = st at *
  have HQ := Lib.hid hQ
  have HBK := Lib.hid hBk
  have HCDB := Lib.hid hcdb
  have HLIN := Lib.hid hli
  have HCD := Lib.hid hcd
  have HCD0 := Lib.hid hcd00
  have hper0 : (per == 0) = false := by simp; omega
  obtain ⟨hE0, hE1⟩ := hEb
  clear hE hst hQ hBk hcdb hI hli hcd pt hper hd1 hd2 HLI hself y1 y2 m1 m2 d1 d2 hd31 hOf hcd00
  go_wp2_with fail
  go_loopw [7, 8] (fun x k wr => ∃ n : Nat, k = .int .i64 ((n : Int) + 1) ∧ n ≤ 120001 ∧ x = .int .i64 (Cal.cd E d st n) ∧ (∀ j, j < n → day < Cal.cd E d st j) ∧ Below w3.heap.size w3 wr) (fun _ k _ => (120005 - intOf k).toNat)
  case atStart => exact ⟨0, rfl, by omega, by rw [HCD0.out], by omega, Below.refl _ _⟩
  case round =>
    obtain ⟨n, rfl, hn, rfl, hcds, hW⟩ := hrel
    have HCDS := Lib.hid hcds
    have hWW : Below w1.heap.size w1 wr := HB4.out.trans (hW.mono HB4.out.size)
    obtain ⟨k15, k17, k18⟩ := HC.out _ hWW
    have HWW := Lib.hid hWW
    have HR6 := Lib.hid (rowAt_below HR5.out hW)
    have hcb := HCDB.out n
    have HW := Lib.hid hW
    have hws := hW.size
    have hlin := HLIN.out n hcds
    clear hcds hW hWW
    generalize hD : Cal.cd E d st n = D at *
    have HD := Lib.hid hD
    clear hD
    by_cases hlt : day < D
    · have hdl : decide (D > day) = true := decide_eq_true hlt
      have hdl2 : decide (D > start) = true := decide_eq_true (by omega)
      have hcb2 := hcb (by omega)
      have HLT := Lib.hid hlt
      clear hlt hcb hlin
      go_wp2_with fail
      rename_i HK
      have hq := HQ.out ((n : Int) + 1) (by omega) (by omega)
      have HQN := Lib.hid hq
      have hk0 : 0 ≤ st * ((n : Int) + 1) := Int.mul_nonneg (by omega) (by omega)
      have hk1 : st * ((n : Int) + 1) ≤ 1000000000 := by have := Int.mul_le_mul_of_nonneg_right t2 (show (0 : Int) ≤ (n : Int) + 1 by omega); omega
      have hnx : Cal.cd E d st (n + 1) = (if E - st * ((n : Int) + 1) < 12 then 0 else Cal.onM (E - st * ((n : Int) + 1)) d) := by rw [← HCD.out (n + 1)]; norm_cast
      have HNX := Lib.hid hnx
      clear hq hnx
      refine wp_region_held_drew (S := fun w'' => Below wr.heap.size wr w'') (by kernel_rfl) (Below.refl _ _).drew (fun hHeld => ?_)
      refine rg_yes 0 _ (by simp only [List.getElem?_toArray, List.getElem?_cons_succ, List.getElem?_cons_zero]; rfl) (by kernel_rfl) (by kernel_rfl) (by kernel_rfl) (by exact fun _ _ _ h => h) (by kernel_rfl) (by assumption) (by exact fun w' hS => (exec_load_row (rowAt_below HR6.out hS) rfl rfl Tryz.underlying72 rfl (by kernel_rfl))) ?_
      (try simp only [Act.put, List.setIfInBounds_toArray, List.set_cons_zero, List.set_cons_succ])
      (refine rg_yes 1 ?v1 (by simp only [List.getElem?_toArray, List.getElem?_cons_succ, List.getElem?_cons_zero]; rfl) (by kernel_rfl) (by kernel_rfl) (by kernel_rfl) (by exact fun _ _ _ h => h) (by kernel_rfl) (by assumption) ?y1 ?z1; case y1 => (intro w hSw; (try dsimp only at hSw); go_simp; (try (rw [if_neg (by omega)])); (try with_reducible rfl)))
      (try simp only [Act.put, List.setIfInBounds_toArray, List.set_cons_zero, List.set_cons_succ])
      (refine rg_yes 2 ?v2 (by simp only [List.getElem?_toArray, List.getElem?_cons_succ, List.getElem?_cons_zero]; rfl) (by kernel_rfl) (by kernel_rfl) (by kernel_rfl) (by exact fun _ _ _ h => h) (by kernel_rfl) (by assumption) ?y2 ?z2; case y2 => (intro w hSw; (try dsimp only at hSw); go_simp; (try (rw [if_neg (by omega)])); (try with_reducible rfl)))
      (try simp only [Act.put, List.setIfInBounds_toArray, List.set_cons_zero, List.set_cons_succ])
      (refine rg_yes 3 ?v3 (by simp only [List.getElem?_toArray, List.getElem?_cons_succ, List.getElem?_cons_zero]; rfl) (by kernel_rfl) (by kernel_rfl) (by kernel_rfl) (by exact fun _ _ _ h => h) (by kernel_rfl) (by assumption) ?y3 ?z3; case y3 => (intro w hSw; (try dsimp only at hSw); go_simp; (try (rw [if_neg (by omega)])); (try with_reducible rfl)))
      (try simp only [Act.put, List.setIfInBounds_toArray, List.set_cons_zero, List.set_cons_succ])
      refine rg_yes 4 _ (by simp only [List.getElem?_toArray, List.getElem?_cons_succ, List.getElem?_cons_zero]; rfl) (by kernel_rfl) (by kernel_rfl) (by kernel_rfl) (by exact fun _ _ _ h => h) (by kernel_rfl) (by assumption) (by exact fun w' hS => (exec_load_at (HC.out _ (HWW.out.trans (hS.mono HWW.out.size))).1 rfl rfl (fun w => by kernel_rfl))) ?_
      (try simp only [Act.put, List.setIfInBounds_toArray, List.set_cons_zero, List.set_cons_succ])
      (refine rg_yes 5 ?v4 (by simp only [List.getElem?_toArray, List.getElem?_cons_succ, List.getElem?_cons_zero]; rfl) (by kernel_rfl) (by kernel_rfl) (by kernel_rfl) (by exact fun _ _ _ h => h) (by kernel_rfl) (by assumption) ?y4 ?z4; case y4 => (intro w hSw; (try dsimp only at hSw); go_simp; (try (rw [if_neg (by omega)])); (try with_reducible rfl)))
      (try simp only [Act.put, List.setIfInBounds_toArray, List.set_cons_zero, List.set_cons_succ])
      rw [HQN.out]
      refine rg_call 6 _ _ (by simp only [List.getElem?_toArray, List.getElem?_cons_succ, List.getElem?_cons_zero]; rfl) (by kernel_rfl) (by kernel_rfl) (fun w => by go_simp; exact ⟨rfl, rfl⟩) ?_
      refine (HBK.out _ _ hk0 hk1).mono ?_
      rintro e w5 ⟨rfl, hb5⟩
      rw [← HNX.out]
      refine ⟨_, rfl, hHeld.trans (hb5.mono hHeld.size), fun hHeld => ?_⟩
      (refine rg_yes 7 ?v5 (by simp only [List.getElem?_toArray, List.getElem?_cons_succ, List.getElem?_cons_zero]; rfl) (by kernel_rfl) (by kernel_rfl) (by kernel_rfl) (by exact fun _ _ _ h => h) (by kernel_rfl) (by assumption) ?y5 ?z5; case y5 => (intro w hSw; (try dsimp only at hSw); go_simp; (try (rw [if_neg (by omega)])); (try with_reducible rfl)))
      (try simp only [Act.put, List.setIfInBounds_toArray, List.set_cons_zero, List.set_cons_succ])
      refine wpAnyH_done (by kernel_rfl) ?_ _
      apply HK
      go_wp2_with fail
      refine ⟨⟨n + 1, by go_num, by omega, rfl, fun j hj => ?_, HW.out.trans (hHeld.mono hws)⟩, by simp [intOf]; omega⟩
      by_cases e : j = n
      · subst e; rw [HD.out]; exact HLT.out
      · exact HCDS.out j (by omega)
    · have hdl : decide (D > day) = false := decide_eq_false (by omega)
      have hli := hlin (by omega)
      have HZW := Lib.hid HW1.out
      by_cases hds2 : D < start
      · have hdl3 : decide (D < start) = true := decide_eq_true hds2
        rw [show max start D = start by omega] at hli
        have HLF := Lib.hid hli
        clear hli hlin hcb hlt hds2
        go_wp2_with fail
        go_ret
        exact ⟨start, rfl, HLF.out, HZ.out.trans (HWW.out.mono HZ.out.size)⟩
      · have hdl3 : decide (D < start) = false := decide_eq_false hds2
        rw [show max start D = D by omega] at hli
        have HLF := Lib.hid hli
        clear hli hlin hcb hlt hds2
        go_wp2_with fail
        go_ret
        exact ⟨D, rfl, HLF.out, HZ.out.trans (HWW.out.mono HZ.out.size)⟩
end Go.Proofs.YtmepjcnpbjdlkaaGreatDoor
