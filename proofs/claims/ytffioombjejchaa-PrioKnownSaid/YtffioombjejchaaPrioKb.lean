/- prio: the law PrioKnown by contract. -/
import Derived.Test.YtffioombjejchaaPrioKa
namespace Go.Proofs.Ytffioombjejchaa
set_option linter.unusedVariables false
set_option linter.unusedSimpArgs false
open Go.RowKit

set_option maxRecDepth 100000 in
set_option maxHeartbeats 20000000 in
theorem known_any (w : World) : Calls Try.prog 7 #[] w (RetB true w) := by
  go_enter Try.func7, Try.ntmps7
  go_wp2_with fail
  refine (play_any _ false ex1 _ ?hs).mono ?_
  case hs => exact block_steps ex1 9 rfl rfl (heap_alloc_new w _) (by decide)
  rintro e w1 ⟨v1, rfl, hR1, hB1⟩
  rw [show ex1.length = 9 from rfl, ex1_play] at hR1
  have hZ1 : Below w.heap.size w w1 := ((Below.refl _ _).alloc (Nat.le_refl _) _).trans (hB1.mono (by simp))
  clear hB1
  go_wp2_with fail
  refine (sameTwos_any _ _ an1 an1 _ ?h1 ?h2).mono ?_
  case h1 => exact (hR1.kept (fun k hk => heap_alloc_old _ _ hk)).reads (by decide)
  case h2 => exact block_twos an1 9 rfl rfl (heap_alloc_new w1 _) (by decide)
  rintro e w2 ⟨rfl, hB2⟩
  rw [decide_eq_true rfl]
  have hZ2 := (hZ1.alloc hZ1.size _).trans (hB2.mono (by have := hZ1.size; simp; omega))
  clear hB2 hR1 hZ1
  go_wp2_with fail
  refine (play_any _ true ex2 _ ?hs).mono ?_
  case hs => exact block_steps ex2 7 rfl rfl (heap_alloc_new w2 _) (by decide)
  rintro e w3 ⟨v3, rfl, hR3, hB3⟩
  rw [show ex2.length = 7 from rfl, ex2_play] at hR3
  have hZ3 := (hZ2.alloc hZ2.size _).trans (hB3.mono (by have := hZ2.size; simp; omega))
  clear hB3 hZ2
  go_wp2_with fail
  refine (sameTwos_any _ _ an2 an2 _ ?h1 ?h2).mono ?_
  case h1 => exact (hR3.kept (fun k hk => heap_alloc_old _ _ hk)).reads (by decide)
  case h2 => exact block_twos an2 7 rfl rfl (heap_alloc_new w3 _) (by decide)
  rintro e w4 ⟨rfl, hB4⟩
  rw [decide_eq_true rfl]
  have hZ4 := (hZ3.alloc hZ3.size _).trans (hB4.mono (by have := hZ3.size; simp; omega))
  clear hB4 hR3 hZ3
  go_wp2_with fail
  refine (play_any _ true [] _ ⟨by simp, none, 0, rfl, fun i x hx => by simp at hx⟩).mono ?_
  rintro e w5 ⟨v5, rfl, hR5, hB5⟩
  have hZ5 := hZ4.trans (hB5.mono hZ4.size)
  obtain ⟨a5, c5, rfl⟩ := hR5.slice
  clear hB5 hZ4
  go_wp2_with fail
  refine (works_any w5).mono ?_
  rintro e w6 ⟨rfl, hB6⟩
  have hZ6 := hZ5.trans (hB6.mono hZ5.size)
  clear hB6 hZ5 hR5
  go_wp2_with fail
  have hU := heap_alloc_new w6 (.cells #[.int .i64 1, .int .i64 2, .int .i64 3, .int .i64 7, .int .i64 100, .int .i64 1099511627776] 3)
  have hZ7 := hZ6.alloc hZ6.size (.cells #[.int .i64 1, .int .i64 2, .int .i64 3, .int .i64 7, .int .i64 100, .int .i64 1099511627776] 3)
  generalize w6.alloc (.cells #[.int .i64 1, .int .i64 2, .int .i64 3, .int .i64 7, .int .i64 100, .int .i64 1099511627776] 3) = w7 at hU hZ7 ⊢
  generalize w6.heap.size = gu at hU ⊢
  clear hZ6
  have hgu := lt_of_block hU
  have HU := Lib.hid hU
  have HZ7 := Lib.hid hZ7
  clear hU hZ7
  go_loopw [65, 4, 5, 6, 7, 8, 9] (fun iv _ _ _ _ _ _ wr => ∃ i : Nat, i ≤ 6 ∧ iv = .int .i64 i ∧ Below w7.heap.size w7 wr) (fun iv _ _ _ _ _ _ _ => 6 - (intOf iv).toNat)
  case atStart => exact ⟨0, by omega, rfl, Below.refl _ _⟩
  case round =>
    obtain ⟨wo, rfl⟩ : ∃ wo, wo = wr := ⟨wr, rfl⟩
    obtain ⟨i, hi, rfl, hW⟩ := hrel
    by_cases hi6 : i < 6
    · have hd6 : decide ((i : Int) < 6) = true := decide_eq_true (by omega)
      obtain ⟨n, hn⟩ : ∃ n, unlike[i]? = some n := ⟨_, List.getElem?_eq_getElem (by simpa [unlike] using hi6)⟩
      have hn0 := unlike_pos i n hn
      have c0 : wo.cell? ⟨gu, i, none⟩ = some (.int .i64 n) := by
        rw [cell_of_row _ _ _ _ _ _ ((hW.block gu hgu).trans HU.out)]
        unfold unlike at hn
        rcases i with _ | _ | _ | _ | _ | _ | i <;> simp at hn ⊢ <;> first | exact hn | omega
      clear hn
      go_wp2_with fail
      go_loopw [5, 6, 7] (fun sv xv iv wq => ∃ (k x : Nat) (xs : List StepT), k ≤ 600 ∧ iv = .int .i64 k ∧ xv = .int .i64 x ∧ x < 2147483648 ∧ Grows wo wq wo.heap.size sv xs ∧ xs.length ≤ 2 * k) (fun _ _ iv _ => 600 - (intOf iv).toNat)
      case atStart => exact ⟨0, 12345, [], by omega, rfl, rfl, by omega, ⟨World.ownsRow_nil _ _ _ _, Below.refl _ _, Nat.le_refl _⟩, by simp⟩
      case round =>
        obtain ⟨wq, rfl⟩ : ∃ wq, wq = wr := ⟨wr, rfl⟩
        obtain ⟨k, x, xs, hk, rfl, rfl, hx, hG, hxl⟩ := hrel
        by_cases hk6 : k < 600
        · have hd600 : decide ((k : Int) < 600) = true := decide_eq_true (by omega)
          obtain ⟨m, hm, hm0, hm1⟩ : ∃ m : Int, IntKind.i64.wrap ((x : Int) * 1103515245) = m ∧ 0 ≤ m ∧ m ≤ 2369780942852710000 := ⟨(x : Int) * 1103515245, IntWalk.i64_in _ (by omega), by omega, by omega⟩
          obtain ⟨a, ha, ha0⟩ : ∃ a : Int, IntKind.i64.wrap (m + 12345) = a ∧ 0 ≤ a := ⟨m + 12345, IntWalk.i64_in _ (by omega), by omega⟩
          clear hm0 hm1
          obtain ⟨y, hy, hyl⟩ : ∃ y : Nat, a % 2147483648 = (y : Int) ∧ y < 2147483648 := ⟨(a % 2147483648).toNat, by omega, by omega⟩
          obtain ⟨v8, w8, hrun, hG8⟩ := hG.push [(1, (y : Int) / 64 % n, (k : Int))] 1 1 rfl _ rfl (by simp; omega)
          clear hG
          obtain ⟨b, ht⟩ : ∃ b : Bool, ((k : Int) % 3 == 2) = b := ⟨_, rfl⟩
          cases b
          · go_wp2_with (refine wpList_val (w' := w8) v8 (by kernel_rfl) (exec_append2 rfl rfl rfl rfl ?_) ?_; focus (exact hrun))
            exact ⟨⟨k + 1, y, _, by omega, by go_num, rfl, hyl, hG8, by simp; omega⟩, by simp [intOf]; omega⟩
          · obtain ⟨v9, w9, hrun9, hG9⟩ := hG8.push [((y : Int) / 1024 % 4, (k : Int) - 5, (k : Int))] 1 1 rfl _ rfl (by simp; omega)
            clear hG8
            go_wp2_with (first | (refine wpList_val (w' := w8) v8 (by kernel_rfl) (exec_append2 rfl rfl rfl rfl ?_) ?_; focus (exact hrun)) | (refine wpList_val (w' := w9) v9 (by kernel_rfl) (exec_append2 rfl rfl rfl rfl ?_) ?_; focus (exact hrun9)))
            exact ⟨⟨k + 1, y, _, by omega, by go_num, rfl, hyl, hG9, by simp; omega⟩, by simp [intOf]; omega⟩
        · have hke : k = 600 := by omega
          subst hke
          have hd600 : decide (((600 : Nat) : Int) < 600) = false := by decide
          obtain ⟨v8, w8, hrun, hG8⟩ := hG.push [(1, -9223372036854775808, 0), (1, 9223372036854775807, 0), (1, -1, -1)] 3 3 rfl _ rfl (by simp; omega)
          have hl8 : (xs ++ [((1 : Int), (-9223372036854775808 : Int), (0 : Int)), (1, 9223372036854775807, 0), (1, -1, -1)]).length ≤ 1203 := by simp; omega
          generalize xs ++ [((1 : Int), (-9223372036854775808 : Int), (0 : Int)), (1, 9223372036854775807, 0), (1, -1, -1)] = ys at hG8 hl8
          clear hG
          go_wp2_with (refine wpList_val (w' := w8) v8 (by kernel_rfl) (exec_append2 rfl rfl rfl rfl ?_) ?_; focus (exact hrun))
          clear hrun
          go_loopw [5, 8] (fun sv iv wr5 => ∃ (k : Nat) (xs : List StepT), k ≤ 620 ∧ iv = .int .i64 k ∧ Grows wo wr5 wo.heap.size sv xs ∧ xs.length ≤ 1203 + k) (fun _ iv _ => 620 - (intOf iv).toNat)
          case atStart => exact ⟨0, ys, by omega, rfl, hG8, by omega⟩
          case round =>
            clear hG8 hl8
            obtain ⟨wp, rfl⟩ : ∃ wq, wq = wr := ⟨wr, rfl⟩
            obtain ⟨k, zs, hk, rfl, hG, hzl⟩ := hrel
            by_cases hk6 : k < 620
            · have hd620 : decide ((k : Int) < 620) = true := decide_eq_true (by omega)
              obtain ⟨v9, w9, hrun, hG9⟩ := hG.push [(0, 0, 0)] 1 1 rfl _ rfl (by simp; omega)
              clear hG
              go_wp2_with (refine wpList_val (w' := w9) v9 (by kernel_rfl) (exec_append2 rfl rfl rfl rfl ?_) ?_; focus (exact hrun))
              exact ⟨⟨k + 1, _, by omega, by go_num, hG9, by simp; omega⟩, by simp [intOf]; omega⟩
            · have hd620 : decide ((k : Int) < 620) = false := decide_eq_false (by omega)
              have hS := own_readsS hG.own (by omega)
              have hbp := hG.bel
              obtain ⟨ab, ac, rfl⟩ := hG.slice
              have HS := Lib.hid hS
              have HB := Lib.hid hbp
              clear hS hG hbp
              go_wp2_with fail
              go_loopw [9] (fun iv wr6 => ∃ k : Nat, k ≤ 2 ∧ iv = .int .i64 k ∧ Below wp.heap.size wp wr6) (fun iv _ => 2 - (intOf iv).toNat)
              case atStart => exact ⟨0, by omega, rfl, Below.refl _ _⟩
              case round =>
                obtain ⟨wx, rfl⟩ : ∃ wq, wq = wr := ⟨wr, rfl⟩
                obtain ⟨k, hk, rfl, hX⟩ := hrel
                by_cases hk2 : k < 2
                · have hd2 : decide ((k : Int) < 2) = true := decide_eq_true (by omega)
                  obtain ⟨b, ht⟩ : ∃ b : Bool, ((k : Int) == 1) = b := ⟨_, rfl⟩
                  have hS1 := HS.out.below hX
                  go_wp2_with fail
                  refine (play_any _ b zs _ hS1).mono ?_
                  rintro e wa ⟨va, rfl, hRa, hBa⟩
                  have hXa := hX.trans (hBa.mono hX.size)
                  have hSa := HS.out.below hXa
                  clear hS1 hBa hX
                  go_wp2_with fail
                  refine (refPlay_any _ b zs _ hSa).mono ?_
                  rintro e wb ⟨vb, rfl, hRb, hBb⟩
                  have hXb := hXa.trans (hBb.mono hXa.size)
                  have hRab := hRa.below hBb
                  clear hSa hBb hXa hRa
                  have hpl : (playS b zs zs.length).1.length = zs.length := playS_len b zs zs.length
                  have HPL := Lib.hid hpl
                  generalize (playS b zs zs.length).1 = out at hRab hRb HPL
                  clear hpl
                  go_wp2_with fail
                  refine (sameTwos_any _ _ out out wb (hRab.reads (by rw [HPL.out]; omega)) (hRb.reads (by rw [HPL.out]; omega))).mono ?_
                  rintro e wc ⟨rfl, hBc⟩
                  rw [decide_eq_true rfl]
                  go_wp2_with fail
                  exact ⟨⟨k + 1, by omega, by go_num, hXb.trans (hBc.mono hXb.size)⟩, by simp [intOf]; omega⟩
                · clear hk
                  go_wp2_with fail
                  exact ⟨⟨i + 1, by omega, by go_num, (hW.trans (HB.out.mono hW.size)).trans (hX.mono (by have := hW.size; have := HB.out.size; omega))⟩, by simp [intOf]; omega⟩
    · have hie : i = 6 := by omega
      subst hie
      go_wp2_with fail
      refine (St.prioSorts_any _ [⟨#[98, 98]⟩, ⟨#[97]⟩, ⟨#[99, 99]⟩, ⟨#[100]⟩] _ ?hs (by decide)).mono ?_
      case hs => exact block_texts [⟨#[98, 98]⟩, ⟨#[97]⟩, ⟨#[99, 99]⟩, ⟨#[100]⟩] 4 rfl rfl (heap_alloc_new wo _) (by decide)
      rintro e wd ⟨rfl, hBd⟩
      go_wp2_with fail
      go_ret
      exact ⟨rfl, ((HZ7.out.trans (hW.mono HZ7.out.size)).alloc (by have := hW.size; have := HZ7.out.size; omega) _).trans (hBd.mono (by have := hW.size; have := HZ7.out.size; simp; omega))⟩
end Go.Proofs.Ytffioombjejchaa
