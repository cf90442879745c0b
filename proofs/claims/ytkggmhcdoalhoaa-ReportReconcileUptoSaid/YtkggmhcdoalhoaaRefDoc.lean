/- The document's differences of two lists of balances: by contract. -/
import Derived.Test.YtkggmhcdoalhoaaRefKeys
namespace Go.Proofs.Ytkggmhcdoalhoaa
set_option linter.unusedVariables false
set_option linter.unusedSimpArgs false
open Go.RowKit
attribute [local irreducible] Go.wpStill

theorem recL_len (xs ys : List BalV) (ks : List keyT) : (recL xs ys ks).length ≤ ks.length := by
  unfold recL
  rw [List.length_map]
  exact List.length_filter_le _ _
/-- one more difference behind a row -/
theorem push_brk {w0 w : World} {B : Nat} {v : Value} {xs : List breakT} (hR : RowE breakE 36 w B v xs) (hb : Below B w0 w) (h0 : w0.heap.size = B) (a b c d : Int) (hl : xs.length ≤ 4194304) :
    ∃ v' w', (Builtin.append_ #[23, 23] 23 #[v, .slice (some ⟨w.heap.size, 0, none⟩) 1 1]).run Try.prog (w.alloc (.cells #[.int .i64 a, .int .i64 b, .int .i64 c, .int .i64 d] 36)) = .ok v' w' ∧ RowE breakE 36 w' B v' (xs ++ [(a, b, c, d)]) ∧ Below B w0 w' := by
  have hs := hb.size
  have hbA : Below B w0 (w.alloc (.cells #[.int .i64 a, .int .i64 b, .int .i64 c, .int .i64 d] 36)) := hb.alloc (by omega) _
  obtain ⟨v', w', h1, h2, h3, _, _⟩ := (hR.alloc (.cells #[.int .i64 a, .int .i64 b, .int .i64 c, .int .i64 d] 36)).push breakTy (by have := hbA.size; omega) (a, b, c, d) w.heap.size 1 _ rfl (heap_alloc_new w _) (by omega) (by omega)
  exact ⟨v', w', h1, h2, hbA.trans ((hR.alloc _).grown h3 (by have := hbA.size; omega) (Nat.le_refl _))⟩
set_option maxRecDepth 100000 in
set_option maxHeartbeats 4000000 in
theorem refReconcile_any (v u : Value) (xs ys : List BalV) (w : World) (h : BalsR w v xs) (hu : BalsR w u ys) (hs : xs.length ≤ 1048576) (hs2 : ys.length ≤ 1048576) :
    Calls Try.prog 4 #[v, u] w fun e w' => ∃ v', e = .returned v' ∧ ReadsE breakE w' v' (recon xs ys) ∧ Below w.heap.size w w' := by
  obtain ⟨ao, cap, rfl⟩ := h.1.slice
  obtain ⟨au, cu, rfl⟩ := hu.1.slice
  have HR := Lib.hid h
  have HU := Lib.hid hu
  clear h hu
  go_enter Try.func4, Try.ntmps4
  go_wp2_with fail
  have hl1 : (keysR xs []).length ≤ 1048576 := by have := keysR_len xs []; simp at this; omega
  refine (keys31_any _ _ xs [] w HR.out (ReadsE.nil w) hs (by simp)).mono ?_
  rintro e w1 ⟨v1, rfl, hk1, hb1⟩
  have HB1 := Lib.hid hb1
  have HK1 := Lib.hid hk1
  clear hk1 hb1
  go_wp2_with fail
  refine (keys31_any _ _ ys (keysR xs []) w1 (HU.out.below HB1.out) HK1.out hs2 hl1).mono ?_
  rintro e w2 ⟨v2, rfl, hk2, hb2⟩
  have hl2 : (keysR ys (keysR xs [])).length ≤ 2097152 := by have := keysR_len ys (keysR xs []); omega
  have HKS := Lib.hid (show recon xs ys = recL xs ys (keysR ys (keysR xs [])) from rfl)
  generalize keysR ys (keysR xs []) = ks at *
  obtain ⟨ko, kc, rfl⟩ := hk2.slice
  have HB2 := Lib.hid (HB1.out.trans (hb2.mono HB1.out.size))
  have HK2 := Lib.hid hk2
  have HX := Lib.hid (HR.out.below HB2.out)
  have HY := Lib.hid (HU.out.below HB2.out)
  clear hk2 hb2 HB1 HK1 HR HU hl1
  go_wp2_with fail
  go_loopw [6, 7] (fun nv jv wr => ∃ j : Nat, j ≤ ks.length ∧ jv = .int .i64 j ∧ RowE breakE 36 wr w2.heap.size nv (recL xs ys (ks.take j)) ∧ Below w2.heap.size w2 wr) (fun _ jv _ => ks.length - (intOf jv).toNat)
  case atStart => exact ⟨0, by omega, rfl, RowE.nil _ _, Below.refl _ _⟩
  case round =>
    obtain ⟨j, hj, rfl, hN, hW⟩ := hrel
    have HN := Lib.hid hN
    have HWB := Lib.hid hW
    clear hN
    by_cases hjl : j < ks.length
    · obtain ⟨y, hy⟩ : ∃ y, ks[j]? = some y := ⟨_, List.getElem?_eq_getElem hjl⟩
      obtain ⟨g2, o2, rfl, hr0⟩ := HK2.out.at hy
      obtain ⟨c, d⟩ := y
      have KO := Lib.hid (fun (wz : World) (hz : Below w2.heap.size w2 wz) => (show wz.rangeAt g2 (o2 + j * 2) [.int .i64 c, .int .i64 d] from fun k v hv => (hz.cell (p := ⟨g2, o2 + j * 2 + k, none⟩) (rangeE_lt hr0)).trans (hr0 k v hv)))
      have hdj : decide ((j : Int) < ks.length) = true := decide_eq_true (by omega)
      have HT := Lib.hid (show recL xs ys (ks.take (j + 1)) = if lastT xs (c, d) = lastT ys (c, d) then recL xs ys (ks.take j) else recL xs ys (ks.take j) ++ [(c, d, lastT xs (c, d), lastT ys (c, d))] by rw [take_snoc' hy, recL_snoc])
      have hrl : (recL xs ys (ks.take j)).length ≤ 2097152 := by have := recL_len xs ys (ks.take j); rw [List.length_take, Nat.min_eq_left hj] at this; omega
      have TX := Lib.hid (total31_any · xs (c, d))
      have TY := Lib.hid (total31_any · ys (c, d))
      generalize lastT xs (c, d) = tx at *
      generalize lastT ys (c, d) = ty at *
      generalize recL xs ys (ks.take j) = out at *
      have HKA := Lib.hid (KO.out _ hW)
      clear hr0 hy hW
      go_wp2_with (refine wpList_val (.agg #[.int .i64 c, .int .i64 d]) (by kernel_rfl) (exec_load_mid (T := 34) HKA.out rfl rfl Try.underlying34 rfl (by kernel_rfl)) ?_)
      refine (TX.out _ _ (HX.out.below HWB.out)).mono ?_
      rintro e w4 ⟨rfl, hb4⟩
      have HB4 := Lib.hid (HWB.out.trans (hb4.mono HWB.out.size))
      have HN4 := Lib.hid (HN.out.below hb4)
      have HKB := Lib.hid (KO.out _ HB4.out)
      clear hb4 HN HKA
      go_wp2_with (refine wpList_val (.agg #[.int .i64 c, .int .i64 d]) (by kernel_rfl) (exec_load_mid (T := 34) HKB.out rfl rfl Try.underlying34 rfl (by kernel_rfl)) ?_)
      refine (TY.out _ _ (HY.out.below HB4.out)).mono ?_
      rintro e w5 ⟨rfl, hb5⟩
      have HB5 := Lib.hid (HB4.out.trans (hb5.mono HB4.out.size))
      have HN5 := Lib.hid (HN4.out.below hb5)
      have HKC := Lib.hid (KO.out _ HB5.out)
      clear hb5 HN4 HKB
      by_cases he : tx = ty
      · have he1 : (tx == ty) = true := by simp [he]
        have he2 : (tx != ty) = false := by simp [he]
        have HT := Lib.hid (HT.out.trans (if_pos he))
        clear he
        go_wp2_with fail
        exact ⟨⟨j + 1, by omega, by go_num, by rw [HT.out]; exact HN5.out, HB5.out⟩, by simp [intOf]; omega⟩
      · have he1 : (tx == ty) = false := by simp [he]
        have he2 : (tx != ty) = true := by simp [he]
        have HT := Lib.hid (HT.out.trans (if_neg he))
        clear he
        obtain ⟨v', w6, hrun, hR, hb6⟩ := push_brk HN5.out HB5.out rfl c d tx ty (by omega)
        have HRUN := Lib.hid hrun
        have HR6 := Lib.hid hR
        have HB6 := Lib.hid hb6
        clear hrun hR hb6
        go_wp2_with (first | (refine wpList_val (.agg #[.int .i64 c, .int .i64 d]) (by kernel_rfl) (exec_load_mid (T := 34) HKC.out rfl rfl Try.underlying34 rfl (by kernel_rfl)) ?_) | (refine wpList_val (w' := w6) v' (by kernel_rfl) (exec_append2 rfl rfl rfl rfl ?_) ?_; focus (exact HRUN.out)))
        exact ⟨⟨j + 1, by omega, by go_num, by rw [HT.out]; exact HR6.out, HB6.out⟩, by simp [intOf]; omega⟩
    · have hie : j = ks.length := by omega
      have hdj : decide ((j : Int) < ks.length) = false := decide_eq_false (by omega)
      rw [hie, List.take_length] at HN
      clear hie
      have hrl : (recL xs ys ks).length ≤ 2097152 := by have := recL_len xs ys ks; omega
      go_wp2_with fail
      go_ret
      exact ⟨_, rfl, by rw [HKS.out]; exact HN.out.reads (by omega), HB2.out.trans (HWB.out.mono HB2.out.size)⟩
end Go.Proofs.Ytkggmhcdoalhoaa
