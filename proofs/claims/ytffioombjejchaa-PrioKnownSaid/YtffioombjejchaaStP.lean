/- prio: the law PrioSorts by contract. Printed by gen_sorts.py. -/
import Derived.Test.YtffioombjejchaaStO
import Derived.Test.YtffioombjejchaaPrioO
namespace Go.Proofs.Ytffioombjejchaa.St
set_option linter.unusedVariables false
set_option linter.unusedSimpArgs false
open Go.RowKit
attribute [local irreducible] Go.wpStill

/-- two heaps of texts that hold the same -/
structure Both (w0 w : World) (B : Nat) (ps : List Str) (n : Nat) (r1 r2 : Option Nat) : Prop where
  one : HeapP w (B + 1) B false ps n r1
  two : HeapP w (B + 3) (B + 2) false ps n r2
  dis : ∀ q, r1 = some q → r2 = some q → False
  lo1 : ∀ q, r1 = some q → B ≤ q
  lo2 : ∀ q, r2 = some q → B ≤ q
  bel : Below B w0 w
  sz : B ≤ w.heap.size
theorem Both.below {w0 w w' : World} {B n : Nat} {ps : List Str} {r1 r2 : Option Nat} (a : Both w0 w B ps n r1 r2) (hb : Below w.heap.size w w') : Both w0 w' B ps n r1 r2 :=
  ⟨a.one.below hb, a.two.below hb, a.dis, a.lo1, a.lo2, a.bel.trans (hb.mono a.sz), Nat.le_trans a.sz hb.size⟩
theorem own_ge {w : World} {B : Nat} {e : TypeId} {size : Nat} {v : Value} {n : Nat} {xs : List Value} (h : w.ownsRow B e size v n xs) {g : Nat} (hg : v.ownBlock = some g) : B ≤ g := by
  rcases h.2 with ⟨rfl, _⟩ | ⟨g', cap, cur, rfl, h1, hh, _⟩
  · cases hg
  · injection hg with hg
    exact hg ▸ h1
/-- two rows of texts of one's own beside each other -/
structure CS (w wr : World) (B0 : Nat) (cv sv : Value) (C S : List Str) : Prop where
  c : wr.ownsRow B0 9 1 cv C.length (flatT C)
  s : wr.ownsRow B0 9 1 sv S.length (flatT S)
  dis : ∀ q, cv.ownBlock = some q → sv.ownBlock = some q → False
  bel : Below B0 w wr
  sz : B0 ≤ wr.heap.size
theorem CS.swap {w wr : World} {B0 : Nat} {cv sv : Value} {C S : List Str} (a : CS w wr B0 cv sv C S) : CS w wr B0 sv cv S C := ⟨a.s, a.c, fun q h1 h2 => a.dis q h2 h1, a.bel, a.sz⟩
theorem CS.drew {w wr : World} {B0 : Nat} {cv sv : Value} {C S : List Str} (a : CS w wr B0 cv sv C S) : CS w wr.drew B0 cv sv C S := ⟨World.ownsRow_congr a.c fun k _ => rfl, World.ownsRow_congr a.s fun k _ => rfl, a.dis, a.bel.drew, a.sz⟩
theorem CS.one {w wr : World} {B0 : Nat} {cv sv : Value} {C S : List Str} (a : CS w wr B0 cv sv C S) (t : Str) (hl : (C.length + 1) * 16 ≤ 140737488355328) :
    ∃ v' w', (Builtin.append_ #[50, 50] 50 #[cv, .slice (some ⟨wr.heap.size, 0, none⟩) 1 1]).run Try.prog (wr.alloc (.cells #[.string t] 9)) = .ok v' w' ∧ CS w w' B0 v' sv (C ++ [t]) S := by
  have hc1 := World.ownsRow_congr (w' := wr.alloc (.cells #[.string t] 9)) a.c fun k hk => by
    obtain ⟨cs, hc⟩ := own_type a.c hk
    exact heap_alloc_old _ _ (lt_of_block hc)
  obtain ⟨v', w', hr, ho, hg, hrow⟩ := push_text hc1 rfl (by have := a.sz; simp; omega) t wr.heap.size 1 (heap_alloc_new wr _) hl
  refine ⟨v', w', hr, ho, World.ownsRow_congr a.s fun k hk => ?_, fun q h1 h2 => ?_, (a.bel.alloc a.sz _).trans (grown_below hg (by have := a.sz; simp; omega) fun k hk => own_ge a.c hk), ?_⟩
  · obtain ⟨cs, hc⟩ := own_type a.s hk
    have := lt_of_block hc
    exact (hg.block k (by simp; omega) (fun e => a.dis k e.symm hk)).trans (heap_alloc_old _ _ this)
  · rcases hrow with h3 | h3
    · exact a.dis q (h3 ▸ h1) h2
    · obtain ⟨cs, hc⟩ := own_type a.s h2
      have := lt_of_block hc
      have := h3 q h1
      simp at this
      omega
  · have := hg.size
    have := a.sz
    simp at *
    omega
theorem filt_step {ls : List Str} {j : Nat} {t : Str} (h : ls[j]? = some t) (p : Str → Bool) : (ls.take (j + 1)).filter p = if p t = true then (ls.take j).filter p ++ [t] else (ls.take j).filter p := by
  rw [List.take_add_one, h, List.filter_append]
  show _ ++ List.filter p [t] = _
  rw [List.filter_cons]
  split <;> simp
set_option maxRecDepth 100000 in
set_option maxHeartbeats 20000000 in
theorem prioSorts_any (sv : Value) (ls : List Str) (w : World) (hS : ReadsX w sv ls) (hlen : ls.length ≤ 1048576) : Calls Try.prog 4 #[sv] w (RetB true w) := by
  obtain ⟨_, ao, cap, rfl, hr⟩ := id hS
  have HS := Lib.hid hS
  clear hS hr
  go_enter Try.func4, Try.ntmps4
  go_wp2_with fail
  refine (newP _ false w rfl).mono ?_
  rintro e w1 ⟨rfl, hA1, hB1, hs1⟩
  go_wp2_with fail
  refine (newP _ false w1 rfl).mono ?_
  rintro e w2 ⟨rfl, hA2, hB2, hs2⟩
  have hA12 := hA1.below hB2
  have hZ2 := hB1.trans (hB2.mono hB1.size)
  rw [hs1] at hA2 hs2
  generalize hB : w.heap.size = B at hA12 hA2 hZ2 hs1 hs2
  have HA1 := Lib.hid hA12
  have HA2 := Lib.hid hA2
  have HZ2 := Lib.hid hZ2
  clear hA1 hA2 hB1 hB2 hA12 hZ2
  go_wp2_with fail
  refine (works_any w2).mono ?_
  rintro e w3 ⟨rfl, hb3⟩
  have hBo : Both w w3 B [] 0 none none := ⟨HA1.out.below hb3, HA2.out.below hb3, (fun q h => by cases h), (fun q h => by cases h), (fun q h => by cases h), HZ2.out.trans (hb3.mono (by omega)), by have := hb3.size; omega⟩
  clear HA1 HA2 HZ2 hb3
  go_wp2_with fail
  go_loopw [5] (fun iv wr => ∃ (k : Nat) (r1 r2 : Option Nat), k ≤ ls.length ∧ iv = .int .i64 k ∧ Both w wr B (ls.take k) k r1 r2) (fun iv _ => ls.length - (intOf iv).toNat)
  case atStart => exact ⟨0, none, none, by omega, rfl, hBo⟩
  case round =>
    clear hBo
    obtain ⟨k, r1, r2, hk, rfl, hBo⟩ := hrel
    by_cases hkl : k < ls.length
    · --PUSH
      obtain ⟨s, hs⟩ : ∃ s, ls[k]? = some s := ⟨_, List.getElem?_eq_getElem hkl⟩
      obtain ⟨_, ao', cap', hva, hra⟩ := HS.out
      injection hva with h1 h2 h3
      subst h1
      obtain ⟨g, o, rfl, hca⟩ := hra k s hs
      have hgl := cell_lt hca
      have ht1 : ls.take (k + 1) = ls.take k ++ [s] := by rw [List.take_add_one, hs]; rfl
      have HT1 := Lib.hid ht1
      have HCA := Lib.hid hca
      have hcr := (cell_kept (hBo.bel.block g (by omega))).trans hca
      have hcnt := hBo.one.count
      clear h2 h3 hra hs ht1 hca
      go_wp2_with fail
      refine (pushP (B + 1) B k false (ls.take k) r1 s _ hBo.one (by omega)).mono ?_
      rintro e w5 ⟨r5, rfl, hA5, hT5⟩
      have hC5 := hBo.two.apart hBo.one hT5 (by omega) hBo.dis
      have hb5 := hBo.bel.trans (hT5.below hBo.sz (by omega) hBo.lo1)
      have hs5 : B ≤ w5.heap.size := Nat.le_trans hBo.sz hT5.size
      have hr5 : ∀ q, r5 = some q → r1 = some q ∨ wr.heap.size ≤ q := fun q hq => by
        rcases hT5.row with h1 | h1
        · exact .inl (h1 ▸ hq)
        · exact .inr (h1 q hq)
      have hc5 := (cell_kept (hb5.block g (by omega))).trans HCA.out
      have hd5 : ∀ q, r5 = some q → r2 = some q → False := fun q hq hq2 => by
        rcases hr5 q hq with h1 | h1
        · exact hBo.dis q h1 hq2
        · have := hBo.two.rlt hq2; omega
      have hl5 : ∀ q, r5 = some q → B ≤ q := fun q hq => by
        rcases hr5 q hq with h1 | h1
        · exact hBo.lo1 q h1
        · have := hBo.sz; omega
      have hl2 := hBo.lo2
      clear hT5 hBo hr5 hcr
      go_wp2_with fail
      refine (pushP (B + 3) (B + 2) k false (ls.take k) r2 s _ hC5 (by omega)).mono ?_
      rintro e w6 ⟨r6, rfl, hC6, hT6⟩
      have hA6 := hA5.apart hC5 hT6 (by omega) (fun q h h' => hd5 q h' h)
      have hb6 := hb5.trans (hT6.below hs5 (by omega) hl2)
      have hr6 : ∀ q, r6 = some q → r2 = some q ∨ w5.heap.size ≤ q := fun q hq => by
        rcases hT6.row with h1 | h1
        · exact .inl (h1 ▸ hq)
        · exact .inr (h1 q hq)
      have hBo : Both w w6 B (ls.take (k + 1)) (k + 1) r5 r6 := by
        rw [HT1.out]
        refine ⟨hA6, hC6, fun q hq hq6 => ?_, hl5, fun q hq => ?_, hb6, Nat.le_trans hs5 hT6.size⟩
        · rcases hr6 q hq6 with h1 | h1
          · exact hd5 q hq h1
          · have := hA5.rlt hq; omega
        · rcases hr6 q hq with h1 | h1
          · exact hl2 q h1
          · omega
      have HBO := Lib.hid hBo
      clear hA5 hC5 hA6 hC6 hb5 hb6 hT6 hr6 hBo hc5
      go_wp2_with fail
      exact ⟨⟨k + 1, r5, r6, by omega, by go_num, HBO.out⟩, by simp [intOf]; omega⟩
      --PUSHEND
    · have hke : k = ls.length := by omega
      subst hke
      rw [List.take_length] at hBo
      go_wp2_with fail
      refine (sortedP (B + 1) B ls.length false ls r1 wr hBo.one (by omega)).mono ?_
      rintro e w6 ⟨rv, rfl, hO6, hb6⟩
      have hBo6 := hBo.below hb6
      have hsl := sorted_len false ls
      have hpair := sorted_pair false ls
      have hfil := fun m => sorted_filter false m ls
      generalize hS0 : PP.sorted false ls = S at hO6 hsl hpair hfil
      rw [hsl] at hO6
      have HS0 := Lib.hid hS0
      have HSL := Lib.hid hsl
      have HPA := Lib.hid hpair
      have HFI := Lib.hid hfil
      have hwz : wr.heap.size ≤ w6.heap.size := hb6.size
      have hX6 : ReadsX w6 rv S := own_readsX hO6 hsl.symm (by omega)
      have hO6b : w6.ownsRow B 9 1 rv ls.length (flatT S) := ⟨hO6.1, hO6.2.elim .inl fun ⟨g, cap, cur, h1, h2, h3⟩ => .inr ⟨g, cap, cur, h1, by have := hBo.sz; omega, h3⟩⟩
      obtain ⟨ra, rc, rfl⟩ : ∃ ra rc, rv = .slice ra ls.length rc := by
        obtain ⟨_, ra, rc, h1, _⟩ := hX6
        exact ⟨ra, rc, by rw [h1, hsl]⟩
      have hin6 : ReadsX w6 (.slice ao ls.length cap) ls := HS.out.below (by rw [hB]; exact hBo6.bel)
      have HX6 := Lib.hid hX6
      have HO6 := Lib.hid hO6b
      have HIN := Lib.hid hin6
      clear hS0 hsl hpair hfil hO6 hX6 hO6b hin6 hb6 hBo
      go_wp2_with fail
      refine (lenP (B + 1) B ls.length false ls r1 w6 hBo6.one (by omega)).mono ?_
      rintro e w6' ⟨rfl, rfl⟩
      have HBo := Lib.hid hBo6
      clear hBo6
      go_wp2_with fail
      go_loopw [7] (fun iv wr => ∃ j : Nat, j ≤ ls.length ∧ iv = .int .i64 ((j + 1 : Nat) : Int) ∧ Below w6.heap.size w6 wr) (fun iv _ => ls.length + 1 - (intOf iv).toNat)
      case atStart => exact ⟨0, by omega, rfl, Below.refl _ _⟩
      case round =>
        obtain ⟨j, hj, rfl, hW⟩ := hrel
        by_cases hjl : j + 1 < ls.length
        · --L2
          have hl1 : j + 1 < S.length := by rw [HSL.out]; omega
          obtain ⟨s, hs⟩ : ∃ s, S[j + 1]? = some s := ⟨_, List.getElem?_eq_getElem hl1⟩
          obtain ⟨s', hs'⟩ : ∃ s, S[j]? = some s := ⟨_, List.getElem?_eq_getElem (by omega)⟩
          obtain ⟨_, aa, ca', hva, hra⟩ := HX6.out.below hW
          injection hva with h1 h2 h3
          subst h1
          obtain ⟨g, o, rfl, hca⟩ := hra (j + 1) s hs
          obtain ⟨g', o', hg', hcb⟩ := hra j s' hs'
          injection hg' with hg'
          injection hg' with e1 e2 e3
          subst e1
          subst e2
          have hle : lessP false s s' = false := by
            have h5 := (List.pairwise_iff_getElem.1 HPA.out) j (j + 1) (by omega) hl1 (by omega)
            have h6 := (List.getElem?_eq_some_iff.1 hs).2
            have h7 := (List.getElem?_eq_some_iff.1 hs').2
            rw [h6, h7] at h5
            unfold lessP
            simp
            omega
          have hji : ((j + 1 : Nat) : Int) - 1 = (j : Int) := by omega
          have hjw : IntKind.i64.wrap (j : Int) = (j : Int) := IntWalk.i64_in _ (by omega)
          have HLE := Lib.hid hle
          clear h2 h3 e3 hra hs hs' hl1 hle
          go_wp2_with fail
          refine wp_region_still_tail 9 (by kernel_rfl) (by kernel_rfl) ?_
          simp only [List.take_succ_cons, List.take_zero, List.drop_succ_cons, List.drop_zero]
          refine (fun (Hst : wpStill _ _ (World.drew _) (fun a' => wpList _ _ _ _ a' (World.drew _)) _ _) => Hst) ?_
          (refine still_yes ?v1 (by kernel_rfl) ?y1 ?z1; case y1 => (go_simp; (try (rw [if_neg (by omega)])); (try (rw [if_pos (by omega)])); (try with_reducible rfl)))
          (try simp only [Act.put, List.setIfInBounds_toArray, List.set_cons_zero, List.set_cons_succ])
          (refine still_yes ?v2 (by kernel_rfl) ?y2 ?z2; case y2 => (go_simp; (try (rw [if_neg (by omega)])); (try (rw [if_pos (by omega)])); (try with_reducible rfl)))
          (try simp only [Act.put, List.setIfInBounds_toArray, List.set_cons_zero, List.set_cons_succ])
          (refine still_yes ?v3 (by kernel_rfl) ?y3 ?z3; case y3 => (go_simp; (try (rw [if_neg (by omega)])); (try (rw [if_pos (by omega)])); (try with_reducible rfl)))
          (try simp only [Act.put, List.setIfInBounds_toArray, List.set_cons_zero, List.set_cons_succ])
          (refine still_yes ?v4 (by kernel_rfl) ?y4 ?z4; case y4 => (go_simp; (try (rw [if_neg (by omega)])); (try (rw [if_pos (by omega)])); (try with_reducible rfl)))
          (try simp only [Act.put, List.setIfInBounds_toArray, List.set_cons_zero, List.set_cons_succ])
          (refine still_yes ?v5 (by kernel_rfl) ?y5 ?z5; case y5 => (go_simp; (try (rw [if_neg (by omega)])); (try (rw [if_pos (by omega)])); (try with_reducible rfl)))
          (try simp only [Act.put, List.setIfInBounds_toArray, List.set_cons_zero, List.set_cons_succ])
          (refine still_yes ?v6 (by kernel_rfl) ?y6 ?z6; case y6 => (go_simp; (try (rw [if_neg (by omega)])); (try (rw [if_pos (by omega)])); (try with_reducible rfl)))
          (try simp only [Act.put, List.setIfInBounds_toArray, List.set_cons_zero, List.set_cons_succ])
          (refine still_yes ?v7 (by kernel_rfl) ?y7 ?z7; case y7 => (go_simp; (try (rw [if_neg (by omega)])); (try (rw [if_pos (by omega)])); (try with_reducible rfl)))
          (try simp only [Act.put, List.setIfInBounds_toArray, List.set_cons_zero, List.set_cons_succ])
          (refine still_yes ?v8 (by kernel_rfl) ?y8 ?z8; case y8 => (go_simp; (try (rw [if_neg (by omega)])); (try (rw [if_pos (by omega)])); (try with_reducible rfl)))
          (try simp only [Act.put, List.setIfInBounds_toArray, List.set_cons_zero, List.set_cons_succ])
          (refine still_yes ?v9 (by kernel_rfl) ?y9 ?z9; case y9 => (go_simp; (try (rw [if_neg (by omega)])); (try (rw [if_pos (by omega)])); (try with_reducible rfl)))
          (try simp only [Act.put, List.setIfInBounds_toArray, List.set_cons_zero, List.set_cons_succ])
          refine wpStill_nil ?_
          go_wp2_with fail
          refine (shorter_any false _ _ _).mono ?_
          rintro e w7 ⟨rfl, hb7⟩
          rw [HLE.out]
          go_wp2_with fail
          exact ⟨⟨j + 1, by omega, by go_num, hW.drew.trans (hb7.mono hW.drew.size)⟩, by simp [intOf]; omega⟩
          --L2END
        · clear hj
          go_wp2_with fail
          generalize ((j + 1 : Nat) : Int) = t7
          clear hjl
          go_loopw [8, 9, 10, 11] (fun iv _ _ _ wo => ∃ k : Nat, k ≤ ls.length ∧ iv = .int .i64 k ∧ Below w6.heap.size w6 wo) (fun iv _ _ _ _ => ls.length - (intOf iv).toNat)
          case atStart => exact ⟨0, by omega, rfl, hW⟩
          case round =>
            clear hW
            obtain ⟨wo, rfl⟩ : ∃ wo, wo = wr := ⟨wr, rfl⟩
            obtain ⟨k, hk3, rfl, hW⟩ := hrel
            by_cases hkl3 : k < ls.length
            · --L3
              obtain ⟨sk, hsk⟩ : ∃ s, ls[k]? = some s := ⟨_, List.getElem?_eq_getElem hkl3⟩
              have HSK := Lib.hid hsk
              clear hsk
              go_wp2_with fail
              go_loopw [9, 10, 11] (fun cv sv iv wq => ∃ j : Nat, j ≤ ls.length ∧ iv = .int .i64 j ∧ CS w6 wq w6.heap.size cv sv ((ls.take j).filter (ofLen sk.size)) ((S.take j).filter (ofLen sk.size))) (fun _ _ iv _ => ls.length - (intOf iv).toNat)
              case atStart => exact ⟨0, by omega, rfl, World.ownsRow_nil _ _ _ _, World.ownsRow_nil _ _ _ _, (fun q h _ => by cases h), hW, hW.size⟩
              case round =>
                clear hW
                obtain ⟨wq, rfl⟩ : ∃ wq, wq = wr := ⟨wr, rfl⟩
                obtain ⟨j, hj, rfl, hCS⟩ := hrel
                by_cases hjl : j < ls.length
                · --L4
                  have hcl : ((ls.take j).filter (ofLen sk.size)).length ≤ j := Nat.le_trans (List.length_filter_le _ _) (by rw [List.length_take]; omega)
                  have hsl : ((S.take j).filter (ofLen sk.size)).length ≤ j := Nat.le_trans (List.length_filter_le _ _) (by rw [List.length_take]; omega)
                  obtain ⟨s, hs⟩ : ∃ s, ls[j]? = some s := ⟨_, List.getElem?_eq_getElem hjl⟩
                  obtain ⟨s', hs'⟩ : ∃ s, S[j]? = some s := ⟨_, List.getElem?_eq_getElem (by rw [HSL.out]; omega)⟩
                  obtain ⟨_, ia, ic, hvi, hri⟩ := HIN.out
                  injection hvi with h1 h2 h3
                  subst h1
                  obtain ⟨g, o, rfl, hca⟩ := hri j s hs
                  obtain ⟨gk, ok, hgk, hck⟩ := hri k sk HSK.out
                  injection hgk with hgk
                  injection hgk with e1 e2 e3
                  subst e1
                  subst e2
                  obtain ⟨_, xa, xc, hvx, hrx⟩ := HX6.out
                  injection hvx with h4 h5 h6
                  subst h4
                  obtain ⟨gx, ox, rfl, hcx⟩ := hrx j s' hs'
                  have HC1 := Lib.hid (filt_step hs (ofLen sk.size))
                  have HC2 := Lib.hid (filt_step hs' (ofLen sk.size))
                  have HCA := Lib.hid hca
                  have HCK := Lib.hid hck
                  have HCX := Lib.hid hcx
                  clear h2 h3 e3 h5 h6 hri hrx hs hs' hca hck hcx
                  by_cases hcc : s.size = sk.size
                  · have ht : ((s.size : Int) == (sk.size : Int)) = true := by simp; omega
                    have H1 := HC1.out
                    rw [if_pos (show ofLen sk.size s = true from decide_eq_true hcc)] at H1
                    have HF1 := Lib.hid H1
                    clear H1 HC1 hcc
                    have hca : wq.cell? ⟨g, o + j, none⟩ = some (.string s) := (cell_kept (hCS.bel.block g (cell_lt HCA.out))).trans HCA.out
                    have hck : wq.cell? ⟨g, o + k, none⟩ = some (.string sk) := (cell_kept (hCS.bel.block g (cell_lt HCK.out))).trans HCK.out
                    go_wp2_with fail
                    refine wp_region_still_tail 10 (by kernel_rfl) (by kernel_rfl) ?_
                    simp only [List.take_succ_cons, List.take_zero, List.drop_succ_cons, List.drop_zero]
                    refine (fun (Hst : wpStill _ _ (World.drew _) (fun a' => wpList _ _ _ _ a' (World.drew _)) _ _) => Hst) ?_
                    (refine still_yes ?v10 (by kernel_rfl) ?y10 ?z10; case y10 => (go_simp; (try (rw [if_neg (by omega)])); (try (rw [if_pos (by omega)])); (try with_reducible rfl)))
                    (try simp only [Act.put, List.setIfInBounds_toArray, List.set_cons_zero, List.set_cons_succ])
                    (refine still_yes ?v11 (by kernel_rfl) ?y11 ?z11; case y11 => (go_simp; (try (rw [if_neg (by omega)])); (try (rw [if_pos (by omega)])); (try with_reducible rfl)))
                    (try simp only [Act.put, List.setIfInBounds_toArray, List.set_cons_zero, List.set_cons_succ])
                    (refine still_yes ?v12 (by kernel_rfl) ?y12 ?z12; case y12 => (go_simp; (try (rw [if_neg (by omega)])); (try (rw [if_pos (by omega)])); (try with_reducible rfl)))
                    (try simp only [Act.put, List.setIfInBounds_toArray, List.set_cons_zero, List.set_cons_succ])
                    (refine still_yes ?v13 (by kernel_rfl) ?y13 ?z13; case y13 => (go_simp; (try (rw [if_neg (by omega)])); (try (rw [if_pos (by omega)])); (try with_reducible rfl)))
                    (try simp only [Act.put, List.setIfInBounds_toArray, List.set_cons_zero, List.set_cons_succ])
                    (refine still_yes ?v14 (by kernel_rfl) ?y14 ?z14; case y14 => (go_simp; (try (rw [if_neg (by omega)])); (try (rw [if_pos (by omega)])); (try with_reducible rfl)))
                    (try simp only [Act.put, List.setIfInBounds_toArray, List.set_cons_zero, List.set_cons_succ])
                    (refine still_yes ?v15 (by kernel_rfl) ?y15 ?z15; case y15 => (go_simp; (try (rw [if_neg (by omega)])); (try (rw [if_pos (by omega)])); (try with_reducible rfl)))
                    (try simp only [Act.put, List.setIfInBounds_toArray, List.set_cons_zero, List.set_cons_succ])
                    (refine still_yes ?v16 (by kernel_rfl) ?y16 ?z16; case y16 => (go_simp; (try (rw [if_neg (by omega)])); (try (rw [if_pos (by omega)])); (try with_reducible rfl)))
                    (try simp only [Act.put, List.setIfInBounds_toArray, List.set_cons_zero, List.set_cons_succ])
                    (refine still_yes ?v17 (by kernel_rfl) ?y17 ?z17; case y17 => (go_simp; (try (rw [if_neg (by omega)])); (try (rw [if_pos (by omega)])); (try with_reducible rfl)))
                    (try simp only [Act.put, List.setIfInBounds_toArray, List.set_cons_zero, List.set_cons_succ])
                    (refine still_yes ?v18 (by kernel_rfl) ?y18 ?z18; case y18 => (go_simp; (try (rw [if_neg (by omega)])); (try (rw [if_pos (by omega)])); (try with_reducible rfl)))
                    (try simp only [Act.put, List.setIfInBounds_toArray, List.set_cons_zero, List.set_cons_succ])
                    (refine still_yes ?v19 (by kernel_rfl) ?y19 ?z19; case y19 => (go_simp; (try (rw [if_neg (by omega)])); (try (rw [if_pos (by omega)])); (try with_reducible rfl)))
                    (try simp only [Act.put, List.setIfInBounds_toArray, List.set_cons_zero, List.set_cons_succ])
                    refine wpStill_nil ?_
                    have hCS2 := hCS.drew
                    clear hCS hca hck
                    generalize wq.drew = wq2 at hCS2 ⊢
                    have hca : wq2.cell? ⟨g, o + j, none⟩ = some (.string s) := (cell_kept (hCS2.bel.block g (cell_lt HCA.out))).trans HCA.out
                    obtain ⟨v3, w3, hrun, hCS3⟩ := hCS2.one s (by omega)
                    clear hCS2
                    go_wp2_with (refine wpList_val (w' := w3) v3 (by kernel_rfl) (exec_append2 rfl rfl rfl rfl ?_) ?_; focus (exact hrun))
                    clear hrun hca ht
                    by_cases hcs : s'.size = sk.size
                    · have ht : ((s'.size : Int) == (sk.size : Int)) = true := by simp; omega
                      have H2 := HC2.out
                      rw [if_pos (show ofLen sk.size s' = true from decide_eq_true hcs)] at H2
                      have HF2 := Lib.hid H2
                      clear H2 HC2 hcs
                      have hcx : w3.cell? ⟨gx, ox + j, none⟩ = some (.string s') := (cell_kept (hCS3.bel.block gx (cell_lt HCX.out))).trans HCX.out
                      have hck : w3.cell? ⟨g, o + k, none⟩ = some (.string sk) := (cell_kept (hCS3.bel.block g (cell_lt HCK.out))).trans HCK.out
                      refine wp_region_still_tail 10 (by kernel_rfl) (by kernel_rfl) ?_
                      simp only [List.take_succ_cons, List.take_zero, List.drop_succ_cons, List.drop_zero]
                      refine (fun (Hst : wpStill _ _ (World.drew _) (fun a' => wpList _ _ _ _ a' (World.drew _)) _ _) => Hst) ?_
                      (refine still_yes ?v20 (by kernel_rfl) ?y20 ?z20; case y20 => (go_simp; (try (rw [if_neg (by omega)])); (try (rw [if_pos (by omega)])); (try with_reducible rfl)))
                      (try simp only [Act.put, List.setIfInBounds_toArray, List.set_cons_zero, List.set_cons_succ])
                      (refine still_yes ?v21 (by kernel_rfl) ?y21 ?z21; case y21 => (go_simp; (try (rw [if_neg (by omega)])); (try (rw [if_pos (by omega)])); (try with_reducible rfl)))
                      (try simp only [Act.put, List.setIfInBounds_toArray, List.set_cons_zero, List.set_cons_succ])
                      (refine still_yes ?v22 (by kernel_rfl) ?y22 ?z22; case y22 => (go_simp; (try (rw [if_neg (by omega)])); (try (rw [if_pos (by omega)])); (try with_reducible rfl)))
                      (try simp only [Act.put, List.setIfInBounds_toArray, List.set_cons_zero, List.set_cons_succ])
                      (refine still_yes ?v23 (by kernel_rfl) ?y23 ?z23; case y23 => (go_simp; (try (rw [if_neg (by omega)])); (try (rw [if_pos (by omega)])); (try with_reducible rfl)))
                      (try simp only [Act.put, List.setIfInBounds_toArray, List.set_cons_zero, List.set_cons_succ])
                      (refine still_yes ?v24 (by kernel_rfl) ?y24 ?z24; case y24 => (go_simp; (try (rw [if_neg (by omega)])); (try (rw [if_pos (by omega)])); (try with_reducible rfl)))
                      (try simp only [Act.put, List.setIfInBounds_toArray, List.set_cons_zero, List.set_cons_succ])
                      (refine still_yes ?v25 (by kernel_rfl) ?y25 ?z25; case y25 => (go_simp; (try (rw [if_neg (by omega)])); (try (rw [if_pos (by omega)])); (try with_reducible rfl)))
                      (try simp only [Act.put, List.setIfInBounds_toArray, List.set_cons_zero, List.set_cons_succ])
                      (refine still_yes ?v26 (by kernel_rfl) ?y26 ?z26; case y26 => (go_simp; (try (rw [if_neg (by omega)])); (try (rw [if_pos (by omega)])); (try with_reducible rfl)))
                      (try simp only [Act.put, List.setIfInBounds_toArray, List.set_cons_zero, List.set_cons_succ])
                      (refine still_yes ?v27 (by kernel_rfl) ?y27 ?z27; case y27 => (go_simp; (try (rw [if_neg (by omega)])); (try (rw [if_pos (by omega)])); (try with_reducible rfl)))
                      (try simp only [Act.put, List.setIfInBounds_toArray, List.set_cons_zero, List.set_cons_succ])
                      (refine still_yes ?v28 (by kernel_rfl) ?y28 ?z28; case y28 => (go_simp; (try (rw [if_neg (by omega)])); (try (rw [if_pos (by omega)])); (try with_reducible rfl)))
                      (try simp only [Act.put, List.setIfInBounds_toArray, List.set_cons_zero, List.set_cons_succ])
                      (refine still_yes ?v29 (by kernel_rfl) ?y29 ?z29; case y29 => (go_simp; (try (rw [if_neg (by omega)])); (try (rw [if_pos (by omega)])); (try with_reducible rfl)))
                      (try simp only [Act.put, List.setIfInBounds_toArray, List.set_cons_zero, List.set_cons_succ])
                      refine wpStill_nil ?_
                      have hCS4 := hCS3.drew
                      clear hCS3 hcx hck
                      generalize w3.drew = w4 at hCS4 ⊢
                      have hcx : w4.cell? ⟨gx, ox + j, none⟩ = some (.string s') := (cell_kept (hCS4.bel.block gx (cell_lt HCX.out))).trans HCX.out
                      obtain ⟨v5, w5, hrun, hCS5⟩ := hCS4.swap.one s' (by omega)
                      clear hCS4
                      go_wp2_with (refine wpList_val (w' := w5) v5 (by kernel_rfl) (exec_append2 rfl rfl rfl rfl ?_) ?_; focus (exact hrun))
                      exact ⟨⟨j + 1, by omega, by go_num, by rw [HF1.out, HF2.out]; exact hCS5.swap⟩, by simp [intOf]; omega⟩
                    · have ht : ((s'.size : Int) == (sk.size : Int)) = false := by simp; omega
                      have H2 := HC2.out
                      rw [if_neg (by unfold ofLen; simp; exact hcs)] at H2
                      have HF2 := Lib.hid H2
                      clear H2 HC2 hcs
                      have hcx : w3.cell? ⟨gx, ox + j, none⟩ = some (.string s') := (cell_kept (hCS3.bel.block gx (cell_lt HCX.out))).trans HCX.out
                      have hck : w3.cell? ⟨g, o + k, none⟩ = some (.string sk) := (cell_kept (hCS3.bel.block g (cell_lt HCK.out))).trans HCK.out
                      refine wp_region_still_tail 10 (by kernel_rfl) (by kernel_rfl) ?_
                      simp only [List.take_succ_cons, List.take_zero, List.drop_succ_cons, List.drop_zero]
                      refine (fun (Hst : wpStill _ _ (World.drew _) (fun a' => wpList _ _ _ _ a' (World.drew _)) _ _) => Hst) ?_
                      (refine still_yes ?v30 (by kernel_rfl) ?y30 ?z30; case y30 => (go_simp; (try (rw [if_neg (by omega)])); (try (rw [if_pos (by omega)])); (try with_reducible rfl)))
                      (try simp only [Act.put, List.setIfInBounds_toArray, List.set_cons_zero, List.set_cons_succ])
                      (refine still_yes ?v31 (by kernel_rfl) ?y31 ?z31; case y31 => (go_simp; (try (rw [if_neg (by omega)])); (try (rw [if_pos (by omega)])); (try with_reducible rfl)))
                      (try simp only [Act.put, List.setIfInBounds_toArray, List.set_cons_zero, List.set_cons_succ])
                      (refine still_yes ?v32 (by kernel_rfl) ?y32 ?z32; case y32 => (go_simp; (try (rw [if_neg (by omega)])); (try (rw [if_pos (by omega)])); (try with_reducible rfl)))
                      (try simp only [Act.put, List.setIfInBounds_toArray, List.set_cons_zero, List.set_cons_succ])
                      (refine still_yes ?v33 (by kernel_rfl) ?y33 ?z33; case y33 => (go_simp; (try (rw [if_neg (by omega)])); (try (rw [if_pos (by omega)])); (try with_reducible rfl)))
                      (try simp only [Act.put, List.setIfInBounds_toArray, List.set_cons_zero, List.set_cons_succ])
                      (refine still_yes ?v34 (by kernel_rfl) ?y34 ?z34; case y34 => (go_simp; (try (rw [if_neg (by omega)])); (try (rw [if_pos (by omega)])); (try with_reducible rfl)))
                      (try simp only [Act.put, List.setIfInBounds_toArray, List.set_cons_zero, List.set_cons_succ])
                      (refine still_yes ?v35 (by kernel_rfl) ?y35 ?z35; case y35 => (go_simp; (try (rw [if_neg (by omega)])); (try (rw [if_pos (by omega)])); (try with_reducible rfl)))
                      (try simp only [Act.put, List.setIfInBounds_toArray, List.set_cons_zero, List.set_cons_succ])
                      (refine still_yes ?v36 (by kernel_rfl) ?y36 ?z36; case y36 => (go_simp; (try (rw [if_neg (by omega)])); (try (rw [if_pos (by omega)])); (try with_reducible rfl)))
                      (try simp only [Act.put, List.setIfInBounds_toArray, List.set_cons_zero, List.set_cons_succ])
                      (refine still_yes ?v37 (by kernel_rfl) ?y37 ?z37; case y37 => (go_simp; (try (rw [if_neg (by omega)])); (try (rw [if_pos (by omega)])); (try with_reducible rfl)))
                      (try simp only [Act.put, List.setIfInBounds_toArray, List.set_cons_zero, List.set_cons_succ])
                      (refine still_yes ?v38 (by kernel_rfl) ?y38 ?z38; case y38 => (go_simp; (try (rw [if_neg (by omega)])); (try (rw [if_pos (by omega)])); (try with_reducible rfl)))
                      (try simp only [Act.put, List.setIfInBounds_toArray, List.set_cons_zero, List.set_cons_succ])
                      (refine still_yes ?v39 (by kernel_rfl) ?y39 ?z39; case y39 => (go_simp; (try (rw [if_neg (by omega)])); (try (rw [if_pos (by omega)])); (try with_reducible rfl)))
                      (try simp only [Act.put, List.setIfInBounds_toArray, List.set_cons_zero, List.set_cons_succ])
                      refine wpStill_nil ?_
                      have hCS4 := hCS3.drew
                      clear hCS3 hcx hck
                      generalize w3.drew = w4 at hCS4 ⊢
                      go_wp2_with fail
                      exact ⟨⟨j + 1, by omega, by go_num, by rw [HF1.out, HF2.out]; exact hCS4⟩, by simp [intOf]; omega⟩
                  · have ht : ((s.size : Int) == (sk.size : Int)) = false := by simp; omega
                    have H1 := HC1.out
                    rw [if_neg (by unfold ofLen; simp; exact hcc)] at H1
                    have HF1 := Lib.hid H1
                    clear H1 HC1 hcc
                    have hca : wq.cell? ⟨g, o + j, none⟩ = some (.string s) := (cell_kept (hCS.bel.block g (cell_lt HCA.out))).trans HCA.out
                    have hck : wq.cell? ⟨g, o + k, none⟩ = some (.string sk) := (cell_kept (hCS.bel.block g (cell_lt HCK.out))).trans HCK.out
                    go_wp2_with fail
                    refine wp_region_still_tail 10 (by kernel_rfl) (by kernel_rfl) ?_
                    simp only [List.take_succ_cons, List.take_zero, List.drop_succ_cons, List.drop_zero]
                    refine (fun (Hst : wpStill _ _ (World.drew _) (fun a' => wpList _ _ _ _ a' (World.drew _)) _ _) => Hst) ?_
                    (refine still_yes ?v40 (by kernel_rfl) ?y40 ?z40; case y40 => (go_simp; (try (rw [if_neg (by omega)])); (try (rw [if_pos (by omega)])); (try with_reducible rfl)))
                    (try simp only [Act.put, List.setIfInBounds_toArray, List.set_cons_zero, List.set_cons_succ])
                    (refine still_yes ?v41 (by kernel_rfl) ?y41 ?z41; case y41 => (go_simp; (try (rw [if_neg (by omega)])); (try (rw [if_pos (by omega)])); (try with_reducible rfl)))
                    (try simp only [Act.put, List.setIfInBounds_toArray, List.set_cons_zero, List.set_cons_succ])
                    (refine still_yes ?v42 (by kernel_rfl) ?y42 ?z42; case y42 => (go_simp; (try (rw [if_neg (by omega)])); (try (rw [if_pos (by omega)])); (try with_reducible rfl)))
                    (try simp only [Act.put, List.setIfInBounds_toArray, List.set_cons_zero, List.set_cons_succ])
                    (refine still_yes ?v43 (by kernel_rfl) ?y43 ?z43; case y43 => (go_simp; (try (rw [if_neg (by omega)])); (try (rw [if_pos (by omega)])); (try with_reducible rfl)))
                    (try simp only [Act.put, List.setIfInBounds_toArray, List.set_cons_zero, List.set_cons_succ])
                    (refine still_yes ?v44 (by kernel_rfl) ?y44 ?z44; case y44 => (go_simp; (try (rw [if_neg (by omega)])); (try (rw [if_pos (by omega)])); (try with_reducible rfl)))
                    (try simp only [Act.put, List.setIfInBounds_toArray, List.set_cons_zero, List.set_cons_succ])
                    (refine still_yes ?v45 (by kernel_rfl) ?y45 ?z45; case y45 => (go_simp; (try (rw [if_neg (by omega)])); (try (rw [if_pos (by omega)])); (try with_reducible rfl)))
                    (try simp only [Act.put, List.setIfInBounds_toArray, List.set_cons_zero, List.set_cons_succ])
                    (refine still_yes ?v46 (by kernel_rfl) ?y46 ?z46; case y46 => (go_simp; (try (rw [if_neg (by omega)])); (try (rw [if_pos (by omega)])); (try with_reducible rfl)))
                    (try simp only [Act.put, List.setIfInBounds_toArray, List.set_cons_zero, List.set_cons_succ])
                    (refine still_yes ?v47 (by kernel_rfl) ?y47 ?z47; case y47 => (go_simp; (try (rw [if_neg (by omega)])); (try (rw [if_pos (by omega)])); (try with_reducible rfl)))
                    (try simp only [Act.put, List.setIfInBounds_toArray, List.set_cons_zero, List.set_cons_succ])
                    (refine still_yes ?v48 (by kernel_rfl) ?y48 ?z48; case y48 => (go_simp; (try (rw [if_neg (by omega)])); (try (rw [if_pos (by omega)])); (try with_reducible rfl)))
                    (try simp only [Act.put, List.setIfInBounds_toArray, List.set_cons_zero, List.set_cons_succ])
                    (refine still_yes ?v49 (by kernel_rfl) ?y49 ?z49; case y49 => (go_simp; (try (rw [if_neg (by omega)])); (try (rw [if_pos (by omega)])); (try with_reducible rfl)))
                    (try simp only [Act.put, List.setIfInBounds_toArray, List.set_cons_zero, List.set_cons_succ])
                    refine wpStill_nil ?_
                    have hCS2 := hCS.drew
                    clear hCS hca hck
                    generalize wq.drew = wq2 at hCS2 ⊢
                    go_wp2_with fail
                    clear ht
                    have hCS3 := hCS2
                    clear hCS2
                    obtain ⟨w3, rfl⟩ : ∃ w3, w3 = wq2 := ⟨wq2, rfl⟩
                    by_cases hcs : s'.size = sk.size
                    · have ht : ((s'.size : Int) == (sk.size : Int)) = true := by simp; omega
                      have H2 := HC2.out
                      rw [if_pos (show ofLen sk.size s' = true from decide_eq_true hcs)] at H2
                      have HF2 := Lib.hid H2
                      clear H2 HC2 hcs
                      have hcx : w3.cell? ⟨gx, ox + j, none⟩ = some (.string s') := (cell_kept (hCS3.bel.block gx (cell_lt HCX.out))).trans HCX.out
                      have hck : w3.cell? ⟨g, o + k, none⟩ = some (.string sk) := (cell_kept (hCS3.bel.block g (cell_lt HCK.out))).trans HCK.out
                      refine wp_region_still_tail 10 (by kernel_rfl) (by kernel_rfl) ?_
                      simp only [List.take_succ_cons, List.take_zero, List.drop_succ_cons, List.drop_zero]
                      refine (fun (Hst : wpStill _ _ (World.drew _) (fun a' => wpList _ _ _ _ a' (World.drew _)) _ _) => Hst) ?_
                      (refine still_yes ?v50 (by kernel_rfl) ?y50 ?z50; case y50 => (go_simp; (try (rw [if_neg (by omega)])); (try (rw [if_pos (by omega)])); (try with_reducible rfl)))
                      (try simp only [Act.put, List.setIfInBounds_toArray, List.set_cons_zero, List.set_cons_succ])
                      (refine still_yes ?v51 (by kernel_rfl) ?y51 ?z51; case y51 => (go_simp; (try (rw [if_neg (by omega)])); (try (rw [if_pos (by omega)])); (try with_reducible rfl)))
                      (try simp only [Act.put, List.setIfInBounds_toArray, List.set_cons_zero, List.set_cons_succ])
                      (refine still_yes ?v52 (by kernel_rfl) ?y52 ?z52; case y52 => (go_simp; (try (rw [if_neg (by omega)])); (try (rw [if_pos (by omega)])); (try with_reducible rfl)))
                      (try simp only [Act.put, List.setIfInBounds_toArray, List.set_cons_zero, List.set_cons_succ])
                      (refine still_yes ?v53 (by kernel_rfl) ?y53 ?z53; case y53 => (go_simp; (try (rw [if_neg (by omega)])); (try (rw [if_pos (by omega)])); (try with_reducible rfl)))
                      (try simp only [Act.put, List.setIfInBounds_toArray, List.set_cons_zero, List.set_cons_succ])
                      (refine still_yes ?v54 (by kernel_rfl) ?y54 ?z54; case y54 => (go_simp; (try (rw [if_neg (by omega)])); (try (rw [if_pos (by omega)])); (try with_reducible rfl)))
                      (try simp only [Act.put, List.setIfInBounds_toArray, List.set_cons_zero, List.set_cons_succ])
                      (refine still_yes ?v55 (by kernel_rfl) ?y55 ?z55; case y55 => (go_simp; (try (rw [if_neg (by omega)])); (try (rw [if_pos (by omega)])); (try with_reducible rfl)))
                      (try simp only [Act.put, List.setIfInBounds_toArray, List.set_cons_zero, List.set_cons_succ])
                      (refine still_yes ?v56 (by kernel_rfl) ?y56 ?z56; case y56 => (go_simp; (try (rw [if_neg (by omega)])); (try (rw [if_pos (by omega)])); (try with_reducible rfl)))
                      (try simp only [Act.put, List.setIfInBounds_toArray, List.set_cons_zero, List.set_cons_succ])
                      (refine still_yes ?v57 (by kernel_rfl) ?y57 ?z57; case y57 => (go_simp; (try (rw [if_neg (by omega)])); (try (rw [if_pos (by omega)])); (try with_reducible rfl)))
                      (try simp only [Act.put, List.setIfInBounds_toArray, List.set_cons_zero, List.set_cons_succ])
                      (refine still_yes ?v58 (by kernel_rfl) ?y58 ?z58; case y58 => (go_simp; (try (rw [if_neg (by omega)])); (try (rw [if_pos (by omega)])); (try with_reducible rfl)))
                      (try simp only [Act.put, List.setIfInBounds_toArray, List.set_cons_zero, List.set_cons_succ])
                      (refine still_yes ?v59 (by kernel_rfl) ?y59 ?z59; case y59 => (go_simp; (try (rw [if_neg (by omega)])); (try (rw [if_pos (by omega)])); (try with_reducible rfl)))
                      (try simp only [Act.put, List.setIfInBounds_toArray, List.set_cons_zero, List.set_cons_succ])
                      refine wpStill_nil ?_
                      have hCS4 := hCS3.drew
                      clear hCS3 hcx hck
                      generalize w3.drew = w4 at hCS4 ⊢
                      have hcx : w4.cell? ⟨gx, ox + j, none⟩ = some (.string s') := (cell_kept (hCS4.bel.block gx (cell_lt HCX.out))).trans HCX.out
                      obtain ⟨v5, w5, hrun, hCS5⟩ := hCS4.swap.one s' (by omega)
                      clear hCS4
                      go_wp2_with (refine wpList_val (w' := w5) v5 (by kernel_rfl) (exec_append2 rfl rfl rfl rfl ?_) ?_; focus (exact hrun))
                      exact ⟨⟨j + 1, by omega, by go_num, by rw [HF1.out, HF2.out]; exact hCS5.swap⟩, by simp [intOf]; omega⟩
                    · have ht : ((s'.size : Int) == (sk.size : Int)) = false := by simp; omega
                      have H2 := HC2.out
                      rw [if_neg (by unfold ofLen; simp; exact hcs)] at H2
                      have HF2 := Lib.hid H2
                      clear H2 HC2 hcs
                      have hcx : w3.cell? ⟨gx, ox + j, none⟩ = some (.string s') := (cell_kept (hCS3.bel.block gx (cell_lt HCX.out))).trans HCX.out
                      have hck : w3.cell? ⟨g, o + k, none⟩ = some (.string sk) := (cell_kept (hCS3.bel.block g (cell_lt HCK.out))).trans HCK.out
                      refine wp_region_still_tail 10 (by kernel_rfl) (by kernel_rfl) ?_
                      simp only [List.take_succ_cons, List.take_zero, List.drop_succ_cons, List.drop_zero]
                      refine (fun (Hst : wpStill _ _ (World.drew _) (fun a' => wpList _ _ _ _ a' (World.drew _)) _ _) => Hst) ?_
                      (refine still_yes ?v60 (by kernel_rfl) ?y60 ?z60; case y60 => (go_simp; (try (rw [if_neg (by omega)])); (try (rw [if_pos (by omega)])); (try with_reducible rfl)))
                      (try simp only [Act.put, List.setIfInBounds_toArray, List.set_cons_zero, List.set_cons_succ])
                      (refine still_yes ?v61 (by kernel_rfl) ?y61 ?z61; case y61 => (go_simp; (try (rw [if_neg (by omega)])); (try (rw [if_pos (by omega)])); (try with_reducible rfl)))
                      (try simp only [Act.put, List.setIfInBounds_toArray, List.set_cons_zero, List.set_cons_succ])
                      (refine still_yes ?v62 (by kernel_rfl) ?y62 ?z62; case y62 => (go_simp; (try (rw [if_neg (by omega)])); (try (rw [if_pos (by omega)])); (try with_reducible rfl)))
                      (try simp only [Act.put, List.setIfInBounds_toArray, List.set_cons_zero, List.set_cons_succ])
                      (refine still_yes ?v63 (by kernel_rfl) ?y63 ?z63; case y63 => (go_simp; (try (rw [if_neg (by omega)])); (try (rw [if_pos (by omega)])); (try with_reducible rfl)))
                      (try simp only [Act.put, List.setIfInBounds_toArray, List.set_cons_zero, List.set_cons_succ])
                      (refine still_yes ?v64 (by kernel_rfl) ?y64 ?z64; case y64 => (go_simp; (try (rw [if_neg (by omega)])); (try (rw [if_pos (by omega)])); (try with_reducible rfl)))
                      (try simp only [Act.put, List.setIfInBounds_toArray, List.set_cons_zero, List.set_cons_succ])
                      (refine still_yes ?v65 (by kernel_rfl) ?y65 ?z65; case y65 => (go_simp; (try (rw [if_neg (by omega)])); (try (rw [if_pos (by omega)])); (try with_reducible rfl)))
                      (try simp only [Act.put, List.setIfInBounds_toArray, List.set_cons_zero, List.set_cons_succ])
                      (refine still_yes ?v66 (by kernel_rfl) ?y66 ?z66; case y66 => (go_simp; (try (rw [if_neg (by omega)])); (try (rw [if_pos (by omega)])); (try with_reducible rfl)))
                      (try simp only [Act.put, List.setIfInBounds_toArray, List.set_cons_zero, List.set_cons_succ])
                      (refine still_yes ?v67 (by kernel_rfl) ?y67 ?z67; case y67 => (go_simp; (try (rw [if_neg (by omega)])); (try (rw [if_pos (by omega)])); (try with_reducible rfl)))
                      (try simp only [Act.put, List.setIfInBounds_toArray, List.set_cons_zero, List.set_cons_succ])
                      (refine still_yes ?v68 (by kernel_rfl) ?y68 ?z68; case y68 => (go_simp; (try (rw [if_neg (by omega)])); (try (rw [if_pos (by omega)])); (try with_reducible rfl)))
                      (try simp only [Act.put, List.setIfInBounds_toArray, List.set_cons_zero, List.set_cons_succ])
                      (refine still_yes ?v69 (by kernel_rfl) ?y69 ?z69; case y69 => (go_simp; (try (rw [if_neg (by omega)])); (try (rw [if_pos (by omega)])); (try with_reducible rfl)))
                      (try simp only [Act.put, List.setIfInBounds_toArray, List.set_cons_zero, List.set_cons_succ])
                      refine wpStill_nil ?_
                      have hCS4 := hCS3.drew
                      clear hCS3 hcx hck
                      generalize w3.drew = w4 at hCS4 ⊢
                      go_wp2_with fail
                      exact ⟨⟨j + 1, by omega, by go_num, by rw [HF1.out, HF2.out]; exact hCS4⟩, by simp [intOf]; omega⟩
                  --L4END
                · have hje : j = ls.length := by omega
                  subst hje
                  have hf := HFI.out sk.size
                  have hx1 : ReadsX wq u9 ((ls.take ls.length).filter (ofLen sk.size)) := own_readsX hCS.c rfl (Nat.lt_of_le_of_lt (List.length_filter_le _ _) (by rw [List.length_take]; omega))
                  have hx2 : ReadsX wq u10 ((S.take ls.length).filter (ofLen sk.size)) := own_readsX hCS.s rfl (Nat.lt_of_le_of_lt (List.length_filter_le _ _) (by rw [List.length_take]; omega))
                  rw [List.take_length] at hx1
                  rw [List.take_of_length_le (by rw [HSL.out]; omega), hf] at hx2
                  have HX1 := Lib.hid hx1
                  have HX2 := Lib.hid hx2
                  have hW := hCS.bel
                  clear hf hCS hx1 hx2
                  go_wp2_with fail
                  refine (sameTexts_any _ _ _ _ HX1.out HX2.out).mono ?_
                  rintro e w7 ⟨rfl, hb7⟩
                  go_wp2_with fail
                  exact ⟨⟨k + 1, by omega, by go_num, hW.trans (hb7.mono hW.size)⟩, by simp [intOf]; omega⟩
              --L3END
            · clear hk3
              go_wp2_with fail
              clear hkl3
              have hO0 := World.ownsRow_congr (w' := wo) HO6.out fun q hq => by
                obtain ⟨cs, hc⟩ := own_type HO6.out hq
                exact hW.block q (lt_of_block hc)
              have hB0 := HBo.out.below hW
              clear HX6 HO6 HIN HPA HFI HBo hW HS
              clear hwz hs1 hs2
              go_loopw [12] (fun iv wr4 => ∃ (i : Nat) (ps : List Str) (q1 q2 : Option Nat), i ≤ ls.length ∧ iv = .int .i64 i ∧ PP.sorted false ps = S.drop i ∧ Both w wr4 B ps ls.length q1 q2 ∧ wr4.ownsRow B 9 1 (.slice ra ls.length rc) ls.length (flatT S)) (fun iv _ => ls.length - (intOf iv).toNat)
              case atStart => exact ⟨0, ls, r1, r2, by omega, rfl, by rw [HS0.out]; rfl, hB0, hO0⟩
              case round =>
                clear hB0 hO0
                obtain ⟨wp, rfl⟩ : ∃ wq, wq = wr := ⟨wr, rfl⟩
                obtain ⟨i, ps, q1, q2, hi, rfl, hps, hBo, hO⟩ := hrel
                have hpl : ps.length = ls.length - i := by
                  have := congrArg List.length hps
                  rw [sorted_len, List.length_drop, HSL.out] at this
                  exact this
                by_cases hil : i < ls.length
                · --L5
                  have hiS : i < S.length := by rw [HSL.out]; exact hil
                  obtain ⟨b, hb⟩ := first_some (fall := false) (ps := ps) (by omega)
                  have hbl := first_lt b hb
                  have hst := sort_step hb
                  rw [hps, List.drop_eq_getElem_cons hiS] at hst
                  injection hst with hx1 hx2
                  obtain ⟨x, hx⟩ : ∃ x, ps.getD b default = x := ⟨_, rfl⟩
                  have hxs : S[i]? = some x := by rw [List.getElem?_eq_getElem hiS, hx1, hx]
                  have hel : ((ps.eraseIdx b).length : Int) = (ls.length : Int) - (i : Int) - 1 := by
                    rw [List.length_eraseIdx_of_lt hbl, hpl]; omega
                  have HB := Lib.hid hb
                  have HX := Lib.hid hx
                  have HXS := Lib.hid hxs
                  have HX2 := Lib.hid hx2
                  have HEL := Lib.hid hel
                  clear hb hbl hx1 hx2 hx hxs hel hps hpl hiS
                  go_wp2_with fail
                  refine (peekP (B + 1) B ls.length false ps q1 _ hBo.one (by omega)).mono ?_
                  rintro e wa ⟨rfl, hba⟩
                  rw [HB.out]
                  simp only []
                  rw [HX.out]
                  have hBa := hBo.below hba
                  have hOa := World.ownsRow_congr (w' := wa) hO fun q hq => by
                    obtain ⟨cs, hc⟩ := own_type hO hq
                    exact hba.block q (lt_of_block hc)
                  clear hBo hO hba
                  go_wp2_with fail
                  refine (popP (B + 1) B ls.length false ps q1 _ hBa.one (by omega)).mono ?_
                  intro e wb hT
                  rw [HB.out] at hT
                  obtain ⟨rfl, hAb, hTb⟩ := hT
                  rw [HX.out]
                  have hCb := hBa.two.apart hBa.one hTb (by omega) hBa.dis
                  have hbb := hBa.bel.trans (hTb.below hBa.sz (by omega) hBa.lo1)
                  have hsb : B ≤ wb.heap.size := Nat.le_trans hBa.sz hTb.size
                  have hOb := own_beside hOa hBa.one hTb
                  have HD := Lib.hid hBa.dis
                  have HL1 := Lib.hid hBa.lo1
                  have HL2 := Lib.hid hBa.lo2
                  clear hBa hTb hOa
                  go_wp2_with fail
                  refine (removeP (B + 3) (B + 2) ls.length false PP.all _ ps q2 _ hCb (by omega) (asks_every _)).mono ?_
                  intro e wc hT
                  rw [HB.out] at hT
                  obtain ⟨rfl, hCc, hTc⟩ := hT
                  rw [HX.out]
                  have hAc := hAb.apart hCb hTc (by omega) (fun q h h' => HD.out q h' h)
                  have hbc := hbb.trans (hTc.below hsb (by omega) HL2.out)
                  have hOc := own_beside hOb hCb hTc
                  have hBc : Both w wc B (ps.eraseIdx b) ls.length q1 q2 := ⟨hAc, hCc, HD.out, HL1.out, HL2.out, hbc, Nat.le_trans hsb hTc.size⟩
                  clear hAb hCb hbb hOb hCc hTc hAc hbc
                  obtain ⟨_, xa, xc, hvx, hrx⟩ := own_readsX hOc HSL.out.symm (by rw [HSL.out]; omega)
                  injection hvx with h4 h5 h6
                  subst h4
                  obtain ⟨gx, ox, rfl, hcx⟩ := hrx i x HXS.out
                  have HBC := Lib.hid hBc
                  have HOC := Lib.hid hOc
                  clear h5 h6 hrx hBc hOc
                  simp only [pairV]
                  go_wp2_with fail
                  refine (lenP (B + 1) B ls.length false (ps.eraseIdx b) q1 _ HBC.out.one (by omega)).mono ?_
                  rintro e w' ⟨rfl, rfl⟩
                  rw [HEL.out]
                  go_wp2_with fail
                  refine (lenP (B + 3) (B + 2) ls.length false (ps.eraseIdx b) q2 _ HBC.out.two (by omega)).mono ?_
                  rintro e w' ⟨rfl, rfl⟩
                  rw [HEL.out]
                  go_wp2_with fail
                  refine (lenP (B + 1) B ls.length false (ps.eraseIdx b) q1 _ HBC.out.one (by omega)).mono ?_
                  rintro e w' ⟨rfl, rfl⟩
                  rw [HEL.out]
                  go_wp2_with fail
                  exact ⟨⟨i + 1, ps.eraseIdx b, q1, q2, by omega, by go_num, HX2.out.symm, HBC.out, HOC.out⟩, by simp [intOf]; omega⟩
                  --L5END
                · have hie : i = ls.length := by omega
                  have hp0 : ps = [] := List.length_eq_zero_iff.1 (by omega)
                  subst hp0
                  clear hps hpl hO
                  go_wp2_with fail
                  refine (popP (B + 1) B ls.length false [] q1 _ hBo.one (by omega)).mono ?_
                  rintro e wa ⟨rfl, hba⟩
                  have hBa := hBo.below hba
                  clear hBo hba
                  go_wp2_with fail
                  refine (removeP (B + 3) (B + 2) ls.length false PP.all _ [] q2 _ hBa.two (by omega) (asks_every _)).mono ?_
                  rintro e wb ⟨rfl, hbb⟩
                  have hBb := hBa.below hbb
                  clear hBa hbb
                  go_wp2_with fail
                  refine (peekP (B + 1) B ls.length false [] q1 _ hBb.one (by omega)).mono ?_
                  rintro e wc ⟨rfl, hbc⟩
                  have hBc := hBb.below hbc
                  clear hBb hbc
                  rw [show PP.first false PP.all [] = none from rfl]
                  simp only [zeroP]
                  have he : (ByteArray.empty == (⟨#[]⟩ : ByteArray)) = true := rfl
                  go_wp2_with fail
                  refine (sortedP (B + 1) B ls.length false [] q1 _ hBc.one (by omega)).mono ?_
                  rintro e wd ⟨v, rfl, hO, hb⟩
                  obtain ⟨a, c, rfl⟩ : ∃ a c, v = .slice a 0 c := by
                    rcases hO.2 with ⟨rfl, _⟩ | ⟨g, cp, cur, rfl, _⟩
                    · exact ⟨_, _, rfl⟩
                    · exact ⟨_, _, rfl⟩
                  go_wp2_with fail
                  go_ret
                  exact ⟨rfl, by rw [hB]; exact hBc.bel.trans (hb.mono hBc.sz)⟩

end Go.Proofs.Ytffioombjejchaa.St
