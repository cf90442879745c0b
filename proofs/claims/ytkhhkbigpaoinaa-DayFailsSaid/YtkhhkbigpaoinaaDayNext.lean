/- The calendar of business days made; the next business day: by contract. -/
import Derived.Test.YtkhhkbigpaoinaaDayCal
namespace Go.Proofs.Ytkhhkbigpaoinaa
set_option linter.unusedVariables false
set_option linter.unusedSimpArgs false
open Go.RowKit Go.Maps
attribute [local irreducible] Go.wpStill

abbrev intE : Enc Int := ⟨fun x => [.int .i64 x], 1, by decide, fun x => rfl, fun x => all_one rfl⟩
theorem ReadsE.cellAt {w : World} {ao : Option Addr} {n cap : Nat} {xs : List Int} (h : ReadsE intE w (.slice ao n cap) xs) {i : Nat} {x : Int} (hx : xs[i]? = some x) : ∃ g o, ao = some ⟨g, o, none⟩ ∧ w.cell? ⟨g, o + i, none⟩ = some (.int .i64 x) ∧ g < w.heap.size := by
  obtain ⟨g, o, e, hr⟩ := h.at hx
  have := hr 0 _ rfl
  simp at this
  exact ⟨g, o, e, this, rangeE_lt hr⟩
theorem turned_below {w w' : World} {B b : Nat} (h : w.mapTurned w' b) (hb : B ≤ b) (hB : B ≤ w.heap.size) : Below B w w' := (Below.refl B w).grown h.grown hB (fun k e => by cases e; exact hb)
theorem turned_other {w w' : World} {b k : Nat} (h : w.mapTurned w' b) (hk : k < w.heap.size) (hne : k ≠ b) : w'.heap[k]? = w.heap[k]? := h.grown.block k hk (fun e => hne (by injection e))
theorem freeF_nil : freeF [] = fun _ => none := by funext x; simp [freeF]
theorem take_snocI {α : Type} {xs : List α} {i : Nat} {x : α} (h : xs[i]? = some x) : xs.take (i + 1) = xs.take i ++ [x] := by rw [List.take_add_one, h]; rfl
def CalNewM (we : List Bool) (fs : List Int) (w : World) (e : Ending) (w' : World) : Prop := ∃ cb mc, e = .returned (.pointer (some ⟨cb, 0, none⟩)) ∧ w.heap.size ≤ cb ∧ w.heap.size ≤ mc ∧ (we.length = 7 ∧ ∃ n, n ≤ fs.length ∧ w'.heap[cb]? = some (.cells (we.map Value.bool ++ [Value.map (some mc)]).toArray 79 (0, 0)) ∧ MapAt keyD w' mc n (freeF fs)) ∧ Below w.heap.size w w'
def CalNew (we : List Bool) (fs : List Int) (w : World) (e : Ending) (w' : World) : Prop := ∃ cb, e = .returned (.pointer (some ⟨cb, 0, none⟩)) ∧ w.heap.size ≤ cb ∧ CalR w' cb we fs ∧ Below w.heap.size w w'
set_option maxRecDepth 100000 in
set_option maxHeartbeats 4000000 in
theorem calNewM_any (we : List Bool) (hwe : we.length = 7) (v : Value) (fs : List Int) (w : World) (h : ReadsE intE w v fs) (hfs : ∀ x ∈ fs, (Lit.int .i64 x).wf = true) (hlen : fs.length ≤ 17592186044416) :
    Calls Try.prog 12 #[.agg (we.map Value.bool).toArray, v] w (CalNewM we fs w) := by
  obtain ⟨ao, cap, rfl⟩ := h.slice
  have HR := Lib.hid h
  have HG := Lib.hid hfs
  have hmm := @run_makeMap Try.prog
  clear h hfs
  obtain ⟨b0, b1, b2, b3, b4, b5, b6, rfl⟩ : ∃ b0 b1 b2 b3 b4 b5 b6, we = [b0, b1, b2, b3, b4, b5, b6] := by
    match we, hwe with
    | [b0, b1, b2, b3, b4, b5, b6], _ => exact ⟨b0, b1, b2, b3, b4, b5, b6, rfl⟩
  clear hwe
  simp only [List.map_cons, List.map_nil]
  go_enter Try.func12, Try.ntmps12
  have HB0 := Lib.hid (heap_alloc_new w (.cells #[.bool b0, .bool b1, .bool b2, .bool b3, .bool b4, .bool b5, .bool b6] 22))
  go_wp2_with (refine wpList_val (.agg #[.bool b0, .bool b1, .bool b2, .bool b3, .bool b4, .bool b5, .bool b6]) (by kernel_rfl) (exec_load_row HB0.out rfl rfl Try.underlying22 rfl (by kernel_rfl)) ?_)
  have hM1 : MapAt keyD ((w.alloc (.cells #[.bool b0, .bool b1, .bool b2, .bool b3, .bool b4, .bool b5, .bool b6] 22)).alloc (.map #[] 0)) (w.heap.size + 1) 0 (freeF (fs.take 0)) := by
    have := MapAt.made keyD (w.alloc (.cells #[.bool b0, .bool b1, .bool b2, .bool b3, .bool b4, .bool b5, .bool b6] 22))
    rw [List.take_zero, freeF_nil]
    simpa using this
  have hM2 := hM1.block keyD (heap_alloc_old _ (.cells #[.bool b0, .bool b1, .bool b2, .bool b3, .bool b4, .bool b5, .bool b6, .map (some (w.heap.size + 1))] 79) (hM1.lt keyD))
  have hb2 : Below w.heap.size w (((w.alloc (.cells #[.bool b0, .bool b1, .bool b2, .bool b3, .bool b4, .bool b5, .bool b6] 22)).alloc (.map #[] 0)).alloc (.cells #[.bool b0, .bool b1, .bool b2, .bool b3, .bool b4, .bool b5, .bool b6, .map (some (w.heap.size + 1))] 79)) := (((Below.refl _ _).alloc (Nat.le_refl _) _).alloc (by simp) _).alloc (by simp; omega) _
  have hc2 := heap_alloc_new ((w.alloc (.cells #[.bool b0, .bool b1, .bool b2, .bool b3, .bool b4, .bool b5, .bool b6] 22)).alloc (.map #[] 0)) (.cells #[.bool b0, .bool b1, .bool b2, .bool b3, .bool b4, .bool b5, .bool b6, .map (some (w.heap.size + 1))] 79)
  rw [show ((w.alloc (.cells #[.bool b0, .bool b1, .bool b2, .bool b3, .bool b4, .bool b5, .bool b6] 22)).alloc (.map #[] 0)).heap.size = w.heap.size + 1 + 1 by simp] at hc2
  have HM2 := Lib.hid hM2
  have HB2 := Lib.hid hb2
  have HC2 := Lib.hid hc2
  clear hmm HB0 hM1 hM2 hb2 hc2
  go_loopw [14] (fun iv wr => ∃ i : Nat, i ≤ fs.length ∧ iv = .int .i64 i ∧ MapAt keyD wr (w.heap.size + 1) i (freeF (fs.take i)) ∧ wr.heap[w.heap.size + 1 + 1]? = some (.cells #[.bool b0, .bool b1, .bool b2, .bool b3, .bool b4, .bool b5, .bool b6, .map (some (w.heap.size + 1))] 79 (0, 0)) ∧ Below w.heap.size w wr) (fun iv _ => fs.length - (intOf iv).toNat)
  case atStart => exact ⟨0, by omega, rfl, HM2.out, HC2.out, HB2.out⟩
  case round =>
    obtain ⟨i, hi, rfl, hM, hC, hW⟩ := hrel
    clear HM2 HB2 HC2
    by_cases hlt : i < fs.length
    · obtain ⟨x, hx⟩ : ∃ x, fs[i]? = some x := ⟨_, List.getElem?_eq_getElem hlt⟩
      obtain ⟨g, o, rfl, hc, hg⟩ := HR.out.cellAt hx
      have c1 : wr.cell? ⟨g, o + i, none⟩ = some (.int .i64 x) := (hW.cell (p := ⟨g, o + i, none⟩) hg).trans hc
      have c7 : wr.cell? ⟨w.heap.size + 1 + 1, 7, none⟩ = some (.map (some (w.heap.size + 1))) := by rw [cell_of_row _ _ _ _ _ _ hC]; rfl
      have hdl : decide ((i : Int) < fs.length) = true := decide_eq_true (by omega)
      have HGX := Lib.hid (show keyD.good x from HG.out x (List.mem_of_getElem? hx))
      have HF := Lib.hid (show updM (freeF (fs.take i)) x (some (.agg #[])) = freeF (fs.take (i + 1)) by rw [take_snocI hx, freeF_snoc])
      have HM := Lib.hid hM
      have HW := Lib.hid hW
      have HC := Lib.hid hC
      clear hx hc hM hW hC
      go_wp2_with (refine wpList_storeM keyD rfl _ _ _ 77 rfl 80 Try.underlying77 rfl HM.out (by unfold maxLen; omega) x HGX.out rfl (.agg #[]) rfl ?_; intro w6 hM6 hT6)
      rw [HF.out] at hM6
      exact ⟨⟨i + 1, by omega, by go_num, hM6, (turned_other hT6 (lt_of_block HC.out) (by omega)).trans HC.out, HW.out.trans (turned_below hT6 (by omega) HW.out.size)⟩, by simp [intOf]; omega⟩
    · have hie : i = fs.length := by omega
      have hdl : decide ((i : Int) < fs.length) = false := decide_eq_false (by omega)
      rw [hie, List.take_length] at hM
      have HM := Lib.hid hM
      have HW := Lib.hid hW
      have HC := Lib.hid hC
      clear hie hM hW hC
      go_wp2_with fail
      go_ret
      exact ⟨_, _, rfl, by omega, by omega, ⟨rfl, _, Nat.le_refl _, HC.out, HM.out⟩, HW.out⟩
theorem calNew_any (we : List Bool) (hwe : we.length = 7) (v : Value) (fs : List Int) (w : World) (h : ReadsE intE w v fs) (hfs : ∀ x ∈ fs, (Lit.int .i64 x).wf = true) (hlen : fs.length ≤ 17592186044416) :
    Calls Try.prog 12 #[.agg (we.map Value.bool).toArray, v] w (CalNew we fs w) :=
  (calNewM_any we hwe v fs w h hfs hlen).mono fun e w' ⟨cb, mc, h1, h2, _, ⟨h3, n, h4, h5, h6⟩, h7⟩ => ⟨cb, h1, h2, ⟨h3, mc, n, h4, h5, h6⟩, h7⟩
/-- the first day from n on that is a business day, or none -/
def NextIs (we : List Bool) (fs : List Int) (n m : Int) : Prop := n ≤ m ∧ (∀ j, n ≤ j → j < m → dayB j = true ∧ busy we fs j = false) ∧ (dayB m = false ∨ busy we fs m = true)
theorem NextIs.unique {we : List Bool} {fs : List Int} {n m m' : Int} (h : NextIs we fs n m) (h' : NextIs we fs n m') : m = m' := by
  rcases Int.lt_trichotomy m m' with c | c | c
  · have := h'.2.1 m h.1 c
    rcases h.2.2 with e | e
    · rw [this.1] at e; cases e
    · rw [this.2] at e; cases e
  · exact c
  · have := h.2.1 m' h'.1 c
    rcases h'.2.2 with e | e
    · rw [this.1] at e; cases e
    · rw [this.2] at e; cases e
def NextP (we : List Bool) (fs : List Int) (n : Int) (w : World) (e : Ending) (w' : World) : Prop := ∃ m, e = .returned (.int .i64 m) ∧ NextIs we fs n m ∧ Below w.heap.size w w'
set_option maxRecDepth 100000 in
set_option maxHeartbeats 4000000 in
theorem next_any (cb : Nat) (we : List Bool) (fs : List Int) (n : Int) (w : World) (hn : 1 ≤ n) (hn2 : n ≤ 3652060) (h : CalR w cb we fs) :
    Calls Try.prog 32 #[.pointer (some ⟨cb, 0, none⟩), .int .i64 n, .int .i64 1] w (NextP we fs n w) := by
  have HR := Lib.hid h
  clear h
  go_enter Try.func32, Try.ntmps32
  go_wp2_with fail
  go_loopw [1] (fun iv wr => ∃ m : Int, n ≤ m ∧ m ≤ 3652060 ∧ iv = .int .i64 m ∧ (∀ j, n ≤ j → j < m → dayB j = true ∧ busy we fs j = false) ∧ Below w.heap.size w wr) (fun iv _ => (3652061 - intOf iv).toNat)
  case atStart => exact ⟨n, by omega, hn2, rfl, fun j h1 h2 => by omega, Below.refl _ _⟩
  case round =>
    obtain ⟨m, h1, h2, rfl, hall, hW⟩ := hrel
    have HA := Lib.hid hall
    have HW := Lib.hid hW
    have hi := isDay_any m
    clear hall hW
    cases hd : dayB m with
    | false =>
      rw [hd] at hi
      have HI := Lib.hid hi
      have HD := Lib.hid hd
      clear hi hd
      go_wp2_with fail
      refine (HI.out _).mono ?_
      rintro e w5 ⟨rfl, rfl⟩
      go_wp2_with fail
      go_ret
      exact ⟨m, rfl, ⟨h1, HA.out, .inl HD.out⟩, HW.out⟩
    | true =>
      have hlt := dayB_lt hd
      rw [hd] at hi
      have HI := Lib.hid hi
      have hbz := fun w h => business_any cb we fs m w h
      cases hb : busy we fs m with
      | true =>
        rw [hb] at hbz
        have HBZ := Lib.hid hbz
        have HB := Lib.hid hb
        clear hi hd hbz hb
        go_wp2_with fail
        refine (HI.out _).mono ?_
        rintro e w5 ⟨rfl, rfl⟩
        go_wp2_with fail
        refine (HBZ.out _ (HR.out.below HW.out)).mono ?_
        rintro e w6 ⟨rfl, hb6⟩
        have HW6 := Lib.hid (HW.out.trans (hb6.mono HW.out.size))
        clear hb6
        go_wp2_with fail
        go_ret
        exact ⟨m, rfl, ⟨h1, HA.out, .inr HB.out⟩, HW6.out⟩
      | false =>
        rw [hb] at hbz
        have HBZ := Lib.hid hbz
        have HB := Lib.hid hb
        have HD := Lib.hid hd
        have hw1 : IntKind.i64.wrap (m + 1) = m + 1 := IntWalk.i64_in _ (by omega)
        clear hi hd hbz hb
        go_wp2_with fail
        refine (HI.out _).mono ?_
        rintro e w5 ⟨rfl, rfl⟩
        go_wp2_with fail
        refine (HBZ.out _ (HR.out.below HW.out)).mono ?_
        rintro e w6 ⟨rfl, hb6⟩
        have HW6 := Lib.hid (HW.out.trans (hb6.mono HW.out.size))
        clear hb6
        go_wp2_with fail
        exact ⟨⟨m + 1, by omega, by omega, rfl, fun j g1 g2 => by
          by_cases e : j = m
          · subst e; exact ⟨HD.out, HB.out⟩
          · exact HA.out j g1 (by omega), HW6.out⟩, by simp [intOf]; omega⟩
def AddP (we : List Bool) (fs : List Int) (n : Int) (w : World) (e : Ending) (w' : World) : Prop := ∃ m, NextIs we fs (n + 1) m ∧ Below w.heap.size w w' ∧ ((dayB m = true ∧ e = .returned (.tuple #[.int .i64 m, .nilIface])) ∨ (dayB m = false ∧ ∃ t x, e = .returned (.tuple #[.int .i64 0, .iface t x])))
set_option maxRecDepth 100000 in
set_option maxHeartbeats 4000000 in
theorem calAdd_any (cb : Nat) (we : List Bool) (fs : List Int) (n : Int) (w : World) (hd : dayB n = true) (h : CalR w cb we fs) :
    Calls Try.prog 16 #[.pointer (some ⟨cb, 0, none⟩), .int .i64 n, .int .i64 1] w (AddP we fs n w) := by
  have hb := dayB_lt hd
  have hi := isDay_any n
  rw [hd] at hi
  have HI := Lib.hid hi
  have HN := Lib.hid (fun w h => next_any cb we fs (n + 1) w (by omega) (by omega) h)
  have HR := Lib.hid h
  have hw1 : IntKind.i64.wrap (n + 1) = n + 1 := IntWalk.i64_in _ (by omega)
  clear h hi hd
  go_enter Try.func16, Try.ntmps16
  go_wp2_with fail
  go_loopw [1, 2] (fun nv kv wr => (nv = .int .i64 n ∧ kv = .int .i64 1 ∧ wr = w) ∨ (∃ m, nv = .int .i64 m ∧ kv = .int .i64 0 ∧ NextIs we fs (n + 1) m ∧ Below w.heap.size w wr)) (fun _ kv _ => (intOf kv).toNat)
  case atStart => exact .inl ⟨rfl, rfl, rfl⟩
  case round =>
    rcases hrel with ⟨rfl, rfl, rfl⟩ | ⟨m, rfl, rfl, hm, hW⟩
    · go_wp2_with fail
      refine (HI.out _).mono ?_
      rintro e w5 ⟨rfl, rfl⟩
      go_wp2_with fail
      refine (HN.out _ HR.out).mono ?_
      rintro e w6 ⟨m, rfl, hm, hb6⟩
      have HM := Lib.hid hm
      have HB6 := Lib.hid hb6
      clear hm hb6
      go_wp2_with fail
      exact ⟨.inr ⟨m, rfl, rfl, HM.out, HB6.out⟩, by simp [intOf]⟩
    · have HM := Lib.hid hm
      have HW := Lib.hid hW
      have hi2 := isDay_any m
      clear hm hW
      cases hd : dayB m with
      | false =>
        rw [hd] at hi2
        have HI2 := Lib.hid hi2
        have HD := Lib.hid hd
        clear hi2 hd
        go_wp2_with fail
        refine (HI2.out _).mono ?_
        rintro e w5 ⟨rfl, rfl⟩
        go_wp2_with fail
        refine (noDay_any _).mono ?_
        rintro e w6 ⟨t, x, rfl, rfl⟩
        go_wp2_with fail
        go_ret2
        exact ⟨m, HM.out, HW.out, .inr ⟨HD.out, t, x, rfl⟩⟩
      | true =>
        rw [hd] at hi2
        have HI2 := Lib.hid hi2
        have HD := Lib.hid hd
        clear hi2 hd
        go_wp2_with fail
        refine (HI2.out _).mono ?_
        rintro e w5 ⟨rfl, rfl⟩
        go_wp2_with fail
        go_ret2
        exact ⟨m, HM.out, HW.out, .inl ⟨HD.out, rfl⟩⟩
/- the document's calendar: the weekend's seven Bools and the free days -/
set_option maxRecDepth 100000 in
set_option maxHeartbeats 4000000 in
theorem refBusiness_any (we : List Bool) (hwe : we.length = 7) (v : Value) (fs : List Int) (n : Int) (w : World) (h : ReadsE intE w v fs) :
    Calls Try.prog 23 #[.agg (we.map Value.bool ++ [v]).toArray, .int .i64 n] w (busyR (busy we fs n) w) := by
  obtain ⟨ao, cap, rfl⟩ := h.slice
  have HR := Lib.hid h
  have hi := is03_any n
  have hlen := h.1
  clear h
  have hblk := heap_alloc_new w (.cells (we.map Value.bool ++ [Value.slice ao fs.length cap]).toArray 68)
  have HB0 := Lib.hid ((Below.refl w.heap.size w).alloc (Nat.le_refl _) (.cells (we.map Value.bool ++ [Value.slice ao fs.length cap]).toArray 68))
  cases hd : dayB n with
  | false =>
    rw [show busy we fs n = false by simp [busy, hd]]
    rw [hd] at hi
    have HI := Lib.hid hi
    clear hi hd hblk
    generalize (we.map Value.bool ++ [Value.slice ao fs.length cap]).toArray = cs at *
    go_enter Try.func23, Try.ntmps23
    go_wp2_with fail
    refine (HI.out _).mono ?_
    rintro e w5 ⟨rfl, rfl⟩
    go_wp2_with fail
    go_ret
    exact ⟨rfl, HB0.out⟩
  | true =>
    have hwl := wd_lt n
    have hb := dayB_lt hd
    have hwd : Int.tmod (n - 1) 7 = (wd n : Int) := by rw [Int.tmod_eq_emod_of_nonneg (by omega)]; unfold wd; omega
    have hwd2 : (n - 1) % 7 = (wd n : Int) := by unfold wd; omega
    have hw1 : IntKind.i64.wrap (n - 1) = n - 1 := IntWalk.i64_in _ (by omega)
    rw [hd] at hi
    have HI := Lib.hid hi
    have hcell : ∀ wz : World, Below w.heap.size w wz → wz.heap[w.heap.size]? = some (.cells (we.map Value.bool ++ [Value.slice ao fs.length cap]).toArray 68 (0, 0)) → wz.cell? ⟨w.heap.size, wd n, none⟩ = some (.bool (we.getD (wd n) false)) ∧ wz.cell? ⟨w.heap.size, 7, none⟩ = some (.slice ao fs.length cap) := fun wz hz hk => by
      rw [cell_of_row _ _ _ _ _ _ hk, List.getElem?_toArray, List.getElem?_append_left (by simp [hwe]; exact hwl), List.getElem?_map, List.getElem?_eq_getElem (show wd n < we.length by omega), List.getD_eq_getElem?_getD, List.getElem?_eq_getElem (show wd n < we.length by omega), cell_of_row _ _ _ _ _ _ hk]
      exact ⟨rfl, by simp [hwe]⟩
    have hc2 := hcell _ HB0.out hblk
    have hbz : busy we fs n = (!(we.getD (wd n) false) && !decide (n ∈ fs)) := by simp [busy, hd]
    have HBZ := Lib.hid hbz
    obtain ⟨cW, c7⟩ := hc2
    clear hi hd hcell hbz hblk
    generalize we.getD (wd n) false = bw at *
    generalize busy we fs n = r at *
    generalize wd n = j at *
    generalize (we.map Value.bool ++ [Value.slice ao fs.length cap]).toArray = cs at *
    go_enter Try.func23, Try.ntmps23
    go_wp2_with fail
    refine (HI.out _).mono ?_
    rintro e w5 ⟨rfl, rfl⟩
    generalize hW1 : World.alloc w _ = W1 at *
    cases bw with
    | true =>
      have HRR := Lib.hid (show r = false by rw [HBZ.out]; rfl)
      go_wp2_with fail
      go_ret
      exact ⟨by rw [HRR.out]; rfl, HB0.out⟩
    | false =>
      have HRR := Lib.hid (show r = !decide (n ∈ fs) by rw [HBZ.out]; rfl)
      have HB1 := Lib.hid HB0.out
      have HRW := Lib.hid (HR.out.below HB0.out)
      clear HB0 HR hW1
      go_wp2_with fail
      go_loopw [5] (fun iv wr => ∃ i : Nat, i ≤ fs.length ∧ iv = .int .i64 i ∧ (∀ x ∈ fs.take i, x ≠ n) ∧ wr = W1) (fun iv _ => fs.length - (intOf iv).toNat)
      case atStart => exact ⟨0, by omega, rfl, by simp, rfl⟩
      case round =>
        obtain ⟨i, hi, rfl, hall, rfl⟩ := hrel
        have HALL := Lib.hid hall
        clear hall
        by_cases hlt : i < fs.length
        · obtain ⟨x, hx⟩ : ∃ x, fs[i]? = some x := ⟨_, List.getElem?_eq_getElem hlt⟩
          obtain ⟨g, o, rfl, c1, hg⟩ := HRW.out.cellAt hx
          have hdl : decide ((i : Int) < fs.length) = true := decide_eq_true (by omega)
          have HX := Lib.hid hx
          clear hx
          by_cases he : x = n
          · subst he
            have e1 : (x == x) = true := by simp
            have HF := Lib.hid (show r = false by rw [HRR.out]; simp [List.mem_of_getElem? HX.out])
            go_wp2_with fail
            go_ret
            exact ⟨by rw [HF.out]; rfl, HB1.out⟩
          · have e1 : (x == n) = false := by simp [he]
            have HE := Lib.hid he
            clear he
            go_wp2_with fail
            exact ⟨⟨i + 1, by omega, by go_num, fun y hy => by
              rw [take_snocI HX.out] at hy
              rcases List.mem_append.1 hy with hy | hy
              · exact HALL.out y hy
              · simp at hy; subst hy; exact HE.out, by first | rfl | trivial⟩, by simp [intOf]; omega⟩
        · have hie : i = fs.length := by omega
          have hdl : decide ((i : Int) < fs.length) = false := decide_eq_false (by omega)
          rw [hie, List.take_length] at HALL
          have HF := Lib.hid (show r = true by rw [HRR.out]; simp; exact fun hin => HALL.out n hin rfl)
          clear hie
          go_wp2_with fail
          go_ret
          exact ⟨by rw [HF.out]; rfl, HB1.out⟩
end Go.Proofs.Ytkhhkbigpaoinaa
