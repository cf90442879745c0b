/- The close of a day: by contract. -/
import Derived.Test.YtkhhkbigpaoinaaDayCloseP
namespace Go.Proofs.Ytkhhkbigpaoinaa
set_option linter.unusedVariables false
set_option linter.unusedSimpArgs false
open Go.RowKit Go.Maps
attribute [local irreducible] Go.wpStill

/-- the blocks of a day -/
def DayBlk (db mb : Nat) (bl : Int → Nat) (es : Int → Option EntV) (k : Nat) : Prop := k = db ∨ k = mb ∨ ∃ id e, es id = some e ∧ bl id = k
/-- all blocks but those stay -/
def Fr (w : World) (X : Nat → Prop) (w' : World) : Prop := ∀ k, k < w.heap.size → ¬ X k → w'.heap[k]? = w.heap[k]?
theorem Fr.refl (w : World) (X : Nat → Prop) : Fr w X w := fun _ _ _ => rfl
theorem Fr.below {w w1 w2 : World} {X : Nat → Prop} (h : Fr w X w1) (hb : Below w.heap.size w1 w2) : Fr w X w2 := fun k hk hx => (hb.block k hk).trans (h k hk hx)
theorem Fr.set {w w1 : World} {X : Nat → Prop} (h : Fr w X w1) {b : Nat} (hx : X b) (j : Nat) (v : Value) : Fr w X (w1.setCell ⟨b, j, none⟩ v) := fun k hk hk2 => (Below.heap_setCell w1 ⟨b, j, none⟩ v k (fun e => hk2 (by have e' : k = b := e; rw [e']; exact hx))).trans (h k hk hk2)
theorem Fr.turned {w w1 w2 : World} {X : Nat → Prop} {mb : Nat} (h : Fr w X w1) (hs : w.heap.size ≤ w1.heap.size) (ht : w1.mapTurned w2 mb) (hx : X mb) : Fr w X w2 := fun k hk hk2 => (turned_other ht (by omega) (fun e => hk2 (by rw [e]; exact hx))).trans (h k hk hk2)
def CloseP (B db cb mc mb cnt : Nat) (bl : Int → Nat) (p : PlanV) (today : Int) (es : Int → Option EntV) (w : World) (e : Ending) (w' : World) : Prop :=
  ∃ m, NextIs p.we p.fs (today + 1) m ∧ Below B w w' ∧ Fr w (DayBlk db mb bl es) w' ∧
    ((dayB m = false ∧ (∃ t x, e = .returned (.tuple #[.slice none 0 0, .slice none 0 0, .iface t x])) ∧ DayAt w' B db cb mc mb cnt bl p today es) ∨
     (dayB m = true ∧ ∃ v u ds, e = .returned (.tuple #[v, u, .nilIface]) ∧ DueL es today ds ∧ ds.length ≤ cnt ∧ RowE penE 51 w' B v (owedL p.rate es ds) ∧ RowE intE 3 w' B u (goneL p.keep es ds) ∧ DayAt w' B db cb mc mb cnt bl p m (closeE p.keep es ds)))
theorem DayAt.c17 {w : World} {B db cb mc mb cnt : Nat} {bl : Int → Nat} {p : PlanV} {today : Int} {es : Int → Option EntV} (h : DayAt w B db cb mc mb cnt bl p today es) : w.cell? ⟨db, 16, none⟩ = some (.pointer (some ⟨cb, 0, none⟩)) ∧ w.cell? ⟨db, 17, none⟩ = some (.int .i64 today) ∧ w.cell? ⟨db, 18, none⟩ = some (.map (some mb)) ∧ w.cell? ⟨db, 14, none⟩ = some (.int .i64 p.keep) ∧ w.cell? ⟨db, 15, none⟩ = some (.int .i64 p.rate) := by
  obtain ⟨h1, h2, h3, h4⟩ := DayR.cell18 h.we h.hs h.blk
  exact ⟨h1, h.r.today, h2, h3, h4⟩
theorem DayAt.c17cell {w : World} {B db cb mc mb cnt : Nat} {bl : Int → Nat} {p : PlanV} {today : Int} {es : Int → Option EntV} (h : DayAt w B db cb mc mb cnt bl p today es) : (p.bare.cells ++ #[.pointer (some ⟨cb, 0, none⟩), .int .i64 today, .map (some mb)])[17]? = some (.int .i64 today) := by
  have h7 := h.we
  have h6 := h.hs
  clear h
  obtain ⟨we, fs, fv, hs, keep, rate⟩ := p
  match we, h7, hs, h6 with
  | [b0, b1, b2, b3, b4, b5, b6], _, [h0, h1, h2, h3, h4, h5], _ => rfl
/-- a cell of a block of another type is written -/
theorem RowE.setOther {α : Type} {E : Enc α} {T U : TypeId} {w : World} {B : Nat} {u : Value} {xs : List α} (a : RowE E T w B u xs) {k j : Nat} {cs : Array Value} {v : Value} (hk : w.heap[k]? = some (.cells cs U (0, 0))) (hne : T ≠ U) : RowE E T (w.setCell ⟨k, j, none⟩ v) B u xs :=
  a.congr fun q ds hq _ => Below.heap_setCell w ⟨k, j, none⟩ v q (fun e => by
    have e : q = k := e
    rw [e, hk] at hq
    injection hq with hq
    injection hq with _ hq
    exact hne hq.symm)
/-- an append to a row leaves rows of other elements -/
theorem RowE.grownOther {α β : Type} {E : Enc α} {F : Enc β} {T U : TypeId} {w w' : World} {B C : Nat} {v u : Value} {xs : List α} {ys : List β} (hu : RowE F U w C u ys) (hv : RowE E T w B v xs) (hg : w.grownBy w' v.ownBlock) (hne : T ≠ U) : RowE F U w' C u ys :=
  hu.congr fun k cs hc _ => hg.block k (lt_of_block hc) fun e => by
    obtain ⟨_, cs', hc'⟩ := hv.type e.symm
    rw [hc] at hc'
    cases hc'
    exact hne rfl
theorem block_grown {α : Type} {E : Enc α} {T U : TypeId} {w w' : World} {B k : Nat} {v : Value} {xs : List α} {cs : Array Value} (hk : w.heap[k]? = some (.cells cs U (0, 0))) (hv : RowE E T w B v xs) (hg : w.grownBy w' v.ownBlock) (hne : T ≠ U) : w'.heap[k]? = some (.cells cs U (0, 0)) :=
  (hg.block k (lt_of_block hk) fun e => by
    obtain ⟨_, cs', hc'⟩ := hv.type e.symm
    rw [hk] at hc'
    cases hc'
    exact hne rfl).trans hk
section
variable {P : Program} {md : Region.Mode} {ops : Array Oper} {Q : Exit → Act → World → Prop} {S : World → Prop} {kk : Nat} {k : TypeId} {α : Type} [DecidableEq α] (K : KeyK P k α) {b n : Nat} {f : α → Option Value}
theorem rt_dropM {oi : Oper} (i : Nat) {fuel : Nat} {listed : Array Bool} {a : Act} {w : World} (hi : ops[i]? = some oi) (hr : Region.ready md ops listed = [i]) (hw : Region.wanted oi (yielded ops a.tmps) = true)
    (m x : Operand) (t : TypeId) (hop : oi.op = Op.call { callee := Callee.builtin Builtin.delete, args := #[m, x], argTypes := #[t, k] }) (e : TypeId) (ht : P.underlying t = some (.map k e)) (hm : a.eval m = .map (some b)) (h : MapAt K w b n f) (q : α) (hq : K.good q) (hx : a.eval x = K.val q)
    (hS : (listed.setIfInBounds i true).getD kk true = true)
    (hK : ∀ w', MapAt K w' b n (updM f q none) → w.mapTurned w' b → wpTill P md ops Q S kk fuel (listed.setIfInBounds i true) (a.put oi.dst (.tuple #[])) w') : wpTill P md ops Q S kk (fuel + 1) listed a w := by
  refine rt_wp i hi hr hw ?_
  obtain ⟨w', hrun, r1, r2⟩ := h.drop K ht q hq oi.type
  unfold Oper.wp
  simp [execOp, hop, resolve, invoke, builtin, hm, hx, hrun, Result.andThen]
  exact ⟨till_past hS, hK w' r1 r2⟩
end
theorem updE_twice (es : Int → Option EntV) (id : Int) (e : Option EntV) : updE (updE es id e) id none = updE es id none := by
  funext x; unfold updE; by_cases h : x = id <;> simp [h]
theorem turned_row {α : Type} {E : Enc α} {T : TypeId} {w w' : World} {B mb : Nat} {u : Value} {xs : List α} (a : RowE E T w B u xs) (ht : w.mapTurned w' mb) (hm : ∃ x c, w.heap[mb]? = some (.map x c)) : RowE E T w' B u xs :=
  a.congr fun q ds hq _ => turned_other ht (lt_of_block hq) (fun e => by
    subst e
    obtain ⟨x, c, hx⟩ := hm
    rw [hq] at hx
    cases hx)
theorem DayAt.bound {w : World} {B db cb mc mb cnt : Nat} {bl : Int → Nat} {p : PlanV} {today : Int} {es : Int → Option EntV} (h : DayAt w B db cb mc mb cnt bl p today es) : B ≤ w.heap.size := h.r.bound
set_option maxRecDepth 100000 in
set_option maxHeartbeats 8000000 in
theorem close_any {w : World} {B db cb mc mb cnt : Nat} {bl : Int → Nat} {p : PlanV} {today : Int} {es : Int → Option EntV} (h : DayAt w B db cb mc mb cnt bl p today es) (hok : EntsOk p.keep es) (hday : dayB today = true) (hcnt : cnt < 4000000000000) (hr0 : 0 ≤ p.rate) (hr1 : p.rate ≤ 1000000) (hk : p.keep ≤ 9223372036854775807) :
    Calls Try.prog 14 #[.pointer (some ⟨db, 0, none⟩)] w (CloseP B db cb mc mb cnt bl p today es w) := by
  have H := Lib.hid h
  have HADD := Lib.hid (fun w h => calAdd_any cb p.we p.fs today w hday h)
  have HC := Lib.hid (fun (wz : World) (hz : Below w.heap.size w wz) => (h.below hz).c17)
  clear h hday
  go_enter Try.func14, Try.ntmps14
  go_wp2_with fail
  rename_i HK
  refine wp_region_held_drew (S := fun w' => Below w.heap.size w w') (by kernel_rfl) (Below.refl _ _).drew (fun hHeld => ?_)
  (refine rg_yes 0 ?v1 (by simp only [List.getElem?_toArray, List.getElem?_cons_succ, List.getElem?_cons_zero]; rfl) (by kernel_rfl) (by kernel_rfl) (by kernel_rfl) (by exact fun _ _ _ h => h) (by kernel_rfl) (by assumption) ?y1 ?z1; case y1 => (intro w hSw; (try dsimp only at hSw); go_simp; (try (rw [if_neg (by omega)])); (try (rw [if_pos (by omega)])); (try with_reducible rfl)))
  (try simp only [Act.put, List.setIfInBounds_toArray, List.set_cons_zero, List.set_cons_succ])
  (refine rg_yes 1 ?v2 (by simp only [List.getElem?_toArray, List.getElem?_cons_succ, List.getElem?_cons_zero]; rfl) (by kernel_rfl) (by kernel_rfl) (by kernel_rfl) (by exact fun _ _ _ h => h) (by kernel_rfl) (by assumption) ?y2 ?z2; case y2 => (intro w hSw; (try dsimp only at hSw); go_simp; (try (rw [if_neg (by omega)])); (try (rw [if_pos (by omega)])); (try with_reducible rfl)))
  (try simp only [Act.put, List.setIfInBounds_toArray, List.set_cons_zero, List.set_cons_succ])
  (refine rg_yes 2 ?v3 (by simp only [List.getElem?_toArray, List.getElem?_cons_succ, List.getElem?_cons_zero]; rfl) (by kernel_rfl) (by kernel_rfl) (by kernel_rfl) (by exact fun _ _ _ h => h) (by kernel_rfl) (by assumption) ?y3 ?z3; case y3 => (intro w hSw; (try dsimp only at hSw); go_simp; (try (rw [if_neg (by omega)])); (try (rw [if_pos (by omega)])); (try with_reducible rfl)))
  (try simp only [Act.put, List.setIfInBounds_toArray, List.set_cons_zero, List.set_cons_succ])
  refine rg_yes 3 _ (by simp only [List.getElem?_toArray, List.getElem?_cons_succ, List.getElem?_cons_zero]; rfl) (by kernel_rfl) (by kernel_rfl) (by kernel_rfl) (by exact fun _ _ _ h => h) (by kernel_rfl) (by assumption) (by exact fun w' hS => (exec_load_at (HC.out _ hS).1 rfl rfl (fun w => by kernel_rfl))) ?_
  (try simp only [Act.put, List.setIfInBounds_toArray, List.set_cons_zero, List.set_cons_succ])
  (refine rg_yes 4 ?v4 (by simp only [List.getElem?_toArray, List.getElem?_cons_succ, List.getElem?_cons_zero]; rfl) (by kernel_rfl) (by kernel_rfl) (by kernel_rfl) (by exact fun _ _ _ h => h) (by kernel_rfl) (by assumption) ?y4 ?z4; case y4 => (intro w hSw; (try dsimp only at hSw); go_simp; (try (rw [if_neg (by omega)])); (try (rw [if_pos (by omega)])); (try with_reducible rfl)))
  (try simp only [Act.put, List.setIfInBounds_toArray, List.set_cons_zero, List.set_cons_succ])
  (refine rg_yes 5 ?v5 (by simp only [List.getElem?_toArray, List.getElem?_cons_succ, List.getElem?_cons_zero]; rfl) (by kernel_rfl) (by kernel_rfl) (by kernel_rfl) (by exact fun _ _ _ h => h) (by kernel_rfl) (by assumption) ?y5 ?z5; case y5 => (intro w hSw; (try dsimp only at hSw); go_simp; (try (rw [if_neg (by omega)])); (try (rw [if_pos (by omega)])); (try with_reducible rfl)))
  (try simp only [Act.put, List.setIfInBounds_toArray, List.set_cons_zero, List.set_cons_succ])
  (refine rg_yes 6 ?v6 (by simp only [List.getElem?_toArray, List.getElem?_cons_succ, List.getElem?_cons_zero]; rfl) (by kernel_rfl) (by kernel_rfl) (by kernel_rfl) (by exact fun _ _ _ h => h) (by kernel_rfl) (by assumption) ?y6 ?z6; case y6 => (intro w hSw; (try dsimp only at hSw); go_simp; (try (rw [if_neg (by omega)])); (try (rw [if_pos (by omega)])); (try with_reducible rfl)))
  (try simp only [Act.put, List.setIfInBounds_toArray, List.set_cons_zero, List.set_cons_succ])
  refine rg_yes 7 _ (by simp only [List.getElem?_toArray, List.getElem?_cons_succ, List.getElem?_cons_zero]; rfl) (by kernel_rfl) (by kernel_rfl) (by kernel_rfl) (by exact fun _ _ _ h => h) (by kernel_rfl) (by assumption) (by exact fun w' hS => (exec_load_at (HC.out _ hS).2.1 rfl rfl (fun w => by kernel_rfl))) ?_
  (try simp only [Act.put, List.setIfInBounds_toArray, List.set_cons_zero, List.set_cons_succ])
  refine rg_call 8 _ _ (by simp only [List.getElem?_toArray, List.getElem?_cons_succ, List.getElem?_cons_zero]; rfl) (by kernel_rfl) (by kernel_rfl) (fun w => by go_simp; exact ⟨rfl, rfl⟩) ?_
  refine (HADD.out _ (H.out.cal.cal.below hHeld)).mono ?_
  rintro e w1 ⟨m, hm, hb1, hcase⟩
  have HM := Lib.hid hm
  rcases hcase with ⟨hdm, rfl⟩ | ⟨hdm, t, x, rfl⟩
  · refine ⟨_, rfl, hHeld.trans (hb1.mono hHeld.size), fun hHeld => ?_⟩
    (try simp only [Act.put, List.setIfInBounds_toArray, List.set_cons_zero, List.set_cons_succ])
    (refine rg_yes 9 ?v7 (by simp only [List.getElem?_toArray, List.getElem?_cons_succ, List.getElem?_cons_zero]; rfl) (by kernel_rfl) (by kernel_rfl) (by kernel_rfl) (by exact fun _ _ _ h => h) (by kernel_rfl) (by assumption) ?y7 ?z7; case y7 => (intro w hSw; (try dsimp only at hSw); go_simp; (try (rw [if_neg (by omega)])); (try (rw [if_pos (by omega)])); (try with_reducible rfl)))
    (try simp only [Act.put, List.setIfInBounds_toArray, List.set_cons_zero, List.set_cons_succ])
    (refine rg_yes 10 ?v8 (by simp only [List.getElem?_toArray, List.getElem?_cons_succ, List.getElem?_cons_zero]; rfl) (by kernel_rfl) (by kernel_rfl) (by kernel_rfl) (by exact fun _ _ _ h => h) (by kernel_rfl) (by assumption) ?y8 ?z8; case y8 => (intro w hSw; (try dsimp only at hSw); go_simp; (try (rw [if_neg (by omega)])); (try (rw [if_pos (by omega)])); (try with_reducible rfl)))
    (try simp only [Act.put, List.setIfInBounds_toArray, List.set_cons_zero, List.set_cons_succ])
    (refine rg_yes 11 ?v9 (by simp only [List.getElem?_toArray, List.getElem?_cons_succ, List.getElem?_cons_zero]; rfl) (by kernel_rfl) (by kernel_rfl) (by kernel_rfl) (by exact fun _ _ _ h => h) (by kernel_rfl) (by assumption) ?y9 ?z9; case y9 => (intro w hSw; (try dsimp only at hSw); go_simp; (try (rw [if_neg (by omega)])); (try (rw [if_pos (by omega)])); (try with_reducible rfl)))
    (try simp only [Act.put, List.setIfInBounds_toArray, List.set_cons_zero, List.set_cons_succ])
    (refine rg_yes 12 ?v10 (by simp only [List.getElem?_toArray, List.getElem?_cons_succ, List.getElem?_cons_zero]; rfl) (by kernel_rfl) (by kernel_rfl) (by kernel_rfl) (by exact fun _ _ _ h => h) (by kernel_rfl) (by assumption) ?y10 ?z10; case y10 => (intro w hSw; (try dsimp only at hSw); go_simp; (try (rw [if_neg (by omega)])); (try (rw [if_pos (by omega)])); (try with_reducible rfl)))
    (try simp only [Act.put, List.setIfInBounds_toArray, List.set_cons_zero, List.set_cons_succ])
    (refine rg_yes 13 ?v11 (by simp only [List.getElem?_toArray, List.getElem?_cons_succ, List.getElem?_cons_zero]; rfl) (by kernel_rfl) (by kernel_rfl) (by kernel_rfl) (by exact fun _ _ _ h => h) (by kernel_rfl) (by assumption) ?y11 ?z11; case y11 => (intro w hSw; (try dsimp only at hSw); go_simp; (try (rw [if_neg (by omega)])); (try (rw [if_pos (by omega)])); (try with_reducible rfl)))
    (try simp only [Act.put, List.setIfInBounds_toArray, List.set_cons_zero, List.set_cons_succ])
    refine wpAnyH_done (by kernel_rfl) ?_ _
    apply HK
    have HH := Lib.hid hHeld
    have HDM := Lib.hid hdm
    have H1 := Lib.hid (H.out.below hHeld)
    have HB1 := Lib.hid (hHeld.mono H.out.bound)
    have HX1 := Lib.hid ((Fr.refl w (DayBlk db mb bl es)).below hHeld)
    clear hHeld HK hm hb1 hdm HADD HC
    go_wp2_with fail
    refine (due_any (B := B) H1.out.we H1.out.hs H1.out.blk H1.out.map (fun id e he => (H1.out.ent id e he).1) hcnt).mono ?_
    rintro e w2 ⟨vp, ds, rfl, hds, hdl, hrp, hb2⟩
    have HDS := Lib.hid hds
    have HP := Lib.hid (hrp.low H1.out.bound)
    have H2 := Lib.hid (H1.out.below hb2)
    have HB2 := Lib.hid (HB1.out.trans (hb2.mono H1.out.bound))
    have HX2 := Lib.hid ((HX1.out).below (hb2.mono HH.out.size))
    have hBS := H.out.bound
    have hnd : ds.Nodup := by
      have := hds.1
      rw [List.pairwise_map] at this
      exact this.imp fun {a b} hab q => by subst q; exact befK_irr _ hab
    have HND := Lib.hid hnd
    obtain ⟨pa, pc, rfl⟩ := hrp.slice
    rw [List.length_map] at HP ⊢
    clear hds hrp hb2 H1 HB1 hnd
    go_wp2_with fail
    go_loopw [7, 8, 32] (fun ov uv iv wr => ∃ i : Nat, i ≤ ds.length ∧ iv = .int .i64 i ∧ DayAt wr B db cb mc mb cnt bl p today (closeE p.keep es (ds.take i)) ∧ RowE penE 51 wr w.heap.size ov (owedL p.rate es (ds.take i)) ∧ RowE intE 3 wr w.heap.size uv (goneL p.keep es (ds.take i)) ∧ RowE ptrE 73 wr B (.slice pa ds.length pc) (ds.map bl) ∧ Below B w wr ∧ Fr w (DayBlk db mb bl es) wr) (fun _ _ iv _ => ds.length - (intOf iv).toNat)
    case atStart => exact ⟨0, by omega, rfl, H2.out, RowE.nil _ _, RowE.nil _ _, HP.out, HB2.out, HX2.out⟩
    case round =>
      obtain ⟨i, hi, rfl, hD, hO, hU, hPr, hW, hX⟩ := hrel
      have hsr := hW.size
      have HX := Lib.hid hX
      have HD := Lib.hid hD
      have HO := Lib.hid hO
      have HU := Lib.hid hU
      have HPR := Lib.hid hPr
      have HW := Lib.hid hW
      clear hD hO hU hPr hW hX H2 HP HB2 HX2
      by_cases hlt : i < ds.length
      · obtain ⟨id, hid⟩ : ∃ id, ds[i]? = some id := ⟨_, List.getElem?_eq_getElem hlt⟩
        have hdl2 : decide ((i : Int) < ds.length) = true := decide_eq_true (by omega)
        obtain ⟨hgood, e, he, hset⟩ := (HDS.out.2 id).1 (List.mem_of_getElem? hid)
        have hnin : id ∉ ds.take i := fun hin => by
          have hnd := HND.out
          have hd : ds.drop i = id :: ds.drop (i + 1) := by rw [List.drop_eq_getElem_cons hlt]; congr 1; exact Option.some.inj ((List.getElem?_eq_getElem hlt).symm.trans hid)
          have hsplit : ds = ds.take i ++ (id :: ds.drop (i + 1)) := by rw [← hd, List.take_append_drop]
          rw [hsplit, List.nodup_append] at hnd
          exact hnd.2.2 id hin id (by simp) rfl
        have hei : closeE p.keep es (ds.take i) id = some e := by rw [closeE_other _ _ _ _ hnin]; exact he
        have hek := hok id e he
        obtain ⟨xv, hxv⟩ : ∃ n : Nat, e.value = n := ⟨e.value.toNat, by omega⟩
        obtain ⟨yr, hyr⟩ : ∃ n : Nat, p.rate = n := ⟨p.rate.toNat, by omega⟩
        have HMD := Lib.hid (mulDiv_any xv yr (by omega) (by omega))
        obtain ⟨fv, hfv⟩ : ∃ f : Int, f = e.failed := ⟨_, rfl⟩
        obtain ⟨hent, hBl⟩ := HD.out.ent id e hei
        have hecs : e.cells id = #[.int .i64 id, .int .i64 e.settle, .int .i64 xv, .int .i64 e.frm, .int .i64 e.dst, .int .i64 fv] := by rw [hfv, ← hxv]; rfl
        rw [hecs] at hent
        obtain ⟨g, o, rfl, hr0⟩ := (HPR.out.reads (by rw [List.length_map]; omega)).at (show (ds.map bl)[i]? = some (bl id) by rw [List.getElem?_map, hid]; rfl)
        have c1 : wr.cell? ⟨g, o + i, none⟩ = some (.pointer (some ⟨bl id, 0, none⟩)) := by
          have := hr0 0 _ rfl
          simpa using this
        have HEB := Lib.hid hent
        have HC15 := Lib.hid (fun (wz : World) (hz : Below wr.heap.size wr wz) => (HD.out.below hz).c17)
        have KE := Lib.hid (fun (wz : World) (hz : Below wr.heap.size wr wz) => (hz.block (bl id) (lt_of_block HEB.out)).trans HEB.out)
        have HEI := Lib.hid hei
        have HE := Lib.hid he
        have HECS := Lib.hid hecs
        have HFV := Lib.hid hfv
        have HXV := Lib.hid hxv
        have HYR := Lib.hid hyr
        have HNIN := Lib.hid hnin
        have HID := Lib.hid hid
        have hfb : 0 ≤ fv ∧ fv < p.keep := by rw [hfv]; exact ⟨hek.2.2.1, hek.2.2.2⟩
        rw [hyr] at HC15
        clear hent hr0 hei he hecs hfv hxv hyr hnin hid hek hset hgood
        generalize hst : e.settle = st at *
        generalize hfr : e.frm = fr at *
        generalize hto : e.dst = tt at *
        go_wp2_with fail
        rename_i HK
        refine wp_region_held_drew (S := fun w' => Below wr.heap.size wr w') (by kernel_rfl) (Below.refl _ _).drew (fun hHeld => ?_)
        (refine rg_yes 0 ?v12 (by simp only [List.getElem?_toArray, List.getElem?_cons_succ, List.getElem?_cons_zero]; rfl) (by kernel_rfl) (by kernel_rfl) (by kernel_rfl) (by exact fun _ _ _ h => h) (by kernel_rfl) (by assumption) ?y12 ?z12; case y12 => (intro w hSw; (try dsimp only at hSw); go_simp; (try (rw [if_neg (by omega)])); (try (rw [if_pos (by omega)])); (try with_reducible rfl)))
        (try simp only [Act.put, List.setIfInBounds_toArray, List.set_cons_zero, List.set_cons_succ])
        (refine rg_yes 1 ?v13 (by simp only [List.getElem?_toArray, List.getElem?_cons_succ, List.getElem?_cons_zero]; rfl) (by kernel_rfl) (by kernel_rfl) (by kernel_rfl) (by exact fun _ _ _ h => h) (by kernel_rfl) (by assumption) ?y13 ?z13; case y13 => (intro w hSw; (try dsimp only at hSw); go_simp; (try (rw [if_neg (by omega)])); (try (rw [if_pos (by omega)])); (try with_reducible rfl)))
        (try simp only [Act.put, List.setIfInBounds_toArray, List.set_cons_zero, List.set_cons_succ])
        (refine rg_yes 2 ?v14 (by simp only [List.getElem?_toArray, List.getElem?_cons_succ, List.getElem?_cons_zero]; rfl) (by kernel_rfl) (by kernel_rfl) (by kernel_rfl) (by exact fun _ _ _ h => h) (by kernel_rfl) (by assumption) ?y14 ?z14; case y14 => (intro w hSw; (try dsimp only at hSw); go_simp; (try (rw [if_neg (by omega)])); (try (rw [if_pos (by omega)])); (try with_reducible rfl)))
        (try simp only [Act.put, List.setIfInBounds_toArray, List.set_cons_zero, List.set_cons_succ])
        refine rg_yes 3 _ (by simp only [List.getElem?_toArray, List.getElem?_cons_succ, List.getElem?_cons_zero]; rfl) (by kernel_rfl) (by kernel_rfl) (by kernel_rfl) (by exact fun _ _ _ h => h) (by kernel_rfl) (by assumption) (by exact fun w' hS => (exec_load_one (off := 2) (KE.out _ hS) rfl rfl rfl (fun w => by kernel_rfl))) ?_
        (try simp only [Act.put, List.setIfInBounds_toArray, List.set_cons_zero, List.set_cons_succ])
        (refine rg_yes 4 ?v15 (by simp only [List.getElem?_toArray, List.getElem?_cons_succ, List.getElem?_cons_zero]; rfl) (by kernel_rfl) (by kernel_rfl) (by kernel_rfl) (by exact fun _ _ _ h => h) (by kernel_rfl) (by assumption) ?y15 ?z15; case y15 => (intro w hSw; (try dsimp only at hSw); go_simp; (try (rw [if_neg (by omega)])); (try (rw [if_pos (by omega)])); (try with_reducible rfl)))
        (try simp only [Act.put, List.setIfInBounds_toArray, List.set_cons_zero, List.set_cons_succ])
        (refine rg_yes 5 ?v16 (by simp only [List.getElem?_toArray, List.getElem?_cons_succ, List.getElem?_cons_zero]; rfl) (by kernel_rfl) (by kernel_rfl) (by kernel_rfl) (by exact fun _ _ _ h => h) (by kernel_rfl) (by assumption) ?y16 ?z16; case y16 => (intro w hSw; (try dsimp only at hSw); go_simp; (try (rw [if_neg (by omega)])); (try (rw [if_pos (by omega)])); (try with_reducible rfl)))
        (try simp only [Act.put, List.setIfInBounds_toArray, List.set_cons_zero, List.set_cons_succ])
        (refine rg_yes 6 ?v17 (by simp only [List.getElem?_toArray, List.getElem?_cons_succ, List.getElem?_cons_zero]; rfl) (by kernel_rfl) (by kernel_rfl) (by kernel_rfl) (by exact fun _ _ _ h => h) (by kernel_rfl) (by assumption) ?y17 ?z17; case y17 => (intro w hSw; (try dsimp only at hSw); go_simp; (try (rw [if_neg (by omega)])); (try (rw [if_pos (by omega)])); (try with_reducible rfl)))
        (try simp only [Act.put, List.setIfInBounds_toArray, List.set_cons_zero, List.set_cons_succ])
        (refine rg_yes 7 ?v18 (by simp only [List.getElem?_toArray, List.getElem?_cons_succ, List.getElem?_cons_zero]; rfl) (by kernel_rfl) (by kernel_rfl) (by kernel_rfl) (by exact fun _ _ _ h => h) (by kernel_rfl) (by assumption) ?y18 ?z18; case y18 => (intro w hSw; (try dsimp only at hSw); go_simp; (try (rw [if_neg (by omega)])); (try (rw [if_pos (by omega)])); (try with_reducible rfl)))
        (try simp only [Act.put, List.setIfInBounds_toArray, List.set_cons_zero, List.set_cons_succ])
        refine rg_yes 8 _ (by simp only [List.getElem?_toArray, List.getElem?_cons_succ, List.getElem?_cons_zero]; rfl) (by kernel_rfl) (by kernel_rfl) (by kernel_rfl) (by exact fun _ _ _ h => h) (by kernel_rfl) (by assumption) (by exact fun w' hS => (exec_load_at (HC15.out _ hS).2.2.2.2 rfl rfl (fun w => by kernel_rfl))) ?_
        (try simp only [Act.put, List.setIfInBounds_toArray, List.set_cons_zero, List.set_cons_succ])
        refine rg_call 9 _ _ (by simp only [List.getElem?_toArray, List.getElem?_cons_succ, List.getElem?_cons_zero]; rfl) (by kernel_rfl) (by kernel_rfl) (fun w => by go_simp; exact ⟨rfl, rfl⟩) ?_
        refine (HMD.out _).mono ?_
        rintro e5 w5 ⟨rfl, hb5⟩
        refine ⟨_, rfl, hHeld.trans (hb5.mono hHeld.size), fun hHeld => ?_⟩
        (try simp only [Act.put, List.setIfInBounds_toArray, List.set_cons_zero, List.set_cons_succ])
        (refine rg_yes 10 ?v19 (by simp only [List.getElem?_toArray, List.getElem?_cons_succ, List.getElem?_cons_zero]; rfl) (by kernel_rfl) (by kernel_rfl) (by kernel_rfl) (by exact fun _ _ _ h => h) (by kernel_rfl) (by assumption) ?y19 ?z19; case y19 => (intro w hSw; (try dsimp only at hSw); go_simp; (try (rw [if_neg (by omega)])); (try (rw [if_pos (by omega)])); (try with_reducible rfl)))
        (try simp only [Act.put, List.setIfInBounds_toArray, List.set_cons_zero, List.set_cons_succ])
        (refine rg_yes 11 ?v20 (by simp only [List.getElem?_toArray, List.getElem?_cons_succ, List.getElem?_cons_zero]; rfl) (by kernel_rfl) (by kernel_rfl) (by kernel_rfl) (by exact fun _ _ _ h => h) (by kernel_rfl) (by assumption) ?y20 ?z20; case y20 => (intro w hSw; (try dsimp only at hSw); go_simp; (try (rw [if_neg (by omega)])); (try (rw [if_pos (by omega)])); (try with_reducible rfl)))
        (try simp only [Act.put, List.setIfInBounds_toArray, List.set_cons_zero, List.set_cons_succ])
        (refine rg_yes 12 ?v21 (by simp only [List.getElem?_toArray, List.getElem?_cons_succ, List.getElem?_cons_zero]; rfl) (by kernel_rfl) (by kernel_rfl) (by kernel_rfl) (by exact fun _ _ _ h => h) (by kernel_rfl) (by assumption) ?y21 ?z21; case y21 => (intro w hSw; (try dsimp only at hSw); go_simp; (try (rw [if_neg (by omega)])); (try (rw [if_pos (by omega)])); (try with_reducible rfl)))
        (try simp only [Act.put, List.setIfInBounds_toArray, List.set_cons_zero, List.set_cons_succ])
        (refine rg_yes 13 ?v22 (by simp only [List.getElem?_toArray, List.getElem?_cons_succ, List.getElem?_cons_zero]; rfl) (by kernel_rfl) (by kernel_rfl) (by kernel_rfl) (by exact fun _ _ _ h => h) (by kernel_rfl) (by assumption) ?y22 ?z22; case y22 => (intro w hSw; (try dsimp only at hSw); go_simp; (try (rw [if_neg (by omega)])); (try (rw [if_pos (by omega)])); (try with_reducible rfl)))
        (try simp only [Act.put, List.setIfInBounds_toArray, List.set_cons_zero, List.set_cons_succ])
        (refine rg_yes 14 ?v23 (by simp only [List.getElem?_toArray, List.getElem?_cons_succ, List.getElem?_cons_zero]; rfl) (by kernel_rfl) (by kernel_rfl) (by kernel_rfl) (by exact fun _ _ _ h => h) (by kernel_rfl) (by assumption) ?y23 ?z23; case y23 => (intro w hSw; (try dsimp only at hSw); go_simp; (try (rw [if_neg (by omega)])); (try (rw [if_pos (by omega)])); (try with_reducible rfl)))
        (try simp only [Act.put, List.setIfInBounds_toArray, List.set_cons_zero, List.set_cons_succ])
        refine wpAnyH_done (by kernel_rfl) ?_ _
        apply HK
        have HB5 := Lib.hid hHeld
        clear hHeld HK hb5
        have HD5 := Lib.hid (HD.out.below HB5.out)
        have HO5 := Lib.hid (HO.out.below HB5.out)
        have HU5 := Lib.hid (HU.out.below HB5.out)
        have HP5 := Lib.hid (HPR.out.below HB5.out)
        have HW5 := Lib.hid (HW.out.trans (HB5.out.mono HD.out.bound))
        have HE5 := Lib.hid (KE.out _ HB5.out)
        have HX5 := Lib.hid (HX.out.below (HB5.out.mono hsr))
        have hs5 := HB5.out.size
        have HXI := Lib.hid (show DayBlk db mb bl es (bl id) from .inr (.inr ⟨id, e, HE.out, rfl⟩))
        clear HD HO HU HPR HW HX KE HEB HC15 c1 HB5
        have hol := owedL_len p.rate es (ds.take i)
        have hul := goneL_len p.keep es (ds.take i)
        rw [List.length_take, Nat.min_eq_left hi] at hol hul
        generalize hwA : (w5.alloc (.cells #[.int .i64 id, .int .i64 fr, .int .i64 tt, .int .i64 ((xv : Int) * (yr : Int) / 1000000)] 51)).drew = wA
        have hbA : Below w5.heap.size w5 wA := by rw [← hwA]; exact ((Below.refl _ _).alloc (Nat.le_refl _) _).drew
        have hxA : wA.heap[w5.heap.size]? = some (.cells #[.int .i64 id, .int .i64 fr, .int .i64 tt, .int .i64 ((xv : Int) * (yr : Int) / 1000000)] 51 (0, 0)) := by rw [← hwA]; exact heap_alloc_new w5 _
        have hOA := HO5.out.below hbA
        have hszA := hbA.size
        have hB5 := HD5.out.bound
        obtain ⟨v', w6, hrun, hR, hg, h5, _⟩ := hOA.push penTy (by omega) (id, fr, tt, ((xv : Int) * (yr : Int) / 1000000)) w5.heap.size 1 _ rfl hxA (by omega) (by omega)
        have HD6 := Lib.hid ((HD5.out.below hbA).grown hg (fun q hq => (hOA.type hq).2) (by decide) (by decide) (by decide))
        have HU6 := Lib.hid ((HU5.out.below hbA).grownOther hOA hg (by decide))
        have HP6 := Lib.hid ((HP5.out.below hbA).grownOther hOA hg (by decide))
        have heA : wA.heap[bl id]? = some (.cells #[.int .i64 id, .int .i64 st, .int .i64 xv, .int .i64 fr, .int .i64 tt, .int .i64 fv] 76 (0, 0)) := (hbA.block _ (lt_of_block HE5.out)).trans HE5.out
        have HEA := Lib.hid heA
        have HE6 := Lib.hid (block_grown heA hOA hg (by decide))
        have HW6 := Lib.hid ((HW5.out.trans (hbA.mono hB5)).trans (hOA.grown hg (by omega) hBS))
        have HX6 := Lib.hid ((HX5.out.below (hbA.mono (by omega))).below (hOA.grown hg (by omega) (Nat.le_refl _)))
        have hs6 : w.heap.size ≤ w6.heap.size := by have := hg.size; omega
        have HO6 := Lib.hid hR
        have HRUN := Lib.hid (by rw [← hwA] at hrun; exact hrun)
        have HWA := Lib.hid hwA
        clear hOA hR hg h5 hrun hbA hxA heA hwA hszA HO5 HU5 HP5 HW5
        go_wp2_with fail
        refine wp_region_till (k := 17) (S := fun w' => w'.heap[bl id]? = some (.cells #[.int .i64 id, .int .i64 st, .int .i64 xv, .int .i64 fr, .int .i64 tt, .int .i64 fv] 76 (0, 0))) (by kernel_rfl) ?_
        have hHeld : w5.drew.heap[bl id]? = some (.cells #[.int .i64 id, .int .i64 st, .int .i64 xv, .int .i64 fr, .int .i64 tt, .int .i64 fv] 76 (0, 0)) := HE5.out
        (refine rt_yes 0 ?v24 (by simp only [List.getElem?_toArray, List.getElem?_cons_succ, List.getElem?_cons_zero]; rfl) (by kernel_rfl) (by kernel_rfl) (by kernel_rfl) (by kernel_rfl) (by exact fun _ _ _ h => h) (by kernel_rfl) (by exact fun _ => hHeld) ?y24 ?z24; case y24 => (intro w; go_simp; (try (rw [if_neg (by omega)])); (try with_reducible rfl)))
        (try simp only [Act.put, List.setIfInBounds_toArray, List.set_cons_zero, List.set_cons_succ])
        (refine rt_yes 1 ?v25 (by simp only [List.getElem?_toArray, List.getElem?_cons_succ, List.getElem?_cons_zero]; rfl) (by kernel_rfl) (by kernel_rfl) (by kernel_rfl) (by kernel_rfl) (by exact fun _ _ _ h => h) (by kernel_rfl) (by exact fun _ => hHeld) ?y25 ?z25; case y25 => (intro w; go_simp; (try (rw [if_neg (by omega)])); (try with_reducible rfl)))
        (try simp only [Act.put, List.setIfInBounds_toArray, List.set_cons_zero, List.set_cons_succ])
        (refine rt_yes 2 ?v26 (by simp only [List.getElem?_toArray, List.getElem?_cons_succ, List.getElem?_cons_zero]; rfl) (by kernel_rfl) (by kernel_rfl) (by kernel_rfl) (by kernel_rfl) (by exact fun _ _ _ h => h) (by kernel_rfl) (by exact fun _ => hHeld) ?y26 ?z26; case y26 => (intro w; go_simp; (try (rw [if_neg (by omega)])); (try with_reducible rfl)))
        (try simp only [Act.put, List.setIfInBounds_toArray, List.set_cons_zero, List.set_cons_succ])
        (refine rt_yes 3 ?v27 (by simp only [List.getElem?_toArray, List.getElem?_cons_succ, List.getElem?_cons_zero]; rfl) (by kernel_rfl) (by kernel_rfl) (by kernel_rfl) (by kernel_rfl) (by exact fun _ _ _ h => h) (by kernel_rfl) (by exact fun _ => hHeld) ?y27 ?z27; case y27 => (intro w; go_simp; (try (rw [if_neg (by omega)])); (try with_reducible rfl)))
        (try simp only [Act.put, List.setIfInBounds_toArray, List.set_cons_zero, List.set_cons_succ])
        refine rt_load 4 _ (by simp only [List.getElem?_toArray, List.getElem?_cons_succ, List.getElem?_cons_zero]; rfl) (by kernel_rfl) (by kernel_rfl) (by kernel_rfl) (by kernel_rfl) (by kernel_rfl) (by kernel_rfl) (by exact fun _ _ _ h => h) (by kernel_rfl) hHeld (fun w' hS => (exec_load_one (off := 0) hS rfl rfl rfl (fun w => by kernel_rfl))) ?_
        (try simp only [Act.put, List.setIfInBounds_toArray, List.set_cons_zero, List.set_cons_succ])
        (refine rt_yes 5 ?v28 (by simp only [List.getElem?_toArray, List.getElem?_cons_succ, List.getElem?_cons_zero]; rfl) (by kernel_rfl) (by kernel_rfl) (by kernel_rfl) (by kernel_rfl) (by exact fun _ _ _ h => h) (by kernel_rfl) (by exact fun _ => hHeld) ?y28 ?z28; case y28 => (intro w; go_simp; (try (rw [if_neg (by omega)])); (try with_reducible rfl)))
        (try simp only [Act.put, List.setIfInBounds_toArray, List.set_cons_zero, List.set_cons_succ])
        (refine rt_yes 6 ?v29 (by simp only [List.getElem?_toArray, List.getElem?_cons_succ, List.getElem?_cons_zero]; rfl) (by kernel_rfl) (by kernel_rfl) (by kernel_rfl) (by kernel_rfl) (by exact fun _ _ _ h => h) (by kernel_rfl) (by exact fun _ => hHeld) ?y29 ?z29; case y29 => (intro w; go_simp; (try (rw [if_neg (by omega)])); (try with_reducible rfl)))
        (try simp only [Act.put, List.setIfInBounds_toArray, List.set_cons_zero, List.set_cons_succ])
        (refine rt_yes 7 ?v30 (by simp only [List.getElem?_toArray, List.getElem?_cons_succ, List.getElem?_cons_zero]; rfl) (by kernel_rfl) (by kernel_rfl) (by kernel_rfl) (by kernel_rfl) (by exact fun _ _ _ h => h) (by kernel_rfl) (by exact fun _ => hHeld) ?y30 ?z30; case y30 => (intro w; go_simp; (try (rw [if_neg (by omega)])); (try with_reducible rfl)))
        (try simp only [Act.put, List.setIfInBounds_toArray, List.set_cons_zero, List.set_cons_succ])
        refine rt_load 8 _ (by simp only [List.getElem?_toArray, List.getElem?_cons_succ, List.getElem?_cons_zero]; rfl) (by kernel_rfl) (by kernel_rfl) (by kernel_rfl) (by kernel_rfl) (by kernel_rfl) (by kernel_rfl) (by exact fun _ _ _ h => h) (by kernel_rfl) hHeld (fun w' hS => (exec_load_one (off := 3) hS rfl rfl rfl (fun w => by kernel_rfl))) ?_
        (try simp only [Act.put, List.setIfInBounds_toArray, List.set_cons_zero, List.set_cons_succ])
        (refine rt_yes 9 ?v31 (by simp only [List.getElem?_toArray, List.getElem?_cons_succ, List.getElem?_cons_zero]; rfl) (by kernel_rfl) (by kernel_rfl) (by kernel_rfl) (by kernel_rfl) (by exact fun _ _ _ h => h) (by kernel_rfl) (by exact fun _ => hHeld) ?y31 ?z31; case y31 => (intro w; go_simp; (try (rw [if_neg (by omega)])); (try with_reducible rfl)))
        (try simp only [Act.put, List.setIfInBounds_toArray, List.set_cons_zero, List.set_cons_succ])
        (refine rt_yes 10 ?v32 (by simp only [List.getElem?_toArray, List.getElem?_cons_succ, List.getElem?_cons_zero]; rfl) (by kernel_rfl) (by kernel_rfl) (by kernel_rfl) (by kernel_rfl) (by exact fun _ _ _ h => h) (by kernel_rfl) (by exact fun _ => hHeld) ?y32 ?z32; case y32 => (intro w; go_simp; (try (rw [if_neg (by omega)])); (try with_reducible rfl)))
        (try simp only [Act.put, List.setIfInBounds_toArray, List.set_cons_zero, List.set_cons_succ])
        (refine rt_yes 11 ?v33 (by simp only [List.getElem?_toArray, List.getElem?_cons_succ, List.getElem?_cons_zero]; rfl) (by kernel_rfl) (by kernel_rfl) (by kernel_rfl) (by kernel_rfl) (by exact fun _ _ _ h => h) (by kernel_rfl) (by exact fun _ => hHeld) ?y33 ?z33; case y33 => (intro w; go_simp; (try (rw [if_neg (by omega)])); (try with_reducible rfl)))
        (try simp only [Act.put, List.setIfInBounds_toArray, List.set_cons_zero, List.set_cons_succ])
        refine rt_load 12 _ (by simp only [List.getElem?_toArray, List.getElem?_cons_succ, List.getElem?_cons_zero]; rfl) (by kernel_rfl) (by kernel_rfl) (by kernel_rfl) (by kernel_rfl) (by kernel_rfl) (by kernel_rfl) (by exact fun _ _ _ h => h) (by kernel_rfl) hHeld (fun w' hS => (exec_load_one (off := 4) hS rfl rfl rfl (fun w => by kernel_rfl))) ?_
        (try simp only [Act.put, List.setIfInBounds_toArray, List.set_cons_zero, List.set_cons_succ])
        (refine rt_yes 13 ?v34 (by simp only [List.getElem?_toArray, List.getElem?_cons_succ, List.getElem?_cons_zero]; rfl) (by kernel_rfl) (by kernel_rfl) (by kernel_rfl) (by kernel_rfl) (by exact fun _ _ _ h => h) (by kernel_rfl) (by exact fun _ => hHeld) ?y34 ?z34; case y34 => (intro w; go_simp; (try (rw [if_neg (by omega)])); (try with_reducible rfl)))
        (try simp only [Act.put, List.setIfInBounds_toArray, List.set_cons_zero, List.set_cons_succ])
        (refine rt_yes 14 ?v35 (by simp only [List.getElem?_toArray, List.getElem?_cons_succ, List.getElem?_cons_zero]; rfl) (by kernel_rfl) (by kernel_rfl) (by kernel_rfl) (by kernel_rfl) (by exact fun _ _ _ h => h) (by kernel_rfl) (by exact fun _ => hHeld) ?y35 ?z35; case y35 => (intro w; go_simp; (try (rw [if_neg (by omega)])); (try with_reducible rfl)))
        (try simp only [Act.put, List.setIfInBounds_toArray, List.set_cons_zero, List.set_cons_succ])
        refine rt_one 15 _ _ (by simp only [List.getElem?_toArray, List.getElem?_cons_succ, List.getElem?_cons_zero]; rfl) (by kernel_rfl) (by kernel_rfl) (by go_simp; first | exact ⟨rfl, rfl⟩ | rfl) (fun _ => (by rw [HWA.out]; exact HEA.out)) ?_
        (try simp only [Act.put, List.setIfInBounds_toArray, List.set_cons_zero, List.set_cons_succ])
        refine rt_one 16 _ _ (by simp only [List.getElem?_toArray, List.getElem?_cons_succ, List.getElem?_cons_zero]; rfl) (by kernel_rfl) (by kernel_rfl) (exec_append rfl rfl rfl rfl HRUN.out) (fun _ => HE6.out) ?_
        (try simp only [Act.put, List.setIfInBounds_toArray, List.set_cons_zero, List.set_cons_succ])
        refine rt_one 17 _ _ (by simp only [List.getElem?_toArray, List.getElem?_cons_succ, List.getElem?_cons_zero]; rfl) (by kernel_rfl) (by kernel_rfl) (by go_simp; first | exact ⟨rfl, rfl⟩ | rfl) (till_past (by kernel_rfl)) ?_
        (try simp only [Act.put, List.setIfInBounds_toArray, List.set_cons_zero, List.set_cons_succ])
        refine rt_done (by kernel_rfl) ?_ _
        clear hHeld HRUN HEA HWA HE5 HD5
        obtain ⟨c5, z5⟩ := block_cell HE6.out 5 (.int .i64 fv) rfl
        have hw1 : IntKind.i64.wrap (fv + 1) = fv + 1 := IntWalk.i64_in _ (by omega)
        obtain ⟨hD7, hB7⟩ := HD6.out.fail HEI.out (fv + 1)
        have HD7 := Lib.hid hD7
        have HW7 := Lib.hid (HW6.out.trans hB7)
        have HX7 := Lib.hid (HX6.out.set HXI.out 5 (.int .i64 (fv + 1)))
        have hs7 : w.heap.size ≤ (w6.setCell ⟨bl id, 5, none⟩ (.int .i64 (fv + 1))).heap.size := by have := hB7.size; omega
        have HO7 := Lib.hid (HO6.out.setOther (v := .int .i64 (fv + 1)) (j := 5) HE6.out (by decide))
        have HU7 := Lib.hid (HU6.out.setOther (v := .int .i64 (fv + 1)) (j := 5) HE6.out (by decide))
        have HP7 := Lib.hid (HP6.out.setOther (v := .int .i64 (fv + 1)) (j := 5) HE6.out (by decide))
        have HE7 := Lib.hid (show (w6.setCell ⟨bl id, 5, none⟩ (.int .i64 (fv + 1))).heap[bl id]? = some (.cells #[.int .i64 id, .int .i64 st, .int .i64 xv, .int .i64 fr, .int .i64 tt, .int .i64 (fv + 1)] 76 (0, 0)) from heap_setCell_same w6 (bl id) 5 _ _ (.int .i64 (fv + 1)) HE6.out)
        clear hD7 hB7 HD6 HW6 HX6 HO6 HU6 HP6 HE6
        go_upto_region 12 with fail
        generalize hw7 : w6.setCell ⟨bl id, 5, none⟩ (.int .i64 (fv + 1)) = w7 at *
        clear c5 z5 hw7
        have HC14 := Lib.hid (fun (wz : World) (hz : Below w7.heap.size w7 wz) => (HD7.out.below hz).c17)
        have KE7 := Lib.hid (fun (wz : World) (hz : Below w7.heap.size w7 wz) => (hz.block (bl id) (lt_of_block HE7.out)).trans HE7.out)
        by_cases hge : p.keep ≤ fv + 1
        · have dge : decide (p.keep ≤ fv + 1) = true := decide_eq_true hge
          have HSTEP := Lib.hid (show closeE p.keep es (ds.take (i + 1)) = updE (closeE p.keep es (ds.take i)) id none by rw [take_snocI HID.out, closeE_snoc, stepE_some HEI.out, if_pos (by rw [← HFV.out]; exact hge)])
          have HGONE := Lib.hid (show goneL p.keep es (ds.take (i + 1)) = goneL p.keep es (ds.take i) ++ [id] by rw [take_snocI HID.out, goneL_snoc _ _ _ _ _ HE.out, if_pos (by rw [← HFV.out]; exact hge)])
          have HOWED := Lib.hid (show owedL p.rate es (ds.take (i + 1)) = owedL p.rate es (ds.take i) ++ [(id, fr, tt, ((xv : Int) * (yr : Int) / 1000000))] by rw [take_snocI HID.out, owedL_snoc _ _ _ _ _ HE.out]; unfold pen; rw [HXV.out, HYR.out, hfr, hto]; simp)
          have HGD := Lib.hid ((HDS.out.2 id).1 (List.mem_of_getElem? HID.out)).1
          clear hge
          go_wp2_with fail
          rename_i HK
          refine wp_region_held_drew (S := fun w' => Below w7.heap.size w7 w') (by kernel_rfl) (Below.refl _ _).drew (fun hHeld => ?_)
          (refine rg_yes 0 ?v36 (by simp only [List.getElem?_toArray, List.getElem?_cons_succ, List.getElem?_cons_zero]; rfl) (by kernel_rfl) (by kernel_rfl) (by kernel_rfl) (by exact fun _ _ _ h => h) (by kernel_rfl) (by assumption) ?y36 ?z36; case y36 => (intro w hSw; (try dsimp only at hSw); go_simp; (try (rw [if_neg (by omega)])); (try (rw [if_pos (by omega)])); (try with_reducible rfl)))
          (try simp only [Act.put, List.setIfInBounds_toArray, List.set_cons_zero, List.set_cons_succ])
          (refine rg_yes 1 ?v37 (by simp only [List.getElem?_toArray, List.getElem?_cons_succ, List.getElem?_cons_zero]; rfl) (by kernel_rfl) (by kernel_rfl) (by kernel_rfl) (by exact fun _ _ _ h => h) (by kernel_rfl) (by assumption) ?y37 ?z37; case y37 => (intro w hSw; (try dsimp only at hSw); go_simp; (try (rw [if_neg (by omega)])); (try (rw [if_pos (by omega)])); (try with_reducible rfl)))
          (try simp only [Act.put, List.setIfInBounds_toArray, List.set_cons_zero, List.set_cons_succ])
          (refine rg_yes 2 ?v38 (by simp only [List.getElem?_toArray, List.getElem?_cons_succ, List.getElem?_cons_zero]; rfl) (by kernel_rfl) (by kernel_rfl) (by kernel_rfl) (by exact fun _ _ _ h => h) (by kernel_rfl) (by assumption) ?y38 ?z38; case y38 => (intro w hSw; (try dsimp only at hSw); go_simp; (try (rw [if_neg (by omega)])); (try (rw [if_pos (by omega)])); (try with_reducible rfl)))
          (try simp only [Act.put, List.setIfInBounds_toArray, List.set_cons_zero, List.set_cons_succ])
          refine rg_yes 3 _ (by simp only [List.getElem?_toArray, List.getElem?_cons_succ, List.getElem?_cons_zero]; rfl) (by kernel_rfl) (by kernel_rfl) (by kernel_rfl) (by exact fun _ _ _ h => h) (by kernel_rfl) (by assumption) (by exact fun w' hS => (exec_load_one (off := 5) (KE7.out _ hS) rfl rfl rfl (fun w => by kernel_rfl))) ?_
          (try simp only [Act.put, List.setIfInBounds_toArray, List.set_cons_zero, List.set_cons_succ])
          (refine rg_yes 4 ?v39 (by simp only [List.getElem?_toArray, List.getElem?_cons_succ, List.getElem?_cons_zero]; rfl) (by kernel_rfl) (by kernel_rfl) (by kernel_rfl) (by exact fun _ _ _ h => h) (by kernel_rfl) (by assumption) ?y39 ?z39; case y39 => (intro w hSw; (try dsimp only at hSw); go_simp; (try (rw [if_neg (by omega)])); (try (rw [if_pos (by omega)])); (try with_reducible rfl)))
          (try simp only [Act.put, List.setIfInBounds_toArray, List.set_cons_zero, List.set_cons_succ])
          (refine rg_yes 5 ?v40 (by simp only [List.getElem?_toArray, List.getElem?_cons_succ, List.getElem?_cons_zero]; rfl) (by kernel_rfl) (by kernel_rfl) (by kernel_rfl) (by exact fun _ _ _ h => h) (by kernel_rfl) (by assumption) ?y40 ?z40; case y40 => (intro w hSw; (try dsimp only at hSw); go_simp; (try (rw [if_neg (by omega)])); (try (rw [if_pos (by omega)])); (try with_reducible rfl)))
          (try simp only [Act.put, List.setIfInBounds_toArray, List.set_cons_zero, List.set_cons_succ])
          (refine rg_yes 6 ?v41 (by simp only [List.getElem?_toArray, List.getElem?_cons_succ, List.getElem?_cons_zero]; rfl) (by kernel_rfl) (by kernel_rfl) (by kernel_rfl) (by exact fun _ _ _ h => h) (by kernel_rfl) (by assumption) ?y41 ?z41; case y41 => (intro w hSw; (try dsimp only at hSw); go_simp; (try (rw [if_neg (by omega)])); (try (rw [if_pos (by omega)])); (try with_reducible rfl)))
          (try simp only [Act.put, List.setIfInBounds_toArray, List.set_cons_zero, List.set_cons_succ])
          (refine rg_yes 7 ?v42 (by simp only [List.getElem?_toArray, List.getElem?_cons_succ, List.getElem?_cons_zero]; rfl) (by kernel_rfl) (by kernel_rfl) (by kernel_rfl) (by exact fun _ _ _ h => h) (by kernel_rfl) (by assumption) ?y42 ?z42; case y42 => (intro w hSw; (try dsimp only at hSw); go_simp; (try (rw [if_neg (by omega)])); (try (rw [if_pos (by omega)])); (try with_reducible rfl)))
          (try simp only [Act.put, List.setIfInBounds_toArray, List.set_cons_zero, List.set_cons_succ])
          refine rg_yes 8 _ (by simp only [List.getElem?_toArray, List.getElem?_cons_succ, List.getElem?_cons_zero]; rfl) (by kernel_rfl) (by kernel_rfl) (by kernel_rfl) (by exact fun _ _ _ h => h) (by kernel_rfl) (by assumption) (by exact fun w' hS => (exec_load_at (HC14.out _ hS).2.2.2.1 rfl rfl (fun w => by kernel_rfl))) ?_
          (try simp only [Act.put, List.setIfInBounds_toArray, List.set_cons_zero, List.set_cons_succ])
          (refine rg_yes 9 ?v43 (by simp only [List.getElem?_toArray, List.getElem?_cons_succ, List.getElem?_cons_zero]; rfl) (by kernel_rfl) (by kernel_rfl) (by kernel_rfl) (by exact fun _ _ _ h => h) (by kernel_rfl) (by assumption) ?y43 ?z43; case y43 => (intro w hSw; (try dsimp only at hSw); go_simp; (try (rw [if_neg (by omega)])); (try (rw [if_pos (by omega)])); (try with_reducible rfl)))
          (try simp only [Act.put, List.setIfInBounds_toArray, List.set_cons_zero, List.set_cons_succ])
          refine wpAnyH_done (by kernel_rfl) ?_ _
          apply HK
          generalize w7.drew = w8 at *
          have HD8 := Lib.hid (HD7.out.below hHeld)
          have HO8 := Lib.hid (HO7.out.below hHeld)
          have HU8 := Lib.hid (HU7.out.below hHeld)
          have HP8 := Lib.hid (HP7.out.below hHeld)
          have HE8 := Lib.hid (KE7.out _ hHeld)
          have HW8 := Lib.hid (HW7.out.trans (hHeld.mono HD7.out.bound))
          have HX8 := Lib.hid (HX7.out.below (hHeld.mono hs7))
          have hs8 := hHeld.size
          clear HX7 HD7 HO7 HU7 HP7 HW7 KE7 HC14 hHeld HK
          have hB8 := HD8.out.bound
          have hbA : Below w8.heap.size w8 (w8.alloc (.cells #[.int .i64 id] 3)) := (Below.refl _ _).alloc (Nat.le_refl _) _
          have hUA := HU8.out.below hbA
          have hszA := hbA.size
          obtain ⟨u', w9, hrun, hR, hg, h5, _⟩ := hUA.push intTy (by omega) id w8.heap.size 1 _ rfl (heap_alloc_new w8 _) (by omega) (by omega)
          have HD9 := Lib.hid ((HD8.out.below hbA).grown hg (fun q hq => (hUA.type hq).2) (by decide) (by decide) (by decide))
          have HO9 := Lib.hid ((HO8.out.below hbA).grownOther hUA hg (by decide))
          have HP9 := Lib.hid ((HP8.out.below hbA).grownOther hUA hg (by decide))
          have HE9 := Lib.hid (block_grown ((hbA.block _ (lt_of_block HE8.out)).trans HE8.out) hUA hg (by decide))
          have HW9 := Lib.hid ((HW8.out.trans (hbA.mono hB8)).trans (hUA.grown hg (by omega) hBS))
          have HX9 := Lib.hid ((HX8.out.below (hbA.mono (by omega))).below (hUA.grown hg (by omega) (Nat.le_refl _)))
          have hs9 : w.heap.size ≤ w9.heap.size := by have := hg.size; omega
          have HU9 := Lib.hid hR
          have HRUN := Lib.hid hrun
          have c0 := (block_cell HE8.out 0 (.int .i64 id) rfl).1
          clear hbA hUA hszA hrun hR hg h5 HD8 HO8 HU8 HP8 HW8 HE8
          go_upto_region 14 with (refine wpList_val (w' := w9) u' (by kernel_rfl) (exec_append2 rfl rfl rfl rfl ?_) ?_; focus (exact HRUN.out))
          have HC18 := Lib.hid (fun (wz : World) (hz : Below w9.heap.size w9 wz) => (HD9.out.below hz).c17)
          have KE9 := Lib.hid (fun (wz : World) (hz : Below w9.heap.size w9 wz) => (hz.block (bl id) (lt_of_block HE9.out)).trans HE9.out)
          clear c0 HRUN
          go_wp2_with fail
          refine wp_region_till (k := 8) (S := fun w' => Below w9.heap.size w9 w') (by kernel_rfl) ?_
          have hHeld : Below w9.heap.size w9 w9.drew := (Below.refl _ _).drew
          (refine rt_yes 0 ?v44 (by simp only [List.getElem?_toArray, List.getElem?_cons_succ, List.getElem?_cons_zero]; rfl) (by kernel_rfl) (by kernel_rfl) (by kernel_rfl) (by kernel_rfl) (by exact fun _ _ _ h => h) (by kernel_rfl) (by exact fun _ => hHeld) ?y44 ?z44; case y44 => (intro w; go_simp; (try (rw [if_neg (by omega)])); (try with_reducible rfl)))
          (try simp only [Act.put, List.setIfInBounds_toArray, List.set_cons_zero, List.set_cons_succ])
          (refine rt_yes 1 ?v45 (by simp only [List.getElem?_toArray, List.getElem?_cons_succ, List.getElem?_cons_zero]; rfl) (by kernel_rfl) (by kernel_rfl) (by kernel_rfl) (by kernel_rfl) (by exact fun _ _ _ h => h) (by kernel_rfl) (by exact fun _ => hHeld) ?y45 ?z45; case y45 => (intro w; go_simp; (try (rw [if_neg (by omega)])); (try with_reducible rfl)))
          (try simp only [Act.put, List.setIfInBounds_toArray, List.set_cons_zero, List.set_cons_succ])
          (refine rt_yes 2 ?v46 (by simp only [List.getElem?_toArray, List.getElem?_cons_succ, List.getElem?_cons_zero]; rfl) (by kernel_rfl) (by kernel_rfl) (by kernel_rfl) (by kernel_rfl) (by exact fun _ _ _ h => h) (by kernel_rfl) (by exact fun _ => hHeld) ?y46 ?z46; case y46 => (intro w; go_simp; (try (rw [if_neg (by omega)])); (try with_reducible rfl)))
          (try simp only [Act.put, List.setIfInBounds_toArray, List.set_cons_zero, List.set_cons_succ])
          refine rt_load 3 _ (by simp only [List.getElem?_toArray, List.getElem?_cons_succ, List.getElem?_cons_zero]; rfl) (by kernel_rfl) (by kernel_rfl) (by kernel_rfl) (by kernel_rfl) (by kernel_rfl) (by kernel_rfl) (by exact fun _ _ _ h => h) (by kernel_rfl) hHeld (fun w' hS => (exec_load_at (HC18.out _ hS).2.2.1 rfl rfl (fun w => by kernel_rfl))) ?_
          (try simp only [Act.put, List.setIfInBounds_toArray, List.set_cons_zero, List.set_cons_succ])
          (refine rt_yes 4 ?v47 (by simp only [List.getElem?_toArray, List.getElem?_cons_succ, List.getElem?_cons_zero]; rfl) (by kernel_rfl) (by kernel_rfl) (by kernel_rfl) (by kernel_rfl) (by exact fun _ _ _ h => h) (by kernel_rfl) (by exact fun _ => hHeld) ?y47 ?z47; case y47 => (intro w; go_simp; (try (rw [if_neg (by omega)])); (try with_reducible rfl)))
          (try simp only [Act.put, List.setIfInBounds_toArray, List.set_cons_zero, List.set_cons_succ])
          (refine rt_yes 5 ?v48 (by simp only [List.getElem?_toArray, List.getElem?_cons_succ, List.getElem?_cons_zero]; rfl) (by kernel_rfl) (by kernel_rfl) (by kernel_rfl) (by kernel_rfl) (by exact fun _ _ _ h => h) (by kernel_rfl) (by exact fun _ => hHeld) ?y48 ?z48; case y48 => (intro w; go_simp; (try (rw [if_neg (by omega)])); (try with_reducible rfl)))
          (try simp only [Act.put, List.setIfInBounds_toArray, List.set_cons_zero, List.set_cons_succ])
          (refine rt_yes 6 ?v49 (by simp only [List.getElem?_toArray, List.getElem?_cons_succ, List.getElem?_cons_zero]; rfl) (by kernel_rfl) (by kernel_rfl) (by kernel_rfl) (by kernel_rfl) (by exact fun _ _ _ h => h) (by kernel_rfl) (by exact fun _ => hHeld) ?y49 ?z49; case y49 => (intro w; go_simp; (try (rw [if_neg (by omega)])); (try with_reducible rfl)))
          (try simp only [Act.put, List.setIfInBounds_toArray, List.set_cons_zero, List.set_cons_succ])
          refine rt_load 7 _ (by simp only [List.getElem?_toArray, List.getElem?_cons_succ, List.getElem?_cons_zero]; rfl) (by kernel_rfl) (by kernel_rfl) (by kernel_rfl) (by kernel_rfl) (by kernel_rfl) (by kernel_rfl) (by exact fun _ _ _ h => h) (by kernel_rfl) hHeld (fun w' hS => (exec_load_one (off := 0) (KE9.out _ hS) rfl rfl rfl (fun w => by kernel_rfl))) ?_
          (try simp only [Act.put, List.setIfInBounds_toArray, List.set_cons_zero, List.set_cons_succ])
          have HD9b := Lib.hid (HD9.out.below hHeld)
          refine rt_dropM keyD 8 (by simp only [List.getElem?_toArray, List.getElem?_cons_succ, List.getElem?_cons_zero]; rfl) (by kernel_rfl) (by kernel_rfl) _ _ 64 rfl 73 Try.underlying64 rfl HD9b.out.map id HGD.out rfl (by kernel_rfl) (fun wF hMF hTF => ?_)
          (try simp only [Act.put, List.setIfInBounds_toArray, List.set_cons_zero, List.set_cons_succ])
          refine rt_done (by kernel_rfl) ?_ _
          obtain ⟨hDF, hBF⟩ := HD9b.out.drop id hMF hTF
          rw [updE_twice] at hDF
          have HDF := Lib.hid hDF
          have hmp := HD9b.out.map.isMap keyD
          have HOF := Lib.hid (turned_row (HO9.out.below hHeld) hTF hmp)
          have HUF := Lib.hid (turned_row (HU9.out.below hHeld) hTF hmp)
          have HPF := Lib.hid (turned_row (HP9.out.below hHeld) hTF hmp)
          have HWF := Lib.hid ((HW9.out.trans (hHeld.mono HD9.out.bound)).trans hBF)
          have hs10 := hHeld.size
          have HXF := Lib.hid ((HX9.out.below (hHeld.mono (by omega))).turned (by omega) hTF (.inr (.inl rfl)))
          clear hDF hBF hmp hMF hTF hHeld HD9 HD9b HO9 HU9 HP9 HW9 HE9 HC18 KE9
          go_wp2_with fail
          exact ⟨⟨i + 1, by omega, by go_num, by rw [HSTEP.out]; exact HDF.out, by rw [HOWED.out]; exact HOF.out, by rw [HGONE.out]; exact HUF.out, HPF.out, HWF.out, HXF.out⟩, by simp [intOf]; omega⟩
        · have dge : decide (p.keep ≤ fv + 1) = false := decide_eq_false hge
          have HSTEP := Lib.hid (show closeE p.keep es (ds.take (i + 1)) = updE (closeE p.keep es (ds.take i)) id (some { e with failed := fv + 1 }) by rw [take_snocI HID.out, closeE_snoc, stepE_some HEI.out, if_neg (by rw [← HFV.out]; exact hge), HFV.out])
          have HGONE := Lib.hid (show goneL p.keep es (ds.take (i + 1)) = goneL p.keep es (ds.take i) by rw [take_snocI HID.out, goneL_snoc _ _ _ _ _ HE.out, if_neg (by rw [← HFV.out]; exact hge)])
          have HOWED := Lib.hid (show owedL p.rate es (ds.take (i + 1)) = owedL p.rate es (ds.take i) ++ [(id, fr, tt, ((xv : Int) * (yr : Int) / 1000000))] by rw [take_snocI HID.out, owedL_snoc _ _ _ _ _ HE.out]; unfold pen; rw [HXV.out, HYR.out, hfr, hto]; simp)
          clear hge
          go_wp2_with fail
          rename_i HK
          refine wp_region_held_drew (S := fun w' => Below w7.heap.size w7 w') (by kernel_rfl) (Below.refl _ _).drew (fun hHeld => ?_)
          (refine rg_yes 0 ?v50 (by simp only [List.getElem?_toArray, List.getElem?_cons_succ, List.getElem?_cons_zero]; rfl) (by kernel_rfl) (by kernel_rfl) (by kernel_rfl) (by exact fun _ _ _ h => h) (by kernel_rfl) (by assumption) ?y50 ?z50; case y50 => (intro w hSw; (try dsimp only at hSw); go_simp; (try (rw [if_neg (by omega)])); (try (rw [if_pos (by omega)])); (try with_reducible rfl)))
          (try simp only [Act.put, List.setIfInBounds_toArray, List.set_cons_zero, List.set_cons_succ])
          (refine rg_yes 1 ?v51 (by simp only [List.getElem?_toArray, List.getElem?_cons_succ, List.getElem?_cons_zero]; rfl) (by kernel_rfl) (by kernel_rfl) (by kernel_rfl) (by exact fun _ _ _ h => h) (by kernel_rfl) (by assumption) ?y51 ?z51; case y51 => (intro w hSw; (try dsimp only at hSw); go_simp; (try (rw [if_neg (by omega)])); (try (rw [if_pos (by omega)])); (try with_reducible rfl)))
          (try simp only [Act.put, List.setIfInBounds_toArray, List.set_cons_zero, List.set_cons_succ])
          (refine rg_yes 2 ?v52 (by simp only [List.getElem?_toArray, List.getElem?_cons_succ, List.getElem?_cons_zero]; rfl) (by kernel_rfl) (by kernel_rfl) (by kernel_rfl) (by exact fun _ _ _ h => h) (by kernel_rfl) (by assumption) ?y52 ?z52; case y52 => (intro w hSw; (try dsimp only at hSw); go_simp; (try (rw [if_neg (by omega)])); (try (rw [if_pos (by omega)])); (try with_reducible rfl)))
          (try simp only [Act.put, List.setIfInBounds_toArray, List.set_cons_zero, List.set_cons_succ])
          refine rg_yes 3 _ (by simp only [List.getElem?_toArray, List.getElem?_cons_succ, List.getElem?_cons_zero]; rfl) (by kernel_rfl) (by kernel_rfl) (by kernel_rfl) (by exact fun _ _ _ h => h) (by kernel_rfl) (by assumption) (by exact fun w' hS => (exec_load_one (off := 5) (KE7.out _ hS) rfl rfl rfl (fun w => by kernel_rfl))) ?_
          (try simp only [Act.put, List.setIfInBounds_toArray, List.set_cons_zero, List.set_cons_succ])
          (refine rg_yes 4 ?v53 (by simp only [List.getElem?_toArray, List.getElem?_cons_succ, List.getElem?_cons_zero]; rfl) (by kernel_rfl) (by kernel_rfl) (by kernel_rfl) (by exact fun _ _ _ h => h) (by kernel_rfl) (by assumption) ?y53 ?z53; case y53 => (intro w hSw; (try dsimp only at hSw); go_simp; (try (rw [if_neg (by omega)])); (try (rw [if_pos (by omega)])); (try with_reducible rfl)))
          (try simp only [Act.put, List.setIfInBounds_toArray, List.set_cons_zero, List.set_cons_succ])
          (refine rg_yes 5 ?v54 (by simp only [List.getElem?_toArray, List.getElem?_cons_succ, List.getElem?_cons_zero]; rfl) (by kernel_rfl) (by kernel_rfl) (by kernel_rfl) (by exact fun _ _ _ h => h) (by kernel_rfl) (by assumption) ?y54 ?z54; case y54 => (intro w hSw; (try dsimp only at hSw); go_simp; (try (rw [if_neg (by omega)])); (try (rw [if_pos (by omega)])); (try with_reducible rfl)))
          (try simp only [Act.put, List.setIfInBounds_toArray, List.set_cons_zero, List.set_cons_succ])
          (refine rg_yes 6 ?v55 (by simp only [List.getElem?_toArray, List.getElem?_cons_succ, List.getElem?_cons_zero]; rfl) (by kernel_rfl) (by kernel_rfl) (by kernel_rfl) (by exact fun _ _ _ h => h) (by kernel_rfl) (by assumption) ?y55 ?z55; case y55 => (intro w hSw; (try dsimp only at hSw); go_simp; (try (rw [if_neg (by omega)])); (try (rw [if_pos (by omega)])); (try with_reducible rfl)))
          (try simp only [Act.put, List.setIfInBounds_toArray, List.set_cons_zero, List.set_cons_succ])
          (refine rg_yes 7 ?v56 (by simp only [List.getElem?_toArray, List.getElem?_cons_succ, List.getElem?_cons_zero]; rfl) (by kernel_rfl) (by kernel_rfl) (by kernel_rfl) (by exact fun _ _ _ h => h) (by kernel_rfl) (by assumption) ?y56 ?z56; case y56 => (intro w hSw; (try dsimp only at hSw); go_simp; (try (rw [if_neg (by omega)])); (try (rw [if_pos (by omega)])); (try with_reducible rfl)))
          (try simp only [Act.put, List.setIfInBounds_toArray, List.set_cons_zero, List.set_cons_succ])
          refine rg_yes 8 _ (by simp only [List.getElem?_toArray, List.getElem?_cons_succ, List.getElem?_cons_zero]; rfl) (by kernel_rfl) (by kernel_rfl) (by kernel_rfl) (by exact fun _ _ _ h => h) (by kernel_rfl) (by assumption) (by exact fun w' hS => (exec_load_at (HC14.out _ hS).2.2.2.1 rfl rfl (fun w => by kernel_rfl))) ?_
          (try simp only [Act.put, List.setIfInBounds_toArray, List.set_cons_zero, List.set_cons_succ])
          (refine rg_yes 9 ?v57 (by simp only [List.getElem?_toArray, List.getElem?_cons_succ, List.getElem?_cons_zero]; rfl) (by kernel_rfl) (by kernel_rfl) (by kernel_rfl) (by exact fun _ _ _ h => h) (by kernel_rfl) (by assumption) ?y57 ?z57; case y57 => (intro w hSw; (try dsimp only at hSw); go_simp; (try (rw [if_neg (by omega)])); (try (rw [if_pos (by omega)])); (try with_reducible rfl)))
          (try simp only [Act.put, List.setIfInBounds_toArray, List.set_cons_zero, List.set_cons_succ])
          refine wpAnyH_done (by kernel_rfl) ?_ _
          apply HK
          have HH := Lib.hid hHeld
          clear hHeld HK
          have HD8 := Lib.hid (HD7.out.below HH.out)
          have HO8 := Lib.hid (HO7.out.below HH.out)
          have HU8 := Lib.hid (HU7.out.below HH.out)
          have HP8 := Lib.hid (HP7.out.below HH.out)
          have HW8 := Lib.hid (HW7.out.trans (HH.out.mono HD7.out.bound))
          have HX8 := Lib.hid (HX7.out.below (HH.out.mono hs7))
          clear HD7 HO7 HU7 HP7 HW7 KE7 HC14 HH
          go_wp2_with fail
          exact ⟨⟨i + 1, by omega, by go_num, by rw [HSTEP.out]; exact HD8.out, by rw [HOWED.out]; exact HO8.out, by rw [HGONE.out]; exact HU8.out, HP8.out, HW8.out, HX8.out⟩, by simp [intOf]; omega⟩
      · have hie : i = ds.length := by omega
        have hdl2 : decide ((i : Int) < ds.length) = false := decide_eq_false (by omega)
        rw [hie, List.take_length] at HD HO HU
        clear hie
        obtain ⟨k17, z17⟩ := block_cell HD.out.blk 17 (.int .i64 today) HD.out.c17cell
        obtain ⟨hD2, hB2⟩ := HD.out.date m
        have hO2 := HO.out.setOther (v := .int .i64 m) (j := 17) HD.out.blk (by decide)
        have hU2 := HU.out.setOther (v := .int .i64 m) (j := 17) HD.out.blk (by decide)
        have HD2 := Lib.hid hD2
        have HB2 := Lib.hid hB2
        have HO2 := Lib.hid hO2
        have HU2 := Lib.hid hU2
        clear hD2 hB2 hO2 hU2
        go_wp2_with fail
        go_ret3
        exact ⟨m, HM.out, HW.out.trans HB2.out, HX.out.set (.inl rfl) 17 _, .inr ⟨HDM.out, _, _, ds, rfl, HDS.out, hdl, HO2.out.low hBS, HU2.out.low hBS, HD2.out⟩⟩
  · refine ⟨_, rfl, hHeld.trans (hb1.mono hHeld.size), fun hHeld => ?_⟩
    (try simp only [Act.put, List.setIfInBounds_toArray, List.set_cons_zero, List.set_cons_succ])
    (refine rg_yes 9 ?v58 (by simp only [List.getElem?_toArray, List.getElem?_cons_succ, List.getElem?_cons_zero]; rfl) (by kernel_rfl) (by kernel_rfl) (by kernel_rfl) (by exact fun _ _ _ h => h) (by kernel_rfl) (by assumption) ?y58 ?z58; case y58 => (intro w hSw; (try dsimp only at hSw); go_simp; (try (rw [if_neg (by omega)])); (try (rw [if_pos (by omega)])); (try with_reducible rfl)))
    (try simp only [Act.put, List.setIfInBounds_toArray, List.set_cons_zero, List.set_cons_succ])
    (refine rg_yes 10 ?v59 (by simp only [List.getElem?_toArray, List.getElem?_cons_succ, List.getElem?_cons_zero]; rfl) (by kernel_rfl) (by kernel_rfl) (by kernel_rfl) (by exact fun _ _ _ h => h) (by kernel_rfl) (by assumption) ?y59 ?z59; case y59 => (intro w hSw; (try dsimp only at hSw); go_simp; (try (rw [if_neg (by omega)])); (try (rw [if_pos (by omega)])); (try with_reducible rfl)))
    (try simp only [Act.put, List.setIfInBounds_toArray, List.set_cons_zero, List.set_cons_succ])
    (refine rg_yes 11 ?v60 (by simp only [List.getElem?_toArray, List.getElem?_cons_succ, List.getElem?_cons_zero]; rfl) (by kernel_rfl) (by kernel_rfl) (by kernel_rfl) (by exact fun _ _ _ h => h) (by kernel_rfl) (by assumption) ?y60 ?z60; case y60 => (intro w hSw; (try dsimp only at hSw); go_simp; (try (rw [if_neg (by omega)])); (try (rw [if_pos (by omega)])); (try with_reducible rfl)))
    (try simp only [Act.put, List.setIfInBounds_toArray, List.set_cons_zero, List.set_cons_succ])
    (refine rg_yes 12 ?v61 (by simp only [List.getElem?_toArray, List.getElem?_cons_succ, List.getElem?_cons_zero]; rfl) (by kernel_rfl) (by kernel_rfl) (by kernel_rfl) (by exact fun _ _ _ h => h) (by kernel_rfl) (by assumption) ?y61 ?z61; case y61 => (intro w hSw; (try dsimp only at hSw); go_simp; (try (rw [if_neg (by omega)])); (try (rw [if_pos (by omega)])); (try with_reducible rfl)))
    (try simp only [Act.put, List.setIfInBounds_toArray, List.set_cons_zero, List.set_cons_succ])
    (refine rg_yes 13 ?v62 (by simp only [List.getElem?_toArray, List.getElem?_cons_succ, List.getElem?_cons_zero]; rfl) (by kernel_rfl) (by kernel_rfl) (by kernel_rfl) (by exact fun _ _ _ h => h) (by kernel_rfl) (by assumption) ?y62 ?z62; case y62 => (intro w hSw; (try dsimp only at hSw); go_simp; (try (rw [if_neg (by omega)])); (try (rw [if_pos (by omega)])); (try with_reducible rfl)))
    (try simp only [Act.put, List.setIfInBounds_toArray, List.set_cons_zero, List.set_cons_succ])
    refine wpAnyH_done (by kernel_rfl) ?_ _
    apply HK
    have HH := Lib.hid hHeld
    have HDM := Lib.hid hdm
    clear hHeld HK hm hb1 hdm
    go_wp2_with fail
    go_ret3
    exact ⟨m, HM.out, HH.out.mono H.out.bound, (Fr.refl w _).below HH.out, .inl ⟨HDM.out, ⟨_, _, rfl⟩, H.out.below HH.out⟩⟩
end Go.Proofs.Ytkhhkbigpaoinaa
