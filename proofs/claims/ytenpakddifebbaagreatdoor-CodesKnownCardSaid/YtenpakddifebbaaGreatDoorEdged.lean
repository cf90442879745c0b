/- custodylaw02.edged: by contract. -/
import Derived.Test.YtenpakddifebbaaGreatDoorShown
import Derived.Deep.DeepCutAuto
import Derived.Deep.QuietTactic
import Derived.BigQuiet
namespace Go.Proofs.YtenpakddifebbaaGreatDoor
set_option linter.unusedVariables false
set_option linter.unusedSimpArgs false
open Go.RowKit

def goodS : List ByteArray := [⟨#[85, 83, 48, 51, 55, 56, 51, 51, 49, 48, 48, 53]⟩, ⟨#[68, 69, 48, 48, 48, 66, 65, 89, 48, 48, 49, 55]⟩, ⟨#[88, 83, 48, 48, 48, 48, 48, 48, 48, 48, 48, 57]⟩, ⟨#[55, 76, 84, 87, 70, 90, 89, 73, 67, 78, 83, 88, 56, 68, 54, 50, 49, 75, 56, 54]⟩, ⟨#[73, 78, 82, 50, 69, 74, 78, 49, 69, 82, 65, 78, 48, 87, 53, 90, 80, 57, 55, 52]⟩, ⟨#[48, 48, 48, 48, 48, 48, 48, 48, 48, 48, 48, 48, 48, 48, 48, 48, 48, 48, 57, 56]⟩, ⟨#[68, 69, 85, 84, 68, 69, 70, 70]⟩, ⟨#[68, 69, 85, 84, 68, 69, 70, 70, 88, 88, 88]⟩, ⟨#[68, 69, 85, 84, 68, 69, 70, 70, 53, 48, 48]⟩, ⟨#[69, 85, 82]⟩, ⟨#[68, 69, 56, 57, 51, 55, 48, 52, 48, 48, 52, 52, 48, 53, 51, 50, 48, 49, 51, 48, 48, 48]⟩]
def goodV : Array Value := (goodS.map Value.string).toArray
theorem good_lit : goodV = #[.string ⟨#[85, 83, 48, 51, 55, 56, 51, 51, 49, 48, 48, 53]⟩, .string ⟨#[68, 69, 48, 48, 48, 66, 65, 89, 48, 48, 49, 55]⟩, .string ⟨#[88, 83, 48, 48, 48, 48, 48, 48, 48, 48, 48, 57]⟩, .string ⟨#[55, 76, 84, 87, 70, 90, 89, 73, 67, 78, 83, 88, 56, 68, 54, 50, 49, 75, 56, 54]⟩, .string ⟨#[73, 78, 82, 50, 69, 74, 78, 49, 69, 82, 65, 78, 48, 87, 53, 90, 80, 57, 55, 52]⟩, .string ⟨#[48, 48, 48, 48, 48, 48, 48, 48, 48, 48, 48, 48, 48, 48, 48, 48, 48, 48, 57, 56]⟩, .string ⟨#[68, 69, 85, 84, 68, 69, 70, 70]⟩, .string ⟨#[68, 69, 85, 84, 68, 69, 70, 70, 88, 88, 88]⟩, .string ⟨#[68, 69, 85, 84, 68, 69, 70, 70, 53, 48, 48]⟩, .string ⟨#[69, 85, 82]⟩, .string ⟨#[68, 69, 56, 57, 51, 55, 48, 52, 48, 48, 52, 52, 48, 53, 51, 50, 48, 49, 51, 48, 48, 48]⟩] := rfl
theorem good_at (i : Nat) (h : i < 11) : ∃ b : ByteArray, goodV[i]? = some (.string b) ∧ b.size ≤ 22 := by
  have : i = 0 ∨ i = 1 ∨ i = 2 ∨ i = 3 ∨ i = 4 ∨ i = 5 ∨ i = 6 ∨ i = 7 ∨ i = 8 ∨ i = 9 ∨ i = 10 := by omega
  rcases this with rfl | rfl | rfl | rfl | rfl | rfl | rfl | rfl | rfl | rfl | rfl <;> exact ⟨_, rfl, by decide⟩
theorem exec_load_str {w : World} {a : Act} {o : Oper} {x : Operand} {b off : Nat} {s : ByteArray} (ho : o.op = .load 9 x) (hx : a.eval x = .pointer (some ⟨b, off, none⟩)) (hc : w.cell? ⟨b, off, none⟩ = some (.string s)) : (execOp a.eval o).run Tryz.prog w = .ok (.value (.string s)) w := by
  have h1 : ∀ w, (isAgg 9).run Tryz.prog w = .ok false w := fun w => by kernel_rfl
  unfold execOp
  simp only [ho, hx]
  simp [go_sem, hc, h1]
theorem ext_le (s : ByteArray) (a b n : Nat) (h : s.size ≤ n) : (s.extract a b).size ≤ n := by
  rw [ByteArray.size_extract]; omega

theorem run_byteString3 (w : World) (c d e : Nat) (h : c < 256) (h2 : d < 256) (h3 : e < 256) : (convert 46 9 (.slice (some ⟨w.heap.size, 0, none⟩) 3 3)).run Tryz.prog (w.alloc (.cells #[.int .u8 (c : Int), .int .u8 (d : Int), .int .u8 (e : Int)] 5)) = .ok (.string ⟨#[UInt8.ofNat c, UInt8.ofNat d, UInt8.ofNat e]⟩) (w.alloc (.cells #[.int .u8 (c : Int), .int .u8 (d : Int), .int .u8 (e : Int)] 5)) := by
  have ev : ∀ x : Nat, x < 256 → ((UInt8.ofNat x).toNat : Int) = x := fun x hx => by
    have : x % 256 = x := Nat.mod_eq_of_lt hx
    simp [this]
  have e1 := ev c h
  have e2 := ev d h2
  have e3 := ev e h3
  have := run_convert_bytes_back (P := Tryz.prog) (w.alloc (.cells #[.int .u8 (c : Int), .int .u8 (d : Int), .int .u8 (e : Int)] 5)) 46 9 5 ⟨w.heap.size, 0, none⟩ 3 [UInt8.ofNat c, UInt8.ofNat d, UInt8.ofNat e] Tryz.underlying46 Tryz.underlying5 Tryz.underlying9 (fun j hj => by
    have hj0 : j = 0 ∨ j = 1 ∨ j = 2 := by simp at hj; omega
    rcases hj0 with rfl | rfl | rfl
    · show (w.alloc (.cells #[.int .u8 (c : Int), .int .u8 (d : Int), .int .u8 (e : Int)] 5)).cell? ⟨w.heap.size, 0, none⟩ = _
      rw [cell_of_row _ _ _ _ _ _ (heap_alloc_new _ _)]
      simp [e1]
      omega
    · show (w.alloc (.cells #[.int .u8 (c : Int), .int .u8 (d : Int), .int .u8 (e : Int)] 5)).cell? ⟨w.heap.size, 1, none⟩ = _
      rw [cell_of_row _ _ _ _ _ _ (heap_alloc_new _ _)]
      simp [e2]
      omega
    · show (w.alloc (.cells #[.int .u8 (c : Int), .int .u8 (d : Int), .int .u8 (e : Int)] 5)).cell? ⟨w.heap.size, 2, none⟩ = _
      rw [cell_of_row _ _ _ _ _ _ (heap_alloc_new _ _)]
      simp [e3]
      omega)
  exact this
set_option maxRecDepth 100000 in
set_option maxHeartbeats 8000000 in
theorem edged_any (w : World) (hok : Ok w) :
    Calls Tryz.prog 5 #[] w fun e w' => e = .returned (.bool true) ∧ Below w.heap.size w w' := by
  have HOK := Lib.hid hok
  clear hok
  go_enter Tryz.func5, Tryz.ntmps5
  go_wp2_with fail
  go_loopw [2, 3, 4] (fun i _ _ wr => ∃ k : Nat, k ≤ 11 ∧ i = .int .i64 k ∧ wr.heap[w.heap.size]? = some (.cells goodV 9 (0, 0)) ∧ Below w.heap.size w wr) (fun i _ _ _ => 11 - (intOf i).toNat)
  case atStart => exact ⟨0, by omega, rfl, by rw [good_lit]; exact heap_alloc_new _ _, (Below.refl _ _).alloc (Nat.le_refl _) _⟩
  case round =>
    obtain ⟨i, hi, rfl, hg, hB⟩ := hrel
    by_cases hlt : i < 11
    · obtain ⟨G, hGi, hGs⟩ := good_at i hlt
      have HGI := Lib.hid hGi
      clear hGi
      have hib : decide ((i : Int) < 11) = true := by simp; omega
      have hii : (i : Int) < 11 := by omega
      go_wp2_with fail
      obtain ⟨wo, rfl⟩ : ∃ wo : World, wo = wr := ⟨_, rfl⟩
      go_loopw [3, 4] (fun kv _ wr => ∃ k : Nat, k ≤ G.size ∧ kv = .int .i64 k ∧ wr.heap[w.heap.size]? = some (.cells goodV 9 (0, 0)) ∧ Below w.heap.size w wr) (fun kv _ _ => G.size - (intOf kv).toNat)
      case atStart => exact ⟨0, by omega, rfl, hg, hB⟩
      case round =>
        clear hg hB
        obtain ⟨k, hk, rfl, hg, hB⟩ := hrel
        have hc : wr.cell? ⟨w.heap.size, i, none⟩ = some (.string G) := by rw [cell_of_row _ _ _ _ _ _ hg]; exact HGI.out
        by_cases hkl : k < G.size
        · go_wp2_with fail
          obtain ⟨wp, rfl⟩ : ∃ wp : World, wp = wr := ⟨_, rfl⟩
          go_loopw [4] (fun cv wr => ∃ c : Nat, c ≤ 256 ∧ cv = .int .i64 c ∧ wr.heap[w.heap.size]? = some (.cells goodV 9 (0, 0)) ∧ Below w.heap.size w wr) (fun cv _ => 256 - (intOf cv).toNat)
          case atStart => exact ⟨0, by omega, rfl, hg, hB⟩
          case round =>
            clear hg hB hc
            obtain ⟨c, hc1, rfl, hg, hB⟩ := hrel
            have hc : ∀ w' : World, w'.heap[w.heap.size]? = some (.cells goodV 9 (0, 0)) → w'.cell? ⟨w.heap.size, i, none⟩ = some (.string G) := fun w' hg => by rw [cell_of_row _ _ _ _ _ _ hg]; exact HGI.out
            by_cases hcl : c < 256
            · go_wp2_with fail
              have hcv : (convert 46 9 (.slice (some ⟨wr.heap.size, 0, none⟩) 1 1)).run Tryz.prog ((wr.alloc (.cells #[.int .u8 (c : Int)] 5)).drew) = .ok (.string ⟨#[UInt8.ofNat c]⟩) ((wr.alloc (.cells #[.int .u8 (c : Int)] 5)).drew) := run_byteString wr.drew c hcl
              have e1 : ({ data := #[UInt8.ofNat c] } : ByteArray).size = 1 := rfl
              have hw1 : IntKind.i64.wrap ((k : Int) + 1) = (k : Int) + 1 := IntWalk.i64_in _ (by omega)
              have hw2 : IntKind.u8.wrap (c : Int) = (c : Int) := IntWalk.u8_in _ (by omega)
              have hn1 : (0 : Int) ≤ (k : Int) + 1 := by omega
              have hn3 : (k : Int) + 1 ≤ (G.size : Int) := by omega
              have hn2 : ((k : Int) + 1).toNat = k + 1 := by omega
              have hsz : (G.extract 0 k ++ ({ data := #[UInt8.ofNat c] } : ByteArray) ++ G.extract (k + 1) G.size).size ≤ 100 := by
                simp only [ByteArray.size_append, ByteArray.size_extract]
                show _ + 1 + _ ≤ 100
                omega
              refine wp_region_held_drew (S := fun w' => w'.heap[w.heap.size]? = some (.cells goodV 9 (0, 0)) ∧ Below w.heap.size w w') (by kernel_rfl) ⟨hg, hB.drew⟩ (fun hHeld => ?_)
              (refine rg_yes 0 ?v1 (by simp only [List.getElem?_toArray, List.getElem?_cons_succ, List.getElem?_cons_zero]; rfl) (by kernel_rfl) (by kernel_rfl) (by kernel_rfl) (by exact fun _ _ _ h => h) (by kernel_rfl) (by assumption) ?y1 ?z1; case y1 => (intro w hSw; (try dsimp only at hSw); go_simp; (try (rw [if_neg (by omega)])); (try with_reducible rfl)))
              (try simp only [Act.put, List.setIfInBounds_toArray, List.set_cons_zero, List.set_cons_succ])
              (refine rg_yes 1 ?v2 (by simp only [List.getElem?_toArray, List.getElem?_cons_succ, List.getElem?_cons_zero]; rfl) (by kernel_rfl) (by kernel_rfl) (by kernel_rfl) (by exact fun _ _ _ h => h) (by kernel_rfl) (by assumption) ?y2 ?z2; case y2 => (intro w hSw; (try dsimp only at hSw); go_simp; (try (rw [if_neg (by omega)])); (try with_reducible rfl)))
              (try simp only [Act.put, List.setIfInBounds_toArray, List.set_cons_zero, List.set_cons_succ])
              (refine rg_yes 2 ?v3 (by simp only [List.getElem?_toArray, List.getElem?_cons_succ, List.getElem?_cons_zero]; rfl) (by kernel_rfl) (by kernel_rfl) (by kernel_rfl) (by exact fun _ _ _ h => h) (by kernel_rfl) (by assumption) ?y3 ?z3; case y3 => (intro w hSw; (try dsimp only at hSw); go_simp; (try (rw [if_neg (by omega)])); (try with_reducible rfl)))
              (try simp only [Act.put, List.setIfInBounds_toArray, List.set_cons_zero, List.set_cons_succ])
              refine rg_yes 3 _ (by simp only [List.getElem?_toArray, List.getElem?_cons_succ, List.getElem?_cons_zero]; rfl) (by kernel_rfl) (by kernel_rfl) (by kernel_rfl) (by exact fun _ _ _ h => h) (by kernel_rfl) (by assumption) (by exact fun w' hS => (exec_load_str rfl rfl (hc _ hS.1))) ?_
              (try simp only [Act.put, List.setIfInBounds_toArray, List.set_cons_zero, List.set_cons_succ])
              (refine rg_yes 4 ?v4 (by simp only [List.getElem?_toArray, List.getElem?_cons_succ, List.getElem?_cons_zero]; rfl) (by kernel_rfl) (by kernel_rfl) (by kernel_rfl) (by exact fun _ _ _ h => h) (by kernel_rfl) (by assumption) ?y4 ?z4; case y4 => (intro w hSw; (try dsimp only at hSw); go_simp; (try (rw [if_neg (by omega)])); (try with_reducible rfl)))
              (try simp only [Act.put, List.setIfInBounds_toArray, List.set_cons_zero, List.set_cons_succ])
              (refine rg_yes 5 ?v5 (by simp only [List.getElem?_toArray, List.getElem?_cons_succ, List.getElem?_cons_zero]; rfl) (by kernel_rfl) (by kernel_rfl) (by kernel_rfl) (by exact fun _ _ _ h => h) (by kernel_rfl) (by assumption) ?y5 ?z5; case y5 => (intro w hSw; (try dsimp only at hSw); go_simp; (try (rw [if_neg (by omega)])); (try with_reducible rfl)))
              (try simp only [Act.put, List.setIfInBounds_toArray, List.set_cons_zero, List.set_cons_succ])
              (refine rg_yes 6 ?v6 (by simp only [List.getElem?_toArray, List.getElem?_cons_succ, List.getElem?_cons_zero]; rfl) (by kernel_rfl) (by kernel_rfl) (by kernel_rfl) (by exact fun _ _ _ h => h) (by kernel_rfl) (by assumption) ?y6 ?z6; case y6 => (intro w hSw; (try dsimp only at hSw); go_simp; (try (rw [if_neg (by omega)])); (try with_reducible rfl)))
              (try simp only [Act.put, List.setIfInBounds_toArray, List.set_cons_zero, List.set_cons_succ])
              (refine rg_yes 7 ?v7 (by simp only [List.getElem?_toArray, List.getElem?_cons_succ, List.getElem?_cons_zero]; rfl) (by kernel_rfl) (by kernel_rfl) (by kernel_rfl) (by exact fun _ _ _ h => h) (by kernel_rfl) (by assumption) ?y7 ?z7; case y7 => (intro w hSw; (try dsimp only at hSw); go_simp; (try (rw [if_neg (by omega)])); (try with_reducible rfl)))
              (try simp only [Act.put, List.setIfInBounds_toArray, List.set_cons_zero, List.set_cons_succ])
              (refine rg_yes 11 ?v8 (by simp only [List.getElem?_toArray, List.getElem?_cons_succ, List.getElem?_cons_zero]; rfl) (by kernel_rfl) (by kernel_rfl) (by kernel_rfl) (by exact fun _ _ _ h => h) (by kernel_rfl) (by assumption) ?y8 ?z8; case y8 => (intro w hSw; (try dsimp only at hSw); go_simp; (try (rw [if_neg (by omega)])); (try with_reducible rfl)))
              (try simp only [Act.put, List.setIfInBounds_toArray, List.set_cons_zero, List.set_cons_succ])
              (refine rg_yes 12 ?v9 (by simp only [List.getElem?_toArray, List.getElem?_cons_succ, List.getElem?_cons_zero]; rfl) (by kernel_rfl) (by kernel_rfl) (by kernel_rfl) (by exact fun _ _ _ h => h) (by kernel_rfl) (by assumption) ?y9 ?z9; case y9 => (intro w hSw; (try dsimp only at hSw); go_simp; (try (rw [if_neg (by omega)])); (try with_reducible rfl)))
              (try simp only [Act.put, List.setIfInBounds_toArray, List.set_cons_zero, List.set_cons_succ])
              (refine rg_yes 13 ?v10 (by simp only [List.getElem?_toArray, List.getElem?_cons_succ, List.getElem?_cons_zero]; rfl) (by kernel_rfl) (by kernel_rfl) (by kernel_rfl) (by exact fun _ _ _ h => h) (by kernel_rfl) (by assumption) ?y10 ?z10; case y10 => (intro w hSw; (try dsimp only at hSw); go_simp; (try (rw [if_neg (by omega)])); (try with_reducible rfl)))
              (try simp only [Act.put, List.setIfInBounds_toArray, List.set_cons_zero, List.set_cons_succ])
              refine rg_yes 14 _ (by simp only [List.getElem?_toArray, List.getElem?_cons_succ, List.getElem?_cons_zero]; rfl) (by kernel_rfl) (by kernel_rfl) (by kernel_rfl) (by exact fun _ _ _ h => h) (by kernel_rfl) (by assumption) (by exact fun w' hS => (exec_load_str rfl rfl (hc _ hS.1))) ?_
              (try simp only [Act.put, List.setIfInBounds_toArray, List.set_cons_zero, List.set_cons_succ])
              (refine rg_yes 15 ?v11 (by simp only [List.getElem?_toArray, List.getElem?_cons_succ, List.getElem?_cons_zero]; rfl) (by kernel_rfl) (by kernel_rfl) (by kernel_rfl) (by exact fun _ _ _ h => h) (by kernel_rfl) (by assumption) ?y11 ?z11; case y11 => (intro w hSw; (try dsimp only at hSw); go_simp; (try (rw [if_neg (by omega)])); (try with_reducible rfl)))
              (try simp only [Act.put, List.setIfInBounds_toArray, List.set_cons_zero, List.set_cons_succ])
              (refine rg_yes 16 ?v12 (by simp only [List.getElem?_toArray, List.getElem?_cons_succ, List.getElem?_cons_zero]; rfl) (by kernel_rfl) (by kernel_rfl) (by kernel_rfl) (by exact fun _ _ _ h => h) (by kernel_rfl) (by assumption) ?y12 ?z12; case y12 => (intro w hSw; (try dsimp only at hSw); go_simp; (try (rw [if_neg (by omega)])); (try with_reducible rfl)))
              (try simp only [Act.put, List.setIfInBounds_toArray, List.set_cons_zero, List.set_cons_succ])
              (refine rg_yes 17 ?v13 (by simp only [List.getElem?_toArray, List.getElem?_cons_succ, List.getElem?_cons_zero]; rfl) (by kernel_rfl) (by kernel_rfl) (by kernel_rfl) (by exact fun _ _ _ h => h) (by kernel_rfl) (by assumption) ?y13 ?z13; case y13 => (intro w hSw; (try dsimp only at hSw); go_simp; (try (rw [if_neg (by omega)])); (try with_reducible rfl)))
              (try simp only [Act.put, List.setIfInBounds_toArray, List.set_cons_zero, List.set_cons_succ])
              refine rg_one 8 _ _ (by simp only [List.getElem?_toArray, List.getElem?_cons_succ, List.getElem?_cons_zero]; rfl) (by kernel_rfl) (by kernel_rfl) (by go_simp; first | exact ⟨rfl, rfl⟩ | rfl) ⟨(heap_alloc_old _ _ (lt_of_block hHeld.1)).trans hHeld.1, hHeld.2.alloc hHeld.2.size _⟩ (fun hHeld => ?_)
              (try simp only [Act.put, List.setIfInBounds_toArray, List.set_cons_zero, List.set_cons_succ])
              refine rg_one 9 _ _ (by simp only [List.getElem?_toArray, List.getElem?_cons_succ, List.getElem?_cons_zero]; rfl) (by kernel_rfl) (by kernel_rfl) (by go_simp; first | exact ⟨rfl, rfl⟩ | rfl) hHeld (fun hHeld => ?_)
              (try simp only [Act.put, List.setIfInBounds_toArray, List.set_cons_zero, List.set_cons_succ])
              (refine rg_yes 10 ?v14 (by simp only [List.getElem?_toArray, List.getElem?_cons_succ, List.getElem?_cons_zero]; rfl) (by kernel_rfl) (by kernel_rfl) (by kernel_rfl) (by exact fun _ _ _ h => h) (by kernel_rfl) (by assumption) ?y14 ?z14; case y14 => (intro w hSw; (try dsimp only at hSw); go_simp; (try (rw [if_neg (by omega)])); (try with_reducible rfl)))
              (try simp only [Act.put, List.setIfInBounds_toArray, List.set_cons_zero, List.set_cons_succ])
              (refine rg_yes 18 ?v15 (by simp only [List.getElem?_toArray, List.getElem?_cons_succ, List.getElem?_cons_zero]; rfl) (by kernel_rfl) (by kernel_rfl) (by kernel_rfl) (by exact fun _ _ _ h => h) (by kernel_rfl) (by assumption) ?y15 ?z15; case y15 => (intro w hSw; (try dsimp only at hSw); go_simp; (try (rw [if_neg (by omega)])); (try with_reducible rfl)))
              (try simp only [Act.put, List.setIfInBounds_toArray, List.set_cons_zero, List.set_cons_succ])
              (refine rg_yes 19 ?v16 (by simp only [List.getElem?_toArray, List.getElem?_cons_succ, List.getElem?_cons_zero]; rfl) (by kernel_rfl) (by kernel_rfl) (by kernel_rfl) (by exact fun _ _ _ h => h) (by kernel_rfl) (by assumption) ?y16 ?z16; case y16 => (intro w hSw; (try dsimp only at hSw); go_simp; (try (rw [if_neg (by omega)])); (try with_reducible rfl)))
              (try simp only [Act.put, List.setIfInBounds_toArray, List.set_cons_zero, List.set_cons_succ])
              refine wpAnyH_done (by kernel_rfl) ?_ _
              obtain ⟨hg1, hB1⟩ := hHeld
              clear hcv hg hB hw1 hw2 hn1 hn2 hn3 e1
              generalize G.extract 0 k ++ ({ data := #[UInt8.ofNat c] } : ByteArray) ++ G.extract (k + 1) G.size = t at hsz ⊢
              generalize wr.drew.alloc (.cells #[.int .u8 (c : Int)] 5) = w1 at hg1 hB1 ⊢
              have hst : t.size ≤ 140737488351232 := by omega
              by_cases h128 : c < 128
              · go_wp2_with fail
                refine (codesForms_law t _ hst (Ok.below HOK.out hB1)).mono ?_
                rintro e w2 ⟨rfl, hb2⟩
                have hg2 := rowAt_below hg1 hb2
                have hB2 := hB1.trans (hb2.mono hB1.size)
                clear hg1 hB1 hb2
                go_wp2_with fail
                refine (codesIsin_law t _ hst (Ok.below HOK.out hB2)).mono ?_
                rintro e w3 ⟨rfl, hb3⟩
                have hg3 := rowAt_below hg2 hb3
                have hB3 := hB2.trans (hb3.mono hB2.size)
                clear hg2 hB2 hb3
                go_wp2_with fail
                refine (codesLei_law t _ hst (Ok.below HOK.out hB3)).mono ?_
                rintro e w4 ⟨rfl, hb4⟩
                have hg4 := rowAt_below hg3 hb4
                have hB4 := hB3.trans (hb4.mono hB3.size)
                clear hg3 hB3 hb4
                go_wp2_with fail
                exact ⟨⟨c + 1, by omega, by go_num, hg4, hB4⟩, by simp [intOf]; omega⟩
              · go_wp2_with fail
                refine (codesForms_law t _ hst (Ok.below HOK.out hB1)).mono ?_
                rintro e w2 ⟨rfl, hb2⟩
                have hg2 := rowAt_below hg1 hb2
                have hB2 := hB1.trans (hb2.mono hB1.size)
                clear hg1 hB1 hb2
                go_wp2_with fail
                exact ⟨⟨c + 1, by omega, by go_num, hg2, hB2⟩, by simp [intOf]; omega⟩
            · go_wp2_with fail
              have hsz1 : (G.extract 0 k).size ≤ 22 := ext_le _ _ _ _ hGs
              have hsz2 : (G ++ G.extract 0 k).size ≤ 44 := by rw [ByteArray.size_append]; omega
              refine wp_region_held_drew (S := fun w' => w'.heap[w.heap.size]? = some (.cells goodV 9 (0, 0)) ∧ Below w.heap.size w w') (by kernel_rfl) ⟨hg, hB.drew⟩ (fun hHeld => ?_)
              (refine rg_yes 0 ?v17 (by simp only [List.getElem?_toArray, List.getElem?_cons_succ, List.getElem?_cons_zero]; rfl) (by kernel_rfl) (by kernel_rfl) (by kernel_rfl) (by exact fun _ _ _ h => h) (by kernel_rfl) (by assumption) ?y17 ?z17; case y17 => (intro w hSw; (try dsimp only at hSw); go_simp; (try (rw [if_neg (by omega)])); (try with_reducible rfl)))
              (try simp only [Act.put, List.setIfInBounds_toArray, List.set_cons_zero, List.set_cons_succ])
              (refine rg_yes 1 ?v18 (by simp only [List.getElem?_toArray, List.getElem?_cons_succ, List.getElem?_cons_zero]; rfl) (by kernel_rfl) (by kernel_rfl) (by kernel_rfl) (by exact fun _ _ _ h => h) (by kernel_rfl) (by assumption) ?y18 ?z18; case y18 => (intro w hSw; (try dsimp only at hSw); go_simp; (try (rw [if_neg (by omega)])); (try with_reducible rfl)))
              (try simp only [Act.put, List.setIfInBounds_toArray, List.set_cons_zero, List.set_cons_succ])
              (refine rg_yes 2 ?v19 (by simp only [List.getElem?_toArray, List.getElem?_cons_succ, List.getElem?_cons_zero]; rfl) (by kernel_rfl) (by kernel_rfl) (by kernel_rfl) (by exact fun _ _ _ h => h) (by kernel_rfl) (by assumption) ?y19 ?z19; case y19 => (intro w hSw; (try dsimp only at hSw); go_simp; (try (rw [if_neg (by omega)])); (try with_reducible rfl)))
              (try simp only [Act.put, List.setIfInBounds_toArray, List.set_cons_zero, List.set_cons_succ])
              refine rg_yes 3 _ (by simp only [List.getElem?_toArray, List.getElem?_cons_succ, List.getElem?_cons_zero]; rfl) (by kernel_rfl) (by kernel_rfl) (by kernel_rfl) (by exact fun _ _ _ h => h) (by kernel_rfl) (by assumption) (by exact fun w' hS => (exec_load_str rfl rfl (hc _ hS.1))) ?_
              (try simp only [Act.put, List.setIfInBounds_toArray, List.set_cons_zero, List.set_cons_succ])
              (refine rg_yes 4 ?v20 (by simp only [List.getElem?_toArray, List.getElem?_cons_succ, List.getElem?_cons_zero]; rfl) (by kernel_rfl) (by kernel_rfl) (by kernel_rfl) (by exact fun _ _ _ h => h) (by kernel_rfl) (by assumption) ?y20 ?z20; case y20 => (intro w hSw; (try dsimp only at hSw); go_simp; (try (rw [if_neg (by omega)])); (try with_reducible rfl)))
              (try simp only [Act.put, List.setIfInBounds_toArray, List.set_cons_zero, List.set_cons_succ])
              (refine rg_yes 5 ?v21 (by simp only [List.getElem?_toArray, List.getElem?_cons_succ, List.getElem?_cons_zero]; rfl) (by kernel_rfl) (by kernel_rfl) (by kernel_rfl) (by exact fun _ _ _ h => h) (by kernel_rfl) (by assumption) ?y21 ?z21; case y21 => (intro w hSw; (try dsimp only at hSw); go_simp; (try (rw [if_neg (by omega)])); (try with_reducible rfl)))
              (try simp only [Act.put, List.setIfInBounds_toArray, List.set_cons_zero, List.set_cons_succ])
              refine rg_call 6 _ _ (by simp only [List.getElem?_toArray, List.getElem?_cons_succ, List.getElem?_cons_zero]; rfl) (by kernel_rfl) (by kernel_rfl) (fun w => by go_simp; exact ⟨rfl, rfl⟩) ?_
              refine (every_any _ _ (by omega) (Ok.below HOK.out hHeld.2)).mono ?_
              rintro e w2 ⟨rfl, hb2⟩
              refine ⟨_, rfl, ⟨rowAt_below hHeld.1 hb2, hHeld.2.trans (hb2.mono hHeld.2.size)⟩, fun hHeld => ?_⟩
              (refine rg_yes 7 ?v22 (by simp only [List.getElem?_toArray, List.getElem?_cons_succ, List.getElem?_cons_zero]; rfl) (by kernel_rfl) (by kernel_rfl) (by kernel_rfl) (by exact fun _ _ _ h => h) (by kernel_rfl) (by assumption) ?y22 ?z22; case y22 => (intro w hSw; (try dsimp only at hSw); go_simp; (try (rw [if_neg (by omega)])); (try with_reducible rfl)))
              (try simp only [Act.put, List.setIfInBounds_toArray, List.set_cons_zero, List.set_cons_succ])
              (refine rg_yes 8 ?v23 (by simp only [List.getElem?_toArray, List.getElem?_cons_succ, List.getElem?_cons_zero]; rfl) (by kernel_rfl) (by kernel_rfl) (by kernel_rfl) (by exact fun _ _ _ h => h) (by kernel_rfl) (by assumption) ?y23 ?z23; case y23 => (intro w hSw; (try dsimp only at hSw); go_simp; (try (rw [if_neg (by omega)])); (try with_reducible rfl)))
              (try simp only [Act.put, List.setIfInBounds_toArray, List.set_cons_zero, List.set_cons_succ])
              (refine rg_yes 9 ?v24 (by simp only [List.getElem?_toArray, List.getElem?_cons_succ, List.getElem?_cons_zero]; rfl) (by kernel_rfl) (by kernel_rfl) (by kernel_rfl) (by exact fun _ _ _ h => h) (by kernel_rfl) (by assumption) ?y24 ?z24; case y24 => (intro w hSw; (try dsimp only at hSw); go_simp; (try (rw [if_neg (by omega)])); (try with_reducible rfl)))
              (try simp only [Act.put, List.setIfInBounds_toArray, List.set_cons_zero, List.set_cons_succ])
              (refine rg_yes 10 ?v25 (by simp only [List.getElem?_toArray, List.getElem?_cons_succ, List.getElem?_cons_zero]; rfl) (by kernel_rfl) (by kernel_rfl) (by kernel_rfl) (by exact fun _ _ _ h => h) (by kernel_rfl) (by assumption) ?y25 ?z25; case y25 => (intro w hSw; (try dsimp only at hSw); go_simp; (try (rw [if_neg (by omega)])); (try with_reducible rfl)))
              (try simp only [Act.put, List.setIfInBounds_toArray, List.set_cons_zero, List.set_cons_succ])
              (refine rg_yes 11 ?v26 (by simp only [List.getElem?_toArray, List.getElem?_cons_succ, List.getElem?_cons_zero]; rfl) (by kernel_rfl) (by kernel_rfl) (by kernel_rfl) (by exact fun _ _ _ h => h) (by kernel_rfl) (by assumption) ?y26 ?z26; case y26 => (intro w hSw; (try dsimp only at hSw); go_simp; (try (rw [if_neg (by omega)])); (try with_reducible rfl)))
              (try simp only [Act.put, List.setIfInBounds_toArray, List.set_cons_zero, List.set_cons_succ])
              refine rg_yes 12 _ (by simp only [List.getElem?_toArray, List.getElem?_cons_succ, List.getElem?_cons_zero]; rfl) (by kernel_rfl) (by kernel_rfl) (by kernel_rfl) (by exact fun _ _ _ h => h) (by kernel_rfl) (by assumption) (by exact fun w' hS => (exec_load_str rfl rfl (hc _ hS.1))) ?_
              (try simp only [Act.put, List.setIfInBounds_toArray, List.set_cons_zero, List.set_cons_succ])
              (refine rg_yes 13 ?v27 (by simp only [List.getElem?_toArray, List.getElem?_cons_succ, List.getElem?_cons_zero]; rfl) (by kernel_rfl) (by kernel_rfl) (by kernel_rfl) (by exact fun _ _ _ h => h) (by kernel_rfl) (by assumption) ?y27 ?z27; case y27 => (intro w hSw; (try dsimp only at hSw); go_simp; (try (rw [if_neg (by omega)])); (try with_reducible rfl)))
              (try simp only [Act.put, List.setIfInBounds_toArray, List.set_cons_zero, List.set_cons_succ])
              (refine rg_yes 14 ?v28 (by simp only [List.getElem?_toArray, List.getElem?_cons_succ, List.getElem?_cons_zero]; rfl) (by kernel_rfl) (by kernel_rfl) (by kernel_rfl) (by exact fun _ _ _ h => h) (by kernel_rfl) (by assumption) ?y28 ?z28; case y28 => (intro w hSw; (try dsimp only at hSw); go_simp; (try (rw [if_neg (by omega)])); (try with_reducible rfl)))
              (try simp only [Act.put, List.setIfInBounds_toArray, List.set_cons_zero, List.set_cons_succ])
              (refine rg_yes 15 ?v29 (by simp only [List.getElem?_toArray, List.getElem?_cons_succ, List.getElem?_cons_zero]; rfl) (by kernel_rfl) (by kernel_rfl) (by kernel_rfl) (by exact fun _ _ _ h => h) (by kernel_rfl) (by assumption) ?y29 ?z29; case y29 => (intro w hSw; (try dsimp only at hSw); go_simp; (try (rw [if_neg (by omega)])); (try with_reducible rfl)))
              (try simp only [Act.put, List.setIfInBounds_toArray, List.set_cons_zero, List.set_cons_succ])
              refine rg_yes 16 _ (by simp only [List.getElem?_toArray, List.getElem?_cons_succ, List.getElem?_cons_zero]; rfl) (by kernel_rfl) (by kernel_rfl) (by kernel_rfl) (by exact fun _ _ _ h => h) (by kernel_rfl) (by assumption) (by exact fun w' hS => (exec_load_str rfl rfl (hc _ hS.1))) ?_
              (try simp only [Act.put, List.setIfInBounds_toArray, List.set_cons_zero, List.set_cons_succ])
              (refine rg_yes 17 ?v30 (by simp only [List.getElem?_toArray, List.getElem?_cons_succ, List.getElem?_cons_zero]; rfl) (by kernel_rfl) (by kernel_rfl) (by kernel_rfl) (by exact fun _ _ _ h => h) (by kernel_rfl) (by assumption) ?y30 ?z30; case y30 => (intro w hSw; (try dsimp only at hSw); go_simp; (try (rw [if_neg (by omega)])); (try with_reducible rfl)))
              (try simp only [Act.put, List.setIfInBounds_toArray, List.set_cons_zero, List.set_cons_succ])
              (refine rg_yes 18 ?v31 (by simp only [List.getElem?_toArray, List.getElem?_cons_succ, List.getElem?_cons_zero]; rfl) (by kernel_rfl) (by kernel_rfl) (by kernel_rfl) (by exact fun _ _ _ h => h) (by kernel_rfl) (by assumption) ?y31 ?z31; case y31 => (intro w hSw; (try dsimp only at hSw); go_simp; (try (rw [if_neg (by omega)])); (try with_reducible rfl)))
              (try simp only [Act.put, List.setIfInBounds_toArray, List.set_cons_zero, List.set_cons_succ])
              (refine rg_yes 19 ?v32 (by simp only [List.getElem?_toArray, List.getElem?_cons_succ, List.getElem?_cons_zero]; rfl) (by kernel_rfl) (by kernel_rfl) (by kernel_rfl) (by exact fun _ _ _ h => h) (by kernel_rfl) (by assumption) ?y32 ?z32; case y32 => (intro w hSw; (try dsimp only at hSw); go_simp; (try (rw [if_neg (by omega)])); (try with_reducible rfl)))
              (try simp only [Act.put, List.setIfInBounds_toArray, List.set_cons_zero, List.set_cons_succ])
              refine rg_call 20 _ _ (by simp only [List.getElem?_toArray, List.getElem?_cons_succ, List.getElem?_cons_zero]; rfl) (by kernel_rfl) (by kernel_rfl) (fun w => by go_simp; exact ⟨rfl, rfl⟩) ?_
              refine (every_any _ _ (by omega) (Ok.below HOK.out hHeld.2)).mono ?_
              rintro e w3 ⟨rfl, hb3⟩
              refine ⟨_, rfl, ⟨rowAt_below hHeld.1 hb3, hHeld.2.trans (hb3.mono hHeld.2.size)⟩, fun hHeld => ?_⟩
              (refine rg_yes 21 ?v33 (by simp only [List.getElem?_toArray, List.getElem?_cons_succ, List.getElem?_cons_zero]; rfl) (by kernel_rfl) (by kernel_rfl) (by kernel_rfl) (by exact fun _ _ _ h => h) (by kernel_rfl) (by assumption) ?y33 ?z33; case y33 => (intro w hSw; (try dsimp only at hSw); go_simp; (try (rw [if_neg (by omega)])); (try with_reducible rfl)))
              (try simp only [Act.put, List.setIfInBounds_toArray, List.set_cons_zero, List.set_cons_succ])
              (refine rg_yes 22 ?v34 (by simp only [List.getElem?_toArray, List.getElem?_cons_succ, List.getElem?_cons_zero]; rfl) (by kernel_rfl) (by kernel_rfl) (by kernel_rfl) (by exact fun _ _ _ h => h) (by kernel_rfl) (by assumption) ?y34 ?z34; case y34 => (intro w hSw; (try dsimp only at hSw); go_simp; (try (rw [if_neg (by omega)])); (try with_reducible rfl)))
              (try simp only [Act.put, List.setIfInBounds_toArray, List.set_cons_zero, List.set_cons_succ])
              refine wpAnyH_done (by kernel_rfl) ?_ _
              go_wp2_with fail
              exact ⟨⟨k + 1, by omega, by go_num, hHeld.1, hHeld.2⟩, by simp [intOf]; omega⟩
        · go_wp2_with fail
          exact ⟨⟨i + 1, by omega, by go_num, hg, hB⟩, by simp [intOf]; omega⟩
    · go_wp2_with fail
      clear hg hi hlt
      go_loopw [6] (fun nv wr => ∃ n : Nat, n ≤ 40 ∧ nv = .int .i64 n ∧ Below w.heap.size w wr) (fun nv _ => 40 - (intOf nv).toNat)
      case atStart => exact ⟨0, by omega, rfl, hB⟩
      case round =>
        clear hB
        obtain ⟨n, hn, rfl, hB⟩ := hrel
        by_cases hlt : n < 40
        · skip
          go_wp2_with fail
          refine (times_any ⟨#[65]⟩ n _ (Nat.le_refl 1) (by omega)).mono ?_
          rintro e x1 ⟨t1, ht1, rfl, rfl⟩
          go_wp2_with fail
          refine (every_any t1 _ (by omega) (Ok.below HOK.out hB)).mono ?_
          rintro e w1 ⟨rfl, hb1⟩
          have hB1 := hB.trans (hb1.mono hB.size)
          clear hb1
          go_wp2_with fail
          refine (times_any ⟨#[48]⟩ n _ (Nat.le_refl 1) (by omega)).mono ?_
          rintro e x2 ⟨t2, ht2, rfl, rfl⟩
          go_wp2_with fail
          refine (every_any t2 _ (by omega) (Ok.below HOK.out hB1)).mono ?_
          rintro e w2 ⟨rfl, hb2⟩
          have hB2 := hB1.trans (hb2.mono hB1.size)
          clear hb2
          go_wp2_with fail
          refine (times_any ⟨#[90]⟩ n _ (Nat.le_refl 1) (by omega)).mono ?_
          rintro e x3 ⟨t3, ht3, rfl, rfl⟩
          go_wp2_with fail
          refine (every_any t3 _ (by omega) (Ok.below HOK.out hB2)).mono ?_
          rintro e w3 ⟨rfl, hb3⟩
          have hB3 := hB2.trans (hb3.mono hB2.size)
          clear hb3
          go_wp2_with fail
          refine (times_any ⟨#[97]⟩ n _ (Nat.le_refl 1) (by omega)).mono ?_
          rintro e x4 ⟨t4, ht4, rfl, rfl⟩
          go_wp2_with fail
          refine (every_any t4 _ (by omega) (Ok.below HOK.out hB3)).mono ?_
          rintro e w4 ⟨rfl, hb4⟩
          have hB4 := hB3.trans (hb4.mono hB3.size)
          clear hb4
          go_wp2_with fail
          refine (times_any ⟨#[195]⟩ n _ (Nat.le_refl 1) (by omega)).mono ?_
          rintro e x5 ⟨t5, ht5, rfl, rfl⟩
          go_wp2_with fail
          refine (every_any t5 _ (by omega) (Ok.below HOK.out hB4)).mono ?_
          rintro e w5 ⟨rfl, hb5⟩
          have hB5 := hB4.trans (hb5.mono hB4.size)
          clear hb5
          go_wp2_with fail
          exact ⟨⟨n + 1, by omega, by go_num, hB5⟩, by simp [intOf]; omega⟩
        · go_wp2_with fail
          clear hn hlt
          go_loopw [7] (fun nv wr => ∃ n : Nat, n ≤ 200 ∧ nv = .int .i64 n ∧ Below w.heap.size w wr) (fun nv _ => 200 - (intOf nv).toNat)
          case atStart => exact ⟨0, by omega, rfl, hB⟩
          case round =>
            clear hB
            obtain ⟨n, hn, rfl, hB⟩ := hrel
            by_cases hlt : n < 200
            · have hcv := run_byteString3 wr (48 + n / 100) (48 + n / 10 % 10) (48 + n % 10) (by omega) (by omega) (by omega)
              have e3 : ((48 + n / 100 : Nat) : Int) = 48 + (n : Int) / 100 := by omega
              have e4 : ((48 + n / 10 % 10 : Nat) : Int) = 48 + (n : Int) / 10 % 10 := by omega
              have e5 : ((48 + n % 10 : Nat) : Int) = 48 + (n : Int) % 10 := by omega
              rw [e3, e4, e5] at hcv
              clear e3 e4 e5
              have u1 : IntKind.u8.wrap (48 + (n : Int) / 100) = 48 + (n : Int) / 100 := IntWalk.u8_in _ (by omega)
              have u2 : IntKind.u8.wrap (48 + (n : Int) / 10 % 10) = 48 + (n : Int) / 10 % 10 := IntWalk.u8_in _ (by omega)
              have u3 : IntKind.u8.wrap (48 + (n : Int) % 10) = 48 + (n : Int) % 10 := IntWalk.u8_in _ (by omega)
              have hps : ({ data := #[UInt8.ofNat (48 + n / 100), UInt8.ofNat (48 + n / 10 % 10), UInt8.ofNat (48 + n % 10)] } : ByteArray).size ≤ 3 := Nat.le_refl 3
              generalize ({ data := #[UInt8.ofNat (48 + n / 100), UInt8.ofNat (48 + n / 10 % 10), UInt8.ofNat (48 + n % 10)] } : ByteArray) = p at *
              have hts : (({ data := #[48, 48, 48, 48, 48, 48, 48, 48, 48, 48, 48, 48, 48, 48, 48] } : ByteArray) ++ p).size ≤ 18 := by rw [ByteArray.size_append]; show 15 + p.size ≤ 18; omega
              have hB0 := hB.alloc hB.size (.cells #[.int .u8 (48 + (n : Int) / 100), .int .u8 (48 + (n : Int) / 10 % 10), .int .u8 (48 + (n : Int) % 10)] 5)
              go_wp2_with fail
              generalize ({ data := #[48, 48, 48, 48, 48, 48, 48, 48, 48, 48, 48, 48, 48, 48, 48] } : ByteArray) ++ p = t at *
              refine (codesLei_law _ _ (by omega) (Ok.below HOK.out hB0)).mono ?_
              rintro e w0 ⟨rfl, hb0⟩
              have hC0 := hB0.trans (hb0.mono hB0.size)
              clear hb0
              go_wp2_with fail
              refine (codesLei_law _ _ (by rw [ByteArray.size_append]; show t.size + 2 ≤ _; omega) (Ok.below HOK.out hC0)).mono ?_
              rintro e w1 ⟨rfl, hb1⟩
              have hC1 := hC0.trans (hb1.mono hC0.size)
              clear hb1
              go_wp2_with fail
              refine (codesLei_law _ _ (by rw [ByteArray.size_append]; show t.size + 2 ≤ _; omega) (Ok.below HOK.out hC1)).mono ?_
              rintro e w2 ⟨rfl, hb2⟩
              have hC2 := hC1.trans (hb2.mono hC1.size)
              clear hb2
              go_wp2_with fail
              refine (codesLei_law _ _ (by rw [ByteArray.size_append]; show t.size + 2 ≤ _; omega) (Ok.below HOK.out hC2)).mono ?_
              rintro e w3 ⟨rfl, hb3⟩
              have hC3 := hC2.trans (hb3.mono hC2.size)
              clear hb3
              go_wp2_with fail
              refine (codesLei_law _ _ (by rw [ByteArray.size_append]; show t.size + 2 ≤ _; omega) (Ok.below HOK.out hC3)).mono ?_
              rintro e w4 ⟨rfl, hb4⟩
              have hC4 := hC3.trans (hb4.mono hC3.size)
              clear hb4
              go_wp2_with fail
              refine (codesLei_law _ _ (by rw [ByteArray.size_append]; show t.size + 2 ≤ _; omega) (Ok.below HOK.out hC4)).mono ?_
              rintro e w5 ⟨rfl, hb5⟩
              have hC5 := hC4.trans (hb5.mono hC4.size)
              clear hb5
              go_wp2_with fail
              refine (codesLei_law _ _ (by rw [ByteArray.size_append]; show t.size + 2 ≤ _; omega) (Ok.below HOK.out hC5)).mono ?_
              rintro e w6 ⟨rfl, hb6⟩
              have hC6 := hC5.trans (hb6.mono hC5.size)
              clear hb6
              go_wp2_with fail
              exact ⟨⟨n + 1, by omega, by go_num, hC6⟩, by simp [intOf]; omega⟩
            · go_wp2_with fail
              go_ret
              exact ⟨rfl, hB⟩
end Go.Proofs.YtenpakddifebbaaGreatDoor
