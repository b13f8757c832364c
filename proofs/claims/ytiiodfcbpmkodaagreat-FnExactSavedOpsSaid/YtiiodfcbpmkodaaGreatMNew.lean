/- The program makes an empty machine. No condition. -/
import Derived.Test.YtiiodfcbpmkodaaGreatMVal
set_option linter.unusedSimpArgs false
set_option linter.unusedVariables false
set_option maxRecDepth 100000
set_option maxHeartbeats 8000000
namespace Go.Proofs.YtiiodfcbpmkodaaGreat
open Go.ChangeShapes Go.WideShapes Go.ChangeAt Go.RowKit
attribute [local go_sem ↓] Go.wp_at_zero Go.wp_at_succ
theorem infoLst : (Tryz.prog.info? 34).map (fun i => (i.zero, i.size, i.bytes)) = some (some (.slice none 0 0), 1, 24) := by kernel_rfl
theorem infoCar : (Tryz.prog.info? 96).map (fun i => (i.zero, i.size, i.bytes)) = some (some (.agg #[.bool false, .int .i64 0]), 2, 16) := by kernel_rfl
theorem mk_lists (n : Nat) (hn : n ≤ 24) (u : World) : (Instr.makeSlice 56 (.int .i64 (n : Int)) (.int .i64 (n : Int))).run Tryz.prog u = .ok (.slice (some ⟨u.heap.size, 0, none⟩) n n) (u.alloc (.cells (madeCells #[.slice none 0 0] n) 34)) := by
  obtain ⟨i0, hi, hz0, hz1, hz2⟩ := info_parts infoLst
  have h := run_make (P := Tryz.prog) u 56 34 i0 (.slice none 0 0) Tryz.underlying56 hi hz0 .i64 .i64 (n : Int) (n : Int) (by omega) (Int.le_refl _) (by rw [hz2]; omega) (by omega)
  simpa [hz1, Value.cells] using h
theorem mk_cars (u : World) : (Instr.makeSlice 57 (.int .i64 4) (.int .i64 4)).run Tryz.prog u = .ok (.slice (some ⟨u.heap.size, 0, none⟩) 4 4) (u.alloc (.cells (madeCells #[.bool false, .int .i64 0] 8) 96)) := by
  obtain ⟨i0, hi, hz0, hz1, hz2⟩ := info_parts infoCar
  have h := run_make (P := Tryz.prog) u 57 96 i0 (.agg #[.bool false, .int .i64 0]) Tryz.underlying57 hi hz0 .i64 .i64 4 4 (by omega) (Int.le_refl _) (by rw [hz2]; omega) (by omega)
  simpa [hz1, Value.cells] using h
theorem heap_new {w : World} {i : Nat} {o : Obj} (h : i = w.heap.size) : (w.alloc o).heap[i]? = some o := by
  subst h
  exact Array.getElem?_push_size
theorem heap_old {w : World} {i : Nat} {o x : Obj} (h : w.heap[i]? = some x) : (w.alloc o).heap[i]? = some x := by
  have := (Array.getElem?_eq_some_iff.1 h).1
  show (w.heap.push o)[i]? = some x
  rw [Array.getElem?_push, if_neg (by omega)]
  exact h
theorem heap_drew {w : World} {i : Nat} {x : Obj} (h : w.heap[i]? = some x) : w.drew.heap[i]? = some x := h
theorem madeLists (n : Nat) : madeCells #[Value.slice none 0 0] n = (List.replicate n (Value.slice none 0 0)).toArray := by
  apply Array.ext
  · simp [madeCells]
  · intro i h1 h2
    simp [madeCells, Nat.mod_one]
theorem newV {w : World} {S : Nat → Prop} (n : Nat) (hn : n ≤ 24) {f b c : Nat} (hf : w.heap[f]? = some (.cells (madeCells #[.slice none 0 0] n) 34)) (hb : w.heap[b]? = some (.cells (madeCells #[.slice none 0 0] n) 34)) (hc : w.heap[c]? = some (.cells (madeCells #[.bool false, .int .i64 0] 8) 96))
    (h1 : f ≠ b) (h2 : f ≠ c) (h3 : b ≠ c) (s1 : S f) (s2 : S b) (s3 : S c) :
    MachV w S 0 (newM n) (.slice (some ⟨f, 0, none⟩) n n) (.slice (some ⟨b, 0, none⟩) n n) (.slice (some ⟨c, 0, none⟩) 4 4) (.slice none 0 0) (.slice none 0 0) (List.replicate n (.slice none 0 0)) (List.replicate n (.slice none 0 0)) := by
  have row : ∀ g, w.heap[g]? = some (.cells (madeCells #[.slice none 0 0] n) 34) → w.ownsRow 0 34 1 (.slice (some ⟨g, 0, none⟩) n n) (List.replicate n (Value.slice none 0 0)).length (List.replicate n (.slice none 0 0)) := fun g hg => by
    rw [madeLists] at hg
    refine ⟨by simp, .inr ⟨g, n, _, by simp, Nat.zero_le _, hg, by simp, by unfold Go.maxLen; omega, by simp, by simp⟩⟩
  have nil1 : OwnI w 0 (.slice none 0 0) [] := ⟨⟨by simp, .inl ⟨rfl, rfl⟩⟩, by simp⟩
  refine ⟨row f hf, row b hb, by simp [newM], by simp [newM], fun i h => ?_, fun i h => ?_, ?_, ⟨[], rfl, .inl ⟨rfl, rfl⟩⟩, ⟨[], nil1, by simp⟩, ?_, ?_⟩
  · have : i < n := by simpa using h
    simpa [newM, this] using nil1
  · have : i < n := by simpa using h
    simpa [newM, this] using nil1
  · refine ⟨by simp [newM, carCells], .inr ⟨c, 4, _, by simp [newM], Nat.zero_le _, hc, by simp [newM], by unfold Go.maxLen; omega, by simp [madeCells], ?_⟩⟩
    simp [newM, carCells, madeCells]
    rfl
  · intro v hv g hg
    simp only [List.mem_cons, List.mem_append, List.mem_replicate] at hv
    rcases hv with rfl | rfl | rfl | rfl | rfl | (⟨-, rfl⟩ | ⟨-, rfl⟩) <;> simp [Value.ownBlock] at hg <;> subst hg <;> assumption
  · have hnil : ∀ v : Value, Off2 v (.slice none 0 0) := fun v g _ h => by simp [Value.ownBlock] at h
    have hnil' : ∀ v : Value, Off2 (.slice none 0 0) v := fun v => (hnil v).symm
    have off : ∀ {a b n m c d : Nat}, a ≠ b → Off2 (.slice (some ⟨a, 0, none⟩) n c) (.slice (some ⟨b, 0, none⟩) m d) := fun hne g h1 h2 => by
      simp [Value.ownBlock] at h1 h2; omega
    have hrep : ∀ v ∈ List.replicate n (Value.slice none 0 0) ++ List.replicate n (Value.slice none 0 0), v = .slice none 0 0 := fun v hv => by
      simp only [List.mem_append, List.mem_replicate] at hv
      rcases hv with ⟨-, h⟩ | ⟨-, h⟩ <;> exact h
    refine List.pairwise_cons.2 ⟨fun v hv => ?_, List.pairwise_cons.2 ⟨fun v hv => ?_, List.pairwise_cons.2 ⟨fun v hv => ?_, List.pairwise_cons.2 ⟨fun v hv => hnil' _, List.pairwise_cons.2 ⟨fun v hv => hnil' _, ?_⟩⟩⟩⟩⟩
    · simp only [List.mem_cons] at hv
      rcases hv with rfl | rfl | rfl | rfl | hv
      · exact off h1
      · exact off h2
      · exact hnil _
      · exact hnil _
      · rw [hrep v hv]; exact hnil _
    · simp only [List.mem_cons] at hv
      rcases hv with rfl | rfl | rfl | hv
      · exact off h3
      · exact hnil _
      · exact hnil _
      · rw [hrep v hv]; exact hnil _
    · simp only [List.mem_cons] at hv
      rcases hv with rfl | rfl | hv
      · exact hnil _
      · exact hnil _
      · rw [hrep v hv]; exact hnil _
    · refine List.pairwise_iff_getElem.2 fun i j hi hj _ => ?_
      rw [hrep _ (List.getElem_mem hi)]
      exact hnil' _
theorem newMachine_any (w : World) (n : Nat) (hn : 1 ≤ n ∧ n ≤ 24) :
    Calls Tryz.prog 68 #[.int .i64 n] w fun e w' => ∃ F B C, e = .returned (machVal (newM n) F B C (.slice none 0 0) (.slice none 0 0)) ∧ MachV w' (fun b => w.heap.size < b) 0 (newM n) F B C (.slice none 0 0) (.slice none 0 0) (List.replicate n (.slice none 0 0)) (List.replicate n (.slice none 0 0)) ∧ Up w w' := by
  have h1 := mk_lists n hn.2
  have h2 := mk_cars
  have HN := Lib.hid hn.2
  go_enter Tryz.func68, Tryz.ntmps68
  go_wp2
  go_region
  all_goals go_wp2
  all_goals clear h1 h2
  all_goals refine bodyPost_ret (by simp [results, Tryz.results68, go_sem]; rfl) rfl ?_
  all_goals exact ⟨_, _, _, rfl, newV n HN.out (by repeat (first | (refine heap_new ?_; simp; done) | apply heap_drew | apply heap_old)) (by repeat (first | (refine heap_new ?_; simp; done) | apply heap_drew | apply heap_old)) (by repeat (first | (refine heap_new ?_; simp; done) | apply heap_drew | apply heap_old)) (by omega) (by omega) (by omega) (by omega) (by omega) (by omega), by repeat (first | exact Chg.refl _ _ | apply Chg.drew | apply Chg.drewN | refine Chg.alloc ?_ _)⟩
end Go.Proofs.YtiiodfcbpmkodaaGreat
