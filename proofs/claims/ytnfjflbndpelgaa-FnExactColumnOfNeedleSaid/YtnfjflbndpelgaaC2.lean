/- The program's ColumnOfNeedle answers as the reference's, for every number. No condition. -/
import Derived.Test.YtnfjflbndpelgaaNums
namespace Go.Proofs.Ytnfjflbndpelgaa
open Go.ChangeShapes Go.WideShapes Go.ChangeAt Go.RowKit
def colOk (n : Int) : Bool := decide (1 ≤ n ∧ n ≤ 15 ∧ n % 2 = 1)
def colOf (n : Int) : Int := if 1 ≤ n ∧ n ≤ 15 ∧ n % 2 = 1 then n / 2 else 0
namespace fnExactColumnOfNeedle
theorem specColumn (n : Int) (w : World) :
    Calls Try.prog 11 #[.int .i64 n] w fun e w' => e = .returned (.tuple #[.int .i64 (colOf n), .bool (colOk n)]) ∧ w = w' := by
  go_enter Try.func11, Try.ntmps11
  go_wp2
  go_loop [4] (fun c => ∃ k : Int, 0 ≤ k ∧ k ≤ 8 ∧ (n < 1 ∨ 2 * k < n ∨ n % 2 = 0) ∧ c = .int .i64 k) (fun c => (8 - intOf c).toNat)
  case atStart => exact ⟨0, by omega, by omega, by omega, rfl⟩
  case round =>
    obtain ⟨k, hk0, hk8, hno, rfl⟩ := hrel
    by_cases hlt : k < 8
    · by_cases he : 2 * k + 1 = n
      · have hb : ((2 * k + 1 : Int) == n) = true := by simpa using he
        have HE := Lib.hid he
        clear he
        go_wp2_with (first | (go_at_call 27; refine (l20Needle_any _ _ ?_).mono ?_; (omega); rintro e w' ⟨rfl, rfl⟩))
        go_ret2
        have he := HE.out
        exact ⟨ret_ib (by unfold colOf; rw [if_pos (by omega)]; omega) (by unfold colOk; rw [decide_eq_true (by omega)]), rfl⟩
      · have hb : ((2 * k + 1 : Int) == n) = false := by simpa using he
        go_wp2_with (first | (go_at_call 27; refine (l20Needle_any _ _ ?_).mono ?_; (omega); rintro e w' ⟨rfl, rfl⟩))
        go_round
        case rel => exact ⟨k + 1, by omega, by omega, by omega, rfl⟩
        case measure => simp [intOf]; omega
    · go_wp2
      go_ret2
      exact ⟨ret_ib (by unfold colOf; rw [if_neg (by omega)]) (by unfold colOk; rw [decide_eq_false (by omega)]), rfl⟩
theorem implColumn (n : Int) (w : World) (hn : I64 n) :
    Calls Try.prog 12 #[.int .i64 n] w fun e w' => e = .returned (.tuple #[.int .i64 (colOf n), .bool (colOk n)]) ∧ w = w' := by
  unfold I64 at hn
  have hc : n < 1 ∨ 15 < n ∨ (1 ≤ n ∧ n ≤ 15 ∧ (n % 2 != 1) = true) ∨ (1 ≤ n ∧ n ≤ 15 ∧ (n % 2 != 1) = false) := by
    cases (n % 2 != 1) <;> simp <;> omega
  rcases hc with h | h | ⟨h, h', hm⟩ | ⟨h, h', hm⟩
  all_goals
    go_enter Try.func12, Try.ntmps12
    go_wp2_with (first | (go_at_call 26; refine (within_yes _ _ _ _ ?_).mono ?_; (omega); rintro e w' ⟨rfl, rfl⟩) | (go_at_call 26; refine (within_no _ _ _ _ ?_).mono ?_; (omega); rintro e w' ⟨rfl, rfl⟩) | (go_at_call 28; refine (needleOf_any _ _ ?_).mono ?_; (omega); rintro e w' ⟨rfl, rfl⟩))
    go_ret2
    try simp only [bne_iff_ne, ne_eq, bne_eq_false_iff_eq] at hm
    refine ⟨ret_ib ?_ ?_, rfl⟩
    · unfold colOf
      first | (rw [if_neg (by omega)]; done) | (rw [if_pos (by omega)]; done) | (rw [if_neg (by omega)]; rfl) | (rw [if_pos (by omega)]; rfl)
    · unfold colOk
      first | (rw [decide_eq_true (by omega)]; done) | (rw [decide_eq_false (by omega)]; done) | (rw [decide_eq_true (by omega)]; rfl) | (rw [decide_eq_false (by omega)]; rfl)
theorem walk (a0 : Int) (w0 : I64 a0) (w : World) :
    Calls Try.prog 4 #[.int .i64 a0] w fun e w' => e = .returned (.bool true) ∧ Below w.heap.size w w' := by
  go_enter Try.func4, Try.ntmps4
  go_wp2_with fail
  refine (specColumn _ _).mono ?_
  rintro e w1 ⟨rfl, rfl⟩
  go_wp2_with fail
  refine (implColumn _ _ w0).mono ?_
  rintro e w2 ⟨rfl, rfl⟩
  go_wp2
  go_ret
  exact ⟨rfl, Below.refl _ _⟩
end fnExactColumnOfNeedle
end Go.Proofs.Ytnfjflbndpelgaa
namespace Go.Proofs.Ytnfjflbndpelgaa.fnExactColumnOfNeedle
open Go.ChangeShapes Go.WideShapes Go.ChangeAt Go.RowKit
set_option linter.unusedVariables false
theorem own : ownKnob Try.prog.godebug = none := by kernel_rfl
theorem laidOut : laidOutB Try.prog = true := by kernel_rfl
theorem readable : ∀ t ∈ Try.f4.params.toList, Try.prog.readableRec t = true ∧ t < Try.prog.types.size := by
  have h : (Try.f4.params.toList.all fun t => Try.prog.readableRec t && decide (t < Try.prog.types.size)) = true := by kernel_rfl
  intro t ht
  have h2 := List.all_eq_true.1 h t ht
  rw [Bool.and_eq_true, decide_eq_true_eq] at h2
  exact h2
theorem resT : Try.f4.resultTypes = #[4] := by kernel_rfl
set_option maxRecDepth 100000 in
theorem lifted (os : Os) (started : os.Started) (H : Type) (enc : TypeId × Value → H) :
    ReturnsInHanded {} Try.checked os 4 .any (Rows.fnExactColumnOfNeedleSpec.pre6 enc Try.prog Try.f4 Rows.fnExactColumnOfNeedleRow.domain false) (Rows.fnExactColumnOfNeedleSpec.post enc Try.prog Try.f4 false true false false) := by
  refine returnsInHanded_of_change (C := Try.checked) own started (by kernel_rfl) Try.func4
    (ChangeSpec.witness6 (enc := enc) (C := Try.checked) false ⟨#[], #[.int .i64 0], []⟩ 8 (by kernel_rfl) (by kernel_rfl) (by kernel_rfl) (by kernel_rfl)) ?_
  intro W base args ds gs before hval0 hW hcnd _
  have hval : ∀ (j : Nat) t v, Try.f4.params[j]? = some t → args[j]? = some v → Value.okWide Try.prog W .any base t v := hval0
  have hW' := hW
  obtain ⟨p, q, hA0, hV, rfl, hfz, hnd⟩ := hW
  have hA : DataW.TrodAll enc Try.prog W 0 (fun _ => true) true Try.f4.params.toList args.toList ds p := hA0
  rw [Try.params4] at hA hval
  obtain ⟨v0, vs0, d0, ds0, p0, q0, hargs, rfl, rfl, h0, r0⟩ := trodAll_cons hA
  obtain ⟨rfl, rfl, rfl⟩ := trodAll_nil r0
  obtain rfl : args = #[v0] := by cases args; simp_all
  obtain ⟨rfl, rfl⟩ := trodVars_none hV
  have hpost : ∀ W', Below W.heap.size W W' → Rows.fnExactColumnOfNeedleSpec.post enc Try.prog Try.f4 false true false false W #[v0] (.bool true) W' := fun W' hb =>
    law_post laidOut readable resT Try.underlying4 rfl rfl hW' hb
  clear hW' hA0 hval0 hcnd hfz hnd hV hA
  obtain ⟨a0, rfl, -, -, w0⟩ := open_int Try.underlying2 (hval 0 2 v0 rfl rfl) h0
  refine (walk a0 (I64.of_wf w0) W).mono fun e W' ⟨he, hg⟩ => ?_
  subst he
  exact ⟨_, rfl, hpost W' hg⟩
theorem over : Rows.fnExactColumnOfNeedleRow.holds Try.pinned (OpenSpec.ofChange Rows.fnExactColumnOfNeedleSpec) :=
  OpenClaim.holds_of_wide 4 Try.f4 rfl rfl rfl rfl rfl rfl rfl ⟨rfl, rfl, rfl, rfl, rfl⟩ rfl rfl rfl rfl rfl (by kernel_rfl) Try.func4 (by kernel_rfl)
    (of_decide_eq_true (by kernel_rfl)) (by unfold Func.isWrapper; first | (rw [if_pos (by decide +kernel)]; kernel_rfl) | (rw [if_neg (by decide +kernel)]; exact ⟨rfl, rfl⟩))
    (fun os started H enc _ => lifted os started H enc)
theorem proved : Rows.FnExactColumnOfNeedleSaid :=
  over
end Go.Proofs.Ytnfjflbndpelgaa.fnExactColumnOfNeedle
