/- The reference's l10Do, at all operations: its events, its code, the machine behind it. No condition. The reference's RunMachine. No condition. The reference's l07Live: how many loops it tells. No condition. The reference's l10Trace and TraceOf. No condition. -/
import Derived.Test.YtplabnjdhkmmkaaMDoB
import Derived.Test.YtplabnjdhkmmkaaPF18
import Derived.Test.YtplabnjdhkmmkaaPF17
import Derived.Test.YtplabnjdhkmmkaaPF19
import Derived.Test.YtplabnjdhkmmkaaPF10
import Derived.Test.YtplabnjdhkmmkaaPF11
section
set_option linter.unusedSimpArgs false
set_option linter.unusedVariables false
namespace Go.Proofs.Ytplabnjdhkmmkaa
open Go.ChangeShapes Go.WideShapes Go.ChangeAt Go.RowKit
theorem l10Do_any (w : World) {S : Nat → Prop} {K p : Nat} {m : MachM} (h : Mach w S K p m) (hi : MInv m) (bo oi : Nat) (x : OpM) (hx : okOp m.wd x) (hO : OpC w bo oi x) (hb : ¬ S bo) (hKK : K ≤ 900000) :
    Calls Try.prog 71 #[.pointer (some ⟨p, 0, none⟩), .pointer (some ⟨bo, oi, none⟩)] w fun e w' => (codeM m x ≠ 0 → e = .returned (.tuple #[.slice none 0 0, .int .i64 (codeM m x)])) ∧ (codeM m x = 0 → ∃ v, e = .returned (.tuple #[v, .int .i64 0]) ∧ Evs w' (New w.heap.size w'.heap.size) v (evM m x) ∧ Mach w' (fun b => S b ∧ b < w.heap.size ∨ w.heap.size ≤ b) (K + 4) p (execM m x)) ∧ Chg (fun b => S b ∧ b < w.heap.size) w w' := by
  have hbl := World.block_lt_of_cell? _ _ hO.c0
  have hbl : bo < w.heap.size := hbl
  obtain ⟨F, B, C, L, D, fs, bs, hX⟩ := h
  have hv := valid_cases hx.1
  have hfw := hx.2.1
  by_cases h7 : x.kind = 7
  · -- the rack
    obtain ⟨k, d, fb, fa, tb, ta, car, rk⟩ := x
    obtain rfl : k = 7 := h7
    dsimp only at hv
    have hr : -3 ≤ rk ∧ rk ≤ 3 := by
      rcases hv with h | h | h | h | h | h | h <;> omega
    have hc : codeM m ⟨7, d, fb, fa, tb, ta, car, rk⟩ = 0 := by
      have h0 := code_rest (m := m) (x := ⟨7, d, fb, fa, tb, ta, car, rk⟩) rfl (.inl rfl)
      simpa using h0
    have he : execM m ⟨7, d, fb, fa, tb, ta, car, rk⟩ = { m with rack := rk } := rfl
    have hev : evM m ⟨7, d, fb, fa, tb, ta, car, rk⟩ = rackAllM (macOf m) rk := rfl
    have hX0 := hX.mono (T := fun b => S b ∧ b < w.heap.size) (fun b hb hs => ⟨hs, hb⟩)
    have hp : p < w.heap.size := hX.c0.lt
    have hsp := hX.sp
    obtain ⟨A0, c0, A1, c1, rfl, rfl, h1, h2⟩ := hX.beds
    refine (l10Do_rackJ w (fun W r => MachX W (fun b => S b ∧ b < w.heap.size) K p { m with rack := r } (.slice A0 m.fr.length c0) (.slice A1 m.bk.length c1) C L D fs bs) _ _ _ p bo oi (macOf m) hi.few hi.rack rk hr A0 A1 c0 c1 hX.c0.1 hX.c1.1 hX.c2.1 hX.c3.1 h1 h2 hX.c1.2 (fun e => hb (e ▸ hsp)) hX0 (fun a b r u k => k.up u) (fun a b r g k => k.keep g (fun i _ hs ht => by have ht : w.heap.size ≤ i := ht; have := hs.2; omega)) (fun a r r' k => k.set_rack r') hO.c0 hO.c7 (fun b h => by rcases h with h | h | h <;> exact h.1)).mono fun e w' ⟨v, k1, k2, k3, k4⟩ => ?_
    rw [hc, he, hev]
    refine ⟨fun h => absurd rfl h, fun _ => ⟨v, k1, k2, (k3.more (Nat.le_add_right _ _)).mach.mono fun b _ h => .inl h⟩, k4.mono fun b _ e => ?_⟩
    have e : b = p := e
    rw [e]
    exact ⟨hsp, hp⟩
  · -- all others
    have hz : -100000 ≤ befO m x ∧ befO m x ≤ 100000 := by
      unfold befO
      have h1 := befM_bd hi.few (x.fa + m.rack + 1) x.fa
      have h2 := befM_bd hi.few x.fa (x.fa - m.rack)
      split <;> omega
    have hB : ∀ W, Up w W → Calls Try.prog 96 #[.pointer (some ⟨p, 0, none⟩), .agg #[.int .i64 x.fb, .int .i64 x.fa]] W fun e w' => e = .returned (.int .i64 (befO m x)) ∧ Up W w' := fun W u => by
      by_cases hf : x.fb = 0 ∧ x.fa = 0
      · have := l10Before_zero W (hX.up u) hi
        unfold befO
        rw [hf.1, hf.2, if_neg (by decide)]
        exact this
      · have hn : okN m x.fb x.fa := by
          refine ⟨?_, ?_, hfw⟩ <;> (rcases hv with h | h | h | h | h | h | h <;> omega)
        exact l10Before_any W (hX.up u) hi hn
    have hJ : ∀ a b, Chg (fun x => x = w.heap.size) a b → Mach a (fun b => S b ∧ b < w.heap.size ∨ w.heap.size < b) (K + 4) p (execM m x) → Mach b (fun b => S b ∧ b < w.heap.size ∨ w.heap.size < b) (K + 4) p (execM m x) := fun a b g k => k.keep g (fun i _ hs ht => by have ht : i = w.heap.size := ht; rcases hs with ⟨-, hs⟩ | hs <;> omega)
    have hD : ∀ W, Up w W → w.heap.size < W.heap.size → Calls Try.prog 36 #[.pointer (some ⟨p, 0, none⟩), .pointer (some ⟨bo, oi, none⟩)] W fun e w' => e = .returned (.int .i64 (codeM m x)) ∧ (codeM m x = 0 → Mach w' (fun b => S b ∧ b < w.heap.size ∨ w.heap.size < b) (K + 4) p (execM m x)) ∧ Chg (fun b => S b ∧ b < w.heap.size ∨ W.heap.size ≤ b) W w' := fun W u hW => by
      have hM := ((hX.mono (T := fun b => S b ∧ b < w.heap.size ∨ W.heap.size ≤ b) (fun b hb hs => .inl ⟨hs, hb⟩)).up u).mach
      refine (do_any W hM (fun b hb => .inr hb) hi bo oi x hx (hO.up u) (fun hs => by rcases hs with ⟨hs, -⟩ | hs; exact hb hs; omega) hKK).mono fun e w' ⟨k1, k2, k3⟩ => ⟨k1, fun hc => (k2 hc).mono fun b _ h => h.imp id (fun h => by omega), k3⟩
    have hn4 : (onM m x.fb x.fa).length ≤ 4 := (hi.on_ x.fb x.fa).1
    have hL : ∃ n, n ≤ 4 ∧ (x.kind = 1 ∨ x.kind = 2 ∨ x.kind = 5 ∨ x.kind = 6 → n = (onM m x.fb x.fa).length) ∧ ∀ W, Up w W → Calls Try.prog 68 #[.pointer (some ⟨p, 0, none⟩), .agg #[.int .i64 x.fb, .int .i64 x.fa]] W fun e w' => (∃ A c, e = .returned (.slice A n c)) ∧ Up W w' := by
      by_cases hf : x.fb = 0 ∧ x.fa = 0
      · refine ⟨(onM m 2 0).length, (hi.on_ 2 0).1, fun h => ?_, fun W u => ?_⟩
        · exfalso
          rcases hv with h | h | h | h | h | h | h <;> omega
        · rw [hf.1, hf.2]
          exact l07On_zero W (hX.up u) hi
      · refine ⟨_, hn4, fun _ => rfl, fun W u => l07On_len W (hX.up u) hi ?_⟩
        refine ⟨?_, ?_, hfw⟩ <;> (rcases hv with h | h | h | h | h | h | h <;> omega)
    obtain ⟨n, hn, hne, hL⟩ := hL
    have hI : I64 x.fb ∧ I64 x.car ∧ I64 x.dir := by
      unfold I64
      rcases hv with h | h | h | h | h | h | h <;> omega
    have fin : ∀ (e : Ending) (w' : World) (es : List EvM), es = evM m x → ((codeM m x ≠ 0 → e = .returned (.tuple #[.slice none 0 0, .int .i64 (codeM m x)])) ∧ (codeM m x = 0 → ∃ v, e = .returned (.tuple #[v, .int .i64 0]) ∧ Evs w' (New w.heap.size w'.heap.size) v es ∧ Mach w' (fun b => S b ∧ b < w.heap.size ∨ w.heap.size < b) (K + 4) p (execM m x)) ∧ Chg (fun b => S b ∧ b < w.heap.size) w w') → (codeM m x ≠ 0 → e = .returned (.tuple #[.slice none 0 0, .int .i64 (codeM m x)])) ∧ (codeM m x = 0 → ∃ v, e = .returned (.tuple #[v, .int .i64 0]) ∧ Evs w' (New w.heap.size w'.heap.size) v (evM m x) ∧ Mach w' (fun b => S b ∧ b < w.heap.size ∨ w.heap.size ≤ b) (K + 4) p (execM m x)) ∧ Chg (fun b => S b ∧ b < w.heap.size) w w' := by
      rintro e w' es rfl ⟨k1, k2, k3⟩
      exact ⟨k1, fun hc => let ⟨v, a, b, c⟩ := k2 hc; ⟨v, a, b, c.mono fun i _ h => h.imp id (fun h => Nat.le_of_lt h)⟩, k3⟩
    have hfit := fin
    generalize hzz : befO m x = z at hz hB
    obtain ⟨k, d, fb, fa, tb, ta, car, rk⟩ := x
    dsimp only at hv h7 hne hI hL hB
    rcases hv with ⟨hk, -⟩ | ⟨hk, -⟩ | ⟨hk, ⟨hfb, -⟩, -⟩ | ⟨hk, -⟩ | ⟨hk, -⟩ | ⟨hk, -⟩ | ⟨hk, -⟩
    · rcases hk with rfl | rfl | rfl
      · exact (l10Do_1 w p bo oi d fb fa tb ta car rk z _ n hz hn hI S _ hO hb hB hL hD hJ).mono fun e w' k => fin e w' _ (by rw [hne (.inl rfl), ← hzz]; rfl) k
      · exact (l10Do_2 w p bo oi d fb fa tb ta car rk z _ n hz hn hI S _ hO hb hB hL hD hJ).mono fun e w' k => fin e w' _ (by rw [hne (.inr (.inl rfl)), ← hzz]; rfl) k
      · exact (l10Do_3 w p bo oi d fb fa tb ta car rk z _ n hz hn hI S _ hO hb hB hL hD hJ).mono fun e w' k => fin e w' _ rfl k
    · subst hk
      exact (l10Do_4 w p bo oi d fb fa tb ta car rk z _ n hz hn hI S _ hO hb hB hL hD hJ).mono fun e w' k => fin e w' _ rfl k
    · subst hk
      rcases hfb with rfl | rfl
      · exact (l10Do_5f w p bo oi d 1 fa tb ta car rk z _ n hz hn hI S _ hO hb rfl hB hL hD hJ).mono fun e w' k => fin e w' _ (by rw [hne (.inr (.inr (.inl rfl))), ← hzz]; rfl) k
      · exact (l10Do_5b w p bo oi d 2 fa tb ta car rk z _ n hz hn hI S _ hO hb rfl hB hL hD hJ).mono fun e w' k => fin e w' _ (by rw [hne (.inr (.inr (.inl rfl))), ← hzz]; rfl) k
    · subst hk
      exact (l10Do_6 w p bo oi d fb fa tb ta car rk z _ n hz hn hI S _ hO hb hB hL hD hJ).mono fun e w' k => fin e w' _ (by rw [hne (.inr (.inr (.inr rfl))), ← hzz]; rfl) k
    · exact absurd hk h7
    · subst hk
      exact (l10Do_8 w p bo oi d fb fa tb ta car rk z _ n hz hn hI S _ hO hb hB hL hD hJ).mono fun e w' k => fin e w' _ rfl k
    · subst hk
      exact (l10Do_9 w p bo oi d fb fa tb ta car rk z _ n hz hn hI S _ hO hb hB hL hD hJ).mono fun e w' k => fin e w' _ rfl k
end Go.Proofs.Ytplabnjdhkmmkaa
end
section
set_option maxRecDepth 100000
set_option maxHeartbeats 1000000
set_option linter.unusedSimpArgs false
set_option linter.unusedVariables false
namespace Go.Proofs.Ytplabnjdhkmmkaa
open Go.ChangeShapes Go.WideShapes Go.ChangeAt Go.RowKit
theorem results_cell_tmp_tmp {fn : Func} {p u x : Tmp} {ty : TypeId} (h : fn.results = #[.cell p ty, .tmp u, .tmp x]) (tmps : Array Value) (P : Program) (w : World) :
    (results fn tmps).run P w =
      ((asAddr (tmps.getD p undef)).run P w).andThen fun a w₁ => ((loadVar ty a).run P w₁).andThen fun v w₂ => .ok (.tuple #[v, tmps.getD u undef, tmps.getD x undef]) w₂ := by
  simp only [results, h]
  simp [Sem.run_bind, Result.andThen]
/-- where a run of operations stands -/
def RunAt (xs : List OpM) (j : Nat) (m : MachM) : Prop := stopM (newM 24) xs = stopM m (xs.drop j) ∧ stopN (newM 24) xs = j + stopN m (xs.drop j) ∧ runM (newM 24) xs = runM m (xs.drop j)
theorem MachV.more {w : World} {S : Nat → Prop} {K K' : Nat} {m : MachM} {F B C L D : Value} {fs bs : List Value} (h : MachV w S K m F B C L D fs bs) (hk : K ≤ K') : MachV w S K' m F B C L D fs bs := by
  obtain ⟨ds, hds, hdk⟩ := h.d
  exact ⟨h.f, h.b, h.fl, h.bl, h.fi, h.bi, h.c, h.l, ⟨ds, hds, Nat.le_trans hdk hk⟩, h.own, h.ap, h.ps⟩
theorem RunAt.start (xs : List OpM) : RunAt xs 0 (newM 24) := ⟨rfl, (Nat.zero_add _).symm, rfl⟩
theorem RunAt.next {xs : List OpM} {j : Nat} {m : MachM} (h : RunAt xs j m) (hj : j < xs.length) (hc : codeM m xs[j] = 0) : RunAt xs (j + 1) (execM m xs[j]) := by
  obtain ⟨h1, h2, h3⟩ := h
  rw [List.drop_eq_getElem_cons hj] at h1 h2 h3
  refine ⟨h1.trans (stopM_c hc), h2.trans ?_, h3.trans (runM_c hc)⟩
  rw [stopN, if_pos hc]
  omega
theorem RunAt.stop {xs : List OpM} {j : Nat} {m : MachM} (h : RunAt xs j m) (hj : j < xs.length) (hc : codeM m xs[j] ≠ 0) : stopM (newM 24) xs = m ∧ stopN (newM 24) xs = j ∧ runM (newM 24) xs = codeM m xs[j] := by
  obtain ⟨h1, h2, h3⟩ := h
  rw [List.drop_eq_getElem_cons hj] at h1 h2 h3
  rw [stopM, if_neg hc] at h1
  rw [stopN, if_neg hc] at h2
  rw [runM, if_neg hc] at h3
  exact ⟨h1, h2, h3⟩
theorem RunAt.end_ {xs : List OpM} {m : MachM} (h : RunAt xs xs.length m) : stopM (newM 24) xs = m ∧ stopN (newM 24) xs = xs.length ∧ runM (newM 24) xs = 0 := by
  obtain ⟨h1, h2, h3⟩ := h
  rw [List.drop_length] at h1 h2 h3
  exact ⟨h1, h2, h3⟩
theorem ops_len {n : Int} {xs : List OpM} (h : okOpsB n xs = true) : xs.length ≤ 1500 := by
  unfold okOpsB at h
  simp only [Bool.and_eq_true, decide_eq_true_eq] at h
  exact h.2.2
theorem ops_at {n : Int} {xs : List OpM} (h : okOpsB n xs = true) {j : Nat} (hj : j < xs.length) : okOp n xs[j] := by
  unfold okOpsB at h
  simp only [Bool.and_eq_true, decide_eq_true_eq, List.all_eq_true] at h
  have := h.1 _ (List.getElem_mem hj)
  unfold okOpB at this
  simp only [Bool.and_eq_true, decide_eq_true_eq] at this
  exact ⟨this.1, this.2.1, this.2.2⟩
theorem RunMachine_any (w : World) (S : Nat → Prop) (v : Value) (xs : List OpM) (h : Ops w S v xs) (hok : okOpsB 24 xs = true) :
    Calls Try.prog 9 #[.int .i64 24, v] w fun e w' => ∃ F B C L D fs bs, e = .returned (.tuple #[machVal (stopM (newM 24) xs) F B C L D, .int .i64 (stopN (newM 24) xs), .int .i64 (runM (newM 24) xs)]) ∧ MachV w' (fun b => w.heap.size ≤ b) (4 * xs.length) (stopM (newM 24) xs) F B C L D fs bs ∧ Up w w' := by
  obtain ⟨A, c, rfl, hlc, hcm, -⟩ := h.1.shape
  have H := Lib.hid h
  have HOK := Lib.hid hok
  clear h hok
  go_enter Try.func9, Try.ntmps9
  have HB0 := Lib.hid (Box7.new w (B := w.heap.size) rfl)
  go_wp2_with fail
  refine (l07Ops_any _ S _ xs (H.out.up ((Chg.refl _ _).alloc _)) 24).mono ?_
  rintro e w1 ⟨rfl, g1⟩
  rw [HOK.out]
  have U1 := Lib.hid (show Up w w1 from Chg.trans ((Chg.refl Nowhere w).alloc _) g1)
  replace HB0 := Lib.hid (HB0.out.up g1)
  have HZ1 : Hid (w.heap.size < w1.heap.size) := Lib.hid (by have h := g1.size; simp at h; omega)
  clear g1
  go_wp2_with fail
  refine (l07New_any w1 24 ⟨by omega, by omega⟩).mono ?_
  rintro e w2 ⟨F, B, C, fs, bs, rfl, hM, g2⟩
  have U2 := Lib.hid (Chg.trans U1.out g2)
  have HM := Lib.hid hM
  have HZ2 : Hid (w.heap.size < w2.heap.size) := Lib.hid (by have h := g2.size; have := HZ1.out; omega)
  replace HB0 := Lib.hid (HB0.out.up g2)
  clear g2
  obtain ⟨AF, cF, rfl, -⟩ := ownsRow_shape hM.f
  obtain ⟨AB, cB, rfl, -⟩ := ownsRow_shape hM.b
  obtain ⟨AC, cC, rfl, -⟩ := ownsRow_shape hM.c
  clear hM
  unfold machVal
  go_wp2_with fail
  have HX0 := Lib.hid (show Mach (w2.alloc (.cells #[.int .i64 (newM 24).wd, .int .i64 (newM 24).rack, .slice AF fs.length cF, .slice AB bs.length cB, .slice AC (newM 24).cs.length cC, .slice none 0 0, .slice none 0 0] 37)) (fun b => w.heap.size < b) (4 * 0) w2.heap.size (newM 24) from ((HM.out.mono (T := fun b => w.heap.size < b) (fun b _ h => by have h : w1.heap.size < b := h; have := HZ1.out; omega)).box (fun b hb => by have := HZ2.out; omega) 37).mach)
  have U3 := Lib.hid (show Up w (w2.alloc (.cells #[.int .i64 (newM 24).wd, .int .i64 (newM 24).rack, .slice AF fs.length cF, .slice AB bs.length cB, .slice AC (newM 24).cs.length cC, .slice none 0 0, .slice none 0 0] 37)) from Chg.alloc U2.out _)
  have HB3 : Hid (Box7 (w2.alloc (.cells #[.int .i64 (newM 24).wd, .int .i64 (newM 24).rack, .slice AF fs.length cF, .slice AB bs.length cB, .slice AC (newM 24).cs.length cC, .slice none 0 0, .slice none 0 0] 37)) w.heap.size) := Lib.hid (HB0.out.alloc _)
  obtain ⟨q, hq⟩ : ∃ q, q = w2.heap.size := ⟨_, rfl⟩
  rw [← hq] at HX0
  try rw [← hq]
  have HQ : Hid (w.heap.size < q) := Lib.hid (by have := HZ2.out; omega)
  generalize (w2.alloc (.cells #[.int .i64 (newM 24).wd, .int .i64 (newM 24).rack, .slice AF fs.length cF, .slice AB bs.length cB, .slice AC (newM 24).cs.length cC, .slice none 0 0, .slice none 0 0] 37)) = w3 at HX0 U3 HB3 ⊢
  clear hq HM HB0 HZ1 U1
  go_loopw [8] (fun i wr => ∃ (j : Nat) (mm : MachM), j ≤ xs.length ∧ i = .int .i64 j ∧ Hid (MInv mm ∧ mm.wd = 24) ∧ Hid (RunAt xs j mm) ∧ Hid (Mach wr (fun b => w.heap.size < b) (4 * j) q mm) ∧ Hid (Chg (fun b => w.heap.size < b) w3 wr)) (fun i _ => xs.length - (intOf i).toNat)
  case atStart => exact ⟨0, newM 24, by omega, rfl, Lib.hid ⟨newM_inv (by omega), rfl⟩, Lib.hid (RunAt.start xs), HX0, Lib.hid (Chg.refl _ _)⟩
  case round =>
    obtain ⟨j, mm, hj, rfl, hi, hr, hm, hg⟩ := hrel
    have U := Lib.hid (show Up w wr from Chg.new U3.out hg.out (fun i hi e => by have e : w.heap.size < i := e; omega))
    obtain ⟨F1, B1, C1, L1, D1, fs1, bs1, hx⟩ := hm.out
    obtain ⟨AF1, cF1, rfl, -⟩ := ownsRow_shape hx.f
    obtain ⟨AB1, cB1, rfl, -⟩ := ownsRow_shape hx.b
    obtain ⟨AC1, cC1, rfl, -⟩ := ownsRow_shape hx.c
    obtain ⟨cs1, hl1⟩ := hx.l
    obtain ⟨ds1, hd1, -⟩ := hx.d
    obtain ⟨AL1, cL1, rfl, -⟩ := ownsRow_shape hl1
    obtain ⟨AD1, cD1, rfl, -⟩ := hd1.ints.shape
    have HX := Lib.hid hx
    have qlt := hx.c0.lt
    have QLT : Hid (q < wr.heap.size) := Lib.hid qlt
    have WLT := Lib.hid U.out.size
    clear hx hl1 hd1 hm
    by_cases hlt : j < xs.length
    · obtain ⟨b, o, c', he, hS, hat⟩ := (Ops.up H.out U.out).opAt hlt
      obtain ⟨rfl, rfl⟩ : A = some ⟨b, o, none⟩ ∧ c = c' := by simpa using he
      have HBW : Hid (b < w.heap.size) := Lib.hid (by obtain ⟨b2, o2, c2, he2, -, hb2, -⟩ := Ops.at_ H.out hlt; simp at he2; omega)
      have HA := Lib.hid hat.opC
      clear hat he hS
      go_wp2_with fail
      refine (l07Own_any wr HX.out hi.out.1 (by have := ops_len HOK.out; omega)).mono ?_
      rintro e w4 ⟨F2, B2, C2, L2, D2, fs2, bs2, rfl, h2, g2⟩
      obtain ⟨AF2, cF2, rfl, -⟩ := ownsRow_shape h2.f
      obtain ⟨AB2, cB2, rfl, -⟩ := ownsRow_shape h2.b
      obtain ⟨AC2, cC2, rfl, -⟩ := ownsRow_shape h2.c
      obtain ⟨cs2, hl2⟩ := h2.l
      obtain ⟨ds2, hd2, -⟩ := h2.d
      obtain ⟨AL2, cL2, rfl, -⟩ := ownsRow_shape hl2
      obtain ⟨AD2, cD2, rfl, -⟩ := hd2.ints.shape
      have H2 := Lib.hid h2
      have G2 := Lib.hid g2
      have Z2 : Hid (wr.heap.size ≤ w4.heap.size) := Lib.hid g2.size
      clear h2 g2 hl2 hd2
      unfold machVal
      go_wp2_with fail
      have HN := Lib.hid (show Mach (w4.alloc (.cells #[.int .i64 mm.wd, .int .i64 mm.rack, .slice AF2 fs2.length cF2, .slice AB2 bs2.length cB2, .slice AC2 mm.cs.length cC2, .slice AL2 mm.nl cL2, .slice AD2 ds2.length cD2] 37)) (fun b => wr.heap.size ≤ b) (4 * j) w4.heap.size mm from ((H2.out.mono (T := fun b => wr.heap.size ≤ b) (fun b _ h => Nat.le_of_lt h)).box (fun b hb => Nat.le_trans Z2.out hb) 37).mach)
      have G3 := Lib.hid (show Up wr (w4.alloc (.cells #[.int .i64 mm.wd, .int .i64 mm.rack, .slice AF2 fs2.length cF2, .slice AB2 bs2.length cB2, .slice AC2 mm.cs.length cC2, .slice AL2 mm.nl cL2, .slice AD2 ds2.length cD2] 37)) from Chg.alloc G2.out _)
      obtain ⟨nb, hnb⟩ : ∃ nb, nb = w4.heap.size := ⟨_, rfl⟩
      rw [← hnb] at HN
      rw [← hnb]
      clear H2 G2 Z2 hnb
      generalize (w4.alloc (.cells #[.int .i64 mm.wd, .int .i64 mm.rack, .slice AF2 fs2.length cF2, .slice AB2 bs2.length cB2, .slice AC2 mm.cs.length cC2, .slice AL2 mm.nl cL2, .slice AD2 ds2.length cD2] 37)) = w5 at HN G3 ⊢
      refine (do_any w5 HN.out (fun b hb => Nat.le_trans G3.out.size hb) hi.out.1 b (o + j * 8) xs[j] (by rw [hi.out.2]; exact ops_at HOK.out hlt) (HA.out.up G3.out) (fun e => by have e : wr.heap.size ≤ b := e; have := HBW.out; have := WLT.out; omega) (by have := ops_len HOK.out; omega)).mono ?_
      rintro e w6 ⟨rfl, h6, g6⟩
      have H6 := Lib.hid h6
      have G6 := Lib.hid (show Chg (fun b => wr.heap.size ≤ b) wr w6 from Chg.trans (Chg.of_up G3.out) g6)
      have HX6 := Lib.hid (HX.out.keep G6.out (fun b hb _ e => by have e : wr.heap.size ≤ b := e; omega))
      have HB6 := Lib.hid (Box7.keep (Chg.trans hg.out (G6.out.mono (T := fun b => w.heap.size < b) (fun b _ e => by have e : wr.heap.size ≤ b := e; have := QLT.out; have := HQ.out; show w.heap.size < b; omega))) HB3.out (fun e => Nat.lt_irrefl _ e))
      clear h6 g6 HN
      by_cases hc : codeM mm xs[j] = 0
      case pos =>
        obtain ⟨F3, B3, C3, L3, D3, fs3, bs3, h3⟩ := H6.out hc
        obtain ⟨AF3, cF3, rfl, -⟩ := ownsRow_shape h3.f
        obtain ⟨AB3, cB3, rfl, -⟩ := ownsRow_shape h3.b
        obtain ⟨AC3, cC3, rfl, -⟩ := ownsRow_shape h3.c
        obtain ⟨cs3, hl3⟩ := h3.l
        obtain ⟨ds3, hd3, -⟩ := h3.d
        obtain ⟨AL3, cL3, rfl, -⟩ := ownsRow_shape hl3
        obtain ⟨AD3, cD3, rfl, -⟩ := hd3.ints.shape
        have H3 := Lib.hid h3
        have HCC := Lib.hid hc
        have e0 := h3.c0.1
        obtain ⟨q0, p0⟩ := HX6.out.c0
        have e1 := h3.c1.1
        obtain ⟨q1, p1⟩ := HX6.out.c1
        have e2 := h3.c2.1
        obtain ⟨q2, p2⟩ := HX6.out.c2
        have e3 := h3.c3.1
        obtain ⟨q3, p3⟩ := HX6.out.c3
        have e4 := h3.c4.1
        obtain ⟨q4, p4⟩ := HX6.out.c4
        have e5 := h3.c5.1
        obtain ⟨q5, p5⟩ := HX6.out.c5
        have e6 := h3.c6.1
        obtain ⟨q6, p6⟩ := HX6.out.c6
        clear h3 hl3 hd3
        rw [hc]
        go_wp2
        go_roundw
        case rel =>
          refine ⟨j + 1, execM mm xs[j], by omega, by go_num, Lib.hid ⟨hi.out.1.exec (by rw [hi.out.2]; exact ops_at HOK.out hlt) HCC.out, (execM_wd mm xs[j]).trans hi.out.2⟩, Lib.hid (hr.out.next hlt HCC.out), Lib.hid ?_, Lib.hid ?_⟩
          · refine ((H3.out.val.stored (T := fun b => w.heap.size < b) (fun b h => by have h : wr.heap.size ≤ b := h; have := QLT.out; have := HQ.out; show w.heap.size < b; omega) HQ.out (fun e => by have e : wr.heap.size ≤ q := e; have := QLT.out; omega) (fun t ht => ?_)).mach)
            match t, ht with
            | 0, _ => exact ⟨_, HX6.out.c0⟩
            | 1, _ => exact ⟨_, HX6.out.c1⟩
            | 2, _ => exact ⟨_, HX6.out.c2⟩
            | 3, _ => exact ⟨_, HX6.out.c3⟩
            | 4, _ => exact ⟨_, HX6.out.c4⟩
            | 5, _ => exact ⟨_, HX6.out.c5⟩
            | 6, _ => exact ⟨_, HX6.out.c6⟩
          · have hqq : w.heap.size < q := HQ.out
            have hg2 : Chg (fun b => w.heap.size < b) w3 w6 := Chg.trans hg.out (G6.out.mono (fun b _ e => by have e : wr.heap.size ≤ b := e; have := QLT.out; show w.heap.size < b; omega))
            repeat (first | (with_reducible exact hg2) | (with_reducible refine Chg.setCell ?_ (.inl (show w.heap.size < q from hqq)) _))
        case measure => first | (simp [intOf]; done) | (simp [intOf]; omega)
      case neg =>
        have hc2 : (codeM mm xs[j] == 0) = false := by simpa using hc
        have HFIN := Lib.hid (hr.out.stop hlt hc)
        have e0 := HX6.out.c0.1
        have e1 := HX6.out.c1.1
        have e2 := HX6.out.c2.1
        have e3 := HX6.out.c3.1
        have e4 := HX6.out.c4.1
        have e5 := HX6.out.c5.1
        have e6 := HX6.out.c6.1
        obtain ⟨⟨r0, s0⟩, ⟨r1, s1⟩, ⟨r2, s2⟩, ⟨r3, s3⟩, ⟨r4, s4⟩, ⟨r5, s5⟩, ⟨r6, s6⟩⟩ := HB6.out.open
        go_wp2
        refine bodyPost_ret (v := .tuple #[.agg #[.int .i64 mm.wd, .int .i64 mm.rack, .slice AF1 fs1.length cF1, .slice AB1 bs1.length cB1, .slice AC1 mm.cs.length cC1, .slice AL1 mm.nl cL1, .slice AD1 ds1.length cD1], .int .i64 j, .int .i64 (codeM mm xs[j])]) (by rw [results_cell_tmp_tmp rfl]; go_simp) rfl ?_
        obtain ⟨s1', s2', s3'⟩ := HFIN.out
        rw [s1', s2', s3']
        have CE : Chg (fun b => b = w.heap.size) w6 _ := (show Chg (fun b => b = w.heap.size) w6 (((((((w6.setCell ⟨w.heap.size, 0, none⟩ (.int .i64 mm.wd)).setCell ⟨w.heap.size, 1, none⟩ (.int .i64 mm.rack)).setCell ⟨w.heap.size, 2, none⟩ (.slice AF1 fs1.length cF1)).setCell ⟨w.heap.size, 3, none⟩ (.slice AB1 bs1.length cB1)).setCell ⟨w.heap.size, 4, none⟩ (.slice AC1 mm.cs.length cC1)).setCell ⟨w.heap.size, 5, none⟩ (.slice AL1 mm.nl cL1)).setCell ⟨w.heap.size, 6, none⟩ (.slice AD1 ds1.length cD1)) from by repeat (first | (with_reducible exact Chg.refl _ _) | (with_reducible refine Chg.setCell ?_ (.inl (show w.heap.size = w.heap.size from rfl)) _)))
        have hx9 := (HX6.out.val.keep CE (fun b _ hb e => by have e : b = w.heap.size := e; have hb : w.heap.size < b := hb; omega))
        refine ⟨_, _, _, _, _, fs1, bs1, rfl, ?_, ?_⟩
        · exact (hx9.mono (T := fun b => w.heap.size ≤ b) (fun b _ hb => Nat.le_of_lt hb)).more (by omega)
        · exact Chg.new (Chg.new U.out G6.out (fun i hi e => by have e : wr.heap.size ≤ i := e; have := WLT.out; omega)) CE (fun i hi e => by have e : i = w.heap.size := e; omega)
    · obtain rfl : j = xs.length := by omega
      have HBR := Lib.hid (Box7.keep hg.out HB3.out (fun e => Nat.lt_irrefl _ e))
      have HFIN := Lib.hid (hr.out.end_)
      have e0 := HX.out.c0.1
      have e1 := HX.out.c1.1
      have e2 := HX.out.c2.1
      have e3 := HX.out.c3.1
      have e4 := HX.out.c4.1
      have e5 := HX.out.c5.1
      have e6 := HX.out.c6.1
      obtain ⟨⟨r0, s0⟩, ⟨r1, s1⟩, ⟨r2, s2⟩, ⟨r3, s3⟩, ⟨r4, s4⟩, ⟨r5, s5⟩, ⟨r6, s6⟩⟩ := HBR.out.open
      go_wp2
      refine bodyPost_ret (v := .tuple #[.agg #[.int .i64 mm.wd, .int .i64 mm.rack, .slice AF1 fs1.length cF1, .slice AB1 bs1.length cB1, .slice AC1 mm.cs.length cC1, .slice AL1 mm.nl cL1, .slice AD1 ds1.length cD1], .int .i64 xs.length, .int .i64 0]) (by rw [results_cell_tmp_tmp rfl]; go_simp) rfl ?_
      obtain ⟨s1', s2', s3'⟩ := HFIN.out
      rw [s1', s2', s3']
      have CE : Chg (fun b => b = w.heap.size) wr _ := (show Chg (fun b => b = w.heap.size) wr (((((((wr.setCell ⟨w.heap.size, 0, none⟩ (.int .i64 mm.wd)).setCell ⟨w.heap.size, 1, none⟩ (.int .i64 mm.rack)).setCell ⟨w.heap.size, 2, none⟩ (.slice AF1 fs1.length cF1)).setCell ⟨w.heap.size, 3, none⟩ (.slice AB1 bs1.length cB1)).setCell ⟨w.heap.size, 4, none⟩ (.slice AC1 mm.cs.length cC1)).setCell ⟨w.heap.size, 5, none⟩ (.slice AL1 mm.nl cL1)).setCell ⟨w.heap.size, 6, none⟩ (.slice AD1 ds1.length cD1)) from by repeat (first | (with_reducible exact Chg.refl _ _) | (with_reducible refine Chg.setCell ?_ (.inl (show w.heap.size = w.heap.size from rfl)) _)))
      have hx9 := (HX.out.val.keep CE (fun b _ hb e => by have e : b = w.heap.size := e; have hb : w.heap.size < b := hb; omega))
      refine ⟨_, _, _, _, _, rfl, ⟨fs1, bs1, ?_⟩, ?_⟩
      · exact (hx9.mono (T := fun b => w.heap.size ≤ b) (fun b _ hb => Nat.le_of_lt hb)).more (by omega)
      · exact Chg.new (Chg.new U.out (Chg.refl (fun b => wr.heap.size ≤ b) wr) (fun i hi e => by have e : wr.heap.size ≤ i := e; have := WLT.out; omega)) CE (fun i hi e => by have e : i = w.heap.size := e; omega)
end Go.Proofs.Ytplabnjdhkmmkaa
end
section
set_option maxRecDepth 100000
set_option maxHeartbeats 2000000
set_option linter.unusedSimpArgs false
set_option linter.unusedVariables false
namespace Go.Proofs.Ytplabnjdhkmmkaa
open Go.ChangeShapes Go.WideShapes Go.ChangeAt Go.RowKit
/-- loops that were told when the walk stands at place x -/
def livTo (m : MachM) (x : Int) : Nat := preL m.fr x.toNat + preL m.bk (x - m.rack).toNat
theorem preL_step {xss : List (List Int)} (x : Int) (hx : ¬ (0 ≤ x ∧ x < xss.length)) : preL xss (x + 1).toNat = preL xss x.toNat := by
  by_cases h : x < 0
  · rw [show (x + 1).toNat = 0 by omega, show x.toNat = 0 by omega]
  · rw [preL_over (show xss.length ≤ (x + 1).toNat by omega), preL_over (show xss.length ≤ x.toNat by omega)]
theorem preL_grow {xss : List (List Int)} {i : Nat} (h : i < xss.length) : preL xss ((i : Int) + 1).toNat = preL xss (i : Int).toNat + xss[i].length := by
  rw [show ((i : Int) + 1).toNat = i + 1 by omega, show ((i : Int)).toNat = i by omega]
  exact preL_succ h
theorem preL_all (xss : List (List Int)) : preL xss xss.length = (xss.map List.length).sum := by unfold preL; rw [List.take_length]
theorem livTo_all {m : MachM} (h : MInv m) : livTo m (m.wd + 3) = liveN m := by
  have h1 := h.fl
  have h2 := h.bl
  have h3 := h.rack
  have h4 := h.wd
  unfold livTo liveN
  rw [preL_over (show m.fr.length ≤ (m.wd + 3).toNat by omega), preL_over (show m.bk.length ≤ (m.wd + 3 - m.rack).toNat by omega), preL_all, preL_all]
theorem livTo_zero {m : MachM} (h : MInv m) : livTo m (-3) = 0 := by
  have h3 := h.rack
  unfold livTo
  rw [show ((-3 : Int)).toNat = 0 from rfl, show (-3 - m.rack).toNat = 0 by omega]
  simp [preL_zero]
theorem livTo_le {m : MachM} (h : MInv m) (x : Int) : livTo m x ≤ 1000 := by
  have h1 := preL_le h.few.f x.toNat
  have h2 := preL_le h.few.b (x - m.rack).toNat
  have h3 := h.few.n1
  have h4 := h.few.n2
  unfold livTo
  have e1 : (macOf m).fr = m.fr := rfl
  have e2 : (macOf m).bk = m.bk := rfl
  rw [e1] at h1 h3 h4
  rw [e2] at h2 h4
  omega
theorem l07Live_any (w : World) {S : Nat → Prop} {K p : Nat} {m : MachM} (h : Mach w S K p m) (hi : MInv m) :
    Calls Try.prog 72 #[.pointer (some ⟨p, 0, none⟩)] w fun e w' => (∃ A c, e = .returned (.slice A (liveN m) c)) ∧ Up w w' := by
  obtain ⟨F, B, C, L, D, fs, bs, hx⟩ := h
  have HX := Lib.hid hx
  have HI := Lib.hid hi
  have HW := Lib.hid (show m.wd = (m.fr.length : Int) ∧ m.wd = (m.bk.length : Int) ∧ 1 ≤ m.wd ∧ m.wd ≤ 24 ∧ -3 ≤ m.rack ∧ m.rack ≤ 3 by have h1 := hi.fl; have h2 := hi.bl; have h3 := hi.wd; have h4 := hi.rack; omega)
  clear hx hi
  go_enter Try.func72, Try.ntmps72
  go_wp2
  go_loopw [3, 4] (fun v xv wr => ∃ (x : Int) (ys : List Int), -3 ≤ x ∧ x ≤ m.wd + 3 ∧ xv = .int .i64 x ∧ Hid (ys.length = livTo m x) ∧ Hid (OwnI wr w.heap.size v ys) ∧ Hid (Up w wr)) (fun _ xv _ => (m.wd + 3 - intOf xv).toNat)
  case atStart => exact ⟨-3, [], by omega, by have := HW.out; omega, rfl, Lib.hid (livTo_zero HI.out).symm, Lib.hid (OwnI.made w _ (Nat.le_refl _)), Lib.hid ((Chg.refl _ _).alloc _)⟩
  case round =>
    obtain ⟨x, ys, hx0, hx1, rfl, hl, ho, hu⟩ := hrel
    have c0 := (HX.out.up hu.out).c0.1
    have hw := HW.out
    by_cases hlt : x < m.wd + 3
    · have hd : decide (x < m.wd + 3) = true := decide_eq_true hlt
      have C0 := Lib.hid HX.out.c0.1
      have C1 := Lib.hid HX.out.c1.1
      have C2 := Lib.hid HX.out.c2.1
      have C3 := Lib.hid HX.out.c3.1
      have hi1 := hl.out
      have h1000 := livTo_le HI.out x
      clear c0
      by_cases hf : 0 ≤ x ∧ x < m.wd
      · have hin1 : inB x 0 (m.wd - 1) = true := inB_yes (by omega)
        obtain ⟨i, hii⟩ : ∃ i : Nat, x = (i : Int) := ⟨x.toNat, by omega⟩
        have hif : i < m.fr.length := by omega
        obtain ⟨g, d, A1, n1, hF, hcF, hoF⟩ := HX.out.frAt hif
        rw [hF] at C2
        have CF := Lib.hid hcF
        have OF := Lib.hid hoF
        have SF := Lib.hid (show preL m.fr (x + 1).toNat = preL m.fr x.toNat + m.fr[i].length by rw [hii]; exact preL_grow hif)
        have f4 : m.fr[i].length ≤ 4 := HI.out.few.f i hif
        clear hF hcF hoF
        have b0 : (0 : Int) ≤ (i : Int) := by omega
        have b1 : (i : Int) < (m.fr.length : Int) := by omega
        by_cases hb : 0 ≤ x - m.rack ∧ x - m.rack < m.wd
        · have hin2 : inB (x - m.rack) 0 (m.wd - 1) = true := inB_yes (by omega)
          obtain ⟨i2, hi2⟩ : ∃ i2 : Nat, x - m.rack = (i2 : Int) := ⟨(x - m.rack).toNat, by omega⟩
          have hib : i2 < m.bk.length := by omega
          obtain ⟨g2, d2, A2, n2, hB, hcB, hoB⟩ := HX.out.bkAt hib
          rw [hB] at C3
          have CB := Lib.hid hcB
          have OB := Lib.hid hoB
          have SB := Lib.hid (show preL m.bk (x + 1 - m.rack).toNat = preL m.bk (x - m.rack).toNat + m.bk[i2].length by rw [show x + 1 - m.rack = (x - m.rack) + 1 by omega, hi2]; exact preL_grow hib)
          have q4 : m.bk[i2].length ≤ 4 := HI.out.few.b i2 hib
          clear hB hcB hoB
          have b2 : (0 : Int) ≤ (i2 : Int) := by omega
          have b3 : (i2 : Int) < (m.bk.length : Int) := by omega
          have rhu0 := Chg.cell hu.out C0.out id
          have rhu1 := Chg.cell hu.out C1.out id
          have rhu2 := Chg.cell hu.out C2.out id
          have rhu3 := Chg.cell hu.out C3.out id
          have rfhu := Chg.cell hu.out CF.out id
          have rbhu := Chg.cell hu.out CB.out id
          subst hii
          rw [hi2] at hin2
          have LF := Lib.hid (show ys.length + m.fr[i].length ≤ 1099511627776 by omega)
          have LB := Lib.hid (show ((ys ++ m.fr[i])).length + m.bk[i2].length ≤ 1099511627776 by rw [List.length_append]; omega)
          have hwb : 1 ≤ m.wd ∧ m.wd ≤ 24 ∧ -3 ≤ m.rack ∧ m.rack ≤ 3 := ⟨hw.2.2.1, hw.2.2.2.1, hw.2.2.2.2⟩
          clear hw
          go_wp2_with (first | (go_at_call 64; refine (l00In_any _ _ _ _).mono ?_; rintro e w' ⟨rfl, rfl⟩; first | rw [hin1] | rw [hin2]) | (at_builtin; (refine wp_app_intsL rfl _ _ rfl w.heap.size _ ys rfl ho.out _ _ m.fr[i] rfl (OF.out.ints.up hu.out) LF.out hu.out.size ?_; intro v9 w9 h1 h2 h3 h4; have HO9 := Lib.hid h1; have U9 := Lib.hid (show Up w w9 from Chg.new hu.out h4 (fun i hi e => by have e : w.heap.size ≤ i := e; omega)); have rU90 := Chg.cell U9.out C0.out id; have rU91 := Chg.cell U9.out C1.out id; have rU92 := Chg.cell U9.out C2.out id; have rU93 := Chg.cell U9.out C3.out id; have rfU9 := Chg.cell U9.out CF.out id; have rbU9 := Chg.cell U9.out CB.out id; clear h1 h2 h3 h4)) | (at_builtin; (refine wp_app_intsL rfl _ _ rfl w.heap.size _ (ys ++ m.fr[i]) rfl HO9.out _ _ m.bk[i2] rfl (OB.out.ints.up U9.out) LB.out U9.out.size ?_; intro v8 w8 h1 h2 h3 h4; have HO8 := Lib.hid h1; have U8 := Lib.hid (show Up w w8 from Chg.new U9.out h4 (fun i hi e => by have e : w.heap.size ≤ i := e; omega)); clear h1 h2 h3 h4)))
          have hw := HW.out
          go_roundw
          case rel => exact ⟨(i : Int) + 1, ((ys ++ m.fr[i]) ++ m.bk[i2]), by omega, by omega, by go_num, Lib.hid (by have h1 := SF.out; have h2 := SB.out; have h3 := hl.out; unfold livTo at h3 ⊢; rw [List.length_append, List.length_append]; omega), HO8, U8⟩
          case measure => first | (simp [intOf]; done) | (simp [intOf]; omega)
        · have hin2 : inB (x - m.rack) 0 (m.wd - 1) = false := inB_no (by omega)
          have SB := Lib.hid (show preL m.bk (x + 1 - m.rack).toNat = preL m.bk (x - m.rack).toNat by rw [show x + 1 - m.rack = (x - m.rack) + 1 by omega]; exact preL_step _ (by omega))
          have rhu0 := Chg.cell hu.out C0.out id
          have rhu1 := Chg.cell hu.out C1.out id
          have rhu2 := Chg.cell hu.out C2.out id
          have rhu3 := Chg.cell hu.out C3.out id
          have rfhu := Chg.cell hu.out CF.out id
          subst hii
          have LF := Lib.hid (show ys.length + m.fr[i].length ≤ 1099511627776 by omega)
          have hwb : 1 ≤ m.wd ∧ m.wd ≤ 24 ∧ -3 ≤ m.rack ∧ m.rack ≤ 3 := ⟨hw.2.2.1, hw.2.2.2.1, hw.2.2.2.2⟩
          clear hw
          go_wp2_with (first | (go_at_call 64; refine (l00In_any _ _ _ _).mono ?_; rintro e w' ⟨rfl, rfl⟩; first | rw [hin1] | rw [hin2]) | (at_builtin; (refine wp_app_intsL rfl _ _ rfl w.heap.size _ ys rfl ho.out _ _ m.fr[i] rfl (OF.out.ints.up hu.out) LF.out hu.out.size ?_; intro v9 w9 h1 h2 h3 h4; have HO9 := Lib.hid h1; have U9 := Lib.hid (show Up w w9 from Chg.new hu.out h4 (fun i hi e => by have e : w.heap.size ≤ i := e; omega)); have rU90 := Chg.cell U9.out C0.out id; have rU91 := Chg.cell U9.out C1.out id; have rU92 := Chg.cell U9.out C2.out id; have rU93 := Chg.cell U9.out C3.out id; have rfU9 := Chg.cell U9.out CF.out id; clear h1 h2 h3 h4)))
          have hw := HW.out
          go_roundw
          case rel => exact ⟨(i : Int) + 1, (ys ++ m.fr[i]), by omega, by omega, by go_num, Lib.hid (by have h1 := SF.out; have h2 := SB.out; have h3 := hl.out; unfold livTo at h3 ⊢; rw [List.length_append]; omega), HO9, U9⟩
          case measure => first | (simp [intOf]; done) | (simp [intOf]; omega)
      · have hin1 : inB x 0 (m.wd - 1) = false := inB_no (by omega)
        have SF := Lib.hid (show preL m.fr (x + 1).toNat = preL m.fr x.toNat from preL_step x (by omega))
        by_cases hb : 0 ≤ x - m.rack ∧ x - m.rack < m.wd
        · have hin2 : inB (x - m.rack) 0 (m.wd - 1) = true := inB_yes (by omega)
          obtain ⟨i2, hi2⟩ : ∃ i2 : Nat, x - m.rack = (i2 : Int) := ⟨(x - m.rack).toNat, by omega⟩
          have hib : i2 < m.bk.length := by omega
          obtain ⟨g2, d2, A2, n2, hB, hcB, hoB⟩ := HX.out.bkAt hib
          rw [hB] at C3
          have CB := Lib.hid hcB
          have OB := Lib.hid hoB
          have SB := Lib.hid (show preL m.bk (x + 1 - m.rack).toNat = preL m.bk (x - m.rack).toNat + m.bk[i2].length by rw [show x + 1 - m.rack = (x - m.rack) + 1 by omega, hi2]; exact preL_grow hib)
          have q4 : m.bk[i2].length ≤ 4 := HI.out.few.b i2 hib
          clear hB hcB hoB
          have b2 : (0 : Int) ≤ (i2 : Int) := by omega
          have b3 : (i2 : Int) < (m.bk.length : Int) := by omega
          have rhu0 := Chg.cell hu.out C0.out id
          have rhu1 := Chg.cell hu.out C1.out id
          have rhu2 := Chg.cell hu.out C2.out id
          have rhu3 := Chg.cell hu.out C3.out id
          have rbhu := Chg.cell hu.out CB.out id
          rw [hi2] at hin2
          have LB := Lib.hid (show (ys).length + m.bk[i2].length ≤ 1099511627776 by omega)
          have hwb : 1 ≤ m.wd ∧ m.wd ≤ 24 ∧ -3 ≤ m.rack ∧ m.rack ≤ 3 := ⟨hw.2.2.1, hw.2.2.2.1, hw.2.2.2.2⟩
          clear hw
          go_wp2_with (first | (go_at_call 64; refine (l00In_any _ _ _ _).mono ?_; rintro e w' ⟨rfl, rfl⟩; first | rw [hin1] | rw [hin2]) | (at_builtin; (refine wp_app_intsL rfl _ _ rfl w.heap.size _ ys rfl ho.out _ _ m.bk[i2] rfl (OB.out.ints.up hu.out) LB.out hu.out.size ?_; intro v8 w8 h1 h2 h3 h4; have HO8 := Lib.hid h1; have U8 := Lib.hid (show Up w w8 from Chg.new hu.out h4 (fun i hi e => by have e : w.heap.size ≤ i := e; omega)); clear h1 h2 h3 h4)))
          have hw := HW.out
          go_roundw
          case rel => exact ⟨x + 1, (ys ++ m.bk[i2]), by omega, by omega, by go_num, Lib.hid (by have h1 := SF.out; have h2 := SB.out; have h3 := hl.out; unfold livTo at h3 ⊢; rw [List.length_append]; omega), HO8, U8⟩
          case measure => first | (simp [intOf]; done) | (simp [intOf]; omega)
        · have hin2 : inB (x - m.rack) 0 (m.wd - 1) = false := inB_no (by omega)
          have SB := Lib.hid (show preL m.bk (x + 1 - m.rack).toNat = preL m.bk (x - m.rack).toNat by rw [show x + 1 - m.rack = (x - m.rack) + 1 by omega]; exact preL_step _ (by omega))
          have rhu0 := Chg.cell hu.out C0.out id
          have rhu1 := Chg.cell hu.out C1.out id
          have rhu2 := Chg.cell hu.out C2.out id
          have rhu3 := Chg.cell hu.out C3.out id
          have hwb : 1 ≤ m.wd ∧ m.wd ≤ 24 ∧ -3 ≤ m.rack ∧ m.rack ≤ 3 := ⟨hw.2.2.1, hw.2.2.2.1, hw.2.2.2.2⟩
          clear hw
          go_wp2_with (first | (go_at_call 64; refine (l00In_any _ _ _ _).mono ?_; rintro e w' ⟨rfl, rfl⟩; first | rw [hin1] | rw [hin2]))
          have hw := HW.out
          go_roundw
          case rel => exact ⟨x + 1, ys, by omega, by omega, by go_num, Lib.hid (by have h1 := SF.out; have h2 := SB.out; have h3 := hl.out; unfold livTo at h3 ⊢; omega), ho, hu⟩
          case measure => first | (simp [intOf]; done) | (simp [intOf]; omega)
    · obtain rfl : x = m.wd + 3 := by omega
      have hd : decide (m.wd + 3 < m.wd + 3) = false := decide_eq_false (by omega)
      have hl2 := hl.out
      rw [livTo_all HI.out] at hl2
      obtain ⟨A9, c9, rfl, -⟩ := ho.out.ints.shape
      rw [hl2]
      go_wp2
      go_ret
      exact ⟨⟨A9, c9, rfl⟩, hu.out⟩
end Go.Proofs.Ytplabnjdhkmmkaa
end
section
set_option maxRecDepth 100000
set_option maxHeartbeats 2000000
set_option linter.unusedSimpArgs false
set_option linter.unusedVariables false
namespace Go.Proofs.Ytplabnjdhkmmkaa
open Go.ChangeShapes Go.WideShapes Go.ChangeAt Go.RowKit
/-- where a trace stands -/
def TrAt (xs : List OpM) (j : Nat) (m : MachM) (ys : List EvM) : Prop := trC (newM 24) 0 xs = trC m ys.length (xs.drop j) ∧ evsM (newM 24) xs = ys ++ evsM m (xs.drop j) ∧ ys.length ≤ 2000
theorem TrAt.start (xs : List OpM) : TrAt xs 0 (newM 24) [] := ⟨rfl, rfl, Nat.zero_le _⟩
theorem TrAt.next {xs : List OpM} {j : Nat} {m : MachM} {ys : List EvM} (h : TrAt xs j m ys) (hj : j < xs.length) (hc : codeM m xs[j] = 0) (h1 : (ys ++ evM m xs[j]).length ≤ 2000) (h2 : liveN (execM m xs[j]) ≤ 12) : TrAt xs (j + 1) (execM m xs[j]) (ys ++ evM m xs[j]) := by
  obtain ⟨a, b, c⟩ := h
  rw [List.drop_eq_getElem_cons hj] at a b
  rw [List.length_append] at h1
  refine ⟨a.trans ((trC_c hc h1 h2).trans (by rw [List.length_append])), b.trans ?_, by rw [List.length_append]; exact h1⟩
  rw [evsM, List.append_assoc]
theorem TrAt.stop {xs : List OpM} {j : Nat} {m : MachM} {ys : List EvM} (h : TrAt xs j m ys) (hj : j < xs.length) (hc : codeM m xs[j] ≠ 0) : trC (newM 24) 0 xs = codeM m xs[j] := by
  obtain ⟨a, b, c⟩ := h
  rw [List.drop_eq_getElem_cons hj] at a
  rw [a, trC, if_pos hc]
theorem TrAt.full {xs : List OpM} {j : Nat} {m : MachM} {ys : List EvM} (h : TrAt xs j m ys) (hj : j < xs.length) (hc : codeM m xs[j] = 0) (hf : 2000 < (ys ++ evM m xs[j]).length ∨ 12 < liveN (execM m xs[j])) : trC (newM 24) 0 xs = 5 := by
  obtain ⟨a, b, c⟩ := h
  rw [List.drop_eq_getElem_cons hj] at a
  rw [List.length_append] at hf
  rw [a, trC, if_neg (by rw [hc]; simp), if_pos hf]
theorem evM_len {m : MachM} {o : OpM} {w : Int} (hi : MInv m) (ho : okOp w o) : (evM m o).length ≤ 100000000 := by
  have hv := valid_cases ho.1
  unfold evM
  split
  · rename_i h7
    have hr : -3 ≤ o.rack ∧ o.rack ≤ 3 := by rcases hv with h | h | h | h | h | h | h <;> omega
    have hk := hi.rack
    unfold rackAllM
    split
    · have := racksTo_length hi.few (macOf m).rk 1 (o.rack - (macOf m).rk).toNat
      have e : (macOf m).rk = m.rack := rfl
      rw [e] at this ⊢
      omega
    · have := racksTo_length hi.few (macOf m).rk (-1) ((macOf m).rk - o.rack).toNat
      have e : (macOf m).rk = m.rack := rfl
      rw [e] at this ⊢
      omega
  · repeat (first | (split; simp; done) | split | simp)
theorem TrAt.end_ {xs : List OpM} {m : MachM} {ys : List EvM} (h : TrAt xs xs.length m ys) : trC (newM 24) 0 xs = 0 ∧ evsM (newM 24) xs = ys := by
  obtain ⟨a, b, c⟩ := h
  rw [List.drop_length] at a b
  exact ⟨a, b.trans (List.append_nil _)⟩
theorem l10Trace_any (w : World) (S : Nat → Prop) (v : Value) (xs : List OpM) (h : Ops w S v xs) (hok : okOpsB 24 xs = true) :
    Calls Try.prog 37 #[.int .i64 24, v] w fun e w' => ∃ u, e = .returned (.tuple #[u, .int .i64 (trC (newM 24) 0 xs)]) ∧ (trC (newM 24) 0 xs = 0 → Evs w' (New w.heap.size w'.heap.size) u (evsM (newM 24) xs)) ∧ Up w w' := by
  obtain ⟨A, c, rfl, hlc, hcm, -⟩ := h.1.shape
  have H := Lib.hid h
  have HOK := Lib.hid hok
  clear h hok
  go_enter Try.func37, Try.ntmps37
  go_wp2_with fail
  refine (l07New_any w 24 ⟨by omega, by omega⟩).mono ?_
  rintro e w2 ⟨F, B, C, fs, bs, rfl, hM, g2⟩
  have U2 := Lib.hid g2
  have HM := Lib.hid hM
  obtain ⟨AF, cF, rfl, -⟩ := ownsRow_shape hM.f
  obtain ⟨AB, cB, rfl, -⟩ := ownsRow_shape hM.b
  obtain ⟨AC, cC, rfl, -⟩ := ownsRow_shape hM.c
  clear hM
  have HZ2 : Hid (w.heap.size ≤ w2.heap.size) := Lib.hid g2.size
  clear g2
  unfold machVal
  go_wp2_with fail
  have HX0 := Lib.hid (show Mach ((w2.alloc (.cells #[.int .i64 (newM 24).wd, .int .i64 (newM 24).rack, .slice AF fs.length cF, .slice AB bs.length cB, .slice AC (newM 24).cs.length cC, .slice none 0 0, .slice none 0 0] 37)).alloc (.cells #[] 92)) (fun b => w.heap.size ≤ b ∧ b < ((w2.alloc (.cells #[.int .i64 (newM 24).wd, .int .i64 (newM 24).rack, .slice AF fs.length cF, .slice AB bs.length cB, .slice AC (newM 24).cs.length cC, .slice none 0 0, .slice none 0 0] 37)).alloc (.cells #[] 92)).heap.size ∧ ¬ (Value.slice (some ⟨w2.heap.size + 1, 0, none⟩) 0 0).ownBlock = some b) (4 * 0) w2.heap.size (newM 24) from ((((HM.out.mono (T := fun b => w.heap.size ≤ b) (fun b _ h => Nat.le_of_lt h)).box (fun b hb => Nat.le_trans HZ2.out hb) 37).mach.mono (T := fun b => w.heap.size ≤ b ∧ b < w2.heap.size + 1) (fun b hb h => ⟨h, by simpa using hb⟩)).keep (Chg.alloc (Chg.refl Nowhere _) _) (fun _ _ _ h => h)).mono (fun b hb h => ⟨h.1, hb, fun e => by have e : w2.heap.size + 1 = b := (by simpa [Value.ownBlock] using e); have := h.2; omega⟩))
  have HO0 := Lib.hid (show OwnEvs ((w2.alloc (.cells #[.int .i64 (newM 24).wd, .int .i64 (newM 24).rack, .slice AF fs.length cF, .slice AB bs.length cB, .slice AC (newM 24).cs.length cC, .slice none 0 0, .slice none 0 0] 37)).alloc (.cells #[] 92)) w.heap.size (.slice (some ⟨w2.heap.size + 1, 0, none⟩) 0 0) [] from by have h := OwnEvs.made (w2.alloc (.cells #[.int .i64 (newM 24).wd, .int .i64 (newM 24).rack, .slice AF fs.length cF, .slice AB bs.length cB, .slice AC (newM 24).cs.length cC, .slice none 0 0, .slice none 0 0] 37)) w.heap.size (by have := HZ2.out; simp; omega); simpa using h)
  have U3 := Lib.hid (show Up w ((w2.alloc (.cells #[.int .i64 (newM 24).wd, .int .i64 (newM 24).rack, .slice AF fs.length cF, .slice AB bs.length cB, .slice AC (newM 24).cs.length cC, .slice none 0 0, .slice none 0 0] 37)).alloc (.cells #[] 92)) from Chg.alloc (Chg.alloc U2.out _) _)
  obtain ⟨q, hq⟩ : ∃ q, q = w2.heap.size := ⟨_, rfl⟩
  rw [← hq] at HX0 HO0
  try rw [← hq]
  generalize ((w2.alloc (.cells #[.int .i64 (newM 24).wd, .int .i64 (newM 24).rack, .slice AF fs.length cF, .slice AB bs.length cB, .slice AC (newM 24).cs.length cC, .slice none 0 0, .slice none 0 0] 37)).alloc (.cells #[] 92)) = w3 at HX0 HO0 U3 ⊢
  clear hq HM HZ2 U2
  go_loopw [7, 8] (fun v i wr => ∃ (j : Nat) (mm : MachM) (ys : List EvM), j ≤ xs.length ∧ i = .int .i64 j ∧ Hid (MInv mm ∧ mm.wd = 24) ∧ Hid (TrAt xs j mm ys) ∧ Hid (OwnEvs wr w.heap.size v ys) ∧ Hid (Mach wr (fun b => w.heap.size ≤ b ∧ b < wr.heap.size ∧ ¬ v.ownBlock = some b) (4 * j) q mm) ∧ Hid (Up w wr)) (fun _ i _ => xs.length - (intOf i).toNat)
  case atStart => exact ⟨0, newM 24, [], by omega, rfl, Lib.hid ⟨newM_inv (by omega), rfl⟩, Lib.hid (TrAt.start xs), HO0, HX0, U3⟩
  case round =>
    obtain ⟨j, mm, ys, hj, rfl, hi, hr, ho, hm, hu⟩ := hrel
    obtain ⟨AV, cV, hv, -⟩ := ho.out.rd.shape
    subst hv
    by_cases hlt : j < xs.length
    · obtain ⟨b, o, c', he, hS, hat⟩ := (Ops.up H.out hu.out).opAt hlt
      obtain ⟨rfl, rfl⟩ : A = some ⟨b, o, none⟩ ∧ c = c' := by simpa using he
      have HBW : Hid (b < w.heap.size) := Lib.hid (by obtain ⟨b2, o2, c2, he2, -, hb2, -⟩ := Ops.at_ H.out hlt; simp at he2; omega)
      have HA := Lib.hid hat.opC
      clear hat he hS
      go_wp2_with fail
      refine (l10Do_any wr hm.out hi.out.1 b (o + j * 8) xs[j] (by rw [hi.out.2]; exact ops_at HOK.out hlt) HA.out (fun e => by have e : w.heap.size ≤ b := e.1; have := HBW.out; omega) (by have := ops_len HOK.out; omega)).mono ?_
      rintro e w5 ⟨h1, h2, h3⟩
      have U5 := Lib.hid (show Up w w5 from Chg.new hu.out h3 (fun i hi e => by have e : w.heap.size ≤ i := e.1.1; omega))
      have OV := Lib.hid (ho.out.kept h3 (fun g hg e => e.1.2.2 hg))
      have HZ5 := Lib.hid h3.size
      by_cases hc : codeM mm xs[j] = 0
      case neg =>
        obtain rfl := h1 hc
        have hc2 : (codeM mm xs[j] == 0) = false := by simpa using hc
        have HST := Lib.hid (hr.out.stop hlt hc)
        clear h1 h2 h3
        go_wp2
        go_ret2
        rw [HST.out]
        exact ⟨_, rfl, fun h => absurd h hc, U5.out⟩
      case pos =>
        obtain ⟨u, rfl, hE, hM⟩ := h2 hc
        have KE := Lib.hid hE
        have KM := Lib.hid hM
        have HC := Lib.hid hc
        have HLE := Lib.hid (show ys.length + (evM mm xs[j]).length ≤ 1099511627776 by have h1 := hr.out.2.2; have h2 := evM_len hi.out.1 (ops_at (HOK.out) hlt); omega)
        have HB5 := Lib.hid (show w.heap.size ≤ w5.heap.size from U5.out.size)
        clear h1 h2 h3 hE hM hc
        obtain ⟨ln, hln⟩ : ∃ ln, ln = (ys ++ evM mm xs[j]).length := ⟨_, rfl⟩
        have HLN := Lib.hid hln
        have hlb : ln ≤ 1099511627776 := by have h1 := HLN.out; rw [List.length_append] at h1; have := HLE.out; omega
        have HI6 := Lib.hid (hi.out.1.exec (by rw [hi.out.2]; exact ops_at HOK.out hlt) HC.out)
        have HL6 := Lib.hid (show liveN (execM mm xs[j]) ≤ 1000 by have := livTo_le HI6.out ((execM mm xs[j]).wd + 3); rw [livTo_all HI6.out] at this; exact this)
        clear hln
        by_cases hfu : 2000 < ln
        · have hd : decide (2000 < (ln : Int)) = true := decide_eq_true (by omega)
          have HST := Lib.hid (hr.out.full hlt HC.out (.inl (by rw [← HLN.out]; exact hfu)))
          clear hfu
          go_wp2_with (at_builtin; refine wp_appEvs2 rfl _ _ rfl w.heap.size (.slice AV ys.length cV) ys rfl OV.out _ _ (evM mm xs[j]) rfl KE.out HLE.out HB5.out ?_; intro v6 w6 h1 h2 h3 h4; have HO := Lib.hid h1; have HG := Lib.hid h2; have HOB := Lib.hid h3; have U6 := Lib.hid (show Up w w6 from Chg.new U5.out h4 (fun i hi e => by have e : w.heap.size ≤ i := e; omega)); clear h1 h2 h3 h4; obtain ⟨A6, c6, hv6, -⟩ := HO.out.rd.shape; subst hv6; rw [← HLN.out] at HOB ⊢)
          go_ret2
          rw [HST.out]
          exact ⟨_, rfl, fun h => absurd h (by decide), U6.out⟩
        · have hd : decide (2000 < (ln : Int)) = false := decide_eq_false (by omega)
          have HFU := Lib.hid hfu
          clear hfu
          go_wp2_with (at_builtin; refine wp_appEvs2 rfl _ _ rfl w.heap.size (.slice AV ys.length cV) ys rfl OV.out _ _ (evM mm xs[j]) rfl KE.out HLE.out HB5.out ?_; intro v6 w6 h1 h2 h3 h4; have HO := Lib.hid h1; have HG := Lib.hid h2; have HOB := Lib.hid h3; have U6 := Lib.hid (show Up w w6 from Chg.new U5.out h4 (fun i hi e => by have e : w.heap.size ≤ i := e; omega)); clear h1 h2 h3 h4; obtain ⟨A6, c6, hv6, -⟩ := HO.out.rd.shape; subst hv6; rw [← HLN.out] at HOB ⊢)
          have H6 := Lib.hid (show Mach w6 (fun b => w.heap.size ≤ b ∧ b < w6.heap.size ∧ ¬ (Value.slice A6 ln c6).ownBlock = some b) (4 * (j + 1)) q (execM mm xs[j]) from ((KM.out.mono (T := fun b => ((w.heap.size ≤ b ∧ ¬ (Value.slice AV ys.length cV).ownBlock = some b) ∨ wr.heap.size ≤ b) ∧ b < w5.heap.size) (fun b hb h => ⟨h.imp (fun h => ⟨h.1.1, h.1.2.2⟩) id, hb⟩)).keep HG.out (fun b hb h e => by rcases h.1 with h | h; exact h.2 e; have := (ho.out.lt e).2; omega)).mono (fun b hb h => ⟨by rcases h.1 with h | h; exact h.1; exact Nat.le_trans hu.out.size h, hb, fun e => by rcases HOB.out b e with e2 | e2; (rcases h.1 with h | h; exact h.2 e2; have := (ho.out.lt e2).2; omega); have := h.2; omega⟩))
          refine (l07Live_any w6 H6.out HI6.out).mono ?_
          rintro e w7 ⟨⟨A7, c7, rfl⟩, g7⟩
          have G7 := Lib.hid g7
          have U7 := Lib.hid (show Up w w7 from Chg.trans U6.out g7)
          clear g7
          obtain ⟨lv, hlv⟩ : ∃ lv, lv = liveN (execM mm xs[j]) := ⟨_, rfl⟩
          have HLV := Lib.hid hlv
          have hl6 := HL6.out
          rw [← hlv] at hl6 ⊢
          clear hlv
          by_cases hlf : 12 < lv
          · have hd2 : decide (12 < (lv : Int)) = true := decide_eq_true (by omega)
            have HST := Lib.hid (hr.out.full hlt HC.out (.inr (by rw [← HLV.out]; exact hlf)))
            go_wp2
            go_ret2
            rw [HST.out]
            exact ⟨_, rfl, fun h => absurd h (by decide), U7.out⟩
          · have hd2 : decide (12 < (lv : Int)) = false := decide_eq_false (by omega)
            have HNX := Lib.hid (hr.out.next hlt HC.out (by rw [← HLN.out]; have := HFU.out; omega) (by rw [← HLV.out]; omega))
            go_wp2
            go_roundw
            case rel => exact ⟨j + 1, execM mm xs[j], ys ++ evM mm xs[j], by omega, by go_num, Lib.hid ⟨HI6.out, (execM_wd mm xs[j]).trans hi.out.2⟩, HNX, Lib.hid (HLN.out ▸ HO.out.up G7.out), Lib.hid ((Mach.up H6.out G7.out).mono (fun b hb h => ⟨h.1, hb, h.2.2⟩)), U7⟩
            case measure => first | (simp [intOf]; done) | (simp [intOf]; omega)
    · obtain rfl : j = xs.length := by omega
      have HEN := Lib.hid hr.out.end_
      go_wp2
      go_ret2
      rw [HEN.out.1]
      exact ⟨_, rfl, fun _ => by rw [HEN.out.2]; exact ho.out.rd, hu.out⟩
theorem TraceOf_any (w : World) (S : Nat → Prop) (v : Value) (xs : List OpM) (h : Ops w S v xs) (hok : okOpsB 24 xs = true) :
    Calls Try.prog 10 #[.int .i64 24, v] w fun e w' => ∃ u, e = .returned (.tuple #[u, .int .i64 (trC (newM 24) 0 xs)]) ∧ (trC (newM 24) 0 xs = 0 → Evs w' (New w.heap.size w'.heap.size) u (evsM (newM 24) xs)) ∧ Up w w' := by
  obtain ⟨A, c, rfl, hlc, hcm, -⟩ := h.1.shape
  have H := Lib.hid h
  have HOK := Lib.hid hok
  clear h hok
  go_enter Try.func10, Try.ntmps10
  go_wp2_with fail
  refine (l07Ops_any _ S _ xs H.out 24).mono ?_
  rintro e w1 ⟨rfl, g1⟩
  rw [HOK.out]
  have G1 := Lib.hid g1
  clear g1
  go_wp2_with fail
  refine (l10Trace_any _ S _ xs (H.out.up G1.out) HOK.out).mono ?_
  rintro e w2 ⟨u, rfl, h2, g2⟩
  have H2 := Lib.hid h2
  have G2 := Lib.hid g2
  clear h2 g2
  go_wp2
  go_ret2
  exact ⟨_, rfl, fun hc => (H2.out hc).mono (fun b _ hb => ⟨Nat.le_trans G1.out.size hb.1, hb.2⟩), Chg.trans G1.out G2.out⟩
end Go.Proofs.Ytplabnjdhkmmkaa
end
