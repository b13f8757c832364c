/- Racking: the program's events of one step. No condition. -/
import Derived.Test.YtchfjglofmphfaaRB10
import Derived.Deep.RegionLaw
import Derived.Deep.RegionHeld3
import Derived.Deep.DeepCutAuto
set_option linter.unusedSimpArgs false
set_option linter.unusedVariables false
set_option maxRecDepth 100000
set_option maxHeartbeats 4000000
namespace Go.Proofs.Ytchfjglofmphfaa
open Go.ChangeShapes Go.WideShapes Go.ChangeAt Go.RowKit
section
variable {P : Program}
theorem step_append_own2 {w : World} {ops : Array Oper} {o : Oper} {a : Act} {K : Act → World → Prop} {Q : Exit → Act → World → Prop} {E : Prop} (hgd : o.guard = none) (s x : Operand) (t : TypeId)
    (ho : o.op = .call { callee := .builtin .append, args := #[s, x], argTypes := #[t, t] })
    (base : Nat) (e : TypeId) (i : TypeInfo) (z : Value) (size bytes : Nat) (ht : P.underlying t = some (.slice e)) (hi : P.info? e = some i) (hz : i.zero = some z)
    (hsize : i.size = size) (hby : i.bytes = bytes) (hzs : z.cells.size = size) (hsz : 0 < size)
    (v : Value) (n : Nat) (xs : List Value) (hs : a.eval s = v) (hown : w.ownsRow base e size v n xs)
    (ad : Addr) (m c : Nat) (news : List Value) (hx : a.eval x = .slice (some ad) m c) (hl : news.length = m * size) (hnews : ∀ j u, news[j]? = some u → w.cell? (ad.add j) = some u) (h1 : ∀ u ∈ news, u.oneCell' = true)
    (h63 : n + m ≤ maxLen) (hbytes : (n + m) * bytes ≤ 140737488355328) (hbase : base ≤ w.heap.size)
    (h : ∀ v' w', w'.ownsRow base e size v' (n + m) (xs ++ news) → w.grownBy w' v.ownBlock → (∀ g, v'.ownBlock = some g → v.ownBlock = some g ∨ w.heap.size ≤ g) → K (a.put o.dst v') w') :
    if Region.wanted o (yielded ops a.tmps) = true then Oper.wp P o a w K Q else E := by
  have hw : Region.wanted o (yielded ops a.tmps) = true := by simp [Region.wanted, hgd]
  rw [if_pos hw]
  obtain ⟨v', w', hr, h2, h3, h4⟩ := run_append_own (P := P) w base t o.type e i z size bytes ht hi hz hsize hby hzs hsz v n xs hown ad m c news hl hnews h1 h63 hbytes hbase
  have h5 := append_block (P := P) base t o.type e i z size bytes ht hi hz hsize hby hzs hsz v n xs hown ad m c news hl hnews h1 h63 hbytes hr
  unfold Oper.wp execOp
  simp only [ho, resolve, invoke, builtin, Sem.run_bind, Sem.run_pure, Result.andThen_ok, List.map_toArray, List.map_cons, List.map_nil, hs, hx, hr]
  exact h v' w' h2 h3 h5
end
theorem step_appEvs2 {w : World} {ops : Array Oper} {o : Oper} {a : Act} {K : Act → World → Prop} {Q : Exit → Act → World → Prop} {E : Prop} (hgd : o.guard = none) (s x : Operand)
    (ho : o.op = .call { callee := .builtin .append, args := #[s, x], argTypes := #[29, 29] })
    (base : Nat) (v : Value) (xs : List EvM) (hs : a.eval s = v) (hown : OwnEvs w base v xs)
    (S : Nat → Prop) (u : Value) (ys : List EvM) (hx : a.eval x = u) (hsrc : Evs w S u ys) (hlen : xs.length + ys.length ≤ 1099511627776) (hbase : base ≤ w.heap.size)
    (h : ∀ v' w', OwnEvs w' base v' (xs ++ ys) → Chg (fun b => v.ownBlock = some b) w w' → (∀ b, v'.ownBlock = some b → v.ownBlock = some b ∨ w.heap.size ≤ b) → Chg (fun k => base ≤ k) w w' → K (a.put o.dst v') w') :
    if Region.wanted o (yielded ops a.tmps) = true then Oper.wp Try.prog o a w K Q else E := by
  obtain ⟨i0, hi, hz0, hz1, hz2⟩ := info_parts infoEvs
  obtain ⟨⟨hl, A, c, rfl, hlc, hcm, hr, hnn⟩, hok⟩ := hsrc
  have hok' : ∀ y ∈ xs ++ ys, y.ok := fun y hy => (List.mem_append.1 hy).elim (hown.2 y) (hok y)
  cases A with
  | none =>
    have hy : ys = [] := by
      rcases Nat.eq_zero_or_pos ys.length with h0 | h0
      · exact List.eq_nil_of_length_eq_zero h0
      · obtain ⟨b, oo, h1, _⟩ := hr h0
        cases h1
    subst hy
    obtain rfl := hnn rfl
    have hw : Region.wanted o (yielded ops a.tmps) = true := by simp [Region.wanted, hgd]
    rw [if_pos hw]
    have hrun := run_append_owned_none (P := Try.prog) (w := w) base 29 o.type 114 i0 6 Try.underlying29 hi v xs.length _ hown.1
    have hK := h v w (by simpa using hown) (Chg.refl _ _) (fun b hb => .inl hb) (Chg.refl _ _)
    unfold Oper.wp
    simp [execOp, ho, resolve, invoke, builtin, hs, hx, hrun, Result.andThen]
    exact hK
  | some ad =>
    have hnews : ∀ j q, (ys.flatMap EvM.cells)[j]? = some q → w.cell? (ad.add j) = some q := by
      intro j q hq
      obtain ⟨hj, he⟩ := List.getElem?_eq_some_iff.1 hq
      have hp : 0 < ys.length := by
        rcases Nat.eq_zero_or_pos ys.length with h0 | h0
        · rw [List.eq_nil_of_length_eq_zero h0] at hj; simp at hj
        · exact h0
      obtain ⟨b, oo, h1, _, _, hc⟩ := hr hp
      injection h1 with h1
      subst h1
      have := (hc j hj).1
      rw [he] at this
      rw [← this]
      unfold Addr.add
      by_cases h0 : j = 0 <;> simp [h0]
    refine step_append_own2 (P := Try.prog) hgd s x 29 ho base 114 i0 _ 6 48 Try.underlying29 hi hz0 hz1 hz2 rfl (by decide) v xs.length _ hs hown.1 ad ys.length c (ys.flatMap EvM.cells) hx hl hnews ?_ ?_ ?_ hbase ?_
    · intro q hq
      obtain ⟨y, _, hy⟩ := List.mem_flatMap.1 hq
      exact cells_oneEvs y q hy
    · unfold Go.maxLen; omega
    · omega
    · intro v' w' h2 h3 h4
      exact h v' w' ⟨by simpa using h2, hok'⟩ (Chg.of_grown h3) h4 ((Chg.refl _ _).grown h3 fun k hk => .inl (hown.1.lt k hk).1)
theorem rackEvents_up (w : World) (M H L : Nat → Prop) (bm : Nat) (p : MacM) (hp : FewM p) (hn0 : 1 ≤ p.fr.length) (r : Int) (hr : -3 ≤ r ∧ r ≤ 3) (A0 A1 : Option Addr) (c0 c1 : Nat) (q0 : w.cell? ⟨bm, 0, none⟩ = some (.int .i64 p.wd)) (q1 : w.cell? ⟨bm, 1, none⟩ = some (.int .i64 r)) (q2 : w.cell? ⟨bm, 2, none⟩ = some (.slice A0 p.fr.length c0)) (q3 : w.cell? ⟨bm, 3, none⟩ = some (.slice A1 p.bk.length c1)) (h0 : IntSSV w M H L (.slice A0 p.fr.length c0) p.fr) (h1 : IntSSV w M H L (.slice A1 p.bk.length c1) p.bk) :
    Calls Try.prog 116 #[.pointer (some ⟨bm, 0, none⟩), .int .i64 1] w fun e w' => ∃ v, e = .returned v ∧ Evs w' (New w.heap.size w'.heap.size) v (oneRack p r 1) ∧ Up w w' := by
  have H0 := Lib.hid h0
  have H1 := Lib.hid h1
  have hbm := World.block_lt_of_cell? w _ q0
  have Q0 := Lib.hid q0
  have Q1 := Lib.hid q1
  have Q2 := Lib.hid q2
  have Q3 := Lib.hid q3
  have HP := Lib.hid hp
  have HNN := Lib.hid hp.n1
  have HR := Lib.hid hr
  obtain ⟨N, hN⟩ : ∃ N, N = p.fr.length := ⟨_, rfl⟩
  have HN := Lib.hid hN
  have hN1 : 1 ≤ N ∧ N ≤ 24 := ⟨by omega, by have := hp.n1; omega⟩
  have HNL := Lib.hid (needlesM_len N r)
  have HNE := Lib.hid (fun W (g : Up w W) => needles_any W bm N hN1 r hr ((Chg.cell g q0 id).trans (by rw [hp.wd, ← hN])) (Chg.cell g q1 id))
  have q0' : w.cell? ⟨bm, 0, none⟩ = some (.int .i64 N) := q0.trans (by rw [hp.wd, ← hN])
  have Q0' := Lib.hid q0'
  clear h0 h1 q0 q1 q2 q3 hp hn0 hr
  go_enter Try.func116, Try.ntmps116
  go_wp2_with fail
  have M0 := Lib.hid (OwnEvs.made w w.heap.size (Nat.le_refl _))
  refine (HNE.out _ (by repeat (first | exact Chg.refl _ _ | apply Chg.drew | apply Chg.drewN | refine Chg.alloc ?_ _))).mono ?_
  rintro e w1 ⟨vo, rfl, ko, g1⟩
  obtain ⟨Ao, co, rfl, hlo, hco, hno⟩ := ko.rd.shape
  have hlen : 1 ≤ (needlesM N r).length := by
    have h := ordU_at (N := N) (i := 0) r (by omega)
    rw [ordU_start] at h
    rw [h]
    simp only [List.length_append, List.length_cons]
    omega
  obtain ⟨go, oo, cc, heo, hgo, hgl, -⟩ := ko.rd.at_ hlen
  obtain ⟨rfl, rfl⟩ : Ao = some ⟨go, oo, none⟩ ∧ co = cc := by simpa using heo
  obtain rfl : oo = 0 := by
    rcases ko.1.2 with ⟨h2, -⟩ | ⟨g, cap, cur, h2, -⟩
    · cases h2
    · simp only [Value.slice.injEq, Option.some.injEq, Addr.mk.injEq] at h2
      exact h2.1.2.1
  have KC := Lib.hid ko.rd.cells
  have hsz1 := g1.size
  have hgo1 : w.heap.size + 1 ≤ go := by have := hgo.1; simpa using this
  have U1 := Lib.hid (show Up w w1 from Chg.trans (by repeat (first | exact Chg.refl _ _ | apply Chg.drew | apply Chg.drewN | refine Chg.alloc ?_ _)) g1)
  have M1 := Lib.hid (M0.out.up g1)
  have HGO := Lib.hid (show w.heap.size < go ∧ go < w1.heap.size from ⟨hgo1, hgl⟩)
  obtain ⟨n0, hn0⟩ : ∃ n0, n0 = (needlesM N r).length := ⟨_, rfl⟩
  rw [← hn0] at hlo hlen
  rw [← hn0]
  have hn60 : n0 ≤ 60 := by have := HNL.out; omega
  have HN0 := Lib.hid hn0
  have HCO := Lib.hid (show n0 ≤ co ∧ co ≤ 9223372036854775807 from ⟨hlo, hco⟩)
  have q0w := Chg.cell U1.out Q0'.out id
  clear ko g1 hgo hgl hno heo q0' hn0 hgo1 M0 HNE HNL hlo hco hsz1 hN
  go_wp2
  go_loopw [5, 7, 10, 11, 23] (fun v _ _ _ i wr => ∃ j : Nat, j ≤ N ∧ i = .int .i64 j ∧ Hid (OwnEvs wr w.heap.size v (rackTo p r 1 j)) ∧ Hid (NdC wr go (ordU N r j)) ∧ Hid (Up w wr) ∧ Hid (w1.heap.size ≤ wr.heap.size) ∧ Hid (v.ownBlock ≠ some go)) (fun _ _ _ _ i _ => N - (intOf i).toNat)
  case atStart => exact ⟨0, by omega, rfl, M1, by show Hid (NdC w1 go (ordU N r 0)); rw [ordU_start]; exact KC, U1, Nat.le_refl _, fun h => by have h1 : w.heap.size = go := (by simpa [Value.ownBlock] using h); have := HGO.out.1; omega⟩
  clear q0w M1 KC U1
  case round =>
    obtain ⟨j, hj, rfl, ho, hnd, hu, hz, hne⟩ := hrel
    have q0 := Chg.cell hu.out Q0'.out id
    have q1 := Chg.cell hu.out Q1.out id
    have hzz := hz.out
    have hg1 := HGO.out
    by_cases hlt : j < N
    · have hli : (j : Int) < (N : Int) := by omega
      obtain ⟨A, R, hO⟩ := ordU_R (p := p) HN.out.symm (by rw [HP.out.n2, HN.out]) (HR.out.1) hlt
      have hr := HR.out
      obtain ⟨K, hK⟩ : ∃ K, K = (j : Int) - r - 1 := ⟨_, rfl⟩
      rw [← hK] at hO
      have HO := Lib.hid hO
      have HK := Lib.hid hK
      have HLO : (ordU N r j).length = n0 := by rw [ordU_len r j hj, HN0.out]
      have q1a := Chg.cell ((Chg.refl Nowhere wr).alloc (.cells #[.int .i64 1, .int .i64 j] 102)) q1 id
      have HVA := Lib.hid hO.a
      have HVR := Lib.hid hO.r
      have HNEA := Lib.hid hO.ne
      have q1a := Chg.cell ((Chg.refl Nowhere wr).alloc (.cells #[.int .i64 1, .int .i64 j] 102)) q1 id
      clear hO
      by_cases hk : 0 ≤ K ∧ K < N
      rotate_left
      · obtain ⟨hE, hE'⟩ := HO.out.no hk
        have HFK := Lib.hid (show facK r 1 j = K by unfold facK; rw [hK, if_pos (by omega)])
        have HE := Lib.hid (show rackTo p r 1 (j + 1) = rackTo p r 1 j by rw [rackTo, rackE_no (by rw [HFK.out, HP.out.n2, ← HN.out]; exact hk), List.append_nil])
        have HE' := Lib.hid (show ordU N r (j + 1) = ordU N r j from hE')
        have HND : Hid (NdC wr go (A ++ ⟨1, j⟩ :: R)) := Lib.hid (hE ▸ hnd.out)
        have HLN : Hid ((A ++ ⟨1, j⟩ :: R : List NdM).length = n0) := Lib.hid (hE ▸ HLO)
        have HVL : Hid (∀ y ∈ (A ++ ⟨1, j⟩ :: R : List NdM), y.vld N) := Lib.hid fun y hy => by
          rcases List.mem_append.1 hy with h | h
          · exact HVA.out y h
          · rcases List.mem_cons.1 h with rfl | h
            · exact ⟨.inl rfl, by show (0 : Int) ≤ j; omega, hli⟩
            · exact HVR.out y h
        have HOK := Lib.hid fun y hy => vld_ok hN1.2 (HVL.out y hy)
        have hl2 : A.length + (R.length + 1) = n0 := by have := HLN.out; simpa using this
        have HNQ := Lib.hid fun y (hy : y ∈ (A ++ ⟨1, j⟩ :: R : List NdM)) (W : World) => (ndNeq W y ⟨2, K⟩).trans (by rw [ndEq_vld (HVL.out y hy) hk, Bool.not_false])
        clear hE hE' hk
        rcases hA : A.length with _ | m
        · have HZZ := Lib.hid hA
          have HIX := Lib.hid (fun W (g : Up wr W) => (nIndex_at W _ _ A _ ⟨1, (j : Int)⟩ ((HND.out.up g).nds HLN.out (by have := g.size; omega) HCO.out.1 HCO.out.2 HOK.out) HNEA.out).mono fun e w' ⟨h1, h2⟩ => (⟨h1.trans (by rw [HZZ.out]; rfl), h2⟩ : e = Ending.returned (.int .i64 0) ∧ Up W w'))
          go_wp2_with fail
          rw [← hK]
          refine (HIX.out _ (by repeat (first | exact Chg.refl _ _ | apply Chg.drew | apply Chg.drewN | refine Chg.alloc ?_ _))).mono ?_
          rintro e w2 ⟨rfl, g2⟩
          have U2 := Lib.hid (show Up wr w2 from Chg.trans (by repeat (first | exact Chg.refl _ _ | apply Chg.drew | apply Chg.drewN | refine Chg.alloc ?_ _)) g2)
          have b90 := Chg.cell g2 (show ((wr.alloc (.cells #[.int .i64 1, .int .i64 j] 102)).alloc (.cells #[.int .i64 2, .int .i64 K] 102)).cell? ⟨wr.heap.size + 1, 0, none⟩ = some (.int .i64 2) from cell_new2 _ _ _ _ _) id
          have b91 := Chg.cell g2 (show ((wr.alloc (.cells #[.int .i64 1, .int .i64 j] 102)).alloc (.cells #[.int .i64 2, .int .i64 K] 102)).cell? ⟨wr.heap.size + 1, 1, none⟩ = some (.int .i64 K) from cell_new2 _ _ _ _ _) id
          have HZ2 := Lib.hid (show wr.heap.size + 2 ≤ w2.heap.size by have := g2.size; simpa using this)
          clear g2 HIX hK
          go_wp2_with fail
          go_quiet (fail)
          go_wp2
          go_roundw
          case rel => exact ⟨j + 1, by omega, by go_num, by show Hid _; rw [HE.out]; exact Lib.hid (ho.out.up (Chg.trans U2.out (by repeat (first | exact Chg.refl _ _ | apply Chg.drew | apply Chg.drewN | refine Chg.alloc ?_ _)))), by show Hid _; rw [HE'.out]; exact Lib.hid (hnd.out.up (Chg.trans U2.out (by repeat (first | exact Chg.refl _ _ | apply Chg.drew | apply Chg.drewN | refine Chg.alloc ?_ _)))), Lib.hid (Chg.trans hu.out (Chg.trans U2.out (by repeat (first | exact Chg.refl _ _ | apply Chg.drew | apply Chg.drewN | refine Chg.alloc ?_ _)))), Lib.hid (by refine Nat.le_trans hz.out (Chg.size (S := Nowhere) ?_); exact Chg.trans U2.out (by repeat (first | exact Chg.refl _ _ | apply Chg.drew | apply Chg.drewN | refine Chg.alloc ?_ _))), hne⟩
          case measure => first | (simp [intOf]; done) | (simp [intOf]; omega)
        · have HZZ := Lib.hid hA
          have HIX := Lib.hid (fun W (g : Up wr W) => (nIndex_at W _ _ A _ ⟨1, (j : Int)⟩ ((HND.out.up g).nds HLN.out (by have := g.size; omega) HCO.out.1 HCO.out.2 HOK.out) HNEA.out).mono fun e w' ⟨h1, h2⟩ => (⟨h1.trans (by rw [HZZ.out]; simp), h2⟩ : e = Ending.returned (.int .i64 ((m : Int) + 1)) ∧ Up W w'))
          go_wp2_with fail
          rw [← hK]
          refine (HIX.out _ (by repeat (first | exact Chg.refl _ _ | apply Chg.drew | apply Chg.drewN | refine Chg.alloc ?_ _))).mono ?_
          rintro e w2 ⟨rfl, g2⟩
          have U2 := Lib.hid (show Up wr w2 from Chg.trans (by repeat (first | exact Chg.refl _ _ | apply Chg.drew | apply Chg.drewN | refine Chg.alloc ?_ _)) g2)
          have b90 := Chg.cell g2 (show ((wr.alloc (.cells #[.int .i64 1, .int .i64 j] 102)).alloc (.cells #[.int .i64 2, .int .i64 K] 102)).cell? ⟨wr.heap.size + 1, 0, none⟩ = some (.int .i64 2) from cell_new2 _ _ _ _ _) id
          have b91 := Chg.cell g2 (show ((wr.alloc (.cells #[.int .i64 1, .int .i64 j] 102)).alloc (.cells #[.int .i64 2, .int .i64 K] 102)).cell? ⟨wr.heap.size + 1, 1, none⟩ = some (.int .i64 K) from cell_new2 _ _ _ _ _) id
          have HZ2 := Lib.hid (show wr.heap.size + 2 ≤ w2.heap.size by have := g2.size; simpa using this)
          clear g2 HIX hK
          have wm : IntKind.i64.wrap ((m : Int) + 1 - 1) = m := by rw [show (m : Int) + 1 - 1 = m by omega]; exact IntWalk.i64_in _ (by omega)
          have i0 : (m : Int) < (n0 : Int) := by omega
          have i1 : (m : Int) + 1 < (n0 : Int) := by omega
          have i2 : ¬ (m : Int) < 0 := by omega
          have i3 : ¬ (n0 : Int) ≤ (m : Int) + 1 := by omega
          have wm2 : IntKind.i64.wrap ((m : Int) + 1) = (m : Int) + 1 := IntWalk.i64_in _ (by omega)
          have j2 : decide ((m : Int) < 0) = false := decide_eq_false i2
          have j3 : decide ((m : Int) + 1 ≥ (n0 : Int)) = false := decide_eq_false i3
          obtain ⟨y0, hy0, d00, d01⟩ := (HND.out.up U2.out).get (m := m) (by rw [HLN.out]; omega)
          obtain ⟨y1, hy1, d10, d11⟩ := (HND.out.up U2.out).get (m := (m + 1)) (by rw [HLN.out]; omega)
          have heq0 := HNQ.out y0 hy0
          have heq1 := HNQ.out y1 hy1
          simp only [NdM.val] at heq0 heq1
          go_wp2_with fail
          go_quiet (fail)
          go_wp2
          go_roundw
          case rel => exact ⟨j + 1, by omega, by go_num, by show Hid _; rw [HE.out]; exact Lib.hid (ho.out.up (Chg.trans U2.out (by repeat (first | exact Chg.refl _ _ | apply Chg.drew | apply Chg.drewN | refine Chg.alloc ?_ _)))), by show Hid _; rw [HE'.out]; exact Lib.hid (hnd.out.up (Chg.trans U2.out (by repeat (first | exact Chg.refl _ _ | apply Chg.drew | apply Chg.drewN | refine Chg.alloc ?_ _)))), Lib.hid (Chg.trans hu.out (Chg.trans U2.out (by repeat (first | exact Chg.refl _ _ | apply Chg.drew | apply Chg.drewN | refine Chg.alloc ?_ _)))), Lib.hid (by refine Nat.le_trans hz.out (Chg.size (S := Nowhere) ?_); exact Chg.trans U2.out (by repeat (first | exact Chg.refl _ _ | apply Chg.drew | apply Chg.drewN | refine Chg.alloc ?_ _))), hne⟩
          case measure => first | (simp [intOf]; done) | (simp [intOf]; omega)
      · obtain ⟨hE, hE'⟩ := (HO.out.yes hk).1 rfl
        obtain ⟨kk, rfl⟩ : ∃ kk : Nat, K = kk := ⟨K.toNat, by omega⟩
        have hkb : kk < p.bk.length := by have h1 := HP.out.n2; have h2 := HN.out; omega
        have hjf : j < p.fr.length := by have h2 := HN.out; omega
        have HKB := Lib.hid hkb
        have HJF := Lib.hid hjf
        have HFK := Lib.hid (show facK r 1 j = kk by unfold facK; rw [hK, if_pos (by omega)])
        have HFE := Lib.hid (show rackTo p r 1 (j + 1) = rackTo p r 1 j ++ crossE (befM p j kk) (-1) (lenB p kk) (lenF p j) by rw [rackTo, rackE_up (by rw [HFK.out, HP.out.n2, ← HN.out]; exact hk) (by omega), HFK.out, Int.toNat_natCast])
        have HE' := Lib.hid hE'
        have HND : Hid (NdC wr go (A ++ ⟨2, (kk : Int)⟩ :: ⟨1, (j : Int)⟩ :: R : List NdM)) := Lib.hid (hE ▸ hnd.out)
        have HLN : Hid ((A ++ ⟨2, (kk : Int)⟩ :: ⟨1, (j : Int)⟩ :: R : List NdM).length = n0) := Lib.hid (hE ▸ HLO)
        have HOK : Hid (∀ y ∈ (A ++ ⟨2, (kk : Int)⟩ :: ⟨1, (j : Int)⟩ :: R : List NdM), y.ok) := Lib.hid fun y hy => vld_ok hN1.2 (by
          rcases List.mem_append.1 hy with h | h
          · exact HVA.out y h
          · rcases List.mem_cons.1 h with rfl | h
            · exact ⟨.inr rfl, Int.natCast_nonneg _, hk.2⟩
            · rcases List.mem_cons.1 h with rfl | h
              · exact ⟨.inl rfl, Int.natCast_nonneg _, hli⟩
              · exact HVR.out y h)
        obtain ⟨m, hm⟩ : ∃ m, m = A.length := ⟨_, rfl⟩
        have HZZ := Lib.hid hm
        have hl3 : m + (R.length + 2) = n0 := by have := HLN.out; simp at this; omega
        have HSUM := Lib.hid HO.out.sum
        clear hm hE hE' hk HLO
        have HND3 : Hid (NdC wr go ((A ++ [⟨2, (kk : Int)⟩]) ++ ⟨1, (j : Int)⟩ :: R)) := Lib.hid (by rw [List.append_assoc]; exact HND.out)
        have HNE3 : Hid (∀ y ∈ (A ++ [⟨2, (kk : Int)⟩] : List NdM), ndEq ⟨1, (j : Int)⟩ y = false) := Lib.hid fun y hy => by
          rcases List.mem_append.1 hy with h | h
          · exact HNEA.out y h
          · obtain rfl := List.mem_singleton.1 h
            exact ndEq_no (.inl (by show (1 : Int) ≠ 2; decide))
        have HIX := Lib.hid (fun W (g : Up wr W) => (nIndex_at W _ _ (A ++ [⟨2, (kk : Int)⟩]) _ ⟨1, (j : Int)⟩ ((HND3.out.up g).nds (by rw [List.append_assoc]; exact HLN.out) (by have := g.size; omega) HCO.out.1 HCO.out.2 (by rw [List.append_assoc]; exact HOK.out)) HNE3.out).mono fun e w' ⟨h1, h2⟩ => (⟨h1.trans (by rw [HZZ.out, List.length_append]; rfl), h2⟩ : e = Ending.returned (.int .i64 ((m : Int) + 1)) ∧ Up W w'))
        clear HND3 HNE3
        have wm : IntKind.i64.wrap ((m : Int) + 1 - 1) = m := by rw [show (m : Int) + 1 - 1 = m by omega]; exact IntWalk.i64_in _ (by omega)
        have HON := Lib.hid (fun W (g : Up wr W) (y : NdM) (hy : y.vld N) => onN_any W M H L bm p HP.out r A0 A1 c0 c1 (Chg.cell (Chg.trans hu.out g) Q0.out id) (Chg.cell (Chg.trans hu.out g) Q1.out id) (Chg.cell (Chg.trans hu.out g) Q2.out id) (Chg.cell (Chg.trans hu.out g) Q3.out id) (H0.out.up (Chg.trans hu.out g)) (H1.out.up (Chg.trans hu.out g)) y (by rw [← HN.out]; exact hy))
        go_wp2_with fail
        rw [← hK]
        refine (HIX.out _ (by repeat (first | exact Chg.refl _ _ | apply Chg.drew | apply Chg.drewN | refine Chg.alloc ?_ _))).mono ?_
        rintro e w2 ⟨rfl, g2⟩
        have U2 := Lib.hid (show Up wr w2 from Chg.trans (by repeat (first | exact Chg.refl _ _ | apply Chg.drew | apply Chg.drewN | refine Chg.alloc ?_ _)) g2)
        have b90 := Chg.cell g2 (show ((wr.alloc (.cells #[.int .i64 1, .int .i64 j] 102)).alloc (.cells #[.int .i64 2, .int .i64 kk] 102)).cell? ⟨wr.heap.size + 1, 0, none⟩ = some (.int .i64 2) from cell_new2 _ _ _ _ _) id
        have b91 := Chg.cell g2 (show ((wr.alloc (.cells #[.int .i64 1, .int .i64 j] 102)).alloc (.cells #[.int .i64 2, .int .i64 kk] 102)).cell? ⟨wr.heap.size + 1, 1, none⟩ = some (.int .i64 kk) from cell_new2 _ _ _ _ _) id
        have HZ2 := Lib.hid (show wr.heap.size + 2 ≤ w2.heap.size by have := g2.size; simpa using this)
        clear g2 HIX hK
        have i0 : (m : Int) < (n0 : Int) := by omega
        have i1 : (m : Int) + 1 < (n0 : Int) := by omega
        have i2 : ¬ (m : Int) < 0 := by omega
        have i3 : ¬ (n0 : Int) ≤ (m : Int) + 1 := by omega
        have wm2 : IntKind.i64.wrap ((m : Int) + 1) = (m : Int) + 1 := IntWalk.i64_in _ (by omega)
        have j2 : decide ((m : Int) < 0) = false := decide_eq_false i2
        have j3 : decide ((m : Int) + 1 ≥ (n0 : Int)) = false := decide_eq_false i3
        obtain ⟨d00, d01, d10, d11, -⟩ := (HND.out.up U2.out).two HZZ.out
        have heq0 := fun W => (ndNeq W ⟨2, (kk : Int)⟩ ⟨2, (kk : Int)⟩).trans (by rw [ndEq_yes, Bool.not_true])
        have heq1 := fun W => (ndNeq W ⟨1, (j : Int)⟩ ⟨2, (kk : Int)⟩).trans (by rw [ndEq_no (.inl (by show (1 : Int) ≠ 2; decide)), Bool.not_false])
        simp only [NdM.val] at heq0 heq1
        go_wp2_with fail
        go_quiet (fail)
        have UQ := Lib.hid (show Up w2 (w2.drewN nq) from (by repeat (first | exact Chg.refl _ _ | apply Chg.drew | apply Chg.drewN | refine Chg.alloc ?_ _)))
        generalize w2.drewN nq = w3 at UQ ⊢
        clear d00 d01 d10 d11 b90 b91 heq0 heq1
        have i5 : (m : Int) ≤ (co : Int) := by have := HCO.out.1; omega
        go_wp2
        go_loopw [11, 78] (fun s i wx => ∃ t : Nat, t ≤ m ∧ i = .int .i64 t ∧ s = .int .i64 (sumN p (A.take t) : Nat) ∧ Hid (Up w3 wx)) (fun _ i _ => m - (intOf i).toNat)
        case atStart => exact ⟨0, by omega, rfl, by rw [List.take_zero, sumN_nil]; rfl, Chg.refl _ _⟩
        case round =>
          obtain ⟨t, ht, rfl, rfl, hu3⟩ := hrel
          have UW := Lib.hid (Chg.trans U2.out (Chg.trans UQ.out hu3.out))
          by_cases htm : t < m
          · have htA : t < A.length := by rw [← HZZ.out]; exact htm
            obtain ⟨d0, d1⟩ := (HND.out.up UW.out).pre htA
            have it : (t : Int) < (m : Int) := by omega
            have hsb := sumN_bd HP.out A t
            have hlb := lenN_le HP.out A[t]
            have HV := Lib.hid (HVA.out _ (List.getElem_mem htA))
            have HST := Lib.hid (sumN_take (p := p) htA)
            go_wp2_with fail
            refine (HON.out _ (Chg.trans UW.out (by repeat (first | exact Chg.refl _ _ | apply Chg.drew | apply Chg.drewN | refine Chg.alloc ?_ _))) A[t] HV.out).mono ?_
            rintro e w4 ⟨b4, o4, rfl, ⟨A4, k4, hc4⟩, g4⟩
            go_wp2
            go_roundw
            case rel => exact ⟨t + 1, by omega, by go_num, by rw [HST.out]; go_num, Lib.hid (Chg.trans hu3.out (Chg.trans (by repeat (first | exact Chg.refl _ _ | apply Chg.drew | apply Chg.drewN | refine Chg.alloc ?_ _)) g4))⟩
            case measure => first | (simp [intOf]; done) | (simp [intOf]; omega)
          · obtain rfl : t = m := by omega
            obtain ⟨d00, d01, d10, d11, hfz⟩ := (HND.out.up UW.out).two HZZ.out
            have HFZ := Lib.hid hfz
            clear hfz
            have hx0 : ((sumN p (A.take t) : Nat) : Int) = befM p j kk := by rw [List.take_of_length_le (by rw [← HZZ.out]; exact Nat.le_refl _)]; exact HSUM.out
            go_upto_region 20 with fail
            rw [hx0]
            go_cut [14, 15] (fun a b wx => ∃ na nb : Nat, a = .pointer (some ⟨na, 0, none⟩) ∧ b = .pointer (some ⟨nb, 0, none⟩) ∧ Hid (wr.heap.size ≤ na ∧ wr.heap.size ≤ nb) ∧ Hid ((wx.cell? ⟨na, 0, none⟩ = some (.int .i64 2) ∧ wx.cell? ⟨na, 1, none⟩ = some (.int .i64 kk)) ∧ (wx.cell? ⟨nb, 0, none⟩ = some (.int .i64 1) ∧ wx.cell? ⟨nb, 1, none⟩ = some (.int .i64 j))) ∧ Hid (Up wr wx))
            case first =>
              have i4 : (0 : Int) ≤ (t : Int) + 1 := by omega
              refine wp_region_noPanic ?_
              go_region_held3 (fun w' => w'.cell? ⟨go, t * 2, none⟩ = some (.int .i64 2) ∧ w'.cell? ⟨go, t * 2 + 1, none⟩ = some (.int .i64 kk) ∧ w'.cell? ⟨go, (t + 1) * 2, none⟩ = some (.int .i64 1) ∧ w'.cell? ⟨go, (t + 1) * 2 + 1, none⟩ = some (.int .i64 j)) (exact ⟨Chg.cell (show Up wr _ by repeat (first | exact Chg.refl _ _ | apply Chg.drew | apply Chg.drewN | refine Chg.alloc ?_ _ | (refine Chg.setCell ?_ (.inr (by simp)) _))) d00 id, Chg.cell (show Up wr _ by repeat (first | exact Chg.refl _ _ | apply Chg.drew | apply Chg.drewN | refine Chg.alloc ?_ _ | (refine Chg.setCell ?_ (.inr (by simp)) _))) d01 id, Chg.cell (show Up wr _ by repeat (first | exact Chg.refl _ _ | apply Chg.drew | apply Chg.drewN | refine Chg.alloc ?_ _ | (refine Chg.setCell ?_ (.inr (by simp)) _))) d10 id, Chg.cell (show Up wr _ by repeat (first | exact Chg.refl _ _ | apply Chg.drew | apply Chg.drewN | refine Chg.alloc ?_ _ | (refine Chg.setCell ?_ (.inr (by simp)) _))) d11 id⟩) (first | fail)
              all_goals (refine NoPanic.normal ?_; go_wp2_with fail; go_meet)
              all_goals exact ⟨_, _, rfl, rfl, Lib.hid ⟨by omega, by omega⟩, Lib.hid ⟨⟨Chg.cell (Chg.drew (Chg.refl Nowhere _)) (by first | exact cell_new2 _ _ _ _ _ | exact cell_old2 _ _ _ _ _ _ rfl) id, Chg.cell (Chg.drew (Chg.refl Nowhere _)) (by first | exact cell_new2 _ _ _ _ _ | exact cell_old2 _ _ _ _ _ _ rfl) id⟩, ⟨Chg.cell (Chg.drew (Chg.refl Nowhere _)) (by first | exact cell_new2 _ _ _ _ _ | exact cell_old2 _ _ _ _ _ _ rfl) id, Chg.cell (Chg.drew (Chg.refl Nowhere _)) (by first | exact cell_new2 _ _ _ _ _ | exact cell_old2 _ _ _ _ _ _ rfl) id⟩⟩, Lib.hid (by repeat (first | exact Chg.refl _ _ | apply Chg.drew | apply Chg.drewN | refine Chg.alloc ?_ _))⟩
            case rest =>
              obtain ⟨na, nb, rfl, rfl, hnn, hbx, hup⟩ := hcut
              obtain ⟨⟨x0, x1⟩, x2, x3⟩ := hbx.out
              have UC := Lib.hid (Chg.trans hu.out (Chg.trans UW.out hup.out))
              have hzw := UW.out.size
              have hzc := hup.out.size
              have hnn2 := hnn.out
              have hkb := HKB.out
              have hjf := HJF.out
              obtain ⟨b3, o3, c3', vs3, he3, -, hb3, -, hE3, hc3⟩ := H1.out.at_ hkb
              obtain ⟨rfl, rfl⟩ : A1 = some ⟨b3, o3, none⟩ ∧ c1 = c3' := by simpa using he3
              obtain ⟨A7, k7, rfl, -, -, -⟩ := hE3.val
              have e1 := Chg.cell UC.out (hc3 0 _ rfl).1 id
              simp only [Nat.mul_one, Nat.add_zero] at e1
              clear hc3 he3 hE3
              obtain ⟨b4, o4, c4', vs4, he4, -, hb4, -, hE4, hc4⟩ := H0.out.at_ hjf
              obtain ⟨rfl, rfl⟩ : A0 = some ⟨b4, o4, none⟩ ∧ c0 = c4' := by simpa using he4
              obtain ⟨A8, k8, rfl, -, -, -⟩ := hE4.val
              have e2 := Chg.cell UC.out (hc4 0 _ rfl).1 id
              simp only [Nat.mul_one, Nat.add_zero] at e2
              clear hc4 he4 hE4
              have lf : lenF p j = p.fr[j].length := by unfold lenF; rw [getD_eq hjf]
              have lb : lenB p kk = p.bk[kk].length := by unfold lenB; rw [getD_eq hkb]
              rw [lf, lb] at HFE
              have f4 := HP.out.f j hjf
              have b4' := HP.out.b kk hkb
              have HBD := Lib.hid (HP.out.bef j kk)
              have HTL := Lib.hid (rackTo_length HP.out r 1 j)
              clear lf lb
              have HLL := Lib.hid (show (rackTo p r 1 j).length + (crossE (befM p j kk) (-1) p.bk[kk].length p.fr[j].length).length ≤ 1099511627776 by rw [crossE_length]; have h1 := HTL.out; have h2 : p.fr[j].length * p.bk[kk].length ≤ 4 * 4 := Nat.mul_le_mul (by omega) (by omega); omega)
              have HON1 := Lib.hid (fun W (g : Up wc W) => on_back W M H L bm p.bk b3 o3 c1 (Chg.cell (Chg.trans UC.out g) Q3.out id) kk hkb)
              have HON2 := Lib.hid (fun W (g : Up wc W) => on_front W M H L bm p.fr b4 o4 c0 (Chg.cell (Chg.trans UC.out g) Q2.out id) j hjf)
              have HCX := Lib.hid (fun W => crossings_any W (befM p j kk) (-1) p.bk[kk].length p.fr[j].length ⟨HBD.out.1, by have := HBD.out.2; omega⟩ (.inr rfl) b4' f4)
              have UG := Lib.hid (show Up wc wc from Chg.refl _ _)
              have hso := hne.out
              have HZC := Lib.hid (show w.heap.size ≤ wc.heap.size by omega)
              have OWN : Hid (∀ g, u5.ownBlock = some g → w.heap.size ≤ g ∧ g < na ∧ g < nb) := Lib.hid fun g hg => by
                have h1 := ho.out.lt hg
                omega
              have LB3 := Lib.hid hb3
              have LB4 := Lib.hid hb4
              have X0h := Lib.hid x0
              have X1h := Lib.hid x1
              have X2h := Lib.hid x2
              have X3h := Lib.hid x3
              have E1h := Lib.hid e1
              have E2h := Lib.hid e2
              have HOC := Lib.hid (ho.out.up (Chg.trans UW.out hup.out))
              clear hbx HON
              have NEa : Hid (¬ u5.ownBlock = some na) := Lib.hid fun h => by
                have h1 := OWN.out _ h
                have h2 := LB3.out
                have h3 := LB4.out
                omega
              have NEb : Hid (¬ u5.ownBlock = some nb) := Lib.hid fun h => by
                have h1 := OWN.out _ h
                have h2 := LB3.out
                have h3 := LB4.out
                omega
              have NE3 : Hid (¬ u5.ownBlock = some b3) := Lib.hid fun h => by
                have h1 := OWN.out _ h
                have h2 := LB3.out
                have h3 := LB4.out
                omega
              have NE4 : Hid (¬ u5.ownBlock = some b4) := Lib.hid fun h => by
                have h1 := OWN.out _ h
                have h2 := LB3.out
                have h3 := LB4.out
                omega
              go_upto_region 21 with fail
              refine wp_region_noPanic ?_
              go_region_held3 (fun w' => w'.cell? ⟨na, 0, none⟩ = some (.int .i64 2) ∧ w'.cell? ⟨na, 1, none⟩ = some (.int .i64 kk) ∧ w'.cell? ⟨nb, 0, none⟩ = some (.int .i64 1) ∧ w'.cell? ⟨nb, 1, none⟩ = some (.int .i64 j) ∧ w'.cell? ⟨b3, o3 + kk, none⟩ = some (.slice A7 p.bk[kk].length k7) ∧ w'.cell? ⟨b4, o4 + j, none⟩ = some (.slice A8 p.fr[j].length k8)) (first | (have hga := GA.out; exact ⟨Chg.cell GA.out (Chg.cell (show Up wc _ from Chg.trans UG.out (by repeat (first | exact Chg.refl _ _ | apply Chg.drew | apply Chg.drewN | refine Chg.alloc ?_ _))) X0h.out id) (NEa.out), Chg.cell GA.out (Chg.cell (show Up wc _ from Chg.trans UG.out (by repeat (first | exact Chg.refl _ _ | apply Chg.drew | apply Chg.drewN | refine Chg.alloc ?_ _))) X1h.out id) (NEa.out), Chg.cell GA.out (Chg.cell (show Up wc _ from Chg.trans UG.out (by repeat (first | exact Chg.refl _ _ | apply Chg.drew | apply Chg.drewN | refine Chg.alloc ?_ _))) X2h.out id) (NEb.out), Chg.cell GA.out (Chg.cell (show Up wc _ from Chg.trans UG.out (by repeat (first | exact Chg.refl _ _ | apply Chg.drew | apply Chg.drewN | refine Chg.alloc ?_ _))) X3h.out id) (NEb.out), Chg.cell GA.out (Chg.cell (show Up wc _ from Chg.trans UG.out (by repeat (first | exact Chg.refl _ _ | apply Chg.drew | apply Chg.drewN | refine Chg.alloc ?_ _))) E1h.out id) (NE3.out), Chg.cell GA.out (Chg.cell (show Up wc _ from Chg.trans UG.out (by repeat (first | exact Chg.refl _ _ | apply Chg.drew | apply Chg.drewN | refine Chg.alloc ?_ _))) E2h.out id) (NE4.out)⟩) | exact ⟨Chg.cell (show Up wc _ from Chg.trans UG.out (by repeat (first | exact Chg.refl _ _ | apply Chg.drew | apply Chg.drewN | refine Chg.alloc ?_ _))) X0h.out id, Chg.cell (show Up wc _ from Chg.trans UG.out (by repeat (first | exact Chg.refl _ _ | apply Chg.drew | apply Chg.drewN | refine Chg.alloc ?_ _))) X1h.out id, Chg.cell (show Up wc _ from Chg.trans UG.out (by repeat (first | exact Chg.refl _ _ | apply Chg.drew | apply Chg.drewN | refine Chg.alloc ?_ _))) X2h.out id, Chg.cell (show Up wc _ from Chg.trans UG.out (by repeat (first | exact Chg.refl _ _ | apply Chg.drew | apply Chg.drewN | refine Chg.alloc ?_ _))) X3h.out id, Chg.cell (show Up wc _ from Chg.trans UG.out (by repeat (first | exact Chg.refl _ _ | apply Chg.drew | apply Chg.drewN | refine Chg.alloc ?_ _))) E1h.out id, Chg.cell (show Up wc _ from Chg.trans UG.out (by repeat (first | exact Chg.refl _ _ | apply Chg.drew | apply Chg.drewN | refine Chg.alloc ?_ _))) E2h.out id⟩) (first | (go_at_call 168; with_reducible refine (HON1.out _ (Chg.trans UG.out (by repeat (first | exact Chg.refl _ _ | apply Chg.drew | apply Chg.drewN | refine Chg.alloc ?_ _)))).mono ?_; rintro e w' ⟨rfl, g1⟩; have UG := Lib.hid (Chg.trans UG.out (Chg.trans (by repeat (first | exact Chg.refl _ _ | apply Chg.drew | apply Chg.drewN | refine Chg.alloc ?_ _)) g1)); clear g1) | (go_at_call 168; with_reducible refine (HON2.out _ (Chg.trans UG.out (by repeat (first | exact Chg.refl _ _ | apply Chg.drew | apply Chg.drewN | refine Chg.alloc ?_ _)))).mono ?_; rintro e w' ⟨rfl, g1⟩; have UG := Lib.hid (Chg.trans UG.out (Chg.trans (by repeat (first | exact Chg.refl _ _ | apply Chg.drew | apply Chg.drewN | refine Chg.alloc ?_ _)) g1)); clear g1) | (go_at_call 169; refine (HCX.out _).mono ?_; rintro e w' ⟨v3, rfl, k3, g1⟩; have UG := Lib.hid (Chg.trans UG.out (Chg.trans (by repeat (first | exact Chg.refl _ _ | apply Chg.drew | apply Chg.drewN | refine Chg.alloc ?_ _)) g1)); have K3 := Lib.hid k3; obtain ⟨A9, c9, rfl, -⟩ := k3.shape; clear k3 g1) | (refine step_appEvs2 rfl (.tmp 100) (.tmp 116) rfl w.heap.size _ (rackTo p r 1 j) (by simp [Act.eval, Act.put]) (HOC.out.up (show Up wc _ from Chg.trans UG.out (by repeat (first | exact Chg.refl _ _ | apply Chg.drew | apply Chg.drewN | refine Chg.alloc ?_ _)))) _ _ _ (by simp [Act.eval, Act.put]) (K3.out.up (by repeat (first | exact Chg.refl _ _ | apply Chg.drew | apply Chg.drewN | refine Chg.alloc ?_ _))) HLL.out (Nat.le_trans HZC.out (Chg.size (S := Nowhere) (show Up wc _ from Chg.trans UG.out (by repeat (first | exact Chg.refl _ _ | apply Chg.drew | apply Chg.drewN | refine Chg.alloc ?_ _))))) ?_; intro v' w' h1 h2 h3 h4; have HOV := Lib.hid h1; have GA := Lib.hid h2; have HOB := Lib.hid h3; have GN := Lib.hid h4; clear h1 h2 h3 h4))
              refine NoPanic.normal ?_
              have U6 := Lib.hid (show Up w w' from Chg.new (Chg.trans UC.out UG.out) GN.out (fun i hi => by omega))
              have ND6 := Lib.hid ((HND.out.up (Chg.trans UW.out (Chg.trans hup.out UG.out))).keep GA.out hne.out)
              have hgo2 := HGO.out
              have hz1 := hz.out
              have NGa : Hid (¬ na = go) := Lib.hid (by omega)
              have NGb : Hid (¬ nb = go) := Lib.hid (by omega)
              have HZ6 := Lib.hid (show wr.heap.size ≤ w'.heap.size from Nat.le_trans hup.out.size (Nat.le_trans UG.out.size GA.out.size))
              have HNV : Hid (v'.ownBlock ≠ some go) := Lib.hid fun h => (HOB.out _ h).elim hne.out (fun h2 => by have h3 := UG.out.size; omega)
              have x0 := Chg.cell GA.out (Chg.cell UG.out X0h.out id) NEa.out
              have x1 := Chg.cell GA.out (Chg.cell UG.out X1h.out id) NEa.out
              have x2 := Chg.cell GA.out (Chg.cell UG.out X2h.out id) NEb.out
              have x3 := Chg.cell GA.out (Chg.cell UG.out X3h.out id) NEb.out
              obtain ⟨d00, d01, d10, d11, hfz⟩ := ND6.out.two HZZ.out
              have f0 := hfz 0 (by omega)
              have f1 := hfz 1 (by omega)
              have f2 := hfz 2 (by omega)
              have f3 := hfz 3 (by omega)
              rw [Nat.add_zero] at f0
              rw [show t * 2 + 2 = (t + 1) * 2 by omega] at f2
              rw [show t * 2 + 3 = (t + 1) * 2 + 1 by omega] at f3
              clear hfz
              clear UG HOB GN NEa NEb NE3 NE4 X0h X1h X2h X3h E1h E2h HOC LB3 LB4 HON1 HON2 HCX
              have i4 : (0 : Int) ≤ (t : Int) + 1 := by omega
              go_upto_region 22 with fail
              refine wp_region_noPanic ?_
              go_region_held3 (fun w' => w'.cell? ⟨na, 0, none⟩ = some (.int .i64 2) ∧ w'.cell? ⟨na, 1, none⟩ = some (.int .i64 kk) ∧ w'.cell? ⟨nb, 0, none⟩ = some (.int .i64 1) ∧ w'.cell? ⟨nb, 1, none⟩ = some (.int .i64 j)) (exact ⟨Chg.cell (show Chg (fun b => b = go) w' _ by repeat (first | exact Chg.refl _ _ | apply Chg.drew | refine Chg.setCell ?_ (.inl (show go = go from rfl)) _)) x0 NGa.out, Chg.cell (show Chg (fun b => b = go) w' _ by repeat (first | exact Chg.refl _ _ | apply Chg.drew | refine Chg.setCell ?_ (.inl (show go = go from rfl)) _)) x1 NGa.out, Chg.cell (show Chg (fun b => b = go) w' _ by repeat (first | exact Chg.refl _ _ | apply Chg.drew | refine Chg.setCell ?_ (.inl (show go = go from rfl)) _)) x2 NGb.out, Chg.cell (show Chg (fun b => b = go) w' _ by repeat (first | exact Chg.refl _ _ | apply Chg.drew | refine Chg.setCell ?_ (.inl (show go = go from rfl)) _)) x3 NGb.out⟩) (first | fail)
              refine NoPanic.normal ?_
              have HZW := Lib.hid hzw
              go_wp2
              go_roundw
              case rel => exact ⟨j + 1, by omega, by go_num, by show Hid _; rw [HFE.out]; exact Lib.hid (HOV.out.kept (Chg.trans (Chg.swap4 _ _ _ _ _ _ _ _) (by repeat (first | exact Chg.refl _ _ | apply Chg.drew | apply Chg.drewN | refine Chg.alloc ?_ _))) (fun g hg he => HNV.out (hg.trans (by rw [he])))), by show Hid _; rw [HE'.out]; exact Lib.hid ((ND6.out.swap4 HZZ.out).up (by repeat (first | exact Chg.refl _ _ | apply Chg.drew | apply Chg.drewN | refine Chg.alloc ?_ _))), Lib.hid (Chg.new U6.out (Chg.trans (Chg.swap4 _ _ _ _ _ _ _ _) (by repeat (first | exact Chg.refl _ _ | apply Chg.drew | apply Chg.drewN | refine Chg.alloc ?_ _))) (fun i hi => by have := HGO.out.1; omega)), Lib.hid (Nat.le_trans hz.out (Nat.le_trans HZW.out (Nat.le_trans HZ6.out (Chg.trans (Chg.swap4 _ _ _ _ _ _ _ _) (by repeat (first | exact Chg.refl _ _ | apply Chg.drew | apply Chg.drewN | refine Chg.alloc ?_ _))).size))), HNV⟩
              case measure => first | (simp [intOf]; done) | (simp [intOf]; omega)
    · have HEQ := Lib.hid (show rackTo p r 1 j = oneRack p r 1 by unfold oneRack; rw [← HN.out, show j = N by omega])
      have hw1 : ¬ (j : Int) < (N : Int) := by omega
      go_wp2
      go_ret
      exact ⟨_, rfl, by rw [← HEQ.out]; exact ho.out.rd, hu.out⟩
theorem rackEvents_down (w : World) (M H L : Nat → Prop) (bm : Nat) (p : MacM) (hp : FewM p) (hn0 : 1 ≤ p.fr.length) (r : Int) (hr : -3 ≤ r ∧ r ≤ 3) (A0 A1 : Option Addr) (c0 c1 : Nat) (q0 : w.cell? ⟨bm, 0, none⟩ = some (.int .i64 p.wd)) (q1 : w.cell? ⟨bm, 1, none⟩ = some (.int .i64 r)) (q2 : w.cell? ⟨bm, 2, none⟩ = some (.slice A0 p.fr.length c0)) (q3 : w.cell? ⟨bm, 3, none⟩ = some (.slice A1 p.bk.length c1)) (h0 : IntSSV w M H L (.slice A0 p.fr.length c0) p.fr) (h1 : IntSSV w M H L (.slice A1 p.bk.length c1) p.bk) :
    Calls Try.prog 116 #[.pointer (some ⟨bm, 0, none⟩), .int .i64 (-1)] w fun e w' => ∃ v, e = .returned v ∧ Evs w' (New w.heap.size w'.heap.size) v (oneRack p r (-1)) ∧ Up w w' := by
  have H0 := Lib.hid h0
  have H1 := Lib.hid h1
  have hbm := World.block_lt_of_cell? w _ q0
  have Q0 := Lib.hid q0
  have Q1 := Lib.hid q1
  have Q2 := Lib.hid q2
  have Q3 := Lib.hid q3
  have HP := Lib.hid hp
  have HNN := Lib.hid hp.n1
  have HR := Lib.hid hr
  obtain ⟨N, hN⟩ : ∃ N, N = p.fr.length := ⟨_, rfl⟩
  have HN := Lib.hid hN
  have hN1 : 1 ≤ N ∧ N ≤ 24 := ⟨by omega, by have := hp.n1; omega⟩
  have HNL := Lib.hid (needlesM_len N r)
  have HNE := Lib.hid (fun W (g : Up w W) => needles_any W bm N hN1 r hr ((Chg.cell g q0 id).trans (by rw [hp.wd, ← hN])) (Chg.cell g q1 id))
  have q0' : w.cell? ⟨bm, 0, none⟩ = some (.int .i64 N) := q0.trans (by rw [hp.wd, ← hN])
  have Q0' := Lib.hid q0'
  clear h0 h1 q0 q1 q2 q3 hp hn0 hr
  go_enter Try.func116, Try.ntmps116
  go_wp2_with fail
  have M0 := Lib.hid (OwnEvs.made w w.heap.size (Nat.le_refl _))
  refine (HNE.out _ (by repeat (first | exact Chg.refl _ _ | apply Chg.drew | apply Chg.drewN | refine Chg.alloc ?_ _))).mono ?_
  rintro e w1 ⟨vo, rfl, ko, g1⟩
  obtain ⟨Ao, co, rfl, hlo, hco, hno⟩ := ko.rd.shape
  have hlen : 1 ≤ (needlesM N r).length := by
    have h := ordU_at (N := N) (i := 0) r (by omega)
    rw [ordU_start] at h
    rw [h]
    simp only [List.length_append, List.length_cons]
    omega
  obtain ⟨go, oo, cc, heo, hgo, hgl, -⟩ := ko.rd.at_ hlen
  obtain ⟨rfl, rfl⟩ : Ao = some ⟨go, oo, none⟩ ∧ co = cc := by simpa using heo
  obtain rfl : oo = 0 := by
    rcases ko.1.2 with ⟨h2, -⟩ | ⟨g, cap, cur, h2, -⟩
    · cases h2
    · simp only [Value.slice.injEq, Option.some.injEq, Addr.mk.injEq] at h2
      exact h2.1.2.1
  have KC := Lib.hid ko.rd.cells
  have hsz1 := g1.size
  have hgo1 : w.heap.size + 1 ≤ go := by have := hgo.1; simpa using this
  have U1 := Lib.hid (show Up w w1 from Chg.trans (by repeat (first | exact Chg.refl _ _ | apply Chg.drew | apply Chg.drewN | refine Chg.alloc ?_ _)) g1)
  have M1 := Lib.hid (M0.out.up g1)
  have HGO := Lib.hid (show w.heap.size < go ∧ go < w1.heap.size from ⟨hgo1, hgl⟩)
  obtain ⟨n0, hn0⟩ : ∃ n0, n0 = (needlesM N r).length := ⟨_, rfl⟩
  rw [← hn0] at hlo hlen
  rw [← hn0]
  have hn60 : n0 ≤ 60 := by have := HNL.out; omega
  have HN0 := Lib.hid hn0
  have HCO := Lib.hid (show n0 ≤ co ∧ co ≤ 9223372036854775807 from ⟨hlo, hco⟩)
  have q0w := Chg.cell U1.out Q0'.out id
  clear ko g1 hgo hgl hno heo q0' hn0 hgo1 M0 HNE HNL hlo hco hsz1 hN
  go_wp2
  go_loopw [5, 7, 10, 11, 23] (fun v _ _ _ i wr => ∃ j : Nat, j ≤ N ∧ i = .int .i64 j ∧ Hid (OwnEvs wr w.heap.size v (rackTo p r (-1) j)) ∧ Hid (NdC wr go (ordD N r j)) ∧ Hid (Up w wr) ∧ Hid (w1.heap.size ≤ wr.heap.size) ∧ Hid (v.ownBlock ≠ some go)) (fun _ _ _ _ i _ => N - (intOf i).toNat)
  case atStart => exact ⟨0, by omega, rfl, M1, by show Hid (NdC w1 go (ordD N r 0)); rw [ordD_start]; exact KC, U1, Nat.le_refl _, fun h => by have h1 : w.heap.size = go := (by simpa [Value.ownBlock] using h); have := HGO.out.1; omega⟩
  clear q0w M1 KC U1
  case round =>
    obtain ⟨j, hj, rfl, ho, hnd, hu, hz, hne⟩ := hrel
    have q0 := Chg.cell hu.out Q0'.out id
    have q1 := Chg.cell hu.out Q1.out id
    have hzz := hz.out
    have hg1 := HGO.out
    by_cases hlt : j < N
    · have hli : (j : Int) < (N : Int) := by omega
      obtain ⟨A, R, hO⟩ := ordD_R (p := p) HN.out.symm (by rw [HP.out.n2, HN.out]) (HR.out.1) hlt
      have hr := HR.out
      obtain ⟨K, hK⟩ : ∃ K, K = (j : Int) - r := ⟨_, rfl⟩
      rw [← hK] at hO
      have HO := Lib.hid hO
      have HK := Lib.hid hK
      have HLO : (ordD N r j).length = n0 := by rw [ordD_len r j hj, HN0.out]
      have q1a := Chg.cell ((Chg.refl Nowhere wr).alloc (.cells #[.int .i64 1, .int .i64 j] 102)) q1 id
      have HVA := Lib.hid hO.a
      have HVR := Lib.hid hO.r
      have HNEA := Lib.hid hO.ne
      have q1a := Chg.cell ((Chg.refl Nowhere wr).alloc (.cells #[.int .i64 1, .int .i64 j] 102)) q1 id
      clear hO
      by_cases hk : 0 ≤ K ∧ K < N
      rotate_left
      · obtain ⟨hE, hE'⟩ := HO.out.no hk
        have HFK := Lib.hid (show facK r (-1) j = K by unfold facK; rw [hK, if_neg (by omega)])
        have HE := Lib.hid (show rackTo p r (-1) (j + 1) = rackTo p r (-1) j by rw [rackTo, rackE_no (by rw [HFK.out, HP.out.n2, ← HN.out]; exact hk), List.append_nil])
        have HE' := Lib.hid (show ordD N r (j + 1) = ordD N r j from hE')
        have HND : Hid (NdC wr go (A ++ ⟨1, j⟩ :: R)) := Lib.hid (hE ▸ hnd.out)
        have HLN : Hid ((A ++ ⟨1, j⟩ :: R : List NdM).length = n0) := Lib.hid (hE ▸ HLO)
        have HVL : Hid (∀ y ∈ (A ++ ⟨1, j⟩ :: R : List NdM), y.vld N) := Lib.hid fun y hy => by
          rcases List.mem_append.1 hy with h | h
          · exact HVA.out y h
          · rcases List.mem_cons.1 h with rfl | h
            · exact ⟨.inl rfl, by show (0 : Int) ≤ j; omega, hli⟩
            · exact HVR.out y h
        have HOK := Lib.hid fun y hy => vld_ok hN1.2 (HVL.out y hy)
        have hl2 : A.length + (R.length + 1) = n0 := by have := HLN.out; simpa using this
        have HNQ := Lib.hid fun y (hy : y ∈ (A ++ ⟨1, j⟩ :: R : List NdM)) (W : World) => (ndNeq W y ⟨2, K⟩).trans (by rw [ndEq_vld (HVL.out y hy) hk, Bool.not_false])
        clear hE hE' hk
        obtain ⟨m, hm⟩ : ∃ m, m = A.length := ⟨_, rfl⟩
        have HZZ := Lib.hid hm
        have hl3 : m + (R.length + 1) = n0 := by omega
        clear hm hl2
        by_cases hR : m + 1 = n0
        · have HNN0 := Lib.hid hR
          have HIX := Lib.hid (fun W (g : Up wr W) => (nIndex_at W _ _ A _ ⟨1, (j : Int)⟩ ((HND.out.up g).nds HLN.out (by have := g.size; omega) HCO.out.1 HCO.out.2 HOK.out) HNEA.out).mono fun e w' ⟨h1, h2⟩ => (⟨h1.trans (by rw [HZZ.out]), h2⟩ : e = Ending.returned (.int .i64 (m : Int)) ∧ Up W w'))
          go_wp2_with fail
          rw [← hK]
          refine (HIX.out _ (by repeat (first | exact Chg.refl _ _ | apply Chg.drew | apply Chg.drewN | refine Chg.alloc ?_ _))).mono ?_
          rintro e w2 ⟨rfl, g2⟩
          have U2 := Lib.hid (show Up wr w2 from Chg.trans (by repeat (first | exact Chg.refl _ _ | apply Chg.drew | apply Chg.drewN | refine Chg.alloc ?_ _)) g2)
          have b90 := Chg.cell g2 (show ((wr.alloc (.cells #[.int .i64 1, .int .i64 j] 102)).alloc (.cells #[.int .i64 2, .int .i64 K] 102)).cell? ⟨wr.heap.size + 1, 0, none⟩ = some (.int .i64 2) from cell_new2 _ _ _ _ _) id
          have b91 := Chg.cell g2 (show ((wr.alloc (.cells #[.int .i64 1, .int .i64 j] 102)).alloc (.cells #[.int .i64 2, .int .i64 K] 102)).cell? ⟨wr.heap.size + 1, 1, none⟩ = some (.int .i64 K) from cell_new2 _ _ _ _ _) id
          have HZ2 := Lib.hid (show wr.heap.size + 2 ≤ w2.heap.size by have := g2.size; simpa using this)
          clear g2 HIX hK
          have i1 : ¬ (m : Int) + 1 < (n0 : Int) := by omega
          have i3 : (n0 : Int) ≤ (m : Int) + 1 := by omega
          have i2 : ¬ (m : Int) < 0 := by omega
          have wm2 : IntKind.i64.wrap ((m : Int) + 1) = (m : Int) + 1 := IntWalk.i64_in _ (by omega)
          have j2 : decide ((m : Int) < 0) = false := decide_eq_false i2
          go_wp2_with fail
          go_quiet (fail)
          go_wp2
          go_roundw
          case rel => exact ⟨j + 1, by omega, by go_num, by show Hid _; rw [HE.out]; exact Lib.hid (ho.out.up (Chg.trans U2.out (by repeat (first | exact Chg.refl _ _ | apply Chg.drew | apply Chg.drewN | refine Chg.alloc ?_ _)))), by show Hid _; rw [HE'.out]; exact Lib.hid (hnd.out.up (Chg.trans U2.out (by repeat (first | exact Chg.refl _ _ | apply Chg.drew | apply Chg.drewN | refine Chg.alloc ?_ _)))), Lib.hid (Chg.trans hu.out (Chg.trans U2.out (by repeat (first | exact Chg.refl _ _ | apply Chg.drew | apply Chg.drewN | refine Chg.alloc ?_ _)))), Lib.hid (by refine Nat.le_trans hz.out (Chg.size (S := Nowhere) ?_); exact Chg.trans U2.out (by repeat (first | exact Chg.refl _ _ | apply Chg.drew | apply Chg.drewN | refine Chg.alloc ?_ _))), hne⟩
          case measure => first | (simp [intOf]; done) | (simp [intOf]; omega)
        · skip
          have HIX := Lib.hid (fun W (g : Up wr W) => (nIndex_at W _ _ A _ ⟨1, (j : Int)⟩ ((HND.out.up g).nds HLN.out (by have := g.size; omega) HCO.out.1 HCO.out.2 HOK.out) HNEA.out).mono fun e w' ⟨h1, h2⟩ => (⟨h1.trans (by rw [HZZ.out]), h2⟩ : e = Ending.returned (.int .i64 (m : Int)) ∧ Up W w'))
          go_wp2_with fail
          rw [← hK]
          refine (HIX.out _ (by repeat (first | exact Chg.refl _ _ | apply Chg.drew | apply Chg.drewN | refine Chg.alloc ?_ _))).mono ?_
          rintro e w2 ⟨rfl, g2⟩
          have U2 := Lib.hid (show Up wr w2 from Chg.trans (by repeat (first | exact Chg.refl _ _ | apply Chg.drew | apply Chg.drewN | refine Chg.alloc ?_ _)) g2)
          have b90 := Chg.cell g2 (show ((wr.alloc (.cells #[.int .i64 1, .int .i64 j] 102)).alloc (.cells #[.int .i64 2, .int .i64 K] 102)).cell? ⟨wr.heap.size + 1, 0, none⟩ = some (.int .i64 2) from cell_new2 _ _ _ _ _) id
          have b91 := Chg.cell g2 (show ((wr.alloc (.cells #[.int .i64 1, .int .i64 j] 102)).alloc (.cells #[.int .i64 2, .int .i64 K] 102)).cell? ⟨wr.heap.size + 1, 1, none⟩ = some (.int .i64 K) from cell_new2 _ _ _ _ _) id
          have HZ2 := Lib.hid (show wr.heap.size + 2 ≤ w2.heap.size by have := g2.size; simpa using this)
          clear g2 HIX hK
          have i0 : (m : Int) < (n0 : Int) := by omega
          have i1 : (m : Int) + 1 < (n0 : Int) := by omega
          have i2 : ¬ (m : Int) < 0 := by omega
          have i3 : ¬ (n0 : Int) ≤ (m : Int) + 1 := by omega
          have wm2 : IntKind.i64.wrap ((m : Int) + 1) = (m : Int) + 1 := IntWalk.i64_in _ (by omega)
          have j2 : decide ((m : Int) < 0) = false := decide_eq_false i2
          have j3 : decide ((m : Int) + 1 ≥ (n0 : Int)) = false := decide_eq_false i3
          obtain ⟨y0, hy0, d00, d01⟩ := (HND.out.up U2.out).get (m := m) (by rw [HLN.out]; omega)
          obtain ⟨y1, hy1, d10, d11⟩ := (HND.out.up U2.out).get (m := (m + 1)) (by rw [HLN.out]; omega)
          have heq0 := HNQ.out y0 hy0
          have heq1 := HNQ.out y1 hy1
          simp only [NdM.val] at heq0 heq1
          go_wp2_with fail
          go_quiet (fail)
          go_wp2
          go_roundw
          case rel => exact ⟨j + 1, by omega, by go_num, by show Hid _; rw [HE.out]; exact Lib.hid (ho.out.up (Chg.trans U2.out (by repeat (first | exact Chg.refl _ _ | apply Chg.drew | apply Chg.drewN | refine Chg.alloc ?_ _)))), by show Hid _; rw [HE'.out]; exact Lib.hid (hnd.out.up (Chg.trans U2.out (by repeat (first | exact Chg.refl _ _ | apply Chg.drew | apply Chg.drewN | refine Chg.alloc ?_ _)))), Lib.hid (Chg.trans hu.out (Chg.trans U2.out (by repeat (first | exact Chg.refl _ _ | apply Chg.drew | apply Chg.drewN | refine Chg.alloc ?_ _)))), Lib.hid (by refine Nat.le_trans hz.out (Chg.size (S := Nowhere) ?_); exact Chg.trans U2.out (by repeat (first | exact Chg.refl _ _ | apply Chg.drew | apply Chg.drewN | refine Chg.alloc ?_ _))), hne⟩
          case measure => first | (simp [intOf]; done) | (simp [intOf]; omega)
      · obtain ⟨hE, hE'⟩ := (HO.out.yes hk).2 rfl
        obtain ⟨kk, rfl⟩ : ∃ kk : Nat, K = kk := ⟨K.toNat, by omega⟩
        have hkb : kk < p.bk.length := by have h1 := HP.out.n2; have h2 := HN.out; omega
        have hjf : j < p.fr.length := by have h2 := HN.out; omega
        have HKB := Lib.hid hkb
        have HJF := Lib.hid hjf
        have HFK := Lib.hid (show facK r (-1) j = kk by unfold facK; rw [hK, if_neg (by omega)])
        have HFE := Lib.hid (show rackTo p r (-1) (j + 1) = rackTo p r (-1) j ++ crossE (befM p j kk) (1) (lenF p j) (lenB p kk) by rw [rackTo, rackE_down (by rw [HFK.out, HP.out.n2, ← HN.out]; exact hk) (by omega), HFK.out, Int.toNat_natCast])
        have HE' := Lib.hid hE'
        have HND : Hid (NdC wr go (A ++ ⟨1, (j : Int)⟩ :: ⟨2, (kk : Int)⟩ :: R : List NdM)) := Lib.hid (hE ▸ hnd.out)
        have HLN : Hid ((A ++ ⟨1, (j : Int)⟩ :: ⟨2, (kk : Int)⟩ :: R : List NdM).length = n0) := Lib.hid (hE ▸ HLO)
        have HOK : Hid (∀ y ∈ (A ++ ⟨1, (j : Int)⟩ :: ⟨2, (kk : Int)⟩ :: R : List NdM), y.ok) := Lib.hid fun y hy => vld_ok hN1.2 (by
          rcases List.mem_append.1 hy with h | h
          · exact HVA.out y h
          · rcases List.mem_cons.1 h with rfl | h
            · exact ⟨.inl rfl, Int.natCast_nonneg _, hli⟩
            · rcases List.mem_cons.1 h with rfl | h
              · exact ⟨.inr rfl, Int.natCast_nonneg _, hk.2⟩
              · exact HVR.out y h)
        obtain ⟨m, hm⟩ : ∃ m, m = A.length := ⟨_, rfl⟩
        have HZZ := Lib.hid hm
        have hl3 : m + (R.length + 2) = n0 := by have := HLN.out; simp at this; omega
        have HSUM := Lib.hid HO.out.sum
        clear hm hE hE' hk HLO
        have HIX := Lib.hid (fun W (g : Up wr W) => (nIndex_at W _ _ A _ ⟨1, (j : Int)⟩ ((HND.out.up g).nds HLN.out (by have := g.size; omega) HCO.out.1 HCO.out.2 HOK.out) HNEA.out).mono fun e w' ⟨h1, h2⟩ => (⟨h1.trans (by rw [HZZ.out]), h2⟩ : e = Ending.returned (.int .i64 (m : Int)) ∧ Up W w'))
        have HON := Lib.hid (fun W (g : Up wr W) (y : NdM) (hy : y.vld N) => onN_any W M H L bm p HP.out r A0 A1 c0 c1 (Chg.cell (Chg.trans hu.out g) Q0.out id) (Chg.cell (Chg.trans hu.out g) Q1.out id) (Chg.cell (Chg.trans hu.out g) Q2.out id) (Chg.cell (Chg.trans hu.out g) Q3.out id) (H0.out.up (Chg.trans hu.out g)) (H1.out.up (Chg.trans hu.out g)) y (by rw [← HN.out]; exact hy))
        go_wp2_with fail
        rw [← hK]
        refine (HIX.out _ (by repeat (first | exact Chg.refl _ _ | apply Chg.drew | apply Chg.drewN | refine Chg.alloc ?_ _))).mono ?_
        rintro e w2 ⟨rfl, g2⟩
        have U2 := Lib.hid (show Up wr w2 from Chg.trans (by repeat (first | exact Chg.refl _ _ | apply Chg.drew | apply Chg.drewN | refine Chg.alloc ?_ _)) g2)
        have b90 := Chg.cell g2 (show ((wr.alloc (.cells #[.int .i64 1, .int .i64 j] 102)).alloc (.cells #[.int .i64 2, .int .i64 kk] 102)).cell? ⟨wr.heap.size + 1, 0, none⟩ = some (.int .i64 2) from cell_new2 _ _ _ _ _) id
        have b91 := Chg.cell g2 (show ((wr.alloc (.cells #[.int .i64 1, .int .i64 j] 102)).alloc (.cells #[.int .i64 2, .int .i64 kk] 102)).cell? ⟨wr.heap.size + 1, 1, none⟩ = some (.int .i64 kk) from cell_new2 _ _ _ _ _) id
        have HZ2 := Lib.hid (show wr.heap.size + 2 ≤ w2.heap.size by have := g2.size; simpa using this)
        clear g2 HIX hK
        have i0 : (m : Int) < (n0 : Int) := by omega
        have i1 : (m : Int) + 1 < (n0 : Int) := by omega
        have i2 : ¬ (m : Int) < 0 := by omega
        have i3 : ¬ (n0 : Int) ≤ (m : Int) + 1 := by omega
        have wm2 : IntKind.i64.wrap ((m : Int) + 1) = (m : Int) + 1 := IntWalk.i64_in _ (by omega)
        have j2 : decide ((m : Int) < 0) = false := decide_eq_false i2
        have j3 : decide ((m : Int) + 1 ≥ (n0 : Int)) = false := decide_eq_false i3
        obtain ⟨d00, d01, d10, d11, -⟩ := (HND.out.up U2.out).two HZZ.out
        have heq0 := fun W => (ndNeq W ⟨1, (j : Int)⟩ ⟨2, (kk : Int)⟩).trans (by rw [ndEq_no (.inl (by show (1 : Int) ≠ 2; decide)), Bool.not_false])
        have heq1 := fun W => (ndNeq W ⟨2, (kk : Int)⟩ ⟨2, (kk : Int)⟩).trans (by rw [ndEq_yes, Bool.not_true])
        simp only [NdM.val] at heq0 heq1
        go_wp2_with fail
        go_quiet (fail)
        have UQ := Lib.hid (show Up w2 (w2.drewN nq) from (by repeat (first | exact Chg.refl _ _ | apply Chg.drew | apply Chg.drewN | refine Chg.alloc ?_ _)))
        generalize w2.drewN nq = w3 at UQ ⊢
        clear d00 d01 d10 d11 b90 b91 heq0 heq1
        have i5 : (m : Int) ≤ (co : Int) := by have := HCO.out.1; omega
        go_wp2
        go_loopw [11, 78] (fun s i wx => ∃ t : Nat, t ≤ m ∧ i = .int .i64 t ∧ s = .int .i64 (sumN p (A.take t) : Nat) ∧ Hid (Up w3 wx)) (fun _ i _ => m - (intOf i).toNat)
        case atStart => exact ⟨0, by omega, rfl, by rw [List.take_zero, sumN_nil]; rfl, Chg.refl _ _⟩
        case round =>
          obtain ⟨t, ht, rfl, rfl, hu3⟩ := hrel
          have UW := Lib.hid (Chg.trans U2.out (Chg.trans UQ.out hu3.out))
          by_cases htm : t < m
          · have htA : t < A.length := by rw [← HZZ.out]; exact htm
            obtain ⟨d0, d1⟩ := (HND.out.up UW.out).pre htA
            have it : (t : Int) < (m : Int) := by omega
            have hsb := sumN_bd HP.out A t
            have hlb := lenN_le HP.out A[t]
            have HV := Lib.hid (HVA.out _ (List.getElem_mem htA))
            have HST := Lib.hid (sumN_take (p := p) htA)
            go_wp2_with fail
            refine (HON.out _ (Chg.trans UW.out (by repeat (first | exact Chg.refl _ _ | apply Chg.drew | apply Chg.drewN | refine Chg.alloc ?_ _))) A[t] HV.out).mono ?_
            rintro e w4 ⟨b4, o4, rfl, ⟨A4, k4, hc4⟩, g4⟩
            go_wp2
            go_roundw
            case rel => exact ⟨t + 1, by omega, by go_num, by rw [HST.out]; go_num, Lib.hid (Chg.trans hu3.out (Chg.trans (by repeat (first | exact Chg.refl _ _ | apply Chg.drew | apply Chg.drewN | refine Chg.alloc ?_ _)) g4))⟩
            case measure => first | (simp [intOf]; done) | (simp [intOf]; omega)
          · obtain rfl : t = m := by omega
            obtain ⟨d00, d01, d10, d11, hfz⟩ := (HND.out.up UW.out).two HZZ.out
            have HFZ := Lib.hid hfz
            clear hfz
            have hx0 : ((sumN p (A.take t) : Nat) : Int) = befM p j kk := by rw [List.take_of_length_le (by rw [← HZZ.out]; exact Nat.le_refl _)]; exact HSUM.out
            go_upto_region 20 with fail
            rw [hx0]
            go_cut [14, 15] (fun a b wx => ∃ na nb : Nat, a = .pointer (some ⟨na, 0, none⟩) ∧ b = .pointer (some ⟨nb, 0, none⟩) ∧ Hid (wr.heap.size ≤ na ∧ wr.heap.size ≤ nb) ∧ Hid ((wx.cell? ⟨na, 0, none⟩ = some (.int .i64 1) ∧ wx.cell? ⟨na, 1, none⟩ = some (.int .i64 j)) ∧ (wx.cell? ⟨nb, 0, none⟩ = some (.int .i64 2) ∧ wx.cell? ⟨nb, 1, none⟩ = some (.int .i64 kk))) ∧ Hid (Up wr wx))
            case first =>
              have i4 : (0 : Int) ≤ (t : Int) + 1 := by omega
              refine wp_region_noPanic ?_
              go_region_held3 (fun w' => w'.cell? ⟨go, t * 2, none⟩ = some (.int .i64 1) ∧ w'.cell? ⟨go, t * 2 + 1, none⟩ = some (.int .i64 j) ∧ w'.cell? ⟨go, (t + 1) * 2, none⟩ = some (.int .i64 2) ∧ w'.cell? ⟨go, (t + 1) * 2 + 1, none⟩ = some (.int .i64 kk)) (exact ⟨Chg.cell (show Up wr _ by repeat (first | exact Chg.refl _ _ | apply Chg.drew | apply Chg.drewN | refine Chg.alloc ?_ _ | (refine Chg.setCell ?_ (.inr (by simp)) _))) d00 id, Chg.cell (show Up wr _ by repeat (first | exact Chg.refl _ _ | apply Chg.drew | apply Chg.drewN | refine Chg.alloc ?_ _ | (refine Chg.setCell ?_ (.inr (by simp)) _))) d01 id, Chg.cell (show Up wr _ by repeat (first | exact Chg.refl _ _ | apply Chg.drew | apply Chg.drewN | refine Chg.alloc ?_ _ | (refine Chg.setCell ?_ (.inr (by simp)) _))) d10 id, Chg.cell (show Up wr _ by repeat (first | exact Chg.refl _ _ | apply Chg.drew | apply Chg.drewN | refine Chg.alloc ?_ _ | (refine Chg.setCell ?_ (.inr (by simp)) _))) d11 id⟩) (first | fail)
              all_goals (refine NoPanic.normal ?_; go_wp2_with fail; go_meet)
              all_goals exact ⟨_, _, rfl, rfl, Lib.hid ⟨by omega, by omega⟩, Lib.hid ⟨⟨Chg.cell (Chg.drew (Chg.refl Nowhere _)) (by first | exact cell_new2 _ _ _ _ _ | exact cell_old2 _ _ _ _ _ _ rfl) id, Chg.cell (Chg.drew (Chg.refl Nowhere _)) (by first | exact cell_new2 _ _ _ _ _ | exact cell_old2 _ _ _ _ _ _ rfl) id⟩, ⟨Chg.cell (Chg.drew (Chg.refl Nowhere _)) (by first | exact cell_new2 _ _ _ _ _ | exact cell_old2 _ _ _ _ _ _ rfl) id, Chg.cell (Chg.drew (Chg.refl Nowhere _)) (by first | exact cell_new2 _ _ _ _ _ | exact cell_old2 _ _ _ _ _ _ rfl) id⟩⟩, Lib.hid (by repeat (first | exact Chg.refl _ _ | apply Chg.drew | apply Chg.drewN | refine Chg.alloc ?_ _))⟩
            case rest =>
              obtain ⟨na, nb, rfl, rfl, hnn, hbx, hup⟩ := hcut
              obtain ⟨⟨x0, x1⟩, x2, x3⟩ := hbx.out
              have UC := Lib.hid (Chg.trans hu.out (Chg.trans UW.out hup.out))
              have hzw := UW.out.size
              have hzc := hup.out.size
              have hnn2 := hnn.out
              have hkb := HKB.out
              have hjf := HJF.out
              obtain ⟨b3, o3, c3', vs3, he3, -, hb3, -, hE3, hc3⟩ := H1.out.at_ hkb
              obtain ⟨rfl, rfl⟩ : A1 = some ⟨b3, o3, none⟩ ∧ c1 = c3' := by simpa using he3
              obtain ⟨A7, k7, rfl, -, -, -⟩ := hE3.val
              have e1 := Chg.cell UC.out (hc3 0 _ rfl).1 id
              simp only [Nat.mul_one, Nat.add_zero] at e1
              clear hc3 he3 hE3
              obtain ⟨b4, o4, c4', vs4, he4, -, hb4, -, hE4, hc4⟩ := H0.out.at_ hjf
              obtain ⟨rfl, rfl⟩ : A0 = some ⟨b4, o4, none⟩ ∧ c0 = c4' := by simpa using he4
              obtain ⟨A8, k8, rfl, -, -, -⟩ := hE4.val
              have e2 := Chg.cell UC.out (hc4 0 _ rfl).1 id
              simp only [Nat.mul_one, Nat.add_zero] at e2
              clear hc4 he4 hE4
              have lf : lenF p j = p.fr[j].length := by unfold lenF; rw [getD_eq hjf]
              have lb : lenB p kk = p.bk[kk].length := by unfold lenB; rw [getD_eq hkb]
              rw [lf, lb] at HFE
              have f4 := HP.out.f j hjf
              have b4' := HP.out.b kk hkb
              have HBD := Lib.hid (HP.out.bef j kk)
              have HTL := Lib.hid (rackTo_length HP.out r (-1) j)
              clear lf lb
              have HLL := Lib.hid (show (rackTo p r (-1) j).length + (crossE (befM p j kk) (1) p.fr[j].length p.bk[kk].length).length ≤ 1099511627776 by rw [crossE_length]; have h1 := HTL.out; have h2 : p.bk[kk].length * p.fr[j].length ≤ 4 * 4 := Nat.mul_le_mul (by omega) (by omega); omega)
              have HON1 := Lib.hid (fun W (g : Up wc W) => on_back W M H L bm p.bk b3 o3 c1 (Chg.cell (Chg.trans UC.out g) Q3.out id) kk hkb)
              have HON2 := Lib.hid (fun W (g : Up wc W) => on_front W M H L bm p.fr b4 o4 c0 (Chg.cell (Chg.trans UC.out g) Q2.out id) j hjf)
              have HCX := Lib.hid (fun W => crossings_any W (befM p j kk) (1) p.fr[j].length p.bk[kk].length ⟨HBD.out.1, by have := HBD.out.2; omega⟩ (.inl rfl) f4 b4')
              have UG := Lib.hid (show Up wc wc from Chg.refl _ _)
              have hso := hne.out
              have HZC := Lib.hid (show w.heap.size ≤ wc.heap.size by omega)
              have OWN : Hid (∀ g, u5.ownBlock = some g → w.heap.size ≤ g ∧ g < na ∧ g < nb) := Lib.hid fun g hg => by
                have h1 := ho.out.lt hg
                omega
              have LB3 := Lib.hid hb3
              have LB4 := Lib.hid hb4
              have X0h := Lib.hid x0
              have X1h := Lib.hid x1
              have X2h := Lib.hid x2
              have X3h := Lib.hid x3
              have E1h := Lib.hid e1
              have E2h := Lib.hid e2
              have HOC := Lib.hid (ho.out.up (Chg.trans UW.out hup.out))
              clear hbx HON
              have NEa : Hid (¬ u5.ownBlock = some na) := Lib.hid fun h => by
                have h1 := OWN.out _ h
                have h2 := LB3.out
                have h3 := LB4.out
                omega
              have NEb : Hid (¬ u5.ownBlock = some nb) := Lib.hid fun h => by
                have h1 := OWN.out _ h
                have h2 := LB3.out
                have h3 := LB4.out
                omega
              have NE3 : Hid (¬ u5.ownBlock = some b3) := Lib.hid fun h => by
                have h1 := OWN.out _ h
                have h2 := LB3.out
                have h3 := LB4.out
                omega
              have NE4 : Hid (¬ u5.ownBlock = some b4) := Lib.hid fun h => by
                have h1 := OWN.out _ h
                have h2 := LB3.out
                have h3 := LB4.out
                omega
              go_upto_region 21 with fail
              refine wp_region_noPanic ?_
              go_region_held3 (fun w' => w'.cell? ⟨na, 0, none⟩ = some (.int .i64 1) ∧ w'.cell? ⟨na, 1, none⟩ = some (.int .i64 j) ∧ w'.cell? ⟨nb, 0, none⟩ = some (.int .i64 2) ∧ w'.cell? ⟨nb, 1, none⟩ = some (.int .i64 kk) ∧ w'.cell? ⟨b3, o3 + kk, none⟩ = some (.slice A7 p.bk[kk].length k7) ∧ w'.cell? ⟨b4, o4 + j, none⟩ = some (.slice A8 p.fr[j].length k8)) (first | (have hga := GA.out; exact ⟨Chg.cell GA.out (Chg.cell (show Up wc _ from Chg.trans UG.out (by repeat (first | exact Chg.refl _ _ | apply Chg.drew | apply Chg.drewN | refine Chg.alloc ?_ _))) X0h.out id) (NEa.out), Chg.cell GA.out (Chg.cell (show Up wc _ from Chg.trans UG.out (by repeat (first | exact Chg.refl _ _ | apply Chg.drew | apply Chg.drewN | refine Chg.alloc ?_ _))) X1h.out id) (NEa.out), Chg.cell GA.out (Chg.cell (show Up wc _ from Chg.trans UG.out (by repeat (first | exact Chg.refl _ _ | apply Chg.drew | apply Chg.drewN | refine Chg.alloc ?_ _))) X2h.out id) (NEb.out), Chg.cell GA.out (Chg.cell (show Up wc _ from Chg.trans UG.out (by repeat (first | exact Chg.refl _ _ | apply Chg.drew | apply Chg.drewN | refine Chg.alloc ?_ _))) X3h.out id) (NEb.out), Chg.cell GA.out (Chg.cell (show Up wc _ from Chg.trans UG.out (by repeat (first | exact Chg.refl _ _ | apply Chg.drew | apply Chg.drewN | refine Chg.alloc ?_ _))) E1h.out id) (NE3.out), Chg.cell GA.out (Chg.cell (show Up wc _ from Chg.trans UG.out (by repeat (first | exact Chg.refl _ _ | apply Chg.drew | apply Chg.drewN | refine Chg.alloc ?_ _))) E2h.out id) (NE4.out)⟩) | exact ⟨Chg.cell (show Up wc _ from Chg.trans UG.out (by repeat (first | exact Chg.refl _ _ | apply Chg.drew | apply Chg.drewN | refine Chg.alloc ?_ _))) X0h.out id, Chg.cell (show Up wc _ from Chg.trans UG.out (by repeat (first | exact Chg.refl _ _ | apply Chg.drew | apply Chg.drewN | refine Chg.alloc ?_ _))) X1h.out id, Chg.cell (show Up wc _ from Chg.trans UG.out (by repeat (first | exact Chg.refl _ _ | apply Chg.drew | apply Chg.drewN | refine Chg.alloc ?_ _))) X2h.out id, Chg.cell (show Up wc _ from Chg.trans UG.out (by repeat (first | exact Chg.refl _ _ | apply Chg.drew | apply Chg.drewN | refine Chg.alloc ?_ _))) X3h.out id, Chg.cell (show Up wc _ from Chg.trans UG.out (by repeat (first | exact Chg.refl _ _ | apply Chg.drew | apply Chg.drewN | refine Chg.alloc ?_ _))) E1h.out id, Chg.cell (show Up wc _ from Chg.trans UG.out (by repeat (first | exact Chg.refl _ _ | apply Chg.drew | apply Chg.drewN | refine Chg.alloc ?_ _))) E2h.out id⟩) (first | (go_at_call 168; with_reducible refine (HON1.out _ (Chg.trans UG.out (by repeat (first | exact Chg.refl _ _ | apply Chg.drew | apply Chg.drewN | refine Chg.alloc ?_ _)))).mono ?_; rintro e w' ⟨rfl, g1⟩; have UG := Lib.hid (Chg.trans UG.out (Chg.trans (by repeat (first | exact Chg.refl _ _ | apply Chg.drew | apply Chg.drewN | refine Chg.alloc ?_ _)) g1)); clear g1) | (go_at_call 168; with_reducible refine (HON2.out _ (Chg.trans UG.out (by repeat (first | exact Chg.refl _ _ | apply Chg.drew | apply Chg.drewN | refine Chg.alloc ?_ _)))).mono ?_; rintro e w' ⟨rfl, g1⟩; have UG := Lib.hid (Chg.trans UG.out (Chg.trans (by repeat (first | exact Chg.refl _ _ | apply Chg.drew | apply Chg.drewN | refine Chg.alloc ?_ _)) g1)); clear g1) | (go_at_call 169; refine (HCX.out _).mono ?_; rintro e w' ⟨v3, rfl, k3, g1⟩; have UG := Lib.hid (Chg.trans UG.out (Chg.trans (by repeat (first | exact Chg.refl _ _ | apply Chg.drew | apply Chg.drewN | refine Chg.alloc ?_ _)) g1)); have K3 := Lib.hid k3; obtain ⟨A9, c9, rfl, -⟩ := k3.shape; clear k3 g1) | (refine step_appEvs2 rfl (.tmp 100) (.tmp 116) rfl w.heap.size _ (rackTo p r (-1) j) (by simp [Act.eval, Act.put]) (HOC.out.up (show Up wc _ from Chg.trans UG.out (by repeat (first | exact Chg.refl _ _ | apply Chg.drew | apply Chg.drewN | refine Chg.alloc ?_ _)))) _ _ _ (by simp [Act.eval, Act.put]) (K3.out.up (by repeat (first | exact Chg.refl _ _ | apply Chg.drew | apply Chg.drewN | refine Chg.alloc ?_ _))) HLL.out (Nat.le_trans HZC.out (Chg.size (S := Nowhere) (show Up wc _ from Chg.trans UG.out (by repeat (first | exact Chg.refl _ _ | apply Chg.drew | apply Chg.drewN | refine Chg.alloc ?_ _))))) ?_; intro v' w' h1 h2 h3 h4; have HOV := Lib.hid h1; have GA := Lib.hid h2; have HOB := Lib.hid h3; have GN := Lib.hid h4; clear h1 h2 h3 h4))
              refine NoPanic.normal ?_
              have U6 := Lib.hid (show Up w w' from Chg.new (Chg.trans UC.out UG.out) GN.out (fun i hi => by omega))
              have ND6 := Lib.hid ((HND.out.up (Chg.trans UW.out (Chg.trans hup.out UG.out))).keep GA.out hne.out)
              have hgo2 := HGO.out
              have hz1 := hz.out
              have NGa : Hid (¬ na = go) := Lib.hid (by omega)
              have NGb : Hid (¬ nb = go) := Lib.hid (by omega)
              have HZ6 := Lib.hid (show wr.heap.size ≤ w'.heap.size from Nat.le_trans hup.out.size (Nat.le_trans UG.out.size GA.out.size))
              have HNV : Hid (v'.ownBlock ≠ some go) := Lib.hid fun h => (HOB.out _ h).elim hne.out (fun h2 => by have h3 := UG.out.size; omega)
              have x0 := Chg.cell GA.out (Chg.cell UG.out X0h.out id) NEa.out
              have x1 := Chg.cell GA.out (Chg.cell UG.out X1h.out id) NEa.out
              have x2 := Chg.cell GA.out (Chg.cell UG.out X2h.out id) NEb.out
              have x3 := Chg.cell GA.out (Chg.cell UG.out X3h.out id) NEb.out
              obtain ⟨d00, d01, d10, d11, hfz⟩ := ND6.out.two HZZ.out
              have f0 := hfz 0 (by omega)
              have f1 := hfz 1 (by omega)
              have f2 := hfz 2 (by omega)
              have f3 := hfz 3 (by omega)
              rw [Nat.add_zero] at f0
              rw [show t * 2 + 2 = (t + 1) * 2 by omega] at f2
              rw [show t * 2 + 3 = (t + 1) * 2 + 1 by omega] at f3
              clear hfz
              clear UG HOB GN NEa NEb NE3 NE4 X0h X1h X2h X3h E1h E2h HOC LB3 LB4 HON1 HON2 HCX
              have i4 : (0 : Int) ≤ (t : Int) + 1 := by omega
              go_upto_region 22 with fail
              refine wp_region_noPanic ?_
              go_region_held3 (fun w' => w'.cell? ⟨na, 0, none⟩ = some (.int .i64 1) ∧ w'.cell? ⟨na, 1, none⟩ = some (.int .i64 j) ∧ w'.cell? ⟨nb, 0, none⟩ = some (.int .i64 2) ∧ w'.cell? ⟨nb, 1, none⟩ = some (.int .i64 kk)) (exact ⟨Chg.cell (show Chg (fun b => b = go) w' _ by repeat (first | exact Chg.refl _ _ | apply Chg.drew | refine Chg.setCell ?_ (.inl (show go = go from rfl)) _)) x0 NGa.out, Chg.cell (show Chg (fun b => b = go) w' _ by repeat (first | exact Chg.refl _ _ | apply Chg.drew | refine Chg.setCell ?_ (.inl (show go = go from rfl)) _)) x1 NGa.out, Chg.cell (show Chg (fun b => b = go) w' _ by repeat (first | exact Chg.refl _ _ | apply Chg.drew | refine Chg.setCell ?_ (.inl (show go = go from rfl)) _)) x2 NGb.out, Chg.cell (show Chg (fun b => b = go) w' _ by repeat (first | exact Chg.refl _ _ | apply Chg.drew | refine Chg.setCell ?_ (.inl (show go = go from rfl)) _)) x3 NGb.out⟩) (first | fail)
              refine NoPanic.normal ?_
              have HZW := Lib.hid hzw
              go_wp2
              go_roundw
              case rel => exact ⟨j + 1, by omega, by go_num, by show Hid _; rw [HFE.out]; exact Lib.hid (HOV.out.kept (Chg.trans (Chg.swap4 _ _ _ _ _ _ _ _) (by repeat (first | exact Chg.refl _ _ | apply Chg.drew | apply Chg.drewN | refine Chg.alloc ?_ _))) (fun g hg he => HNV.out (hg.trans (by rw [he])))), by show Hid _; rw [HE'.out]; exact Lib.hid ((ND6.out.swap4 HZZ.out).up (by repeat (first | exact Chg.refl _ _ | apply Chg.drew | apply Chg.drewN | refine Chg.alloc ?_ _))), Lib.hid (Chg.new U6.out (Chg.trans (Chg.swap4 _ _ _ _ _ _ _ _) (by repeat (first | exact Chg.refl _ _ | apply Chg.drew | apply Chg.drewN | refine Chg.alloc ?_ _))) (fun i hi => by have := HGO.out.1; omega)), Lib.hid (Nat.le_trans hz.out (Nat.le_trans HZW.out (Nat.le_trans HZ6.out (Chg.trans (Chg.swap4 _ _ _ _ _ _ _ _) (by repeat (first | exact Chg.refl _ _ | apply Chg.drew | apply Chg.drewN | refine Chg.alloc ?_ _))).size))), HNV⟩
              case measure => first | (simp [intOf]; done) | (simp [intOf]; omega)
    · have HEQ := Lib.hid (show rackTo p r (-1) j = oneRack p r (-1) by unfold oneRack; rw [← HN.out, show j = N by omega])
      have hw1 : ¬ (j : Int) < (N : Int) := by omega
      go_wp2
      go_ret
      exact ⟨_, rfl, by rw [← HEQ.out]; exact ho.out.rd, hu.out⟩
end Go.Proofs.Ytchfjglofmphfaa
