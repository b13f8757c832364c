/- A proof that was just made: its parts marked, and held. No condition but room. A proof as a result of the law: its lists of events marked and held; the whole proof marked, held and compared. No condition but room. How large a proof is; its plain answer. No condition. The reference's proof under construction: a row of normal forms, each in a stretch of blocks of its own, only read. No condition. -/
import Derived.Test.YtplabnjdhkmmkaaPro
import Derived.Test.YtplabnjdhkmmkaaPF14
section
set_option maxRecDepth 100000
set_option maxHeartbeats 2000000
set_option linter.unusedSimpArgs false
set_option linter.unusedVariables false
namespace Go.Proofs.Ytplabnjdhkmmkaa
open Go.ChangeShapes Go.WideShapes Go.ChangeAt Go.RowKit
/-- a list whose first elements are marked -/
def mkL {α : Type} (mk : Int → α → α) (f : α → Nat) (k : Int) (xs : List α) (j : Nat) : List α := xs.mapIdx fun i x => if i < j then mk (k + (cntF f xs i : Nat)) x else x
section
variable {α : Type} {mk : Int → α → α} {f : α → Nat} {k : Int} {xs : List α}
theorem mkL_len (j : Nat) : (mkL mk f k xs j).length = xs.length := by simp [mkL]
theorem mkL_at {j i : Nat} (h : i < (mkL mk f k xs j).length) : (mkL mk f k xs j)[i] = if i < j then mk (k + (cntF f xs i : Nat)) (xs[i]'(by rwa [mkL_len] at h)) else xs[i]'(by rwa [mkL_len] at h) := by simp [mkL]
theorem mkL_zero : mkL mk f k xs 0 = xs := by
  refine List.ext_getElem (mkL_len _) fun i h1 h2 => ?_
  rw [mkL_at, if_neg (by omega)]
theorem mkL_succ {j : Nat} (h : j < xs.length) : (mkL mk f k xs j).set j (mk (k + (cntF f xs j : Nat)) xs[j]) = mkL mk f k xs (j + 1) := by
  refine List.ext_getElem (by rw [List.length_set, mkL_len, mkL_len]) fun i h1 h2 => ?_
  rw [mkL_at]
  by_cases e : i = j
  · subst e
    rw [List.getElem_set_self, if_pos (by omega)]
  · rw [List.getElem_set_ne (fun h => e h.symm), mkL_at]
    by_cases h : i < j
    · rw [if_pos h, if_pos (by omega)]
    · rw [if_neg h, if_neg (by omega)]
end
def mkI (k : Int) (xs : List Int) : List Int := marks k xs.length
def fSS (F : List (List Int)) : Nat := cntF List.length F F.length
def mkSS (k : Int) (F : List (List Int)) (j : Nat) : List (List Int) := mkL mkI List.length k F j
theorem mkSS_len (k : Int) (F : List (List Int)) (j : Nat) : (mkSS k F j).length = F.length := mkL_len j
theorem mkSS_at {k : Int} {F : List (List Int)} {j i : Nat} (h : i < (mkSS k F j).length) (h' : i < F.length) : (mkSS k F j)[i] = if i < j then mkI (k + (cntF List.length F i : Nat)) F[i] else F[i] := mkL_at (mk := mkI) h
def fN (x : NormM) : Nat := 2 + fSS x.fs
def fNS (xs : List NormM) : Nat := cntF fN xs xs.length
def mkN (k : Int) (x : NormM) : NormM := ⟨k, k + 1, mkSS (k + 1 + 1) x.fs x.fs.length⟩
def mkNS (k : Int) (xs : List NormM) (j : Nat) : List NormM := mkL mkN fN k xs j
theorem mkNS_len (k : Int) (fs : List NormM) (j : Nat) : (mkNS k fs j).length = fs.length := mkL_len j
theorem mkNS_at {k : Int} {fs : List NormM} {j i : Nat} (h : i < (mkNS k fs j).length) (h' : i < fs.length) : (mkNS k fs j)[i] = if i < j then mkN (k + (cntF fN fs i : Nat)) fs[i] else fs[i] := mkL_at (mk := mkN) h
def fES (xs : List (List EvM)) : Nat := cntF cntEvs xs xs.length
theorem FRow.some_ {w : World} {base top c : Nat} {A : Option Addr} {n : Nat} {rs : List (List Int)} (h : FRow w base top (.slice A n c) rs) (hp : 0 < rs.length) : ∃ g o q, A = some ⟨g, o, none⟩ ∧ FR w base top g o c q rs := by
  rcases h with ⟨-, rfl⟩ | ⟨g, o, cap, q, he, hF⟩
  · simp at hp
  · injection he with h1 h2 h3
    subst h1; subst h3
    exact ⟨g, o, q, rfl, hF⟩
theorem Ints.cap {w : World} {S : Nat → Prop} {g : Addr} {n c c' : Nat} {xs : List Int} (h : Ints w S (.slice (some g) n c) xs) (h1 : xs.length ≤ c') (h2 : c' ≤ 9223372036854775807) : Ints w S (.slice (some g) n c') xs := by
  obtain ⟨A, c0, he, a, b, r1, r2, r3⟩ := h
  injection he with e1 e2 e3
  subst e1; subst e2; subst e3
  exact ⟨some g, c', rfl, h1, h2, r1, r2, by simp⟩
theorem Ints.capb {w : World} {S : Nat → Prop} {A : Option Addr} {n c : Nat} {xs : List Int} (h : Ints w S (.slice A n c) xs) : xs.length ≤ c ∧ c ≤ 9223372036854775807 := by
  obtain ⟨A', c0, he, a, b, -⟩ := h
  injection he with e1 e2 e3
  subst e3
  exact ⟨a, b⟩
theorem markFRow_any (w : World) (base top : Nat) (v : Value) (F : List (List Int)) (k : Int) (hk : 0 ≤ k) (hb : k + (fSS F : Nat) ≤ 4611686018427387904) (h : FRow w base top v F) :
    Calls Try.prog 85 #[v, .int .i64 k] w fun e w' => e = .returned (.int .i64 (k + (fSS F : Nat))) ∧ Chg (fun b => base ≤ b ∧ b < top) w w' ∧ FRow w' base top v (mkSS k F F.length) := by
  obtain ⟨A, c, rfl, hlc, hcm, -⟩ := h.shape
  have H := Lib.hid h
  unfold fSS at hb ⊢
  clear h
  go_enter Try.func85, Try.ntmps85
  go_wp2
  go_loopw [1, 5] (fun q i wr => ∃ (j : Nat), j ≤ F.length ∧ i = .int .i64 j ∧ q = .int .i64 (k + (cntF List.length F j : Nat)) ∧ Hid (Chg (fun b => base ≤ b ∧ b < top) w wr) ∧ Hid (FRow wr base top (.slice A F.length c) (mkSS k F j))) (fun _ i _ => F.length - (intOf i).toNat)
  case atStart => exact ⟨0, by omega, rfl, by simp [cntF], Chg.refl _ _, Lib.hid (by unfold mkSS; rw [mkL_zero]; exact H.out)⟩
  clear H
  case round =>
    obtain ⟨j, hj, rfl, rfl, hg, hm⟩ := hrel
    by_cases hlt : j < F.length
    · obtain ⟨g, o, q, rfl, hF⟩ := hm.out.some_ (by rw [mkSS_len]; omega)
      have hjl : j < (mkSS k F j).length := by rw [mkSS_len]; exact hlt
      obtain ⟨kk, c0, i0, e1, e2⟩ := hF.hd j hjl
      have hat : (mkSS k F j)[j] = F[j] := by rw [mkSS_at hjl hlt, if_neg (Nat.lt_irrefl j)]
      rw [hat] at c0 i0 e1
      have HF := Lib.hid hF
      have I0 := Lib.hid i0
      have HC := Lib.hid (cntF_succ (f := List.length) hlt)
      have hle := cntF_le (f := List.length) (xs := F) (show j + 1 ≤ F.length by omega)
      rw [HC.out] at hle
      have HB := Lib.hid (show k + (cntF List.length F j : Nat) + ((cntInts F[j] : Nat) : Int) ≤ 4611686018427387904 by unfold cntInts; omega)
      have HK := Lib.hid (show 0 ≤ k + (cntF List.length F j : Nat) by omega)
      have HQ := Lib.hid (hF.qb j hjl)
      clear hF i0 hle hat e1 e2 hm
      go_wp2_with fail
      refine (markInts _ (fun b => b = q j) _ F[j] _ HK.out HB.out I0.out).mono ?_
      rintro e w1 ⟨rfl, g1, k1⟩
      have HN := Lib.hid (show FR w1 base top g o c q (mkSS k F (j + 1)) from by
        refine HF.out.turn g1 (fun e => HQ.out.2.2 e.symm) (by rw [mkSS_len, mkSS_len]) (fun i h1 h2 => ?_)
        have h1' : i < F.length := by rwa [mkSS_len] at h1
        rw [mkSS_at h1 h1', mkSS_at h2 h1']
        by_cases e : i = j
        · subst e
          rw [if_neg (Nat.lt_irrefl i), if_pos (Nat.lt_succ_self i)]
          refine .inr ⟨by simp [mkI, marks_length], fun k2 k2h => ?_⟩
          have k1' : Ints w1 (fun b => b = q i) (.slice (some ⟨q i, 0, none⟩) F[i].length kk) (marks (k + (cntF List.length F i : Nat)) F[i].length) := k1
          have hml : (mkI (k + (cntF List.length F i : Nat)) F[i]).length = F[i].length := by unfold mkI; rw [marks_length]
          rw [hml]
          exact k1'.cap (by rw [marks_length]; exact k2h.capb.1) k2h.capb.2
        · refine .inl ⟨?_, fun h => e ?_⟩
          · by_cases h : i < j
            · rw [if_pos h, if_pos (by omega)]
            · rw [if_neg h, if_neg (by omega)]
          · have h3 := HF.out.qi i j h1 hjl h
            exact h3)
      have HG := Lib.hid (Chg.trans hg.out (g1.mono (fun b _ e => by have e : b = q j := e; have := HQ.out; exact ⟨by omega, by omega⟩)))
      clear g1 k1 c0
      go_wp2
      go_roundw
      case rel => exact ⟨j + 1, by omega, by go_num, by rw [HC.out]; unfold cntInts; simp only [Value.int.injEq, true_and]; omega, HG.out, Lib.hid (.inr ⟨g, o, c, q, by rw [mkSS_len], HN.out⟩)⟩
      case measure => first | (simp [intOf]; done) | (simp [intOf]; omega)
    · obtain rfl : j = F.length := by omega
      go_wp2
      go_ret
      exact ⟨rfl, hg.out, hm.out⟩
theorem heldFRow_any (w : World) (base top : Nat) (v : Value) (F : List (List Int)) (k : Int) (hk : 0 ≤ k) (hb : k + (fSS F : Nat) ≤ 4611686018427387904) (h : FRow w base top v (mkSS k F F.length)) :
    Calls Try.prog 86 #[v, .int .i64 k] w fun e w' => e = .returned (.int .i64 (k + (fSS F : Nat))) ∧ Up w w' := by
  obtain ⟨A, c, rfl, hlc, hcm, -⟩ := h.shape
  have hml : (mkSS k F F.length).length = F.length := mkSS_len _ _ _
  have H := Lib.hid h
  rw [hml] at hlc ⊢
  unfold fSS at hb ⊢
  clear h
  have HML := Lib.hid hml
  clear hml
  go_enter Try.func86, Try.ntmps86
  go_wp2
  go_loopw [1, 5] (fun q i wr => ∃ (j : Nat), j ≤ F.length ∧ i = .int .i64 j ∧ q = .int .i64 (k + (cntF List.length F j : Nat)) ∧ Hid (Up w wr)) (fun _ i _ => F.length - (intOf i).toNat)
  case atStart => exact ⟨0, by omega, rfl, by simp [cntF], Chg.refl _ _⟩
  case round =>
    obtain ⟨j, hj, rfl, rfl, hg⟩ := hrel
    by_cases hlt : j < F.length
    · have hjl : j < (mkSS k F F.length).length := by rw [HML.out]; exact hlt
      obtain ⟨g, o, q, rfl, hF⟩ := (H.out.up hg.out).some_ (by omega)
      obtain ⟨kk, c0, i0, e1, e2⟩ := hF.hd j hjl
      have hat : (mkSS k F F.length)[j] = mkI (k + (cntF List.length F j : Nat)) F[j] := by rw [mkSS_at hjl hlt, if_pos hlt]
      have hlm : (mkI (k + (cntF List.length F j : Nat)) F[j]).length = F[j].length := by unfold mkI; rw [marks_length]
      rw [hat, hlm] at c0 i0 e1
      have I0 := Lib.hid i0
      have HC := Lib.hid (cntF_succ (f := List.length) hlt)
      have hle := cntF_le (f := List.length) (xs := F) (show j + 1 ≤ F.length by omega)
      rw [HC.out] at hle
      have HB := Lib.hid (show k + (cntF List.length F j : Nat) + ((cntInts F[j] : Nat) : Int) ≤ 4611686018427387904 by unfold cntInts; omega)
      have HK := Lib.hid (show 0 ≤ k + (cntF List.length F j : Nat) by omega)
      have hneg : decide (k + (cntF List.length F j : Nat) + ((cntInts F[j] : Nat) : Int) < 0) = false := decide_eq_false (by have := HK.out; omega)
      clear hF i0 hle hat e1 e2 hlm hjl
      go_wp2_with fail
      refine (heldInts _ (fun b => b = q j) _ F[j] _ HK.out HB.out I0.out).mono ?_
      rintro e w1 ⟨rfl, g1⟩
      have HG := Lib.hid (Chg.trans hg.out g1)
      clear g1 c0
      go_wp2
      go_roundw
      case rel => exact ⟨j + 1, by omega, by go_num, by rw [HC.out]; unfold cntInts; simp only [Value.int.injEq, true_and]; omega, HG.out⟩
      case measure => first | (simp [intOf]; done) | (simp [intOf]; omega)
    · obtain rfl : j = F.length := by omega
      go_wp2
      go_ret
      exact ⟨rfl, hg.out⟩
section
variable {S : Nat → Prop} {w w' : World} {base : Nat} {v : Value} {fs : List NormM} {cs : List Value} {lo hi : Nat → Nat}
/-- form i: its three cells, and its list -/
theorem NRow.at_ (h : NRow w base v fs cs lo hi) {i : Nat} (hi' : i < fs.length) : ∃ g c A k, v = .slice (some ⟨g, 0, none⟩) fs.length c ∧ (base ≤ g ∧ g < w.heap.size) ∧ CellF w ⟨g, i * 3, none⟩ (.int .i64 fs[i].n) ∧ CellF w ⟨g, i * 3 + 1, none⟩ (.int .i64 fs[i].p) ∧ CellF w ⟨g, i * 3 + 2, none⟩ (.slice A fs[i].fs.length k) ∧
    cs[i * 3 + 2]? = some (.slice A fs[i].fs.length k) ∧ FRow w (lo i) (hi i) (.slice A fs[i].fs.length k) fs[i].fs := by
  obtain ⟨A, k, c0, c1, c2, f, -, -⟩ := h.row i hi'
  obtain ⟨Av, c, hv, hl1, hl2, -⟩ := h.val
  have hsh : ∃ g c, v = .slice (some ⟨g, 0, none⟩) fs.length c := by
    rcases h.own.2 with ⟨-, h0⟩ | ⟨g, cap, cur, hv, -⟩
    · omega
    · exact ⟨g, cap, hv⟩
  obtain ⟨g, c', hv'⟩ := hsh
  have hcl : cs.length = fs.length * 3 := h.own.1
  have ho := h.own
  rw [hv'] at ho
  exact ⟨g, c', A, k, hv', ho.lt g rfl, ⟨(ho.cellAt _ (by omega)).trans c0, ho.frozenAt _⟩, ⟨(ho.cellAt _ (by omega)).trans c1, ho.frozenAt _⟩, ⟨(ho.cellAt _ (by omega)).trans c2, ho.frozenAt _⟩, c2, f⟩
/-- form i is put anew in its place: its numbers, and its lists in their own stretch -/
theorem NRow.put (h : NRow w base v fs cs lo hi) {i : Nat} (hi' : i < fs.length) {g c : Nat} (hv : v = .slice (some ⟨g, 0, none⟩) fs.length c) {n p : Int} (hn : I64 n) (hp : I64 p) {w1 : World} {F : List (List Int)} (hl : F.length = fs[i].fs.length)
    (hC : Chg (fun b => lo i ≤ b ∧ b < hi i) ((w.setCell ⟨g, i * 3, none⟩ (.int .i64 n)).setCell ⟨g, i * 3 + 1, none⟩ (.int .i64 p)) w1)
    {A : Option Addr} {k : Nat} (hc2 : cs[i * 3 + 2]? = some (.slice A fs[i].fs.length k)) (hF : FRow w1 (lo i) (hi i) (.slice A fs[i].fs.length k) F) :
    NRow w1 base v (fs.set i ⟨n, p, F⟩) ((cs.set (i * 3) (.int .i64 n)).set (i * 3 + 1) (.int .i64 p)) lo hi := by
  have hvo : v.ownBlock = some g := by rw [hv]; rfl
  have hg := h.own.lt g hvo
  have hcl : cs.length = fs.length * 3 := h.own.1
  have own1 := h.own
  rw [hv] at own1
  have s1 := (own1.stored (i * 3) (.int .i64 n)).1
  have s2 := (s1.stored (i * 3 + 1) (.int .i64 p)).1
  have hC0 : Chg (fun b => b = g) w ((w.setCell ⟨g, i * 3, none⟩ (.int .i64 n)).setCell ⟨g, i * 3 + 1, none⟩ (.int .i64 p)) := Chg.setCell (Chg.setCell (Chg.refl (fun b => b = g) w) (p := ⟨g, i * 3, none⟩) (.inl (show g = g from rfl)) _) (p := ⟨g, i * 3 + 1, none⟩) (.inl (show g = g from rfl)) _
  have hgi := (h.iv i hi').2.2 g hvo
  have s3 := ownsRow_kept s2 hC (fun b hb e => by
    have hb : g = b := by injection hb
    subst hb
    exact hgi e)
  have hCw : Chg (fun b => b = g ∨ (lo i ≤ b ∧ b < hi i)) w w1 := Chg.trans (hC0.mono (fun b _ e => .inl e)) (hC.mono (fun b _ e => .inr e))
  refine ⟨by rw [List.length_set, hv]; exact s3, fun j hj => ?_, fun j hj => ?_, fun a b hab hb => h.dj a b hab (by simpa using hb)⟩
  · rw [List.length_set] at hj
    by_cases e : i = j
    · subst e
      simp only [List.getElem_set_self]
      refine ⟨A, k, ?_, ?_, ?_, by rw [hl]; exact hF, hn, hp⟩
      · rw [List.getElem?_set_ne (by omega), List.getElem?_set_self (by omega)]
      · rw [List.getElem?_set_self (by rw [List.length_set]; omega)]
      · rw [List.getElem?_set_ne (by omega), List.getElem?_set_ne (by omega), hl]; exact hc2
    · rw [List.getElem_set_ne e]
      obtain ⟨A', k', c0, c1, c2, f, n1, n2⟩ := h.row j hj
      refine ⟨A', k', ?_, ?_, ?_, f.keep hCw (fun b h1 h2 e2 => ?_), n1, n2⟩
      · rw [List.getElem?_set_ne (by omega), List.getElem?_set_ne (by omega)]; exact c0
      · rw [List.getElem?_set_ne (by omega), List.getElem?_set_ne (by omega)]; exact c1
      · rw [List.getElem?_set_ne (by omega), List.getElem?_set_ne (by omega)]; exact c2
      · rcases e2 with rfl | ⟨h3, h4⟩
        · exact (h.iv j hj).2.2 _ hvo ⟨h1, h2⟩
        · rcases Nat.lt_or_ge i j with hij | hij
          · have := h.dj i j hij hj; omega
          · have := h.dj j i (by omega) hi'; omega
  · rw [List.length_set] at hj
    have h1 := h.iv j hj
    exact ⟨h1.1, Nat.le_trans h1.2.1 hCw.size, h1.2.2⟩
end
theorem markNRow_any (w : World) (base : Nat) (v : Value) (fs : List NormM) (cs : List Value) (lo hi : Nat → Nat) (k : Int) (hk : 0 ≤ k) (hb : k + (fNS fs : Nat) ≤ 4611686018427387904) (h : NRow w base v fs cs lo hi) :
    Calls Try.prog 50 #[v, .int .i64 k] w fun e w' => e = .returned (.int .i64 (k + (fNS fs : Nat))) ∧ Chg (fun b => NK v fs.length lo hi b) w w' ∧ ∃ cs', NRow w' base v (mkNS k fs fs.length) cs' lo hi := by
  obtain ⟨A, c, rfl, hlc, hcm, -⟩ := h.val
  have H := Lib.hid h
  unfold fNS at hb ⊢
  clear h
  go_enter Try.func50, Try.ntmps50
  go_wp2
  go_loopw [1, 5] (fun q i wr => ∃ (j : Nat) (cs' : List Value), j ≤ fs.length ∧ i = .int .i64 j ∧ q = .int .i64 (k + (cntF fN fs j : Nat)) ∧ Hid (Chg (fun b => NK (.slice A fs.length c) fs.length lo hi b) w wr) ∧ Hid (NRow wr base (.slice A fs.length c) (mkNS k fs j) cs' lo hi)) (fun _ i _ => fs.length - (intOf i).toNat)
  case atStart => exact ⟨0, cs, by omega, rfl, by simp [cntF], Chg.refl _ _, Lib.hid (by unfold mkNS; rw [mkL_zero]; exact H.out)⟩
  clear H
  case round =>
    obtain ⟨j, cs', hj, rfl, rfl, hg, hm⟩ := hrel
    by_cases hlt : j < fs.length
    · have hjl : j < (mkNS k fs j).length := by rw [mkNS_len]; exact hlt
      have hml : (mkNS k fs j).length = fs.length := mkNS_len _ _ _
      obtain ⟨g, c', A2, k2, hv, hgb, t0, t1, t2, c2, hF⟩ := hm.out.at_ hjl
      have hat : (mkNS k fs j)[j] = fs[j] := by rw [mkNS_at hjl hlt, if_neg (Nat.lt_irrefl j)]
      rw [hml] at hv
      injection hv with e1 e2 e3
      subst e1; subst e3
      obtain ⟨x, hx⟩ : ∃ x, x = fs[j] := ⟨_, rfl⟩
      rw [hat, ← hx] at t0 t1 t2 c2 hF
      have HX := Lib.hid hx
      have HC := Lib.hid (cntF_succ (f := fN) hlt)
      have hle := cntF_le (f := fN) (xs := fs) (show j + 1 ≤ fs.length by omega)
      rw [HC.out, ← hx] at hle
      have hfn : fN x = 2 + fSS x.fs := rfl
      obtain ⟨m, hm0⟩ : ∃ m : Nat, m = cntF fN fs j := ⟨_, rfl⟩
      rw [← hm0] at hle ⊢
      have HM := Lib.hid hm0
      have HFN := Lib.hid hfn
      have hb2 : k + (m : Int) + 2 ≤ 4611686018427387904 := by omega
      have HB := Lib.hid (show k + (m : Int) + 1 + 1 + ((fSS x.fs : Nat) : Int) ≤ 4611686018427387904 by omega)
      have HK := Lib.hid (show 0 ≤ k + (m : Int) + 1 + 1 by omega)
      have I1 : Hid (I64 (k + m)) := Lib.hid (by unfold I64; omega)
      have I2 : Hid (I64 (k + m + 1)) := Lib.hid (by unfold I64; omega)
      have WD : Hid (Chg (fun b => b = g) wr ((wr.setCell ⟨g, j * 3, none⟩ (.int .i64 (k + m))).setCell ⟨g, j * 3 + 1, none⟩ (.int .i64 (k + m + 1)))) := Lib.hid (Chg.setCell (Chg.setCell (Chg.refl (fun x => x = g) wr) (p := ⟨g, j * 3, none⟩) (.inl rfl) _) (p := ⟨g, j * 3 + 1, none⟩) (.inl rfl) _)
      have HGI := Lib.hid ((hm.out.iv j hjl).2.2 g rfl)
      have HF := Lib.hid hF
      have HC2 := Lib.hid c2
      have HAT := Lib.hid hat
      have HJL := Lib.hid hjl
      have HML := Lib.hid hml
      have t2' := (CellF.set_ne (CellF.set_ne t2 (q := ⟨g, j * 3, none⟩) (x := .int .i64 (k + m)) (by intro e; injection e with _ e; omega)) (q := ⟨g, j * 3 + 1, none⟩) (x := .int .i64 (k + m + 1)) (by intro e; injection e with _ e; omega))
      obtain ⟨t0c, t0f⟩ := t0
      obtain ⟨t1c, t1f⟩ := t1
      obtain ⟨t2c, t2f⟩ := t2
      obtain ⟨t3c, t3f⟩ := t2'
      clear hF c2 hat hle hx hm0 hfn e2 hml
      go_wp2_with fail
      refine (markFRow_any _ (lo j) (hi j) _ x.fs _ HK.out HB.out (HF.out.keep WD.out (fun b h1 h2 e => HGI.out (by have e : b = g := e; subst e; exact ⟨h1, h2⟩)))).mono ?_
      rintro e w1 ⟨rfl, g1, k1⟩
      have HN := Lib.hid (show NRow w1 base (.slice (some ⟨g, 0, none⟩) fs.length c) (mkNS k fs (j + 1)) ((cs'.set (j * 3) (.int .i64 (k + m))).set (j * 3 + 1) (.int .i64 (k + m + 1))) lo hi from by
        have h1 := hm.out.put (g := g) (c := c) HJL.out (by rw [HML.out]) I1.out I2.out (F := mkSS (k + m + 1 + 1) x.fs x.fs.length) (by rw [HAT.out, ← HX.out]; rw [mkSS_len]) g1 (A := A2) (k := k2) (by rw [HAT.out, ← HX.out]; exact HC2.out) (by rw [HAT.out, ← HX.out]; exact k1)
        have h2 : (⟨k + m, k + m + 1, mkSS (k + m + 1 + 1) x.fs x.fs.length⟩ : NormM) = mkN (k + (cntF fN fs j : Nat)) fs[j] := by unfold mkN; rw [← HM.out, ← HX.out]
        rw [h2] at h1
        unfold mkNS at h1
        rw [mkL_succ hlt] at h1
        exact h1)
      have HG := Lib.hid (Chg.trans hg.out (Chg.trans (WD.out.mono (T := fun b => NK (.slice (some ⟨g, 0, none⟩) fs.length c) fs.length lo hi b) (fun b _ e => .inl (by have e : b = g := e; rw [e]; rfl))) (g1.mono (fun b _ e => .inr ⟨j, hlt, e.1, e.2⟩))))
      clear g1 k1 t0c t0f t1c t1f t2c t2f t3c t3f
      go_wp2
      go_roundw
      case rel => exact ⟨j + 1, _, by omega, by go_num, by rw [HC.out, ← HM.out, ← HX.out, HFN.out]; simp only [Value.int.injEq, true_and]; omega, HG.out, HN⟩
      case measure => first | (simp [intOf]; done) | (simp [intOf]; omega)
    · obtain rfl : j = fs.length := by omega
      go_wp2
      go_ret
      exact ⟨rfl, hg.out, _, hm.out⟩
theorem heldNRow_any (w : World) (base : Nat) (v : Value) (fs : List NormM) (cs : List Value) (lo hi : Nat → Nat) (k : Int) (hk : 0 ≤ k) (hb : k + (fNS fs : Nat) ≤ 4611686018427387904) (h : NRow w base v (mkNS k fs fs.length) cs lo hi) :
    Calls Try.prog 52 #[v, .int .i64 k] w fun e w' => e = .returned (.int .i64 (k + (fNS fs : Nat))) ∧ Up w w' := by
  obtain ⟨A, c, rfl, hlc, hcm, -⟩ := h.val
  have hml : (mkNS k fs fs.length).length = fs.length := mkNS_len _ _ _
  have H := Lib.hid h
  have HML := Lib.hid hml
  rw [hml] at hlc ⊢
  unfold fNS at hb ⊢
  clear h hml
  go_enter Try.func52, Try.ntmps52
  go_wp2
  go_loopw [1, 5] (fun q i wr => ∃ (j : Nat), j ≤ fs.length ∧ i = .int .i64 j ∧ q = .int .i64 (k + (cntF fN fs j : Nat)) ∧ Hid (Up w wr)) (fun _ i _ => fs.length - (intOf i).toNat)
  case atStart => exact ⟨0, by omega, rfl, by simp [cntF], Chg.refl _ _⟩
  case round =>
    obtain ⟨j, hj, rfl, rfl, hg⟩ := hrel
    by_cases hlt : j < fs.length
    · have hjl : j < (mkNS k fs fs.length).length := by rw [HML.out]; exact hlt
      obtain ⟨g, c', A2, k2, hv, hgb, t0, t1, t2, c2, hF⟩ := (H.out.up hg.out).at_ hjl
      have hat : (mkNS k fs fs.length)[j] = mkN (k + (cntF fN fs j : Nat)) fs[j] := by rw [mkNS_at hjl hlt, if_pos hlt]
      injection hv with e1 e2 e3
      subst e1; subst e3
      obtain ⟨x, hx⟩ : ∃ x, x = fs[j] := ⟨_, rfl⟩
      obtain ⟨m, hm0⟩ : ∃ m : Nat, m = cntF fN fs j := ⟨_, rfl⟩
      rw [hat, ← hx, ← hm0] at t0 t1 t2 hF
      have hll : (mkN (k + (m : Int)) x).fs.length = x.fs.length := mkSS_len _ _ _
      rw [hll] at t2 hF
      have t0 : CellF wr ⟨g, j * 3, none⟩ (.int .i64 (k + (m : Int))) := t0
      have t1 : CellF wr ⟨g, j * 3 + 1, none⟩ (.int .i64 (k + (m : Int) + 1)) := t1
      have HF := Lib.hid (show FRow wr (lo j) (hi j) (.slice A2 x.fs.length k2) (mkSS (k + (m : Int) + 1 + 1) x.fs x.fs.length) from hF)
      have HX := Lib.hid hx
      have HC := Lib.hid (cntF_succ (f := fN) hlt)
      have hle := cntF_le (f := fN) (xs := fs) (show j + 1 ≤ fs.length by omega)
      rw [HC.out, ← hx, ← hm0] at hle
      have hfn : fN x = 2 + fSS x.fs := rfl
      have HM := Lib.hid hm0
      have HFN := Lib.hid hfn
      have hb2 : k + (m : Int) + 2 ≤ 4611686018427387904 := by omega
      have HB := Lib.hid (show k + (m : Int) + 1 + 1 + ((fSS x.fs : Nat) : Int) ≤ 4611686018427387904 by omega)
      have HK := Lib.hid (show 0 ≤ k + (m : Int) + 1 + 1 by omega)
      have hneg : decide (k + (m : Int) + 1 + 1 + ((fSS x.fs : Nat) : Int) < 0) = false := decide_eq_false (by have := HK.out; omega)
      rw [← hm0]
      obtain ⟨t0c, t0f⟩ := t0
      obtain ⟨t1c, t1f⟩ := t1
      obtain ⟨t2c, t2f⟩ := t2
      clear hF c2 hat hle hx hm0 hfn e2 hjl hll
      go_wp2_with fail
      refine (heldFRow_any _ (lo j) (hi j) _ x.fs _ HK.out HB.out HF.out).mono ?_
      rintro e w1 ⟨rfl, g1⟩
      have HG := Lib.hid (Chg.trans hg.out g1)
      clear g1 t0c t0f t1c t1f t2c t2f
      go_wp2
      go_roundw
      case rel => exact ⟨j + 1, by omega, by go_num, by rw [HC.out, ← HM.out, ← HX.out, HFN.out]; simp only [Value.int.injEq, true_and]; omega, HG.out⟩
      case measure => first | (simp [intOf]; done) | (simp [intOf]; omega)
    · obtain rfl : j = fs.length := by omega
      go_wp2
      go_ret
      exact ⟨rfl, hg.out⟩
end Go.Proofs.Ytplabnjdhkmmkaa
end
section
set_option maxRecDepth 100000
set_option maxHeartbeats 2000000
set_option linter.unusedSimpArgs false
set_option linter.unusedVariables false
namespace Go.Proofs.Ytplabnjdhkmmkaa
open Go.ChangeShapes Go.WideShapes Go.ChangeAt Go.RowKit
theorem OwnEvs.rdOwn {w : World} {base : Nat} {v : Value} {xs : List EvM} (h : OwnEvs w base v xs) : Evs w (fun b => v.ownBlock = some b) v xs := by
  refine ⟨?_, h.2⟩
  obtain ⟨h0, A, c, hv, h1, h2, h4, h5⟩ := Raw.of_own h.1
  refine ⟨h0, A, c, hv, h1, h2, fun hp => ?_, h5⟩
  obtain ⟨b, o, hA, hs, hb, hc⟩ := h4 hp
  refine ⟨b, o, hA, ?_, hb, hc⟩
  rcases h.1.2 with ⟨-, h0⟩ | ⟨g, cap, cur, hv2, -⟩
  · omega
  · rw [hv2] at hv
    injection hv with e1 e2 e3
    rw [hA] at e1
    injection e1 with e1
    injection e1 with e1
    subst e1
    rw [hv2]
    rfl
/-- list i: its header's cell, and what it leads to -/
theorem ERow.at_ {w : World} {base : Nat} {v : Value} {ss : List (List EvM)} {cs : List Value} {q : Nat → Option Nat} (h : ERow w base v ss cs q) {i : Nat} (hi : i < ss.length) :
    ∃ g c A k, v = .slice (some ⟨g, 0, none⟩) ss.length c ∧ (base ≤ g ∧ g < w.heap.size) ∧ CellF w ⟨g, i, none⟩ (.slice A ss[i].length k) ∧ cs[i]? = some (.slice A ss[i].length k) ∧ Evs w (fun b => q i = some b) (.slice A ss[i].length k) ss[i] := by
  obtain ⟨vs, c0, o1, hq⟩ := h.row i hi
  obtain ⟨As, ks, rfl, -⟩ := o1.val
  obtain ⟨Av, c, hv, hl1, hl2, -⟩ := h.val
  have hsh : ∃ g c, v = .slice (some ⟨g, 0, none⟩) ss.length c := by
    rcases h.own.2 with ⟨-, h0⟩ | ⟨g, cap, cur, hv, -⟩
    · omega
    · exact ⟨g, cap, hv⟩
  obtain ⟨g, c', hv'⟩ := hsh
  have hcl : cs.length = ss.length * 1 := h.own.1
  have ho := h.own
  rw [hv'] at ho
  have h3 := o1.rdOwn
  rw [hq] at h3
  exact ⟨g, c', As, ks, hv', ho.lt g rfl, ⟨(ho.cellAt _ (by omega)).trans c0, ho.frozenAt _⟩, c0, h3⟩
/-- a row of lists of events that bear marks from k on -/
def MES (w : World) (S : Nat → Prop) (v : Value) (ss : List (List EvM)) (k : Int) : Prop := ∃ base cs, w.ownsRow base 40 1 v ss.length cs ∧ (∀ b, v.ownBlock = some b → S b) ∧ ∀ i (h : i < ss.length), ∃ A c, cs[i]? = some (.slice A ss[i].length c) ∧ MEvs w S (.slice A ss[i].length c) ss[i] (k + (cntF cntEvs ss i : Nat))
theorem MEvs.keepR {S T : Nat → Prop} {w w' : World} {v : Value} {xs : List EvM} {k : Int} (h : MEvs w S v xs k) (g : Chg T w w') (hd : ∀ b, b < w.heap.size → S b → ¬ T b) : MEvs w' S v xs k := Raw.keep h g hd
theorem MES.keep {S T : Nat → Prop} {w w' : World} {v : Value} {ss : List (List EvM)} {k : Int} (h : MES w S v ss k) (g : Chg T w w') (hd : ∀ b, b < w.heap.size → S b → ¬ T b) : MES w' S v ss k := by
  obtain ⟨base, cs, h1, h2, h3⟩ := h
  exact ⟨base, cs, ownsRow_kept h1 g (fun b hb => hd b (h1.lt b hb).2 (h2 b hb)), h2, fun i hi => let ⟨A, c, e1, e2⟩ := h3 i hi; ⟨A, c, e1, e2.keepR g hd⟩⟩
theorem MES.shape {S : Nat → Prop} {w : World} {v : Value} {ss : List (List EvM)} {k : Int} (h : MES w S v ss k) : ∃ A c, v = .slice A ss.length c ∧ ss.length ≤ c ∧ c ≤ 9223372036854775807 ∧ (A = none → c = 0) := by
  obtain ⟨base, cs, h1, -, -⟩ := h
  obtain ⟨-, A, c, h3, h4, h5, -, h6⟩ := Raw.of_own h1
  exact ⟨A, c, h3, h4, h5, h6⟩
theorem MES.at_ {S : Nat → Prop} {w : World} {v : Value} {ss : List (List EvM)} {k : Int} (h : MES w S v ss k) {i : Nat} (hi : i < ss.length) :
    ∃ g c A d, v = .slice (some ⟨g, 0, none⟩) ss.length c ∧ CellF w ⟨g, i, none⟩ (.slice A ss[i].length d) ∧ MEvs w S (.slice A ss[i].length d) ss[i] (k + (cntF cntEvs ss i : Nat)) := by
  obtain ⟨base, cs, h1, -, h3⟩ := h
  obtain ⟨A, d, c0, h4⟩ := h3 i hi
  have hsh : ∃ g c, v = .slice (some ⟨g, 0, none⟩) ss.length c := by
    rcases h1.2 with ⟨-, h0⟩ | ⟨g, cap, cur, hv, -⟩
    · omega
    · exact ⟨g, cap, hv⟩
  obtain ⟨g, c', hv'⟩ := hsh
  have hcl : cs.length = ss.length * 1 := h1.1
  have ho := h1
  rw [hv'] at ho
  exact ⟨g, c', A, d, hv', ⟨(ho.cellAt _ (by omega)).trans c0, ho.frozenAt _⟩, h4⟩
theorem markERow_any (w : World) (base : Nat) (S : Nat → Prop) (v : Value) (ss : List (List EvM)) (cs : List Value) (q : Nat → Option Nat) (k : Int) (hk : 0 ≤ k) (hb : k + (fES ss : Nat) ≤ 4611686018427387904) (h : ERow w base v ss cs q) (hS : ∀ b, EK v ss.length q b → S b) :
    Calls Try.prog 51 #[v, .int .i64 k] w fun e w' => e = .returned (.int .i64 (k + (fES ss : Nat))) ∧ Chg (fun b => ∃ i, i < ss.length ∧ q i = some b) w w' ∧ MES w' S v ss k := by
  obtain ⟨A, c, rfl, hlc, hcm, -⟩ := h.val
  have H := Lib.hid h
  have HS := Lib.hid hS
  unfold fES at hb ⊢
  clear h hS
  go_enter Try.func51, Try.ntmps51
  go_wp2
  go_loopw [1, 5] (fun z i wr => ∃ (j : Nat), j ≤ ss.length ∧ i = .int .i64 j ∧ z = .int .i64 (k + (cntF cntEvs ss j : Nat)) ∧ Hid (Chg (fun b => ∃ i, i < j ∧ q i = some b) w wr) ∧ Hid (∀ i (h : i < ss.length), i < j → ∀ A d, cs[i]? = some (.slice A ss[i].length d) → MEvs wr (fun b => q i = some b) (.slice A ss[i].length d) ss[i] (k + (cntF cntEvs ss i : Nat)))) (fun _ i _ => ss.length - (intOf i).toNat)
  case atStart => exact ⟨0, by omega, rfl, by simp [cntF], Chg.refl _ _, Lib.hid (fun i _ h => by omega)⟩
  case round =>
    obtain ⟨j, hj, rfl, rfl, hg, hm⟩ := hrel
    by_cases hlt : j < ss.length
    · obtain ⟨g, c', A2, d, hv, hgb, t0, c0, hE⟩ := H.out.at_ hlt
      injection hv with e1 e2 e3
      subst e1; subst e3
      have HNG := Lib.hid (show ¬ ∃ i, i < j ∧ q i = some g from fun ⟨i, h1, h2⟩ => H.out.qv i g (by omega) h2 rfl)
      obtain ⟨t0c, t0f⟩ := CellF.chg t0 hg.out HNG.out
      have HE := Lib.hid (hE.keep hg.out (fun b _ h1 ⟨i, h2, h3⟩ => by have := H.out.qq i j b (by omega) hlt h3 h1; omega))
      have HC := Lib.hid (cntF_succ (f := cntEvs) hlt)
      have hle := cntF_le (f := cntEvs) (xs := ss) (show j + 1 ≤ ss.length by omega)
      rw [HC.out] at hle
      have HB := Lib.hid (show k + (cntF cntEvs ss j : Nat) + ((cntEvs ss[j] : Nat) : Int) ≤ 4611686018427387904 by omega)
      have HK := Lib.hid (show 0 ≤ k + (cntF cntEvs ss j : Nat) by omega)
      have HC0 := Lib.hid c0
      clear hE hle e2 c0 t0
      go_wp2_with fail
      refine (markEvs _ (fun b => q j = some b) _ ss[j] _ HK.out HB.out HE.out).mono ?_
      rintro e w1 ⟨rfl, g1, k1⟩
      have HM := Lib.hid (show ∀ i (h : i < ss.length), i < j + 1 → ∀ A d, cs[i]? = some (.slice A ss[i].length d) → MEvs w1 (fun b => q i = some b) (.slice A ss[i].length d) ss[i] (k + (cntF cntEvs ss i : Nat)) from fun i h1 h2 A3 d3 h3 => by
        by_cases e : i = j
        · subst e
          have h4 := HC0.out.symm.trans h3
          injection h4 with h4
          rw [← h4]
          exact k1
        · exact (hm.out i h1 (by omega) A3 d3 h3).keepR g1 (fun b _ h4 h5 => e (H.out.qq i j b h1 hlt h4 h5)))
      have HG := Lib.hid (show Chg (fun b => ∃ i, i < j + 1 ∧ q i = some b) w w1 from Chg.trans (hg.out.mono (fun b _ ⟨i, h1, h2⟩ => ⟨i, by omega, h2⟩)) (g1.mono (fun b _ h => ⟨j, by omega, h⟩)))
      clear g1 k1 t0c t0f
      go_wp2
      go_roundw
      case rel => exact ⟨j + 1, by omega, by go_num, by rw [HC.out]; simp only [Value.int.injEq, true_and]; omega, HG.out, HM⟩
      case measure => first | (simp [intOf]; done) | (simp [intOf]; omega)
    · obtain rfl : j = ss.length := by omega
      go_wp2
      go_ret
      refine ⟨rfl, hg.out, base, cs, ownsRow_kept H.out.own hg.out (fun b hb ⟨i, h1, h2⟩ => H.out.qv i b h1 h2 hb), fun b hb => HS.out b (.inl hb), fun i hi => ?_⟩
      obtain ⟨g, c', A2, d, hv, hgb, t0, c0, hE⟩ := H.out.at_ hi
      exact ⟨A2, d, c0, Raw.mono (hm.out i hi hi A2 d c0) (fun b _ h => HS.out b (.inr ⟨i, hi, h⟩))⟩
theorem heldERow_any (w : World) (S : Nat → Prop) (v : Value) (ss : List (List EvM)) (k : Int) (hk : 0 ≤ k) (hb : k + (fES ss : Nat) ≤ 4611686018427387904) (h : MES w S v ss k) :
    Calls Try.prog 53 #[v, .int .i64 k] w fun e w' => e = .returned (.int .i64 (k + (fES ss : Nat))) ∧ Up w w' := by
  obtain ⟨A, c, rfl, hlc, hcm, -⟩ := h.shape
  have H := Lib.hid h
  unfold fES at hb ⊢
  clear h
  go_enter Try.func53, Try.ntmps53
  go_wp2
  go_loopw [1, 5] (fun q i wr => ∃ (j : Nat), j ≤ ss.length ∧ i = .int .i64 j ∧ q = .int .i64 (k + (cntF cntEvs ss j : Nat)) ∧ Hid (Up w wr)) (fun _ i _ => ss.length - (intOf i).toNat)
  case atStart => exact ⟨0, by omega, rfl, by simp [cntF], Chg.refl _ _⟩
  case round =>
    obtain ⟨j, hj, rfl, rfl, hg⟩ := hrel
    by_cases hlt : j < ss.length
    · obtain ⟨g, c', A2, d, hv, ⟨t0c, t0f⟩, hE⟩ := (H.out.keep hg.out (fun _ _ _ h => h)).at_ hlt
      injection hv with e1 e2 e3
      subst e1; subst e3
      have HE := Lib.hid hE
      have HC := Lib.hid (cntF_succ (f := cntEvs) hlt)
      have hle := cntF_le (f := cntEvs) (xs := ss) (show j + 1 ≤ ss.length by omega)
      rw [HC.out] at hle
      have HB := Lib.hid (show k + (cntF cntEvs ss j : Nat) + ((cntEvs ss[j] : Nat) : Int) ≤ 4611686018427387904 by omega)
      have HK := Lib.hid (show 0 ≤ k + (cntF cntEvs ss j : Nat) by omega)
      have hneg : decide (k + (cntF cntEvs ss j : Nat) + ((cntEvs ss[j] : Nat) : Int) < 0) = false := decide_eq_false (by have := HK.out; omega)
      clear hE hle e2
      go_wp2_with fail
      refine (heldEvs _ S _ ss[j] _ HK.out HB.out HE.out).mono ?_
      rintro e w1 ⟨rfl, g1⟩
      have HG := Lib.hid (Chg.trans hg.out g1)
      clear g1 t0c t0f
      go_wp2
      go_roundw
      case rel => exact ⟨j + 1, by omega, by go_num, by rw [HC.out]; simp only [Value.int.injEq, true_and]; omega, HG.out⟩
      case measure => first | (simp [intOf]; done) | (simp [intOf]; omega)
    · obtain rfl : j = ss.length := by omega
      go_wp2
      go_ret
      exact ⟨rfl, hg.out⟩
/-- a proof as a result: read, and (where b is true) with its parts in blocks apart -/
def ProofR {b : Bool} (w : World) (S : Nat → Prop) (v : Value) (p : ProofM) : Prop := ProofV w S S S v p ∧ (b = true → ∃ v1 v2 base c1 lo hi c2 q, v = .agg #[v1, v2] ∧ NRow w base v1 p.forms c1 lo hi ∧ ERow w base v2 p.sts c2 q ∧ (∀ x, NK v1 p.forms.length lo hi x → ¬ EK v2 p.sts.length q x) ∧ ∀ x, NK v1 p.forms.length lo hi x ∨ EK v2 p.sts.length q x → S x)
theorem ProofR.keep {b : Bool} {S T : Nat → Prop} {w w' : World} {v : Value} {p : ProofM} (h : ProofR (b := b) w S v p) (g : Chg T w w') (hd : ∀ x, x < w.heap.size → S x → ¬ T x) : ProofR (b := b) w' S v p := by
  refine ⟨ProofV.mono (ProofV.keep (ProofV.mono (M' := fun x => S x ∧ x < w.heap.size) (H' := fun x => S x ∧ x < w.heap.size) (L' := fun x => S x ∧ x < w.heap.size) h.1 (fun x hb h => ⟨h, hb⟩) (fun x hb h => ⟨h, hb⟩) (fun x hb h => ⟨h, hb⟩)) g (fun x hx => hx.elim (fun h => hd x h.2 h.1) fun hx => hx.elim (fun h => hd x h.2 h.1) (fun h => hd x h.2 h.1))) (fun _ _ h => h.1) (fun _ _ h => h.1) (fun _ _ h => h.1), fun hb => ?_⟩
  obtain ⟨v1, v2, base, c1, lo, hi, c2, q, hv, hn, he, hd1, hs⟩ := h.2 hb
  exact ⟨v1, v2, base, c1, lo, hi, c2, q, hv, hn.keep g (fun x hx h => hd x hx (hs x (.inl h))), he.keep g (fun x hx h => hd x hx (hs x (.inr h))), hd1, hs⟩
theorem ProofR.up {b : Bool} {S : Nat → Prop} {w w' : World} {v : Value} {p : ProofM} (h : ProofR (b := b) w S v p) (g : Up w w') : ProofR (b := b) w' S v p := h.keep g fun _ _ _ h => h
theorem openProofR {b : Bool} {w : World} {S : Nat → Prop} {v : Value} {p : ProofM} (h : ProofR (b := b) w S v p) : ∃ A c Z z, v = .agg #[.slice A p.forms.length c, .slice Z p.sts.length z] ∧ ProofR (b := b) w S v p :=
  let ⟨A, c, Z, z, he, _⟩ := h.1; ⟨A, c, Z, z, he, h⟩
theorem eqProofR_same {b b' : Bool} (w : World) (S S' : Nat → Prop) (v u : Value) (p : ProofM) (h : ProofR (b := b) w S v p) (h2 : ProofR (b := b') w S' u p) :
    Calls Try.prog 19 #[v, u] w fun e w' => e = .returned (.bool true) ∧ Up w w' := eqProof_same w _ _ _ _ _ _ v u p h.1 h2.1
def cntProof (p : ProofM) : Nat := fNS p.forms + fES p.sts
/-- a proof that bears marks from k on -/
def MProofR (w : World) (S : Nat → Prop) (v : Value) (p : ProofM) (k : Int) : Prop := ∃ v1 v2 base c1 lo hi, v = .agg #[v1, v2] ∧ NRow w base v1 (mkNS k p.forms p.forms.length) c1 lo hi ∧ (∀ x, NK v1 p.forms.length lo hi x → S x) ∧ MES w S v2 p.sts (k + (fNS p.forms : Nat))
theorem MProofR.keep {S T : Nat → Prop} {w w' : World} {v : Value} {p : ProofM} {k : Int} (h : MProofR w S v p k) (g : Chg T w w') (hd : ∀ x, x < w.heap.size → S x → ¬ T x) : MProofR w' S v p k := by
  obtain ⟨v1, v2, base, c1, lo, hi, hv, hn, hs, he⟩ := h
  exact ⟨v1, v2, base, c1, lo, hi, hv, hn.keep g (fun x hx h => hd x hx (hs x (by rwa [mkNS_len] at h))), hs, he.keep g hd⟩
theorem MProofR.up {S : Nat → Prop} {w w' : World} {v : Value} {p : ProofM} {k : Int} (h : MProofR w S v p k) (g : Up w w') : MProofR w' S v p k := h.keep g fun _ _ _ h => h
theorem markProof_res (w : World) (S : Nat → Prop) (v : Value) (p : ProofM) (k : Int) (hk : 0 ≤ k) (hb : k + (cntProof p : Nat) ≤ 4611686018427387904) (h : ProofR (b := true) w S v p) :
    Calls Try.prog 22 #[v, .int .i64 k] w fun e w' => e = .returned (.int .i64 (k + (cntProof p : Nat))) ∧ Chg S w w' ∧ MProofR w' S v p k := by
  obtain ⟨v1, v2, base, c1, lo, hi, c2, q, rfl, hn, he, hd, hs⟩ := h.2 rfl
  obtain ⟨A1, d1, rfl, -⟩ := hn.val
  obtain ⟨A2, d2, rfl, -⟩ := he.val
  have UB := Lib.hid (show Up w (w.alloc (.cells #[.slice A1 p.forms.length d1, .slice A2 p.sts.length d2] 57)) from (Chg.refl Nowhere w).alloc _)
  have q0 := (show (w.alloc (.cells #[.slice A1 p.forms.length d1, .slice A2 p.sts.length d2] 57)).cell? ⟨w.heap.size, 0, none⟩ = some (.slice A1 p.forms.length d1) from cell_new _ _ _ _)
  have Q1 := Lib.hid (show CellF (w.alloc (.cells #[.slice A1 p.forms.length d1, .slice A2 p.sts.length d2] 57)) ⟨w.heap.size, 1, none⟩ (.slice A2 p.sts.length d2) from cellF_at rfl rfl)
  have HN := Lib.hid hn
  have HE := Lib.hid he
  have HD := Lib.hid hd
  have HS := Lib.hid hs
  have hcp : cntProof p = fNS p.forms + fES p.sts := rfl
  have HCP := Lib.hid hcp
  have HB0 := Lib.hid (show k + ((fNS p.forms : Nat) : Int) ≤ 4611686018427387904 by omega)
  have HB1 := Lib.hid (show k + ((fNS p.forms : Nat) : Int) + ((fES p.sts : Nat) : Int) ≤ 4611686018427387904 by omega)
  have HK1 := Lib.hid (show 0 ≤ k + ((fNS p.forms : Nat) : Int) by omega)
  have HNB := Lib.hid (show ∀ x, NK (.slice A1 p.forms.length d1) p.forms.length lo hi x → x < w.heap.size from fun x h => (hn.lt h).2)
  have HEB := Lib.hid (show ∀ x, EK (.slice A2 p.sts.length d2) p.sts.length q x → x < w.heap.size from fun x h => (he.lt h).2)
  clear hn he hd hs hcp h
  go_enter Try.func22, Try.ntmps22
  go_wp2_with fail
  refine (markNRow_any _ base _ p.forms c1 lo hi k hk HB0.out (HN.out.up UB.out)).mono ?_
  rintro e w1 ⟨rfl, g1, cs1, k1⟩
  have G1 := Lib.hid (Chg.trans (Chg.of_up UB.out) g1)
  obtain ⟨p1, f1⟩ := CellF.chg Q1.out g1 (fun h => Nat.lt_irrefl _ (HNB.out w.heap.size h))
  have K1 := Lib.hid k1
  have HE1 := Lib.hid (HE.out.keep G1.out (fun x _ h1 h2 => HD.out x h2 h1))
  clear g1 k1 q0
  go_wp2_with fail
  refine (markERow_any _ base S _ p.sts c2 q _ HK1.out HB1.out HE1.out (fun x h => HS.out x (.inr h))).mono ?_
  rintro e w2 ⟨rfl, g2, k2⟩
  have G2 := Lib.hid (Chg.trans (G1.out.mono (T := S) (fun x _ h => HS.out x (.inl h))) (g2.mono (fun x _ h => HS.out x (.inr (.inr h)))))
  have K2 := Lib.hid (K1.out.keep g2 (fun x _ h1 h2 => HD.out x (by rwa [mkNS_len] at h1) (.inr h2)))
  have K3 := Lib.hid k2
  clear g2 k2 p1 f1
  go_wp2
  go_ret
  exact ⟨ret_int (by rw [HCP.out]; omega), G2.out, _, _, base, _, lo, hi, rfl, K2.out, fun x h => HS.out x (.inl h), K3.out⟩
theorem heldProof_any (w : World) (S : Nat → Prop) (v : Value) (p : ProofM) (k : Int) (hk : 0 ≤ k) (hb : k + (cntProof p : Nat) ≤ 4611686018427387904) (h : MProofR w S v p k) :
    Calls Try.prog 23 #[v, .int .i64 k] w fun e w' => e = .returned (.int .i64 (k + (cntProof p : Nat))) ∧ Up w w' := by
  obtain ⟨v1, v2, base, c1, lo, hi, rfl, hn, -, he⟩ := h
  obtain ⟨A1, d1, rfl, -⟩ := hn.val
  obtain ⟨A2, d2, rfl, -⟩ := he.shape
  rw [mkNS_len] at *
  have UB := Lib.hid (show Up w (w.alloc (.cells #[.slice A1 p.forms.length d1, .slice A2 p.sts.length d2] 57)) from (Chg.refl Nowhere w).alloc _)
  have q0 := (show (w.alloc (.cells #[.slice A1 p.forms.length d1, .slice A2 p.sts.length d2] 57)).cell? ⟨w.heap.size, 0, none⟩ = some (.slice A1 p.forms.length d1) from cell_new _ _ _ _)
  have Q1 := Lib.hid (show CellF (w.alloc (.cells #[.slice A1 p.forms.length d1, .slice A2 p.sts.length d2] 57)) ⟨w.heap.size, 1, none⟩ (.slice A2 p.sts.length d2) from cellF_at rfl rfl)
  have HN := Lib.hid (hn.up UB.out)
  have HE := Lib.hid he
  have hcp : cntProof p = fNS p.forms + fES p.sts := rfl
  have HCP := Lib.hid hcp
  have HB0 := Lib.hid (show k + ((fNS p.forms : Nat) : Int) ≤ 4611686018427387904 by omega)
  have HB1 := Lib.hid (show k + ((fNS p.forms : Nat) : Int) + ((fES p.sts : Nat) : Int) ≤ 4611686018427387904 by omega)
  have HK1 := Lib.hid (show 0 ≤ k + ((fNS p.forms : Nat) : Int) by omega)
  have hneg : decide (k + ((fNS p.forms : Nat) : Int) < 0) = false := decide_eq_false (by omega)
  have hneg2 : decide (k + ((fNS p.forms : Nat) : Int) + ((fES p.sts : Nat) : Int) < 0) = false := decide_eq_false (by omega)
  clear hn he hcp
  go_enter Try.func23, Try.ntmps23
  go_wp2_with fail
  refine (heldNRow_any _ base _ p.forms c1 lo hi k hk HB0.out HN.out).mono ?_
  rintro e w1 ⟨rfl, g1⟩
  have G1 := Lib.hid (Chg.trans UB.out g1)
  obtain ⟨p1, f1⟩ := CellF.up g1 Q1.out
  clear g1 q0
  go_wp2_with fail
  refine (heldERow_any _ S _ p.sts _ HK1.out HB1.out (HE.out.keep G1.out (fun _ _ _ h => h))).mono ?_
  rintro e w2 ⟨rfl, g2⟩
  have G2 := Lib.hid (Chg.trans G1.out g2)
  clear g2 p1 f1
  go_wp2
  go_ret
  exact ⟨ret_int (by rw [HCP.out]; omega), G2.out⟩
/-- a proof just made, as a result -/
theorem MadeP.res {w : World} {base : Nat} {v1 v2 : Value} {bs : List BlkM} (h : MadeP w base v1 v2 bs) : ProofR (b := true) w (New base w.heap.size) (.agg #[v1, v2]) ⟨formsM bs, stsM bs⟩ := by
  obtain ⟨c1, lo, hi, c2, q, hn, he, hd⟩ := h
  have hs : ∀ x, NK v1 (formsM bs).length lo hi x ∨ EK v2 (stsM bs).length q x → New base w.heap.size x := fun x h => h.elim (fun h => hn.lt h) (fun h => he.lt h)
  obtain ⟨A1, d1, rfl, l1, m1, -⟩ := hn.val
  obtain ⟨A2, d2, rfl, l2, m2, -⟩ := he.val
  refine ⟨⟨A1, d1, A2, d2, rfl, ⟨c1, Raw.of_own hn.own, fun i hi' => ?_⟩, ⟨c2, Raw.of_own he.own, fun i hi' => ?_⟩, ⟨l1, m1⟩, ⟨l2, m2⟩⟩, fun _ => ⟨_, _, base, c1, lo, hi, c2, q, rfl, hn, he, hd, hs⟩⟩
  · obtain ⟨A, k, e0, e1, e2, f, n1, n2⟩ := hn.row i hi'
    have hcl : c1.length = (formsM bs).length * 3 := hn.own.1
    have e : (c1.drop (i * 3)).take 3 = [.int .i64 (formsM bs)[i].n, .int .i64 (formsM bs)[i].p, .slice A (formsM bs)[i].fs.length k] := by
      refine List.ext_getElem? fun t => ?_
      match t with
      | 0 => rw [List.getElem?_take_of_lt (by omega), List.getElem?_drop, Nat.add_zero, e0]; rfl
      | 1 => rw [List.getElem?_take_of_lt (by omega), List.getElem?_drop, e1]; rfl
      | 2 => rw [List.getElem?_take_of_lt (by omega), List.getElem?_drop, e2]; rfl
      | t + 3 => rw [List.getElem?_take_eq_none (by omega), List.getElem?_eq_none (by simp)]
    rw [e]
    obtain ⟨A', c', hv, hl1, hl2, -⟩ := f.shape
    injection hv with _ _ hv
    subst hv
    have hiv := hn.iv i hi'
    exact ⟨A, k, rfl, IntSSV.mono (f.rd Nowhere) (fun _ _ h => h.elim) (fun x _ h => ⟨by omega, by omega⟩) (fun x _ h => ⟨by omega, by omega⟩), ⟨hl1, hl2⟩, n1, n2⟩
  · obtain ⟨vs, e0, o1, hq⟩ := he.row i hi'
    obtain ⟨A, k, rfl, hl1, hl2, -⟩ := o1.val
    have hcl : c2.length = (stsM bs).length * 1 := he.own.1
    have hg := List.getElem?_eq_some_iff.1 e0
    have hi2 : i < (stsM bs).length := hi'
    rw [chunk1 (by omega), hg.2]
    exact ⟨A, k, rfl, o1.rd, hl1, hl2⟩
theorem MadeP.nil (w : World) (base : Nat) : ProofR (b := true) w (New base w.heap.size) (.agg #[.slice none 0 0, .slice none 0 0]) ⟨[], []⟩ :=
  MadeP.res (bs := []) ⟨[], fun _ => 0, fun _ => 0, [], fun _ => none, NRow.nil w base, ERow.nil w base, fun x h => h.elim (fun h => by cases h) (fun ⟨i, h, _⟩ => by simp [formsM] at h)⟩
end Go.Proofs.Ytplabnjdhkmmkaa
end
section
set_option linter.unusedSimpArgs false
set_option linter.unusedVariables false
namespace Go.Proofs.Ytplabnjdhkmmkaa
open Go.ChangeShapes Go.WideShapes Go.ChangeAt Go.RowKit
theorem cntF_bd {α : Type} {f : α → Nat} {xs : List α} {M : Nat} (h : ∀ x ∈ xs, f x ≤ M) (j : Nat) : cntF f xs j ≤ xs.length * M := by
  unfold cntF
  have key : ∀ ys : List α, (∀ y ∈ ys, f y ≤ M) → (ys.map f).sum ≤ ys.length * M := by
    intro ys
    induction ys with
    | nil => intro _; simp
    | cons y ys ih =>
      intro h
      simp only [List.map_cons, List.sum_cons, List.length_cons]
      have h1 := h y (by simp)
      have h2 := ih (fun z hz => h z (by simp [hz]))
      rw [Nat.add_mul, Nat.one_mul]
      omega
  have h1 := key (xs.take j) (fun y hy => h y (List.mem_of_mem_take hy))
  have h2 : (xs.take j).length ≤ xs.length := by rw [List.length_take]; omega
  exact Nat.le_trans h1 (Nat.mul_le_mul_right M h2)
theorem Stp.len2 {A B : List (List Int)} (h : Stp A B) : B.length = A.length := by
  induction h with
  | here => simp
  | there _ ih => simp [ih]
theorem Stps.len2 {A B : List (List Int)} (h : Stps A B) : B.length = A.length := by
  induction h with
  | refl => rfl
  | step h _ ih => rw [ih]; exact Stp.len2 h
theorem normM_fs {n : Nat} {word : List Int} (hl : LettN n word) : (normM n word).fs.length ≤ word.length ∧ ∀ p ∈ (normM n word).fs, p.length = n := by
  show (nfF n (rawM n word).2).length ≤ word.length ∧ ∀ p ∈ nfF n (rawM n word).2, p.length = n
  unfold nfF pureF settleM
  split
  · rename_i h
    have hc := Classical.choose_spec h
    have h1 := hc.1.allP (rawM_all hl)
    have h2 := hc.1.len2
    rw [rawM_len] at h2
    exact ⟨Nat.le_trans (List.length_filter_le _ _) (Nat.le_of_eq h2), fun p hp => (h1 p (List.mem_filter.1 hp).1).len⟩
  · simp
theorem flushM_st2 {n : Int} {word : List Int} {bs : List BlkM} {N : Nat} (h : ∀ b ∈ bs, b.st.length ≤ N) : ∀ b ∈ flushM n word bs, b.st.length ≤ N := by
  unfold flushM
  split
  · exact h
  · intro b hb
    rcases List.mem_append.1 hb with hb | hb
    · exact h b hb
    · rw [List.mem_singleton.1 hb]; simp
theorem addLast_st2 {bs : List BlkM} {e : EvM} {N : Nat} (h : ∀ b ∈ bs, b.st.length ≤ N) : ∀ b ∈ addLast bs e, b.st.length ≤ N + 1 := by
  intro b hb
  unfold addLast at hb
  split at hb
  · rcases List.mem_or_eq_of_mem_set hb with h1 | h1
    · have := h b h1; omega
    · subst h1
      have h2 := h _ (List.getElem_mem (show bs.length - 1 < bs.length by omega))
      simp only [List.length_append, List.length_cons, List.length_nil]
      omega
  · have := h b hb; omega
theorem blkM_st2 : ∀ (es : List EvM) (n : Int) (word : List Int) (bs r : List BlkM) (N : Nat), (∀ b ∈ bs, b.st.length ≤ N) → blkM es n word bs = some r → ∀ b ∈ r, b.st.length ≤ N + es.length
  | [], n, word, bs, r, N, hb, h => by
    unfold blkM at h
    split at h
    · cases h
    · injection h with h
      subst h
      exact flushM_st2 hb
  | e :: es, n, word, bs, r, N, hb, h => by
    unfold blkM at h
    split at h
    · intro b hb2
      have := blkM_st2 es n _ bs r N hb h b hb2
      simp only [List.length_cons]; omega
    · split at h
      · cases h
      · intro b hb2
        have := blkM_st2 es _ [] _ r (N + 1) (addLast_st2 (flushM_st2 hb)) h b hb2
        simp only [List.length_cons]; omega
theorem blkR_st {xs : List EvM} {r : List BlkM} (h : blkR xs 0 [] [⟨0, [], []⟩] = some r) : ∀ b ∈ r, b.st.length ≤ xs.length := by
  unfold blkR at h
  cases hb : blkM xs 0 [] [⟨0, [], []⟩] with
  | none => rw [hb] at h; cases h
  | some r' =>
    rw [hb] at h
    have h : (if 60 < r'.length then none else some r') = some r := h
    split at h
    · cases h
    · injection h with h
      subst h
      have := blkM_st2 xs 0 [] _ r' 0 (fun b hb => by rw [List.mem_singleton.1 hb]; simp) hb
      simpa using this
/-- the proof of events, and the code -/
noncomputable def prfM (xs : List EvM) : ProofM := if okE xs = true then (match blkR xs 0 [] [⟨0, [], []⟩] with | none => ⟨[], []⟩ | some bs => ⟨formsM bs, stsM bs⟩) else ⟨[], []⟩
noncomputable def prfK (xs : List EvM) : Int := if okE xs = true then (match blkR xs 0 [] [⟨0, [], []⟩] with | none => 5 | some _ => 0) else 1
theorem prfM_cnt (xs : List EvM) : cntProof (prfM xs) ≤ 9000000 := by
  unfold prfM
  split
  · rename_i hok
    have hl := okE_len hok
    split
    · simp [cntProof, fNS, fES, cntF]
    · rename_i bs hb
      obtain ⟨m, hm⟩ : ∃ m, stM xs 0 = some m := by
        unfold okE at hok
        cases e : stM xs 0 with
        | none => rw [e] at hok; cases hok
        | some m => exact ⟨m, rfl⟩
      have h1 := blkR_ok hm hb
      have h2 := blkR_st hb
      have h3 : fNS (formsM bs) ≤ (formsM bs).length * 482 := by
        unfold fNS
        refine cntF_bd (fun x hx => ?_) _
        unfold formsM at hx
        obtain ⟨b, hb2, rfl⟩ := List.mem_map.1 hx
        obtain ⟨⟨k1, k2⟩, k3, k4⟩ := h1.1 b hb2
        obtain ⟨k5, k6⟩ := normM_fs k3
        unfold fN fSS
        have k7 : cntF List.length (normM b.n.toNat b.word).fs (normM b.n.toNat b.word).fs.length ≤ (normM b.n.toNat b.word).fs.length * 12 := cntF_bd (fun p hp => by rw [k6 p hp]; omega) _
        omega
      have h4 : fES (stsM bs) ≤ (stsM bs).length * 12000 := by
        unfold fES
        refine cntF_bd (fun x hx => ?_) _
        unfold stsM at hx
        obtain ⟨b, hb2, rfl⟩ := List.mem_map.1 hx
        have := h2 b hb2
        unfold cntEvs
        omega
      rw [formsM_len] at h3
      rw [stsM_len] at h4
      have h5 := h1.2
      show fNS (formsM bs) + fES (stsM bs) ≤ 9000000
      omega
  · simp [cntProof, fNS, fES, cntF]
end Go.Proofs.Ytplabnjdhkmmkaa
end
section
set_option maxRecDepth 100000
set_option linter.unusedSimpArgs false
set_option linter.unusedVariables false
namespace Go.Proofs.Ytplabnjdhkmmkaa
open Go.ChangeShapes Go.WideShapes Go.ChangeAt Go.RowKit
/-- lists of lists that lie in a stretch of blocks -/
def ISt (w : World) (lo hi : Nat) (v : Value) (F : List (List Int)) : Prop := IntSSV w Nowhere (fun b => lo ≤ b ∧ b < hi) (fun b => lo ≤ b ∧ b < hi) v F
theorem ISt.keep {S : Nat → Prop} {w w' : World} {lo hi : Nat} {v : Value} {F : List (List Int)} (h : ISt w lo hi v F) (g : Chg S w w') (hS : ∀ b, lo ≤ b → b < hi → ¬ S b) : ISt w' lo hi v F :=
  IntSSV.keep h g (fun b hb => hb.elim (fun h => h.elim) (fun hb => hb.elim (fun hb => hS b hb.1 hb.2) (fun hb => hS b hb.1 hb.2)))
theorem ISt.up {w w' : World} {lo hi : Nat} {v : Value} {F : List (List Int)} (h : ISt w lo hi v F) (g : Up w w') : ISt w' lo hi v F := h.keep g fun _ _ _ h => h
theorem LRow.ist {w : World} {base : Nat} {v : Value} {F : List (List Int)} (h : LRow w base v F) : ISt w base w.heap.size v F := h.rd Nowhere
structure SRow (w : World) (base : Nat) (v : Value) (fs : List NormM) (cs : List Value) (lo hi : Nat → Nat) : Prop where
  own : w.ownsRow base 100 3 v fs.length cs
  row : ∀ i (h : i < fs.length), ∃ A k, cs[i * 3]? = some (.int .i64 fs[i].n) ∧ cs[i * 3 + 1]? = some (.int .i64 fs[i].p) ∧ cs[i * 3 + 2]? = some (.slice A fs[i].fs.length k) ∧ ISt w (lo i) (hi i) (.slice A fs[i].fs.length k) fs[i].fs ∧ I64 fs[i].n ∧ I64 fs[i].p
  iv : ∀ i, i < fs.length → base ≤ lo i ∧ hi i ≤ w.heap.size ∧ ∀ b, v.ownBlock = some b → ¬ (lo i ≤ b ∧ b < hi i)
  dj : ∀ i j, i < j → j < fs.length → hi i ≤ lo j
section
variable {S : Nat → Prop} {w w' : World} {base : Nat} {v : Value} {fs : List NormM} {cs : List Value} {lo hi : Nat → Nat}
theorem SRow.nil (w : World) (base : Nat) : SRow w base (.slice none 0 0) [] [] (fun _ => 0) (fun _ => 0) :=
  ⟨World.ownsRow_nil _ _ _ _, fun i h => by simp at h, fun i h => by simp at h, fun i j _ h => by simp at h⟩
theorem SRow.keep (h : SRow w base v fs cs lo hi) (g : Chg S w w') (hS : ∀ b, b < w.heap.size → NK v fs.length lo hi b → ¬ S b) : SRow w' base v fs cs lo hi := by
  refine ⟨ownsRow_kept h.own g (fun b hb => hS b (h.own.lt b hb).2 (.inl hb)), fun i hi' => ?_, fun i hi' => ⟨(h.iv i hi').1, Nat.le_trans (h.iv i hi').2.1 g.size, (h.iv i hi').2.2⟩, h.dj⟩
  obtain ⟨A, k, c0, c1, c2, f, n1, n2⟩ := h.row i hi'
  exact ⟨A, k, c0, c1, c2, f.keep g (fun b h1 h2 => hS b (Nat.lt_of_lt_of_le h2 (h.iv i hi').2.1) (.inr ⟨i, hi', h1, h2⟩)), n1, n2⟩
theorem SRow.up (h : SRow w base v fs cs lo hi) (g : Up w w') : SRow w' base v fs cs lo hi := h.keep g (fun _ _ _ h => h)
theorem SRow.lt (h : SRow w base v fs cs lo hi) {b : Nat} (hb : NK v fs.length lo hi b) : base ≤ b ∧ b < w.heap.size := by
  rcases hb with hb | ⟨i, hi', h1, h2⟩
  · exact h.own.lt b hb
  · have := h.iv i hi'
    omega
theorem SRow.val (h : SRow w base v fs cs lo hi) : ∃ A c, v = .slice A fs.length c ∧ fs.length ≤ c ∧ c ≤ 9223372036854775807 ∧ (A = none → c = 0) := by
  obtain ⟨-, A, c, h3, h4, h5, -, h6⟩ := Raw.of_own h.own
  exact ⟨A, c, h3, h4, h5, h6⟩
end
/-- one normal form more is appended, at a step of a region that draws its order; the form lies in the stretch [l0, h0) that was made last -/
theorem step_append_snorm {w : World} {ops : Array Oper} {o : Oper} {a : Act} {K : Act → World → Prop} {E : Prop} {Q : Exit → Act → World → Prop} (hgd : o.guard = none) (s x : Operand)
    (ho : o.op = .call { callee := .builtin .append, args := #[s, x], argTypes := #[54, 54] })
    (base : Nat) (v : Value) (fs : List NormM) (cs : List Value) (lo hi : Nat → Nat) (hs : a.eval s = v) (h : SRow w base v fs cs lo hi)
    (g : Nat) (y : NormM) (A : Option Addr) (c : Nat) (hx : a.eval x = .slice (some ⟨g, 0, none⟩) 1 1) (hc0 : w.cell? ⟨g, 0, none⟩ = some (.int .i64 y.n)) (hc1 : w.cell? ⟨g, 1, none⟩ = some (.int .i64 y.p)) (hc2 : w.cell? ⟨g, 2, none⟩ = some (.slice A y.fs.length c))
    (l0 h0 : Nat) (hf : ISt w l0 h0 (.slice A y.fs.length c) y.fs) (hy : I64 y.n ∧ I64 y.p) (hb : base ≤ l0 ∧ h0 ≤ w.heap.size) (hlast : ∀ i, i < fs.length → hi i ≤ l0) (hown : ∀ b, v.ownBlock = some b → ¬ (l0 ≤ b ∧ b < h0)) (hlen : fs.length ≤ 1000000) (hbase : base ≤ w.heap.size)
    (hh : ∀ v' w' cs', SRow w' base v' (fs ++ [y]) cs' (fun i => if i < fs.length then lo i else l0) (fun i => if i < fs.length then hi i else h0) → Chg (fun b => v.ownBlock = some b) w w' → (∀ b, v'.ownBlock = some b → v.ownBlock = some b ∨ w.heap.size ≤ b) → K (a.put o.dst v') w') :
    if Region.wanted o (yielded ops a.tmps) = true then Oper.wp Try.prog o a w K Q else E := by
  have hw : Region.wanted o (yielded ops a.tmps) = true := by simp [Region.wanted, hgd]
  rw [if_pos hw]
  obtain ⟨i0, hi0, hz0, hz1, hz2⟩ := info_parts infoNB
  have hcl : cs.length = fs.length * 3 := h.own.1
  refine wp_app_own2 (P := Try.prog) s x 54 ho base 100 i0 _ 3 40 Try.underlying54 hi0 hz0 hz1 hz2 rfl (by decide) v fs.length cs hs h.own ⟨g, 0, none⟩ 1 1 [.int .i64 y.n, .int .i64 y.p, .slice A y.fs.length c] hx rfl (fun k u hk => ?_) (fun u hu => ?_) (by unfold Go.maxLen; omega) (by omega) hbase (fun v' w' k1 k2 k3 => ?_)
  · match k with
    | 0 => simp only [List.getElem?_cons_zero, Option.some.injEq] at hk; subst hk; rw [add_zero]; exact hc0
    | 1 => simp only [List.getElem?_cons_succ, List.getElem?_cons_zero, Option.some.injEq] at hk; subst hk; exact hc1
    | 2 => simp only [List.getElem?_cons_succ, List.getElem?_cons_zero, Option.some.injEq] at hk; subst hk; exact hc2
    | k + 3 => simp at hk
  · simp at hu
    rcases hu with rfl | rfl | rfl <;> rfl
  · have hC := Chg.of_grown k2
    refine hh v' w' (cs ++ [.int .i64 y.n, .int .i64 y.p, .slice A y.fs.length c]) ⟨by simpa using k1, fun i hi' => ?_, fun i hi' => ?_, fun i j hij hj => ?_⟩ hC k3
    · by_cases he : i < fs.length
      · obtain ⟨A', k', c0, c1, c2, f, n1, n2⟩ := h.row i he
        rw [List.getElem_append_left he, if_pos he, if_pos he]
        exact ⟨A', k', by rw [List.getElem?_append_left (by omega)]; exact c0, by rw [List.getElem?_append_left (by omega)]; exact c1, by rw [List.getElem?_append_left (by omega)]; exact c2, f.keep hC (fun b h1 h2 e => (h.iv i he).2.2 b e ⟨h1, h2⟩), n1, n2⟩
      · have hi2 : i = fs.length := by simp at hi'; omega
        subst hi2
        rw [List.getElem_append_right (Nat.le_refl _), if_neg he, if_neg he]
        simp only [Nat.sub_self, List.getElem_cons_zero]
        exact ⟨A, c, by rw [List.getElem?_append_right (by omega), show fs.length * 3 - cs.length = 0 by omega]; rfl, by rw [List.getElem?_append_right (by omega), show fs.length * 3 + 1 - cs.length = 1 by omega]; rfl, by rw [List.getElem?_append_right (by omega), show fs.length * 3 + 2 - cs.length = 2 by omega]; rfl, hf.keep hC (fun b h1 h2 e => hown b e ⟨h1, h2⟩), hy⟩
    · by_cases he : i < fs.length
      · simp only [if_pos he]
        have h1 := h.iv i he
        exact ⟨h1.1, Nat.le_trans h1.2.1 hC.size, fun b hb2 e => (k3 b hb2).elim (fun h3 => h1.2.2 b h3 e) (fun h3 => by omega)⟩
      · simp only [if_neg he]
        exact ⟨hb.1, Nat.le_trans hb.2 hC.size, fun b hb2 e => (k3 b hb2).elim (fun h3 => hown b h3 e) (fun h3 => by omega)⟩
    · have hj2 : j < fs.length + 1 := by simpa using hj
      have hi2 : i < fs.length := by omega
      simp only [if_pos hi2]
      by_cases he : j < fs.length
      · rw [if_pos he]; exact h.dj i j hij he
      · rw [if_neg he]; exact hlast i hi2
end Go.Proofs.Ytplabnjdhkmmkaa
end
