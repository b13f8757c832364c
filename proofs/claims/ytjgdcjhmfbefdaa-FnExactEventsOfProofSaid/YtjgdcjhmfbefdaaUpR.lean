/- Regions that draw their order, whose operations only read and whose callees at most make new memory: one walk serves every order. No condition. -/
import Derived.Test.YtjgdcjhmfbefdaaMem
namespace Go.Proofs.Ytjgdcjhmfbefdaa
/-- a world that grew out of another -/
structure UpOf (w : World) where
  wd : World
  up : Up w wd
instance (w : World) : Nonempty (UpOf w) := ⟨⟨w, Chg.refl _ _⟩⟩
section
variable {P : Program}
theorem wp_region_up {id : Nat} {Q : Exit → Act → World → Prop} {a : Act} {w : World} {l : List Oper} (hm : P.follows .mixedOrders = true) (hB : Region.lexB .any l.toArray = true)
    (h : wpQuiet P l.toArray (fun w' => ∃ u : UpOf w, w' = u.wd) (fun a' => ∀ w', (∃ u : UpOf w, w' = u.wd) → Q .normal a' w') l a) : (Code.region id l.toArray true).wp P Q a w :=
  wp_region_quiet (C := fun w' => ∃ u : UpOf w, w' = u.wd) hm hB ⟨⟨w.drew, (Chg.refl _ _).drew⟩, rfl⟩ (by simpa using h)
theorem calls_up {w : World} {f : FuncId} {args : Array Value} {u : UpOf w} {v : Value}
    (h : Calls P f args u.wd fun e w' => e = .returned v ∧ Up u.wd w') : Calls P f args u.wd fun e w'' => e = .returned v ∧ ∃ u' : UpOf w, w'' = u'.wd :=
  h.mono fun _ _ ⟨he, hw⟩ => ⟨he, ⟨_, Chg.trans u.up hw⟩, rfl⟩
theorem calls_up_same {w : World} {f : FuncId} {args : Array Value} {u : UpOf w} {v : Value}
    (h : Calls P f args u.wd fun e w' => e = .returned v ∧ u.wd = w') : Calls P f args u.wd fun e w'' => e = .returned v ∧ ∃ u' : UpOf w, w'' = u'.wd :=
  h.mono fun _ _ ⟨he, hw⟩ => ⟨he, u, hw.symm⟩
theorem calls_up_new {w : World} {f : FuncId} {args : Array Value} {u : UpOf w} {v : Value}
    (h : Calls P f args u.wd fun e w' => e = .returned v ∧ ∃ o, w' = u.wd.alloc o) : Calls P f args u.wd fun e w'' => e = .returned v ∧ ∃ u' : UpOf w, w'' = u'.wd :=
  h.mono fun _ _ ⟨he, o, hw⟩ => ⟨he, ⟨_, by rw [hw]; exact Chg.alloc u.up o⟩, rfl⟩
theorem up_cell {w : World} {p : Addr} {v : Value} (h : w.cell? p = some v) : ∀ u : UpOf w, u.wd.cell? p = some v := fun u => Chg.cell u.up h id
end
end Go.Proofs.Ytjgdcjhmfbefdaa
