/- A region that draws its order and whose operations keep a class of worlds: one walk of the text's order serves every order. -/
import Derived.Test.YtapjegjffgjmlaaDoorLChg
import Derived.Deep.QuietTactic
import Derived.BigQuiet
set_option linter.unusedVariables false
set_option linter.unusedSimpArgs false
namespace Go.Proofs.YtapjegjffgjmlaaDoor
open Go

/-- A world of the class. -/
structure Hold (S : World → Prop) where
  W : World
  h : S W
theorem wp_region_hold {P : Program} (S : World → Prop) {id : Nat} {Q : Exit → Act → World → Prop} {a : Act} {w : World} {l : List Oper} (hm : P.follows .mixedOrders = true) (hB : Region.lexB .any l.toArray = true) (hS : S w.drew)
    (h : wpQuiet P l.toArray (fun w' => ∃ x : Hold S, w' = x.W) (fun a' => ∀ w', (∃ x : Hold S, w' = x.W) → Q .normal a' w') l a) : (Code.region id l.toArray true).wp P Q a w :=
  wp_region_quiet (C := fun w' => ∃ x : Hold S, w' = x.W) hm hB ⟨⟨_, hS⟩, rfl⟩ (by simpa using h)
theorem Calls.hold {P : Program} {S : World → Prop} {f : FuncId} {args : Array Value} {w : World} {v : Value} {R : World → Prop}
    (h : Calls P f args w fun e w' => e = .returned v ∧ R w') (hR : ∀ w', R w' → S w') : Calls P f args w fun e w'' => e = .returned v ∧ ∃ x : Hold S, w'' = x.W :=
  h.mono fun _ w' ⟨he, hr⟩ => ⟨he, ⟨w', hR w' hr⟩, rfl⟩
end Go.Proofs.YtapjegjffgjmlaaDoor
