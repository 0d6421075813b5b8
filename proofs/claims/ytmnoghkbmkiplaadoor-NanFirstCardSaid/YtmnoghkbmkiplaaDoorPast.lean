/-
  A REGION THAT DRAWS ITS ORDER, READS, AND CALLS FUNCTIONS THAT LEAVE WHAT STOOD (they may make memory): walked once, in the order of the text, over all worlds in which what stood stands. Conditions: those of each theorem.
-/
import Derived.Test.YtmnoghkbmkiplaaDoorWord
import Derived.Deep.QuietTactic
import Derived.BigQuiet
namespace Go.Proofs.YtmnoghkbmkiplaaDoor
open Go.RowKit
namespace Hb
theorem wp_region_past {P : Program} {id : Nat} {Q : Exit → Act → World → Prop} {a : Act} {w : World} {l : List Oper} (S : World → Prop) (hm : P.follows .mixedOrders = true) (hR : Region.lexB .any l.toArray = true)
    (hS : ∀ w', Below w.heap.size w w' → S w')
    (h : ∀ (T : Type) (_ : Nonempty T) (to : T → World), (∀ p, S (to p)) → (∀ p w'', Below (to p).heap.size (to p) w'' → ∃ q, w'' = to q) →
      wpQuiet P l.toArray (fun w' => ∃ p : T, w' = to p) (fun a' => ∀ w', Below w.heap.size w w' → Q .normal a' w') l a) : (Code.region id l.toArray true).wp P Q a w := by
  have h' := h {x : World // Below w.heap.size w x} ⟨⟨w, Below.refl _ _⟩⟩ Subtype.val (fun p => hS _ p.2) (fun p w'' hb => ⟨⟨w'', p.2.trans (hb.mono p.2.size)⟩, rfl⟩)
  refine wp_region_quiet (C := fun w' => ∃ p : {x : World // Below w.heap.size w x}, w' = p.val) hm hR ⟨⟨_, (Below.refl _ _).drew⟩, rfl⟩ ?_
  have e : (fun a' => ∀ w', (∃ p : {x : World // Below w.heap.size w x}, w' = p.val) → Q .normal a' w') = (fun a' => ∀ w', Below w.heap.size w w' → Q .normal a' w') := by
    funext a'
    exact propext ⟨fun h w' hb => h w' ⟨⟨w', hb⟩, rfl⟩, fun h w' ⟨p, hp⟩ => by rw [hp]; exact h _ p.2⟩
  rw [e]
  simpa using h'
/-- A callee's contract inside such a region. -/
theorem callsPast {P : Program} {f : FuncId} {args : Array Value} {T : Type} {to : T → World} {p : T} {v : Value} (hx : ∀ p w'', Below (to p).heap.size (to p) w'' → ∃ q, w'' = to q)
    (h : Calls P f args (to p) fun e w' => e = .returned v ∧ Gr (to p) w') : Calls P f args (to p) fun e w'' => e = .returned v ∧ ∃ q, w'' = to q :=
  h.mono fun _ _ ⟨he, hb⟩ => ⟨he, hx p _ hb⟩
end Hb
end Go.Proofs.YtmnoghkbmkiplaaDoor
