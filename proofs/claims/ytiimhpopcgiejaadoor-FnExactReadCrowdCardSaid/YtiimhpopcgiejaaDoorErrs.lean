/-
  A variable that is laid as an error is there.
-/
import Derived.Test.YtiimhpopcgiejaaDoorNumI
import Derived.LaidLaws
import Derived.LaidMore
namespace Go.Proofs.YtiimhpopcgiejaaDoor
set_option linter.unusedVariables false
set_option linter.unusedSimpArgs false
open Go.RowKit

theorem errVar_of_head {P : Program} {W : World} {name tn : String} {d : DataW Unit} {rest : List (String × DataW Unit)} {g : Nat} {t : TypeId} {ms : Array (String × TypeId)}
    (hg : P.globalNamed name = some g) (hty : (P.globals[g]?).map (·.type) = some t) (ht : P.underlying t = some (.interface ms))
    (h : laidMet P ((name, .iface tn d) :: rest) W) : ∃ ev : Value, W.cell? ⟨g, 0, none⟩ = some ev ∧ (ev = .nilIface ∨ ∃ te pe, ev = .iface te pe) := by
  obtain ⟨ps, ⟨g', t', cs, fuel, p, q, hg', ht', hvar, hd, _, _⟩, _⟩ := h
  obtain rfl := Option.some.inj (hg.symm.trans hg')
  obtain rfl := Option.some.inj (hty.symm.trans ht')
  obtain ⟨_, u, v, hcs, _, _⟩ := iface_of_trod ht hd
  have hc := World.var?_cell hg hvar 0
  have he : cs = #[.iface u v] := by
    cases cs
    simpa using hcs
  subst he
  exact ⟨.iface u v, by simpa using hc, .inr ⟨u, v, rfl⟩⟩
end Go.Proofs.YtiimhpopcgiejaaDoor
