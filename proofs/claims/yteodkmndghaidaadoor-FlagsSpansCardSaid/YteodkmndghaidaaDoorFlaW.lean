/-
  Loads and stores of whole structs and arrays, for the walk, by their run equations. Over any program.
-/
import Derived.Test.YteodkmndghaidaaDoorMem2
import Derived.Test.YteodkmndghaidaaDoorCp
import Derived.Test.YteodkmndghaidaaDoorFr
import Derived.Deep.WholeRow
namespace Go.Proofs.YteodkmndghaidaaDoor
open Go.RowKit
set_option linter.unusedVariables false

section
variable {P : Program}
theorem wp_load_run {o : Oper} {a : Act} {w : World} {K : Act → World → Prop} {Q : Exit → Act → World → Prop} (t : TypeId) (x : Operand) (ho : o.op = .load t x) (y : Value) (hx : a.eval x = y) {v : Value} {w' : World}
    (hr : (Instr.loadAt t y).run P w = .ok v w') (h : K (a.put o.dst v) w') : o.wp P a w K Q := by
  unfold Oper.wp execOp
  simp only [ho, Sem.run_bind, hx, hr, Result.andThen_ok]
  exact h
theorem wpList_load_run {ops : Array Oper} {rest : List Oper} {o : Oper} {a : Act} {w : World} {Q : Exit → Act → World → Prop} (hgd : o.guard = none) (t : TypeId) (x : Operand) (ho : o.op = .load t x) (y : Value) (hx : a.eval x = y) {v : Value} {w' : World}
    (hr : (Instr.loadAt t y).run P w = .ok v w') (h : wpList P ops Q rest (a.put o.dst v) w') : wpList P ops Q (o :: rest) a w :=
  wpList_plain hgd fun _ hK => wp_load_run t x ho y hx hr (hK _ _ h)
theorem wp_store_run {o : Oper} {a : Act} {w : World} {K : Act → World → Prop} {Q : Exit → Act → World → Prop} (t : TypeId) (x z : Operand) (ho : o.op = .store t x z) (y u : Value) (hx : a.eval x = y) (hz : a.eval z = u) {w' : World}
    (hr : (Instr.storeAt t y u).run P w = .ok () w') (h : K (a.put o.dst (.tuple #[])) w') : o.wp P a w K Q := by
  unfold Oper.wp execOp
  simp only [ho, Sem.run_bind, hx, hz, hr, Result.andThen_ok]
  exact h
theorem wpList_store_run {ops : Array Oper} {rest : List Oper} {o : Oper} {a : Act} {w : World} {Q : Exit → Act → World → Prop} (hgd : o.guard = none) (t : TypeId) (x z : Operand) (ho : o.op = .store t x z) (y u : Value) (hx : a.eval x = y) (hz : a.eval z = u) {w' : World}
    (hr : (Instr.storeAt t y u).run P w = .ok () w') (h : wpList P ops Q rest (a.put o.dst (.tuple #[])) w') : wpList P ops Q (o :: rest) a w :=
  wpList_plain hgd fun _ hK => wp_store_run t x z ho y u hx hz hr (hK _ _ h)
end
end Go.Proofs.YteodkmndghaidaaDoor
