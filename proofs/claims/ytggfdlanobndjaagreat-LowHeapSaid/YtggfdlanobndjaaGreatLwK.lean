/- low: how container/heap reaches the queue's methods. -/
import Derived.Test.YtggfdlanobndjaaGreatLwH
import Derived.Test.YtggfdlanobndjaaGreatLwI
import Derived.Test.YtggfdlanobndjaaGreatLwJ
namespace Go.Proofs.YtggfdlanobndjaaGreat
open Go.RowKit Go.Sort Go.Shelf Go.Lib Go.Maps
attribute [local irreducible] wpQuiet
set_option linter.unusedSimpArgs false
set_option linter.unusedVariables false

theorem rch_Len (qb : Nat) : ∀ w, Sem.run Tryz.prog (method (Tryz.prog.types.size + 100) 128 (.pointer (some ⟨qb, 0, none⟩)) "Len") w = .ok (200, .pointer (some ⟨qb, 0, none⟩)) w := fun _ => by kernel_rfl
theorem ent_qLen : ∀ args w, (callFunc 200 args).run Tryz.prog w = .ok (.enter 200 args) w := enters_of Tryz.func200 (by kernel_rfl) rfl
theorem rch_Less (qb : Nat) : ∀ w, Sem.run Tryz.prog (method (Tryz.prog.types.size + 100) 128 (.pointer (some ⟨qb, 0, none⟩)) "Less") w = .ok (201, .pointer (some ⟨qb, 0, none⟩)) w := fun _ => by kernel_rfl
theorem ent_qLess : ∀ args w, (callFunc 201 args).run Tryz.prog w = .ok (.enter 201 args) w := enters_of Tryz.func201 (by kernel_rfl) rfl
theorem rch_Swap (qb : Nat) : ∀ w, Sem.run Tryz.prog (method (Tryz.prog.types.size + 100) 128 (.pointer (some ⟨qb, 0, none⟩)) "Swap") w = .ok (204, .pointer (some ⟨qb, 0, none⟩)) w := fun _ => by kernel_rfl
theorem ent_qSwap : ∀ args w, (callFunc 204 args).run Tryz.prog w = .ok (.enter 204 args) w := enters_of Tryz.func204 (by kernel_rfl) rfl
theorem rch_Push (qb : Nat) : ∀ w, Sem.run Tryz.prog (method (Tryz.prog.types.size + 100) 128 (.pointer (some ⟨qb, 0, none⟩)) "Push") w = .ok (203, .pointer (some ⟨qb, 0, none⟩)) w := fun _ => by kernel_rfl
theorem ent_qPush : ∀ args w, (callFunc 203 args).run Tryz.prog w = .ok (.enter 203 args) w := enters_of Tryz.func203 (by kernel_rfl) rfl
theorem rch_Pop (qb : Nat) : ∀ w, Sem.run Tryz.prog (method (Tryz.prog.types.size + 100) 128 (.pointer (some ⟨qb, 0, none⟩)) "Pop") w = .ok (202, .pointer (some ⟨qb, 0, none⟩)) w := fun _ => by kernel_rfl
theorem ent_qPop : ∀ args w, (callFunc 202 args).run Tryz.prog w = .ok (.enter 202 args) w := enters_of Tryz.func202 (by kernel_rfl) rfl
end Go.Proofs.YtggfdlanobndjaaGreat
