/-
  Closed facts of the program and of the row of the law CountQuiet. No condition.
-/
import Derived.Test.YtgkjlklfjbljeaaGreatRows
import Derived.JoinedOf
import Derived.KernelRfl
set_option linter.all false
namespace Go.Proofs.YtgkjlklfjbljeaaGreat.countQuiet
theorem GO:Tryz.prog.funcNamed "leapfrog/leapfroglaw34.CountQuiet"=some 3:=by kernel_rfl
theorem Is:Tryz.f3.isInstance Tryz.prog Rows.countQuietRow.origin Rows.countQuietRow.targs:=of_decide_eq_true (by kernel_rfl)
theorem It:Tryz.f3.isWrapper Tryz.prog Rows.countQuietRow.wrapper Rows.countQuietRow.mainSum:=by unfold Func.isWrapper;first|(rw[if_pos (by decide+kernel)];kernel_rfl)|(rw[if_neg (by decide+kernel)];exact⟨rfl,rfl⟩)
theorem Ec:joinedFacts Tryz.checked.prog 3 Tryz.f3 Rows.countQuietSpec Rows.countQuietRow=true:=by kernel_rfl
end Go.Proofs.YtgkjlklfjbljeaaGreat.countQuiet
