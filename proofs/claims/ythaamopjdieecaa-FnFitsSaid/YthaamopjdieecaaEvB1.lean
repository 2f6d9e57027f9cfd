/- What laws do with their arguments: sizes, copies, comparisons, marks. -/
import Derived.Test.YthaamopjdieecaaEvP1
import Derived.Test.YthaamopjdieecaaEvD1
import Derived.Test.YthaamopjdieecaaEvD2
import Derived.Test.YthaamopjdieecaaEvD3
set_option linter.unusedVariables false
set_option linter.unusedSimpArgs false
set_option linter.unusedVariables false
set_option linter.unusedSimpArgs false
namespace Go.Proofs.Ev
def Tensor.tot (x : Tensor) : Nat := x.data.length + (0)
def Layer.tot (x : Layer) : Nat := x.weights.length + (x.bias.length + (0))
def Model.tot (x : Model) : Nat := totL Layer.tot x.layers + (0)
def Job.tot (x : Job) : Nat := x.model.tot + (x.act.tot + (0))
def Task.tot (x : Task) : Nat := x.costs.length + (0)
def Sched.tot (x : Sched) : Nat := totL Task.tot x.tasks + (0)
def Request.tot (x : Request) : Nat := x.job.tot + (0)
def Runtime.tot (x : Runtime) : Nat := x.sched.tot + (totL Model.tot x.models + (x.loaded.length + (totL Request.tot x.requests + (0))))
def Step.tot (x : Step) : Nat := x.data.length + (x.input.tot + (0))
def Event.tot (x : Event) : Nat := x.out.tot + (0)
def Entry.tot (x : Entry) : Nat := x.model.tot + (x.input.tot + (0))
end Go.Proofs.Ev
