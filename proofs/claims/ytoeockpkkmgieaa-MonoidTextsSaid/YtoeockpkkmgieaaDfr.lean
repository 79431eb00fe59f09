/- An automaton as it lies in memory: its five cells. -/
import Derived.Test.YtoeockpkkmgieaaDfa0
namespace Go.Sx
structure DfaS where
  cls : Sl
  width : Int
  start : Int
  next : Sl
  acc : Sl
def tyDfaS : Ty DfaS := ⟨5, fun x => [.slice x.cls.a x.cls.n x.cls.c, .int .i64 x.width, .int .i64 x.start, .slice x.next.a x.next.n x.next.c, .slice x.acc.a x.acc.n x.acc.c], fun _ => rfl, fun x u h => by
  simp only [List.mem_cons, List.not_mem_nil, or_false] at h; rcases h with rfl | rfl | rfl | rfl | rfl <;> rfl, by omega⟩
end Go.Sx
