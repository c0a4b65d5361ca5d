/- The walk of the stream's function that draws an input: pieces of what is held. -/
import Derived.Test.YtlnencloodlnbaaDoorStream
namespace Go.Proofs.YtlnencloodlnbaaDoor
open Go.RowKit

theorem grown_app {w w1 w2 : World} {g base : Nat} {e : TypeId} {size : Nat} {v : Value} {n : Nat} {xs : List Value} (h : w.grownBy w1 (some g)) (hown : w1.ownsRow base e size v n xs) (hg : w1.grownBy w2 v.ownBlock) (hb : w.heap.size ≤ base) : w.grownBy w2 (some g) :=
  ⟨hg.os.trans h.os, hg.tape.trans h.tape, hg.output.trans h.output, Nat.le_trans h.size hg.size, fun i hi hne => (hg.block i (Nat.lt_of_lt_of_le hi h.size) (fun e => by have := (hown.lt i e.symm).1; omega)).trans (h.block i hi hne)⟩

end Go.Proofs.YtlnencloodlnbaaDoor
