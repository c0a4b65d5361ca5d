/- The walks of HeldAt, spread, holds, Presses and their references, and of slices.Equal over pieces. -/
import Derived.Test.YtlnencloodlnbaaDoorInpC
namespace Go.Proofs.YtlnencloodlnbaaDoor
open Go.RowKit

/-- What HeldAt hands back. -/
def heldR (ps : List (Int × Int)) (f : Int) : Int := if inFault ps = 0 ∧ spanFault f 0 200000 = 0 then heldL (unf ps) f else 0
def heldE (ps : List (Int × Int)) (f : Int) : Int := if inFault ps = 0 then spanFault f 0 200000 else inFault ps
theorem heldR_ok {ps : List (Int × Int)} {f : Int} (h : inFault ps = 0) (h' : spanFault f 0 200000 = 0) : heldR ps f = heldL (unf ps) f := by simp [heldR, h, h']
theorem heldR_bad {ps : List (Int × Int)} {f : Int} (h : ¬ (inFault ps = 0 ∧ spanFault f 0 200000 = 0)) : heldR ps f = 0 := by simp only [heldR, h, if_false]
theorem span_ok {f lo hi : Int} (h : lo ≤ f ∧ f ≤ hi) : spanFault f lo hi = 0 := by simp [spanFault, h]
theorem span_bad {f lo hi : Int} (h : ¬ (lo ≤ f ∧ f ≤ hi)) : spanFault f lo hi = 1 := by simp only [spanFault, h, if_false]

/-- A block known whole. -/
def Blk (w : World) (g : Nat) (t : TypeId) (cs : Array Value) : Prop := w.heap[g]? = some (.cells cs t (0, 0))
theorem Blk.lt {w : World} {g : Nat} {t : TypeId} {cs : Array Value} (h : Blk w g t cs) : g < w.heap.size := (Array.getElem?_eq_some_iff.1 h).1
theorem Blk.cell {w : World} {g : Nat} {t : TypeId} {cs : Array Value} (h : Blk w g t cs) (i : Nat) : w.cell? ⟨g, i, none⟩ = cs[i]? := cell_of_row w g i cs t (0, 0) h
theorem Blk.new (w : World) (t : TypeId) (cs : Array Value) : Blk (w.alloc (.cells cs t)) w.heap.size t cs := heap_alloc_new w _
theorem Blk.alloc {w : World} {g : Nat} {t : TypeId} {cs : Array Value} (h : Blk w g t cs) (o : Obj) : Blk (w.alloc o) g t cs := (Below.heap_alloc w o g h.lt).trans h
theorem Blk.drewN {w : World} {g : Nat} {t : TypeId} {cs : Array Value} (h : Blk w g t cs) (q : Nat) : Blk (w.drewN q) g t cs := h
theorem Blk.drew {w : World} {g : Nat} {t : TypeId} {cs : Array Value} (h : Blk w g t cs) : Blk w.drew g t cs := h
theorem Blk.below {w w' : World} {g : Nat} {t : TypeId} {cs : Array Value} (h : Blk w g t cs) (hb : Below w.heap.size w w') : Blk w' g t cs := (hb.block g h.lt).trans h
theorem Blk.app {w1 w2 : World} {g base n size : Nat} {t e : TypeId} {cs : Array Value} {v : Value} {xs : List Value} (hown : w1.ownsRow base e size v n xs) (h : Blk w1 g t cs) (hg : w1.grownBy w2 v.ownBlock) (hne : e ≠ t) : Blk w2 g t cs := by
  refine (hg.block g h.lt ?_).trans h
  rcases hown.2 with ⟨rfl, _⟩ | ⟨g', cap, cur, rfl, _, hh, _⟩
  · simp [Value.ownBlock]
  · intro he
    have : g = g' := by simpa [Value.ownBlock] using he
    subst this
    unfold Blk at h
    rw [hh] at h
    injection h with h
    injection h with _ h1
    exact hne h1

def u8s (xs : List Int) : List Value := xs.map (Value.int .u8)
theorem u8s_all (zs : List Int) : (u8s zs).all (·.oneCell') = true := List.all_eq_true.2 (ints_oneCell .u8 zs)
theorem u8s_app (a b : List Int) : u8s (a ++ b) = u8s a ++ u8s b := by simp [u8s]
theorem Row.u8_at {w : World} {lo : Nat} {A : Option Addr} {zs : List Int} (h : Row w lo 1 A zs.length (u8s zs)) {k : Nat} (hk : k < zs.length) :
    ∃ b off, A = some ⟨b, off, none⟩ ∧ lo ≤ b ∧ b < w.heap.size ∧ w.cell? ⟨b, off + k, none⟩ = some (.int .u8 zs[k]) := by
  obtain ⟨b, off, e, hl, hb, hc⟩ := h.2 (by omega)
  exact ⟨b, off, e, hl, hb, hc k _ (by simp [u8s, hk])⟩
end Go.Proofs.YtlnencloodlnbaaDoor
