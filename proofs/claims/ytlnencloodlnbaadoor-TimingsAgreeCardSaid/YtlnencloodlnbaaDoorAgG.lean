/- Two rows of strings that grow side by side, next to the stream. -/
import Derived.Test.YtlnencloodlnbaaDoorAgS
import Derived.Test.YtlnencloodlnbaaDoorAgP
namespace Go.Proofs.YtlnencloodlnbaaDoor
open Go.RowKit Go.Sort

theorem own_apart {w w' : World} {base : Nat} {e e' : TypeId} {size size' : Nat} {v u : Value} {n m : Nat} {xs ys : List Value} (h : w.ownsRow base e size v n xs) (hg : w.grownBy w' u.ownBlock) (hne : ∀ g, u.ownBlock = some g → v.ownBlock ≠ some g) : w'.ownsRow base e size v n xs :=
  h.kept hg (by
    cases hu : u.ownBlock with
    | none => cases hv : v.ownBlock with
      | none => exact .inl rfl
      | some k => right; intro h; cases h
    | some g => right; intro h; exact hne g hu h)
/-- Two rows of the call's own, in blocks of their own. -/
structure Two (w0 w : World) (gs N : Nat) (A B : Option Addr) (c d : Nat) (a b : List Sm) : Prop where
  oa : w.ownsRow w0.heap.size 9 1 (.slice A a.length c) a.length (strs a)
  ob : w.ownsRow w0.heap.size 9 1 (.slice B b.length d) b.length (strs b)
  ne : ∀ g, (Value.slice A a.length c).ownBlock = some g → (Value.slice B b.length d).ownBlock ≠ some g
  sa : ∀ s ∈ a, s.length ≤ 16
  sb : ∀ s ∈ b, s.length ≤ 16
  str : Str w gs N
  gr : w0.grownBy w (some gs)
  lt : gs < w0.heap.size
section
variable {w0 w w' : World} {gs N N' : Nat} {A B : Option Addr} {c d : Nat} {a b : List Sm}
theorem Two.drawn (h : Two w0 w gs N A B c d a b) (hg : w.grownBy w' (some gs)) (hs : Str w' gs N') : Two w0 w' gs N' A B c d a b :=
  ⟨own_grown h.oa hg h.lt, own_grown h.ob hg h.lt, h.ne, h.sa, h.sb, hs, grown_trans' h.gr hg, h.lt⟩
theorem Two.alloc (h : Two w0 w gs N A B c d a b) (o : Obj) : Two w0 (w.alloc o) gs N A B c d a b := h.drawn (World.grownBy_alloc _ _ _) (h.str.alloc _)
theorem Two.more (h : Two w0 w gs N A B c d a b) (hN : N ≤ N') : Two w0 w gs N' A B c d a b := ⟨h.1, h.2, h.3, h.4, h.5, h.6.more hN, h.7, h.8⟩
theorem Two.pushA (h : Two w0 w gs N A B c d a b) {A5 : Option Addr} {c5 : Nat} {w5 : World} (s : Sm) (hs : s.length ≤ 16) (ho : w5.ownsRow w0.heap.size 9 1 (.slice A5 (a.length + 1) c5) (a.length + 1) (strs (a ++ [s]))) (hg : w.grownBy w5 (Value.slice A a.length c).ownBlock)
    (hb : (Value.slice A5 (a.length + 1) c5).ownBlock = (Value.slice A a.length c).ownBlock ∨ (Value.slice A5 (a.length + 1) c5).ownBlock = some w.heap.size) : Two w0 w5 gs N A5 B c5 d (a ++ [s]) b := by
  refine ⟨by simpa using ho, own_apart (u := .slice A a.length c) (ys := []) (m := 0) (size' := 0) (e' := 0) h.ob hg h.ne, fun g hg' => ?_, fun x hx => ?_, h.sb, h.str.app h.oa hg h.lt, grown_app h.gr h.oa hg (Nat.le_refl _), h.lt⟩
  · have hg2 : (Value.slice A5 (a.length + 1) c5).ownBlock = some g := by simpa [Value.ownBlock] using hg'
    rcases hb with hb | hb
    · exact h.ne g (hb ▸ hg2)
    · intro hB
      have := (h.ob.lt g hB).2
      rw [hb] at hg2
      injection hg2 with hg2
      omega
  · rcases List.mem_append.1 hx with hx | hx
    · exact h.sa x hx
    · simp at hx; subst hx; exact hs
theorem Two.pushB (h : Two w0 w gs N A B c d a b) {B5 : Option Addr} {d5 : Nat} {w5 : World} (s : Sm) (hs : s.length ≤ 16) (ho : w5.ownsRow w0.heap.size 9 1 (.slice B5 (b.length + 1) d5) (b.length + 1) (strs (b ++ [s]))) (hg : w.grownBy w5 (Value.slice B b.length d).ownBlock)
    (hb : (Value.slice B5 (b.length + 1) d5).ownBlock = (Value.slice B b.length d).ownBlock ∨ (Value.slice B5 (b.length + 1) d5).ownBlock = some w.heap.size) : Two w0 w5 gs N A B5 c d5 a (b ++ [s]) := by
  refine ⟨own_apart (u := .slice B b.length d) (ys := []) (m := 0) (size' := 0) (e' := 0) h.oa hg (fun g h1 h2 => h.ne g h2 h1), by simpa using ho, fun g hg' => ?_, h.sa, fun x hx => ?_, h.str.app h.ob hg h.lt, grown_app h.gr h.ob hg (Nat.le_refl _), h.lt⟩
  · intro hB
    have hB2 : (Value.slice B5 (b.length + 1) d5).ownBlock = some g := by simpa [Value.ownBlock] using hB
    rcases hb with hb | hb
    · exact h.ne g hg' (hb ▸ hB2)
    · have := (h.oa.lt g hg').2
      rw [hb] at hB2
      injection hB2 with hB2
      omega
  · rcases List.mem_append.1 hx with hx | hx
    · exact h.sb x hx
    · simp at hx; subst hx; exact hs
end
end Go.Proofs.YtlnencloodlnbaaDoor
