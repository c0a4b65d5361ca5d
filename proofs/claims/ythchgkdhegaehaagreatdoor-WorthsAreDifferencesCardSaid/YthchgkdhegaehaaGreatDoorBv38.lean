/- Texts of this seat, laid together: AppR. -/
import Derived.ArgAppend
import Derived.Test.YthchgkdhegaehaaGreatDoorBv04
/- An append onto a slice whose room is taken up ('x[:n:n]'): always a new row. -/
namespace Go.Proofs.YthchgkdhegaehaaGreatDoor
set_option linter.unusedVariables false
set_option linter.unusedSimpArgs false
open Go.RowKit

theorem run_appR {P : Program} (w : World) (t ty e : TypeId) (size bytes : Nat) (T : SliceTy P t e size bytes) (lo0 : Nat) (A : Option Addr) (n : Nat) (xs : List Value) (hr0 : Row w lo0 size A n xs) (hA : n = 0 → A = none)
  (lo : Nat) (B : Option Addr) (m c : Nat) (news : List Value) (hr : Row w lo size B m news) (hm : 0 < m) (h1 : news.all (·.oneCell') = true) (hbytes : (n + m) * bytes ≤ 140737488355328) (h63 : n + m ≤ 9223372036854775807) :
  ∃ A' c' w',(Builtin.append_ #[t,t] ty #[.slice A n n,.slice B m c]).run P w = .ok (.slice A' (n + m) c') w' ∧ w'.ownsRow w.heap.size e size (.slice A' (n + m) c') (n + m) (xs ++ news) ∧ w.grownBy w' none:=by
 by_cases hn : n = 0
 ·subst hn
  have hx : xs = []:=List.eq_nil_of_length_eq_zero (by simpa using hr0.1)
  subst hx
  rw [hA rfl]
  obtain ⟨A',c',w',h2,h3,h4,_⟩:=run_app (P:=P) w w.heap.size t ty e size bytes T (.slice none 0 0) 0 [] (World.ownsRow_nil _ _ _ _) lo B m c news hr h1 hbytes h63 (Nat.le_refl _)
  exact ⟨A',c',w',h2,h3,h4⟩
 ·obtain ⟨ht,⟨i,z,hi,hz,hsize,hby,hzs⟩,hsz⟩:=T
  obtain ⟨b,off,rfl,_,_,hc⟩:=hr0.2 (by omega)
  obtain ⟨b2,off2,rfl,_,_,hc2⟩:=hr.2 hm
  obtain ⟨v',w',h2,h3,h4⟩:=run_append_arg_grows (P:=P) w t ty e i z size bytes ht hi hz hsize hby hzs hsz ⟨b,off,none⟩ n n xs hr0.1 (fun j u hu => by rw [Addr.add_lit]; exact hc j u hu) ⟨b2,off2,none⟩ m c news hr.1 (fun j u hu => by rw [Addr.add_lit]; exact hc2 j u hu) (by omega) (by simp only [maxLen]; omega) hbytes
  obtain ⟨A',c',rfl⟩:=ownForm h3
  exact ⟨A',c',w',h2,h3,h4⟩
theorem step_appR {P : Program} {w : World} {ops : Array Oper} {o : Oper} {a : Act} {K : Act → World → Prop} {Q : Exit → Act → World → Prop} {E : Prop} {t e : TypeId} {size bytes : Nat} {n : Nat} {xs : List Value} {lo0 lo : Nat} {A B : Option Addr} {m : Nat} (c : Nat) {news : List Value}
  (hgd : o.guard = none) (s x : Operand) (T : SliceTy P t e size bytes)
  (ho : o.op = .call { callee:=.builtin .append,args:=#[s,x],argTypes:=#[t,t] })
  (hr0 : Row w lo0 size A n xs) (hA : n = 0 → A = none) (hs : a.eval s = .slice A n n)
  (hr : Row w lo size B m news) (hm : 0 < m) (hx : a.eval x = .slice B m c) (h1 : news.all (·.oneCell') = true)
  (hbytes : (n + m) * bytes ≤ 140737488355328) (h63 : n + m ≤ 9223372036854775807)
  (h : ∀ A' c' w',w'.ownsRow w.heap.size e size (.slice A' (n + m) c') (n + m) (xs ++ news) → w.grownBy w' none → K (a.put o.dst (.slice A' (n + m) c')) w') :
  if Region.wanted o (yielded ops a.tmps) = true then Oper.wp P o a w K Q else E:=by
 have hw : Region.wanted o (yielded ops a.tmps) = true:=by simp [Region.wanted,hgd]
 rw [if_pos hw]
 obtain ⟨A',c',w',hrun,h2,h3⟩:=run_appR (P:=P) w t o.type e size bytes T lo0 A n xs hr0 hA lo B m c news hr hm h1 hbytes h63
 unfold Oper.wp execOp
 simp only [ho,resolve,invoke,builtin,Sem.run_bind,Sem.run_pure,Result.andThen_ok,List.map_toArray,List.map_cons,List.map_nil,hs,hx,hrun]
 exact h A' c' w' h2 h3
end Go.Proofs.YthchgkdhegaehaaGreatDoor
