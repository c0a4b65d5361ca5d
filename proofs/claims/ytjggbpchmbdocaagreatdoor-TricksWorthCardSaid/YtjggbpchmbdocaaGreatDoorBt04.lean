/- Texts of this seat, laid together: App AppN. -/
import Derived.Deep.RegionHeld3
import Derived.Test.YtjggbpchmbdocaaGreatDoorBt00
/- An append onto a row of the call's own, inside a region that draws its order. -/
set_option linter.unusedVariables false
set_option linter.unusedSimpArgs false
namespace Go.Proofs.YtjggbpchmbdocaaGreatDoor
open Go.RowKit

theorem step_app {P : Program} {w : World} {ops : Array Oper} {o : Oper} {a : Act} {K : Act → World → Prop} {Q : Exit → Act → World → Prop} {E : Prop} {base : Nat} {t e : TypeId} {size bytes : Nat} {v : Value} {n : Nat} {xs : List Value} {lo : Nat} {A : Option Addr} {m : Nat} (c : Nat) {news : List Value}
  (hgd : o.guard = none) (s x : Operand) (T : SliceTy P t e size bytes)
  (ho : o.op = .call { callee:=.builtin .append,args:=#[s,x],argTypes:=#[t,t] })
  (hown : w.ownsRow base e size v n xs) (hs : a.eval s = v)
  (hr : Row w lo size A m news) (hx : a.eval x = .slice A m c) (h1 : news.all (·.oneCell') = true)
  (hbytes : (n + m) * bytes ≤ 140737488355328) (h63 : n + m ≤ 9223372036854775807) (hbase : base ≤ w.heap.size)
  (h : ∀ A' c' w',w'.ownsRow base e size (.slice A' (n + m) c') (n + m) (xs ++ news) → w.grownBy w' v.ownBlock → ((Value.slice A' (n + m) c').ownBlock = v.ownBlock ∨ (Value.slice A' (n + m) c').ownBlock = some w.heap.size) → K (a.put o.dst (.slice A' (n + m) c')) w') :
  if Region.wanted o (yielded ops a.tmps) = true then Oper.wp P o a w K Q else E:=by
 have hw : Region.wanted o (yielded ops a.tmps) = true:=by simp [Region.wanted,hgd]
 rw [if_pos hw];obtain ⟨A',c',w',hrun,h2,h3,h4⟩:=run_app (P:=P) w base t o.type e size bytes T v n xs hown lo A m c news hr h1 hbytes h63 hbase;unfold Oper.wp execOp;simp only [ho,resolve,invoke,builtin,Sem.run_bind,Sem.run_pure,Result.andThen_ok,List.map_toArray,List.map_cons,List.map_nil,hs,hx,hrun];exact h A' c' w' h2 h3 h4
end Go.Proofs.YtjggbpchmbdocaaGreatDoor
/- An append of nothing: the slice stays as it is. -/
namespace Go.Proofs.YtjggbpchmbdocaaGreatDoor
open Go.RowKit

end Go.Proofs.YtjggbpchmbdocaaGreatDoor
