/- Texts of this seat, laid together: VpB. -/
import Derived.Handy
import Derived.Test.YtgeaeockmadhcaaGreatDoorBp33
import Derived.Test.YtgeaeockmadhcaaGreatDoorBp24
import Derived.Test.YtgeaeockmadhcaaGreatDoorBp39
/- The walks of LastVote, votesAt and of what weights decide, in the reference. -/
namespace Go.Proofs.YtgeaeockmadhcaaGreatDoor
set_option linter.unusedVariables false
set_option linter.unusedSimpArgs false
open Go.RowKit Go.Sort

set_option maxHeartbeats 1000000 in
theorem rdecided_any (q : QuoE) (yes no : Int) (w : World) (hn : 0 ≤ q.num ∧ q.num ≤ 1000) (hd : 0 ≤ q.den ∧ q.den ≤ 1000) (hy : 0 ≤ yes ∧ yes ≤ 100000000) (hno : 0 ≤ no ∧ no ≤ 100000000) :
  Calls Tryz.prog 68 #[quoV q,.int .i64 yes,.int .i64 no] w fun e w' => e = .returned (.int .i64 (decF q yes no)) ∧ Below w.heap.size w w':=by
 obtain ⟨m1,m2⟩:=mul_small (a:=yes) (b:=q.den) (by omega) (by omega) hd.1 hd.2
 obtain ⟨m3,m4⟩:=mul_small (a:=yes + no) (b:=q.num) (by omega) (by omega) hn.1 hn.2
 rw [Int.mul_comm] at m3 m4
 have s1 : IntKind.i64.wrap (yes + no) = yes + no:=IntWalk.i64_in _ ⟨by omega,by omega⟩
 have s2 : IntKind.i64.wrap (yes * q.den) = yes * q.den:=IntWalk.i64_in _ ⟨by omega,by omega⟩
 have s3 : IntKind.i64.wrap (q.num * (yes + no)) = q.num * (yes + no):=IntWalk.i64_in _ ⟨by omega,by omega⟩
 have HB : Hid (Below w.heap.size w (w.alloc (.cells #[.int .i64 q.least,.int .i64 q.num,.int .i64 q.den] 33))):=Lib.hid ((Below.refl _ _).alloc (Nat.le_refl _) _)
 unfold quoV
 by_cases h1 : yes + no < q.least
 ·have d1 : decide (yes + no < q.least) = true:=decide_eq_true h1
  have HV : Hid (decF q yes no = 0):=Lib.hid (by unfold decF; rw [if_pos h1])
  clear h1 m1 m2 m3 m4
  go_enter Tryz.func68,Tryz.ntmps68
  go_wp2_with fail
  go_ret
  exact ⟨ret_int' HV.out.symm,HB.out⟩
 ·have d1 : decide (yes + no < q.least) = false:=decide_eq_false h1
  by_cases h2 : q.num * (yes + no) ≤ yes * q.den
  ·have d2 : decide (q.num * (yes + no) ≤ yes * q.den) = true:=decide_eq_true h2
   have HV : Hid (decF q yes no = 1):=Lib.hid (by unfold decF; rw [if_neg h1,if_pos h2])
   clear h1 h2 m1 m2 m3 m4
   go_enter Tryz.func68,Tryz.ntmps68
   go_wp2_with fail
   go_ret
   exact ⟨ret_int' HV.out.symm,HB.out⟩
  ·have d2 : decide (q.num * (yes + no) ≤ yes * q.den) = false:=decide_eq_false h2
   have HV : Hid (decF q yes no = 2):=Lib.hid (by unfold decF; rw [if_neg h1,if_neg h2])
   clear h1 h2 m1 m2 m3 m4
   go_enter Tryz.func68,Tryz.ntmps68
   go_wp2_with fail
   go_ret
   exact ⟨ret_int' HV.out.symm,HB.out⟩
def lastS (js : List JudgeE) (run who : List UInt8) (t : Int) (kw : Int × Int) (v : VoteE) : Int × Int:=if v.run = run ∧ v.who = who ∧ v.at_ ≤ t ∧ 0 < weightF js v.who v.at_ then (v.kind,weightF js v.who v.at_) else kw
theorem lastV_def (js : List JudgeE) (run who : List UInt8) (t : Int) (l : List VoteE) : lastV js run who t l = l.foldl (lastS js run who t) (0,0):=rfl
theorem lastS_bd {js : List JudgeE} (hw : ∀ j ∈ js,0 ≤ j.wt ∧ j.wt ≤ 1000) (run who : List UInt8) (t : Int) : ∀ (l : List VoteE) (kw : Int × Int),0 ≤ kw.2 ∧ kw.2 ≤ 1000 → 0 ≤ (l.foldl (lastS js run who t) kw).2 ∧ (l.foldl (lastS js run who t) kw).2 ≤ 1000
 | [],_,h => h
 | v :: l,kw,h => by
  refine lastS_bd hw run who t l _ ?_
  unfold lastS
  split
  ·exact weightF_bd hw _ _
  ·exact h
set_option maxHeartbeats 4000000 in
theorem lastVote_any (lo lo' c c' : Nat) (A B : Option Addr) (vs : List VoteE) (js : List JudgeE) (run who : List UInt8) (t : Int) (w : World) (hA : Row w lo 4 A vs.length (vs.flatMap encV)) (hB : Row w lo' 4 B js.length (js.flatMap encJ)) (hl : vs.length ≤ 1000000) (hl' : js.length ≤ 1000000) :
  Calls Tryz.prog 88 #[.slice A vs.length c,.slice B js.length c',.string ⟨run.toArray⟩,.string ⟨who.toArray⟩,.int .i64 t] w fun e w' => e = .returned (.tuple #[.int .i64 (lastV js run who t vs).1,.int .i64 (lastV js run who t vs).2]) ∧ Below w.heap.size w w':=by
 have HA:=Lib.hid hA
 have HB:=Lib.hid hB
 clear hA hB
 rw [lastV_def]
 go_enter Tryz.func88,Tryz.ntmps88
 go_wp2_with fail
 go_loopw [10,11,17] (fun a b i wr => ∃ (k : Nat) (x y : Int),k ≤ vs.length ∧ i = .int .i64 k ∧ a = .int .i64 x ∧ b = .int .i64 y ∧ Hid ((vs.take k).foldl (lastS js run who t) (0,0) = (x,y)) ∧ Below w.heap.size w wr) (fun _ _ i _ => vs.length - (intOf i).toNat)
 case atStart => exact ⟨0,0,0,Nat.zero_le _,rfl,rfl,rfl,Lib.hid rfl,Below.refl _ _⟩
 case round =>
  obtain ⟨k,x,y,hk,rfl,rfl,rfl,HF,hbw⟩:=hrel
  by_cases hlt : k < vs.length
  ·obtain ⟨b,off,rfl,hbs,-,hcell⟩:=votes_at (HA.out.below hbw) (by omega)
   obtain ⟨y0,y1,y2,y3⟩:=hcell k hlt
   have HB2:=Lib.hid (HB.out.below hbw)
   have HN : Hid ((vs.take (k + 1)).foldl (lastS js run who t) (0,0) = if vs[k].run = run ∧ vs[k].who = who ∧ vs[k].at_ ≤ t ∧ 0 < weightF js vs[k].who vs[k].at_ then (vs[k].kind,weightF js vs[k].who vs[k].at_) else (x,y)):=Lib.hid (by rw [List.take_add_one,List.getElem?_eq_getElem hlt,List.foldl_append,HF.out]; rfl)
   clear hcell
   generalize vs[k] = v at *
   have hal : Below wr.heap.size wr (wr.alloc (.cells #[.string ⟨v.run.toArray⟩,.string ⟨v.who.toArray⟩,.int .i64 v.at_,.int .i64 v.kind] 37)):=(Below.refl _ _).alloc (Nat.le_refl _) _
   have hvb : Blk (wr.alloc (.cells #[.string ⟨v.run.toArray⟩,.string ⟨v.who.toArray⟩,.int .i64 v.at_,.int .i64 v.kind] 37)) wr.heap.size 37 #[.string ⟨v.run.toArray⟩,.string ⟨v.who.toArray⟩,.int .i64 v.at_,.int .i64 v.kind]:=Blk.new _ _ _
   replace hbw:=below_up hbw hal
   have hBr:=HB2.out.below hal
   clear hal
   go_wp2_with fail
   refine (rweight_any lo' c' B js v.who v.at_ _ hBr hl').mono ?_
   rintro e w2 ⟨rfl,hb⟩
   replace hbw:=below_up hbw hb
   replace hvb:=hvb.below hb
   obtain ⟨n,hn⟩ : ∃ n,n = weightF js v.who v.at_:=⟨_,rfl⟩
   rw [← hn] at HN ⊢
   obtain ⟨v0,v1,v2,v3⟩ : _ ∧ _ ∧ _ ∧ _:=⟨hvb.cell 0,hvb.cell 1,hvb.cell 2,hvb.cell 3⟩
   simp only [Q0,Q2,Q1] at v0 v1 v2 v3
   have vl:=hvb.lt
   clear hn hb hBr HB2 hvb y0 y1 y2 y3 hbs
   by_cases h1 : v.run = run
   ·have d1 : (v.run == run) = true:=by simpa using h1
    by_cases h2 : v.who = who
    ·have d2 : (v.who == who) = true:=by simpa using h2
     by_cases h3 : v.at_ ≤ t
     ·have d3 : decide (v.at_ ≤ t) = true:=decide_eq_true h3
      by_cases h4 : 0 < n
      ·have d4 : decide (0 < n) = true:=decide_eq_true h4
       have HN2 : Hid ((vs.take (k + 1)).foldl (lastS js run who t) (0,0) = (v.kind,n)):=Lib.hid (by rw [HN.out,if_pos ⟨h1,h2,h3,h4⟩])
       clear h1 h2 HN
       go_wp2_with fail
       go_roundw
       case rel => exact ⟨k + 1,v.kind,n,by omega,by go_num,rfl,rfl,HN2,(by repeat (first | exact hbw | refine Below.alloc ?_ (by first | omega | (simp; omega) | simp) _ | refine below_drewN' ?_ _ | refine Below.drew ?_))⟩
       case measure => simp [intOf]; omega
      ·have d4 : decide (0 < n) = false:=decide_eq_false h4
       have HN2 : Hid ((vs.take (k + 1)).foldl (lastS js run who t) (0,0) = (x,y)):=Lib.hid (by rw [HN.out,if_neg (fun h => h4 h.2.2.2)])
       clear h1 h2 HN
       go_wp2_with fail
       go_roundw
       case rel => exact ⟨k + 1,x,y,by omega,by go_num,rfl,rfl,HN2,(by repeat (first | exact hbw | refine Below.alloc ?_ (by first | omega | (simp; omega) | simp) _ | refine below_drewN' ?_ _ | refine Below.drew ?_))⟩
       case measure => simp [intOf]; omega
     ·have d3 : decide (v.at_ ≤ t) = false:=decide_eq_false h3
      have HN2 : Hid ((vs.take (k + 1)).foldl (lastS js run who t) (0,0) = (x,y)):=Lib.hid (by rw [HN.out,if_neg (fun h => h3 h.2.2.1)])
      clear h1 h2 HN
      go_wp2_with fail
      go_roundw
      case rel => exact ⟨k + 1,x,y,by omega,by go_num,rfl,rfl,HN2,(by repeat (first | exact hbw | refine Below.alloc ?_ (by first | omega | (simp; omega) | simp) _ | refine below_drewN' ?_ _ | refine Below.drew ?_))⟩
      case measure => simp [intOf]; omega
    ·have d2 : (v.who == who) = false:=by simpa using h2
     have HN2 : Hid ((vs.take (k + 1)).foldl (lastS js run who t) (0,0) = (x,y)):=Lib.hid (by rw [HN.out,if_neg (fun h => h2 h.2.1)])
     clear h1 h2 HN
     go_wp2_with fail
     go_roundw
     case rel => exact ⟨k + 1,x,y,by omega,by go_num,rfl,rfl,HN2,(by repeat (first | exact hbw | refine Below.alloc ?_ (by first | omega | (simp; omega) | simp) _ | refine below_drewN' ?_ _ | refine Below.drew ?_))⟩
     case measure => simp [intOf]; omega
   ·have d1 : (v.run == run) = false:=by simpa using h1
    have HN2 : Hid ((vs.take (k + 1)).foldl (lastS js run who t) (0,0) = (x,y)):=Lib.hid (by rw [HN.out,if_neg (fun h => h1 h.1)])
    clear h1 HN
    go_wp2_with fail
    go_roundw
    case rel => exact ⟨k + 1,x,y,by omega,by go_num,rfl,rfl,HN2,(by repeat (first | exact hbw | refine Below.alloc ?_ (by first | omega | (simp; omega) | simp) _ | refine below_drewN' ?_ _ | refine Below.drew ?_))⟩
    case measure => simp [intOf]; omega
  ·have HE : Hid (vs.foldl (lastS js run who t) (0,0) = (x,y)):=Lib.hid (by have:=HF.out; rwa [List.take_of_length_le (by omega)] at this)
   go_wp2_with fail
   go_returns
   exact ⟨by rw [HE.out]; rfl,hbw⟩
end Go.Proofs.YtgeaeockmadhcaaGreatDoor
