/- Texts of this seat, laid together: SpD SpN SpP SpE SpQ SpG. -/
import Derived.Handy
import Derived.Laws.EntriesVeiled
import Derived.Test.YtjggbpchmbdocaaGreatDoorBt41
import Derived.Test.YtjggbpchmbdocaaGreatDoorBt17
import Derived.Test.YtjggbpchmbdocaaGreatDoorBt40
import Derived.Test.YtjggbpchmbdocaaGreatDoorBt42
import Derived.Test.YtjggbpchmbdocaaGreatDoorBt28
import Derived.Test.YtjggbpchmbdocaaGreatDoorBt38
import Derived.Test.YtjggbpchmbdocaaGreatDoorBt39
import Derived.Test.YtjggbpchmbdocaaGreatDoorBt10
/- The walks of the reference's visit, name and better. -/
set_option linter.unusedVariables false
set_option linter.unusedSimpArgs false
namespace Go.Proofs.YtjggbpchmbdocaaGreatDoor
open Go.RowKit Go.Sort

def visN (rooms : List (List UInt8)) (room : List UInt8) (k : Nat) : Nat:=k + ((rooms.drop k).takeWhile (fun s => s == room)).length
theorem visN_go {rooms : List (List UInt8)} {room : List UInt8} {k : Nat} (hk : k < rooms.length) (h : rooms[k] = room) : visN rooms room (k + 1) = visN rooms room k:=by
 unfold visN;rw [List.drop_eq_getElem_cons hk,List.takeWhile_cons,if_pos (by simpa using h),List.length_cons]; omega
theorem visN_stop {rooms : List (List UInt8)} {room : List UInt8} {k : Nat} (h : ∀ hk : k < rooms.length,rooms[k] ≠ room) : visN rooms room k = k:=by
 unfold visN
 by_cases hk : k < rooms.length
 ·rw [List.drop_eq_getElem_cons hk,List.takeWhile_cons,if_neg (by simpa using h hk)]; rfl
 ·rw [List.drop_of_length_le (by omega)]; rfl
theorem visN_le {rooms : List (List UInt8)} {room : List UInt8} {k : Nat} (h : k ≤ rooms.length) : visN rooms room k ≤ rooms.length:=by
 unfold visN;have h1:=List.Sublist.length_le (List.takeWhile_sublist (fun s => s == room) (l:=rooms.drop k));rw [List.length_drop] at h1;omega
theorem visN_nil (room : List UInt8) (k : Nat) : visN [] room k = k:=by unfold visN; simp
theorem res_vis (tmps : Array Value) (w : World) (g : Nat) (a b d : Value) (ka : List UInt8) (B : Option Addr) (n c : Nat) (z : Int) (ha : a = .string ⟨ka.toArray⟩) (hb : b = .slice B n c) (hd : d = .int .i64 z) (hx : tmps.getD 4 undef = .pointer (some ⟨g,0,none⟩)) (f0 : w.cell? ⟨g,0,none⟩ = some a) (f1 : w.cell? ⟨g,1,none⟩ = some b) (f2 : w.cell? ⟨g,2,none⟩ = some d) :
  (results Tryz.f140 tmps).run Tryz.prog w = .ok (.agg #[a,b,d]) w:=by
 have e : Tryz.f140.results = #[.cell 4 124]:=by kernel_rfl
 have hx' : tmps[4]?.getD undef = .pointer (some ⟨g,0,none⟩):=by simpa using hx
 subst ha hb hd
 simp [results,e,hx',go_sem,f0,f1,f2]
def numAt (w : World) (p : Addr) : Nat:=match w.cell? p with | some (.int _ z) => z.toNat | _ => 0
set_option maxHeartbeats 2000000 in
set_option maxRecDepth 100000 in
theorem visit_any (lo rc n c : Nat) (R A : Option Addr) (rooms : List (List UInt8)) (room : List UInt8) (k : Nat) (w : World) (hr : Row w lo 1 R rooms.length (strs rooms)) (hl : rooms.length ≤ 1000000) (hk : k ≤ 1000000) :
  Calls Tryz.prog 140 #[.slice R rooms.length rc,.agg #[.string ⟨room.toArray⟩,.slice A n c,.int .i64 (k : Int)]] w fun e w' => e = .returned (.agg #[.string ⟨room.toArray⟩,.slice A n c,.int .i64 (visN rooms room k : Nat)]) ∧ Below w.heap.size w w':=by
 have hb0 : Below w.heap.size w ((w.alloc (.cells #[.string ⟨room.toArray⟩,.slice A n c,.int .i64 (k : Int)] 124)).alloc (.cells #[.string ⟨#[]⟩,.slice none 0 0,.int .i64 0] 124)):=(by repeat (first | exact Below.refl _ _ | refine Below.alloc ?_ (by first | omega | (simp; omega) | simp) _ | refine below_drewN' ?_ _ | refine Below.drew ?_))
 have hs : Blk ((w.alloc (.cells #[.string ⟨room.toArray⟩,.slice A n c,.int .i64 (k : Int)] 124)).alloc (.cells #[.string ⟨#[]⟩,.slice none 0 0,.int .i64 0] 124)) w.heap.size 124 #[.string ⟨room.toArray⟩,.slice A n c,.int .i64 (k : Int)]:=(Blk.new _ _ _).alloc _;have hq : Blk ((w.alloc (.cells #[.string ⟨room.toArray⟩,.slice A n c,.int .i64 (k : Int)] 124)).alloc (.cells #[.string ⟨#[]⟩,.slice none 0 0,.int .i64 0] 124)) (w.heap.size + 1) 124 #[.string ⟨#[]⟩,.slice none 0 0,.int .i64 0]:=Blk.at_ _ (by simp);have HR:=Lib.hid hr;clear hr
 go_enter Tryz.func140,Tryz.ntmps140
 go_upto_region 1 with (fail);generalize (w.alloc (.cells #[.string ⟨room.toArray⟩,.slice A n c,.int .i64 (k : Int)] 124)).alloc (.cells #[.string ⟨#[]⟩,.slice none 0 0,.int .i64 0] 124) = w0 at *;obtain ⟨s0,s1,s2⟩:=hs.w3;have zs:=hs.lt;go_wp2_with fail;clear s0 s1 s2 zs
 go_loopw [] (fun wr => ∃ j : Nat,j ≤ max k rooms.length ∧ Hid (visN rooms room j = visN rooms room k) ∧ Blk wr w.heap.size 124 #[.string ⟨room.toArray⟩,.slice A n c,.int .i64 (j : Int)] ∧ Blk wr (w.heap.size + 1) 124 #[.string ⟨#[]⟩,.slice none 0 0,.int .i64 0] ∧ Below w.heap.size w wr) (fun wr => rooms.length - numAt wr ⟨w.heap.size,2,none⟩)
 case atStart => exact ⟨k,Nat.le_max_left _ _,Lib.hid rfl,hs,hq,hb0⟩
 case round =>
  clear hs hq hb0;obtain ⟨j,hj,HV,hs,hq,hbl⟩:=hrel;obtain ⟨s0,s1,s2⟩:=hs.w3;have zs:=hs.lt
  by_cases h1 : j < rooms.length
  ·obtain ⟨b,off,rfl,hbs,hcell⟩:=strs_at (HR.out.below hbl) h1
   have y0:=hcell j h1;simp only [encStr] at y0;have d0 : decide (j < rooms.length) = true:=decide_eq_true h1
   by_cases h2 : rooms[j] = room
   ·have d1 : (rooms[j] == room) = true:=beq_iff_eq.2 h2
    have HV2 : Hid (visN rooms room (j + 1) = visN rooms room k):=Lib.hid ((visN_go h1 h2).trans HV.out);have f2:=hs.thaw 2;have hs2:=hs.poke 2 (.int .i64 ((j : Int) + 1));have hq2:=hq.past w.heap.size 2 (.int .i64 ((j : Int) + 1)) (by omega);have hb2:=Below.setCell hbl (p:=⟨w.heap.size,2,none⟩) (Nat.le_refl _) (.int .i64 ((j : Int) + 1));have hw : IntKind.i64.wrap ((j : Int) + 1) = (j : Int) + 1:=IntWalk.i64_in _ ⟨by omega,by omega⟩
    have hme : numAt wr ⟨w.heap.size,2,none⟩ = j:=by unfold numAt; rw [s2]; simp
    have hme2 : numAt (wr.setCell ⟨w.heap.size,2,none⟩ (.int .i64 ((j : Int) + 1))) ⟨w.heap.size,2,none⟩ = j + 1:=by
     unfold numAt;have:=hs2.cell 2;simp only [Q3,Q4,Q5,Q0,Q2,Q1] at this;rw [this]; simp
    clear hcell hs hq hbl h2;generalize rooms[j] = rj at *;go_wp2_with fail;go_roundw
    case rel => exact ⟨j + 1,by omega,HV2,by simpa using hs2,hq2,hb2⟩
    case measure => rw [hme,hme2]; omega
   ·have d1 : (rooms[j] == room) = false:=beq_eq_false_iff_ne.2 h2
    have HV2 : Hid (visN rooms room k = j):=Lib.hid (HV.out.symm.trans (visN_stop fun _ => h2));obtain ⟨q0,q1,q2⟩:=hq.w3;have f0:=hq.thaw 0;have f1:=hq.thaw 1;have f2:=hq.thaw 2;have zq:=hq.lt;have hq3:=((hq.poke 0 (.string ⟨room.toArray⟩)).poke 1 (.slice A n c)).poke 2 (.int .i64 (j : Int));have hb3:=Below.setCell (Below.setCell (Below.setCell hbl (p:=⟨w.heap.size + 1,0,none⟩) (by simp) (.string ⟨room.toArray⟩)) (p:=⟨w.heap.size + 1,1,none⟩) (by simp) (.slice A n c)) (p:=⟨w.heap.size + 1,2,none⟩) (by simp) (.int .i64 (j : Int));clear hs hq hbl;go_wp2_with fail;refine bodyPost_ret (res_vis _ _ (w.heap.size + 1) _ _ _ room A n c (j : Int) rfl rfl rfl rfl (hq3.cell 0) (hq3.cell 1) (hq3.cell 2)) rfl ?_;exact ⟨by rw [HV2.out],hb3⟩
  ·have d0 : decide (j < rooms.length) = false:=decide_eq_false h1
   have HV2 : Hid (visN rooms room k = j):=Lib.hid (HV.out.symm.trans (visN_stop fun h => absurd h h1));obtain ⟨q0,q1,q2⟩:=hq.w3;have f0:=hq.thaw 0;have f1:=hq.thaw 1;have f2:=hq.thaw 2;have zq:=hq.lt;have hq3:=((hq.poke 0 (.string ⟨room.toArray⟩)).poke 1 (.slice A n c)).poke 2 (.int .i64 (j : Int));have hb3:=Below.setCell (Below.setCell (Below.setCell hbl (p:=⟨w.heap.size + 1,0,none⟩) (by simp) (.string ⟨room.toArray⟩)) (p:=⟨w.heap.size + 1,1,none⟩) (by simp) (.slice A n c)) (p:=⟨w.heap.size + 1,2,none⟩) (by simp) (.int .i64 (j : Int));clear hs hq hbl;go_wp2_with fail;refine bodyPost_ret (res_vis _ _ (w.heap.size + 1) _ _ _ room A n c (j : Int) rfl rfl rfl rfl (hq3.cell 0) (hq3.cell 1) (hq3.cell 2)) rfl ?_;exact ⟨by rw [HV2.out],hb3⟩
theorem joinZ_any {w : World} {lo : Nat} {A : Option Addr} (c : Nat) (x : UInt8) {l : List (List UInt8)} (hr : Row w lo 1 A l.length (strs l)) (hl : l.length ≤ 1000000) (hc : l.length ≤ c) (hj : (Lib.join l [x]).length ≤ 140737488355328) :
  Calls Tryz.prog 131 #[.slice A l.length c,.string ⟨#[x]⟩] w fun e w' => e = .returned (encStr (Lib.join l [x])) ∧ Below w.heap.size w w':=by
 by_cases h0 : l = []
 ·subst h0
  have e0 : Lib.join [] [x] = []:=rfl;rw [e0]
  go_enter Tryz.func131,Tryz.ntmps131
  go_wp2_with fail;go_ret;exact ⟨rfl,Below.refl _ _⟩
 ·exact joinS_any c x hr (by cases l with | nil => exact absurd rfl h0 | cons y l => simp) hl hc hj
set_option maxHeartbeats 2000000 in
set_option maxRecDepth 100000 in
theorem name_any (lo c : Nat) (A : Option Addr) (room : List UInt8) (th : List (List UInt8)) (k : Nat) (w : World) (hk : k ≤ 5) (hr : Row w lo 1 A th.length (strs th)) (hl : th.length ≤ 1000) (hc : th.length ≤ c) (hth : ∀ s ∈ th,s.length ≤ 1000000) (hrl : room.length ≤ 1000000) :
  Calls Tryz.prog 66 #[.agg #[.string ⟨room.toArray⟩,.slice A th.length c,.int .i64 (k : Int)]] w fun e w' => e = .returned (.string ⟨(nameS room th k).toArray⟩) ∧ Below w.heap.size w w':=by
 have hjl : (Lib.join th [44]).length ≤ 1000001000:=by have:=join1_len th 44 hth; omega
 have hjo : ∀ W,Below w.heap.size w W → Calls Tryz.prog 131 #[.slice A th.length c,.string ⟨#[44]⟩] W fun e w' => e = .returned (encStr (Lib.join th [44])) ∧ Below W.heap.size W w':=fun W hb => joinZ_any c 44 (hr.below hb) (by omega) hc (by omega)
 have hb0 : Below w.heap.size w (w.alloc (.cells #[.string ⟨room.toArray⟩,.slice A th.length c,.int .i64 (k : Int)] 124)):=(by repeat (first | exact Below.refl _ _ | refine Below.alloc ?_ (by first | omega | (simp; omega) | simp) _ | refine below_drewN' ?_ _ | refine Below.drew ?_))
 have hs : Blk (w.alloc (.cells #[.string ⟨room.toArray⟩,.slice A th.length c,.int .i64 (k : Int)] 124)) w.heap.size 124 #[.string ⟨room.toArray⟩,.slice A th.length c,.int .i64 (k : Int)]:=Blk.new _ _ _;have HN : Hid (nameS room th k = room ++ [32] ++ Lib.join th [44] ++ [32] ++ [UInt8.ofNat (48 + k)]):=Lib.hid rfl;generalize nameS room th k = nm at *;generalize Lib.join th [44] = jo at *;have HJO:=Lib.hid hjo;clear hr hjo hth;simp only [encStr] at HJO
 go_enter Tryz.func66,Tryz.ntmps66
 go_upto_region 1 with (fail);generalize w.alloc (.cells #[.string ⟨room.toArray⟩,.slice A th.length c,.int .i64 (k : Int)] 124) = w0 at *
 have c1 : ¬ (9223372036854775807 < room.length + 1):=by omega
 have c2 : ¬ (9223372036854775807 < room.length + 1 + jo.length):=by omega
 have c3 : ¬ (9223372036854775807 < room.length + 1 + jo.length + 1):=by omega
 have c4 : ¬ (9223372036854775807 < room.length + 1 + jo.length + 1 + 1):=by omega
 replace hs : Blk w0.drew w.heap.size 124 #[.string ⟨room.toArray⟩,.slice A th.length c,.int .i64 (k : Int)]:=hs;replace hb0 : Below w.heap.size w w0.drew:=hb0.drew;refine wp_region_held_drew (S:=(fun w' => w'.cell? ⟨w.heap.size,0,none⟩ = some (.string ⟨room.toArray⟩) ∧ w'.cell? ⟨w.heap.size,1,none⟩ = some (.slice A th.length c) ∧ w'.cell? ⟨w.heap.size,2,none⟩ = some (.int .i64 (k : Int)))) (by kernel_rfl) (hs.w3) (fun hHeld => ?_);generalize w0.drew = wd at *;(refine QU 0 ?_; (try simp only [Act.put,Q3,Q4,Q5]));(refine QU 1 ?_; (try simp only [Act.put,Q3,Q4,Q5]));(refine QU 2 ?_; (try simp only [Act.put,Q3,Q4,Q5]));(refine QU 3 ?_; (try simp only [Act.put,Q3,Q4,Q5]));(refine QU 4 ?_; (try simp only [Act.put,Q3,Q4,Q5]));(refine QU 5 ?_; (try simp only [Act.put,Q3,Q4,Q5]));(refine QU 6 ?_; (try simp only [Act.put,Q3,Q4,Q5]));(refine QU 10 ?_; (try simp only [Act.put,Q3,Q4,Q5]));(refine QU 11 ?_; (try simp only [Act.put,Q3,Q4,Q5]));refine QR 7 fun K hK => ?_;go_simp;go_at_call 131;refine (HJO.out _ hb0).mono ?_;rintro e w1 ⟨rfl,hb⟩;replace hs:=hs.below hb;replace hb0:=below_up hb0 hb;clear hb;go_wp2_with fail;refine hK.out _ _ (hs.w3) (fun hHeld => ?_);clear hK K;(try simp only [Act.put,Q3,Q4,Q5]);(refine QU 8 ?_; (try simp only [Act.put,Q3,Q4,Q5]));(refine QU 9 ?_; (try simp only [Act.put,Q3,Q4,Q5]));refine QR 12 fun K hK => ?_;go_simp;go_at_call 132;refine (itoa9_any k (by omega) _).mono ?_;rintro e w2 ⟨s,rfl,rfl,rfl⟩;go_wp2_with fail;refine hK.out _ _ (hs.w3) (fun hHeld => ?_);clear hK K;(try simp only [Act.put,Q3,Q4,Q5]);(refine QU 13 ?_; (try simp only [Act.put,Q3,Q4,Q5]));(refine QU 14 ?_; (try simp only [Act.put,Q3,Q4,Q5]));refine wpAnyH_done (by kernel_rfl) ?_ _;go_wp2_with fail;go_ret;refine ⟨?_,hb0⟩;rw [HN.out,show UInt8.ofNat (48 + k) = 48 + UInt8.ofNat k by simp,← ba_app,← ba_app,← ba_app,← ba_app];rfl
set_option maxHeartbeats 2000000 in
set_option maxRecDepth 100000 in
theorem better_any (lo lo' dc dc' : Nat) (D D' : Option Addr) (a b : List (List UInt8)) (t t' : Int) (w : World) (hr : Row w lo 1 D a.length (strs a)) (hr' : Row w lo' 1 D' b.length (strs b)) (hl : a.length ≤ 1000000000) (hl' : b.length ≤ 1000000000) :
  Calls Tryz.prog 139 #[.agg #[.slice D a.length dc,.int .i64 t],.agg #[.slice D' b.length dc',.int .i64 t']] w fun e w' => e = .returned (.int .i64 (firstE [cmpI t t',cmpI (a.length : Int) (b.length : Int),cmpLS a b])) ∧ Below w.heap.size w w':=by
 have hb0 : Below w.heap.size w ((w.alloc (.cells #[.slice D a.length dc,.int .i64 t] 40)).alloc (.cells #[.slice D' b.length dc',.int .i64 t'] 40)):=(by repeat (first | exact Below.refl _ _ | refine Below.alloc ?_ (by first | omega | (simp; omega) | simp) _ | refine below_drewN' ?_ _ | refine Below.drew ?_))
 have ha : Blk ((w.alloc (.cells #[.slice D a.length dc,.int .i64 t] 40)).alloc (.cells #[.slice D' b.length dc',.int .i64 t'] 40)) w.heap.size 40 #[.slice D a.length dc,.int .i64 t]:=(Blk.new _ _ _).alloc _;have hb : Blk ((w.alloc (.cells #[.slice D a.length dc,.int .i64 t] 40)).alloc (.cells #[.slice D' b.length dc',.int .i64 t'] 40)) (w.heap.size + 1) 40 #[.slice D' b.length dc',.int .i64 t']:=Blk.at_ _ (by simp);have HC : Hid (∀ W,Below w.heap.size w W → Calls Tryz.prog 90 #[.slice D a.length dc,.slice D' b.length dc'] W fun e w' => e = .returned (.int .i64 (cmpLS a b)) ∧ W = w'):=Lib.hid (fun W h => compareS_any D D' dc dc' lo lo' a b W (hr.below h) (hr'.below h) hl hl');clear hr hr';have HF : Hid (∀ x y z : Int,firstE [x,y,z] = firstE [x,y,z]):=Lib.hid (fun _ _ _ => rfl);clear HF
 go_enter Tryz.func139,Tryz.ntmps139
 go_upto_region 1 with (fail);generalize (w.alloc (.cells #[.slice D a.length dc,.int .i64 t] 40)).alloc (.cells #[.slice D' b.length dc',.int .i64 t'] 40) = w0 at *;replace ha : Blk w0.drew w.heap.size 40 #[.slice D a.length dc,.int .i64 t]:=ha;replace hb : Blk w0.drew (w.heap.size + 1) 40 #[.slice D' b.length dc',.int .i64 t']:=hb;replace hb0 : Below w.heap.size w w0.drew:=hb0.drew;refine wp_region_held_drew (S:=(fun w' => w'.cell? ⟨w.heap.size,0,none⟩ = some (.slice D a.length dc) ∧ w'.cell? ⟨w.heap.size,1,none⟩ = some (.int .i64 t) ∧ w'.cell? ⟨w.heap.size + 1,0,none⟩ = some (.slice D' b.length dc') ∧ w'.cell? ⟨w.heap.size + 1,1,none⟩ = some (.int .i64 t'))) (by kernel_rfl) (⟨ha.w2.1,ha.w2.2,hb.w2.1,hb.w2.2⟩) (fun hHeld => ?_);generalize w0.drew = wd at *;(refine QU 0 ?_; (try simp only [Act.put,Q3,Q4,Q5]));(refine QU 1 ?_; (try simp only [Act.put,Q3,Q4,Q5]));(refine QU 2 ?_; (try simp only [Act.put,Q3,Q4,Q5]));(refine QU 3 ?_; (try simp only [Act.put,Q3,Q4,Q5]));(refine QU 5 ?_; (try simp only [Act.put,Q3,Q4,Q5]));(refine QU 6 ?_; (try simp only [Act.put,Q3,Q4,Q5]));(refine QU 7 ?_; (try simp only [Act.put,Q3,Q4,Q5]));(refine QU 8 ?_; (try simp only [Act.put,Q3,Q4,Q5]));(refine QU 9 ?_; (try simp only [Act.put,Q3,Q4,Q5]));(refine QU 10 ?_; (try simp only [Act.put,Q3,Q4,Q5]));(refine QU 12 ?_; (try simp only [Act.put,Q3,Q4,Q5]));(refine QU 13 ?_; (try simp only [Act.put,Q3,Q4,Q5]));(refine QU 14 ?_; (try simp only [Act.put,Q3,Q4,Q5]));(refine QU 15 ?_; (try simp only [Act.put,Q3,Q4,Q5]));refine QR 4 fun K hK => ?_;go_simp;go_at_call 108;refine (cmpInt_any t t' _).mono ?_;rintro e w1 ⟨rfl,rfl⟩;go_wp2_with fail;refine hK.out _ _ (⟨ha.w2.1,ha.w2.2,hb.w2.1,hb.w2.2⟩) (fun hHeld => ?_);clear hK K;(try simp only [Act.put,Q3,Q4,Q5]);refine QR 11 fun K hK => ?_;go_simp;go_at_call 108;refine (cmpInt_any (a.length : Int) (b.length : Int) _).mono ?_;rintro e w1 ⟨rfl,rfl⟩;go_wp2_with fail;refine hK.out _ _ (⟨ha.w2.1,ha.w2.2,hb.w2.1,hb.w2.2⟩) (fun hHeld => ?_);clear hK K;(try simp only [Act.put,Q3,Q4,Q5]);refine QR 16 fun K hK => ?_;go_simp;go_at_call 90;refine (HC.out _ hb0).mono ?_;rintro e w1 ⟨rfl,rfl⟩;go_wp2_with fail;refine hK.out _ _ (⟨ha.w2.1,ha.w2.2,hb.w2.1,hb.w2.2⟩) (fun hHeld => ?_);clear hK K;(try simp only [Act.put,Q3,Q4,Q5]);refine QR 17 fun K hK => ?_;go_simp;have hor:=orP_any (some ⟨wd.heap.size,0,none⟩) 3 wd.heap.size [(cmpI t t'),(cmpI (a.length : Int) (b.length : Int)),(cmpLS a b)] (wd.alloc (.cells #[.int .i64 (cmpI t t'),.int .i64 (cmpI (a.length : Int) (b.length : Int)),.int .i64 (cmpLS a b)] 3)) (Row.lit (Blk.new wd 3 #[.int .i64 (cmpI t t'),.int .i64 (cmpI (a.length : Int) (b.length : Int)),.int .i64 (cmpLS a b)]) (Nat.le_refl _) rfl) (by simp);replace ha:=ha.alloc (.cells #[.int .i64 (cmpI t t'),.int .i64 (cmpI (a.length : Int) (b.length : Int)),.int .i64 (cmpLS a b)] 3);replace hb:=hb.alloc (.cells #[.int .i64 (cmpI t t'),.int .i64 (cmpI (a.length : Int) (b.length : Int)),.int .i64 (cmpLS a b)] 3);replace hb0:=hb0.alloc hb0.size (.cells #[.int .i64 (cmpI t t'),.int .i64 (cmpI (a.length : Int) (b.length : Int)),.int .i64 (cmpLS a b)] 3);refine hK.out _ _ (⟨ha.w2.1,ha.w2.2,hb.w2.1,hb.w2.2⟩) (fun hHeld => ?_);clear hK K;(try simp only [Act.put,Q3,Q4,Q5]);refine QR 18 fun K hK => ?_;go_simp;go_at_call 88;refine hor.mono ?_;rintro e w2 ⟨rfl,rfl⟩;clear hor;go_wp2_with fail;refine hK.out _ _ (⟨ha.w2.1,ha.w2.2,hb.w2.1,hb.w2.2⟩) (fun hHeld => ?_);clear hK K;(try simp only [Act.put,Q3,Q4,Q5]);(refine QU 19 ?_; (try simp only [Act.put,Q3,Q4,Q5]));refine wpAnyH_done (by kernel_rfl) ?_ _;go_wp2_with fail;go_ret;exact ⟨rfl,hb0⟩
end Go.Proofs.YtjggbpchmbdocaaGreatDoor
/- Plain: names tell the stands of a right map apart; what is behind a door; better ways by what better says. -/
namespace Go.Proofs.YtjggbpchmbdocaaGreatDoor
open Go.RowKit Go.Sort

theorem riseF_keys {l : List (List UInt8)} (h : riseF l = 0) : ∀ x ∈ l,keyB x = true:=fun x hx => by
 obtain ⟨k,hk,rfl⟩:=List.mem_iff_getElem.1 hx;have h1:=scanF_0 h k hk;unfold riseAt at h1;rw [List.getD_eq_getElem?_getD,List.getElem?_eq_getElem hk] at h1
 by_cases c : keyB l[k] = true
 ·exact c
 ·rw [if_pos (by simpa using c)] at h1; cases h1
theorem thingsE_keys {l : List (List UInt8)} (h : thingsE l = 0) : ∀ x ∈ l,keyB x = true:=by
 unfold thingsE at h
 by_cases c : 10 < l.length
 ·rw [if_pos c] at h; cases h
 ·rw [if_neg c] at h; exact riseF_keys h
theorem firstE_2z {x y : Int} (h : firstE [x,y] = 0) : x = 0 ∧ y = 0:=by
 unfold firstE at h
 by_cases c : x = 0
 ·rw [if_pos c] at h
  unfold firstE at h
  by_cases c2 : y = 0
  ·exact ⟨c,c2⟩
  ·rw [if_neg c2] at h; exact absurd h c2
 ·rw [if_neg c] at h; exact absurd h c
theorem map_keys {rs : List RoomE} {ds : List DoorE} {st gl : List UInt8} (h : mapE rs ds st gl = 0) : (∀ r ∈ rs,keyB r.key = true) ∧ ∀ x ∈ allT rs ds,keyB x = true:=by
 unfold mapE at h
 by_cases c1 : roomsE rs = 0
 case neg => rw [if_pos c1] at h; exact absurd h c1
 rw [if_neg (fun e => e c1)] at h
 by_cases c2 : doorsE rs ds = 0
 case neg => rw [if_pos c2] at h; exact absurd h c2
 have hR : ∀ r ∈ rs,keyB r.key = true ∧ thingsE r.gives = 0:=fun r hr => by
  obtain ⟨k,hk,rfl⟩:=List.mem_iff_getElem.1 hr;unfold roomsE at c1
  by_cases hb : 100 < rs.length
  ·rw [if_pos hb] at c1; cases c1
  rw [if_neg hb] at c1;have h1:=scanF_0 c1 k hk;unfold roomAt at h1
  have e : rs.getD k default = rs[k]:=by rw [List.getD_eq_getElem?_getD,List.getElem?_eq_getElem hk]; rfl
  rw [e] at h1
  by_cases a1 : (!keyB rs[k].key) = true
  ·rw [if_pos a1] at h1; cases h1
  rw [if_neg a1] at h1
  by_cases a2 : 0 < k ∧ ¬ ((rs.getD (k - 1) default).key < rs[k].key)
  ·rw [if_pos a2] at h1; cases h1
  rw [if_neg a2] at h1;exact ⟨by simpa using a1,h1⟩
 have hD : ∀ d ∈ ds,thingsE d.needs = 0 ∧ thingsE d.takes = 0:=fun d hd => by
  obtain ⟨k,hk,rfl⟩:=List.mem_iff_getElem.1 hd;unfold doorsE at c2
  by_cases hb : 500 < ds.length
  ·rw [if_pos hb] at c2; cases c2
  rw [if_neg hb] at c2;have h1:=scanF_0 c2 k hk;unfold doorAt at h1
  have e : ds.getD k default = ds[k]:=by rw [List.getD_eq_getElem?_getD,List.getElem?_eq_getElem hk]; rfl
  rw [e] at h1
  by_cases a1 : (!keyB ds[k].key) = true
  ·rw [if_pos a1] at h1; cases h1
  rw [if_neg a1] at h1
  by_cases a2 : 0 < k ∧ ¬ ((ds.getD (k - 1) default).key < ds[k].key)
  ·rw [if_pos a2] at h1; cases h1
  rw [if_neg a2] at h1
  by_cases a3 : (!hasR rs ds[k].src || !hasR rs ds[k].dst) = true
  ·rw [if_pos a3] at h1; cases h1
  rw [if_neg a3] at h1
  by_cases a4 : ds[k].time < 1 ∨ 864000000 < ds[k].time
  ·rw [if_pos a4] at h1; cases h1
  rw [if_neg a4] at h1
  by_cases a5 : firstE [thingsE ds[k].needs,thingsE ds[k].takes] = 0
  ·exact firstE_2z a5
  ·rw [if_pos a5] at h1; exact absurd h1 a5
 refine ⟨fun r hr => (hR r hr).1,fun x hx => ?_⟩;unfold allT at hx;rcases List.mem_append.1 hx with h | h
 ·obtain ⟨r,hr,hx⟩:=List.mem_flatMap.1 h
  exact thingsE_keys (hR r hr).2 x hx
 ·obtain ⟨d,hd,hx⟩:=List.mem_flatMap.1 h
  rcases List.mem_append.1 hx with hx | hx
  ·exact thingsE_keys (hD d hd).1 x hx
  ·exact thingsE_keys (hD d hd).2 x hx
theorem keyB_free {x : List UInt8} (h : keyB x = true) : x ≠ [] ∧ x.length ≤ 40 ∧ (32 : UInt8) ∉ x ∧ (44 : UInt8) ∉ x:=by
 unfold keyB at h;simp only [Bool.and_eq_true,decide_eq_true_eq,List.all_eq_true] at h;obtain ⟨⟨⟨h1,h2⟩,_⟩,h4⟩:=h;refine ⟨fun e => by rw [e] at h1; simp at h1,h2,fun hm => ?_,fun hm => ?_⟩
 ·have:=h4 _ hm; exact absurd this (by decide)
 ·have:=h4 _ hm; exact absurd this (by decide)
theorem first_inj {c : UInt8} : ∀ {x y a b : List UInt8},c ∉ x → c ∉ y → (a = [] ∨ ∃ a',a = c :: a') → (b = [] ∨ ∃ b',b = c :: b') → x ++ a = y ++ b → x = y ∧ a = b
 | [],[],_,_,_,_,_,_,h => ⟨rfl,h⟩
 | [],v :: y,a,b,_,hy,ha,_,h => by
  rcases ha with rfl | ⟨a',rfl⟩
  ·simp at h
  ·simp only [List.nil_append,List.cons_append,List.cons.injEq] at h
   exact absurd (List.mem_cons.2 (.inl h.1)) hy
 | u :: x,[],a,b,hx,_,_,hb,h => by
  rcases hb with rfl | ⟨b',rfl⟩
  ·simp at h
  ·simp only [List.nil_append,List.cons_append,List.cons.injEq] at h
   exact absurd (List.mem_cons.2 (.inl h.1.symm)) hx
 | u :: x,v :: y,a,b,hx,hy,ha,hb,h => by
  simp only [List.cons_append,List.cons.injEq] at h;obtain ⟨h1,h2⟩:=first_inj (fun m => hx (List.mem_cons.2 (.inr m))) (fun m => hy (List.mem_cons.2 (.inr m))) ha hb h.2;exact ⟨by rw [h.1,h1],h2⟩
theorem tail_starts (r : List (List UInt8)) : Lib.joinTail [44] r = [] ∨ ∃ a,Lib.joinTail [44] r = 44 :: a:=by
 cases r with
 | nil => exact .inl rfl
 | cons y r => exact .inr ⟨y ++ Lib.joinTail [44] r,by simp [Lib.joinTail]⟩
theorem tail_inj : ∀ {r s : List (List UInt8)},(∀ x ∈ r,(44 : UInt8) ∉ x) → (∀ x ∈ s,(44 : UInt8) ∉ x) → Lib.joinTail [44] r = Lib.joinTail [44] s → r = s
 | [],[],_,_,_ => rfl
 | [],y :: s,_,_,h => by simp [Lib.joinTail] at h
 | y :: r,[],_,_,h => by simp [Lib.joinTail] at h
 | x :: r,y :: s,hr,hs,h => by
  have h' : x ++ Lib.joinTail [44] r = y ++ Lib.joinTail [44] s:=by
   have e : ∀ (z : List UInt8) (l : List (List UInt8)),Lib.joinTail [44] (z :: l) = 44 :: (z ++ Lib.joinTail [44] l):=fun z l => by simp [Lib.joinTail]
   rw [e,e] at h;exact (List.cons.inj h).2
  obtain ⟨h1,h2⟩:=first_inj (hr x (by simp)) (hs y (by simp)) (tail_starts r) (tail_starts s) h';rw [h1,tail_inj (fun z hz => hr z (by simp [hz])) (fun z hz => hs z (by simp [hz])) h2]
theorem join_inj {r s : List (List UInt8)} (hr : ∀ x ∈ r,x ≠ [] ∧ (44 : UInt8) ∉ x) (hs : ∀ x ∈ s,x ≠ [] ∧ (44 : UInt8) ∉ x) (h : Lib.join r [44] = Lib.join s [44]) : r = s:=by
 cases r with
 | nil =>
  cases s with
  | nil => rfl
  | cons y s =>
   rw [Lib.join_nil,Lib.join_cons] at h;exact absurd (List.append_eq_nil_iff.1 h.symm).1 (hs y (by simp)).1
 | cons x r =>
  cases s with
  | nil =>
   rw [Lib.join_nil,Lib.join_cons] at h;exact absurd (List.append_eq_nil_iff.1 h).1 (hr x (by simp)).1
  | cons y s =>
   rw [Lib.join_cons,Lib.join_cons] at h;obtain ⟨h1,h2⟩:=first_inj (hr x (by simp)).2 (hs y (by simp)).2 (tail_starts r) (tail_starts s) h;rw [h1,tail_inj (fun z hz => (hr z (by simp [hz])).2) (fun z hz => (hs z (by simp [hz])).2) h2]
theorem nameS_inj {r r' : List UInt8} {th th' : List (List UInt8)} {k k' : Nat} (hr : (32 : UInt8) ∉ r) (hr' : (32 : UInt8) ∉ r') (ht : ∀ x ∈ th,x ≠ [] ∧ (44 : UInt8) ∉ x) (ht' : ∀ x ∈ th',x ≠ [] ∧ (44 : UInt8) ∉ x) (hk : k < 9) (hk' : k' < 9) (h : nameS r th k = nameS r' th' k') : r = r' ∧ th = th' ∧ k = k':=by
 unfold nameS at h;obtain ⟨h1,h2⟩:=List.append_inj' h rfl;obtain ⟨h3,_⟩:=List.append_inj' h1 rfl;rw [List.append_assoc,List.append_assoc] at h3;obtain ⟨h4,h5⟩:=first_inj hr hr' (.inr ⟨_,rfl⟩) (.inr ⟨_,rfl⟩) h3;have h6 : Lib.join th [44] = Lib.join th' [44]:=(List.cons.inj h5).2;exact ⟨h4,join_inj ht ht' h6,digit_inj k hk k' hk' (by simpa using h2)⟩
theorem NmOk.right {rs : List RoomE} {ds : List DoorE} {T : List (List UInt8)} {st gl : List UInt8} (h : mapE rs ds st gl = 0) (hTd : onceT (allT rs ds) = T) : NmOk rs T:=by
 have hK:=map_keys h;have hR:=right_of h
 have hT : T.Pairwise (· < ·):=by rw [← hTd]; exact (onceT_spec _).1
 have hTk : ∀ x ∈ T,keyB x = true:=fun x hx => hK.2 x (by rw [← hTd] at hx; exact ((onceT_spec _).2 x).1 hx)
 have hTl : T.length ≤ 10:=by rw [← hTd]; exact hR.few
 have key : ∀ x,GoodX rs T x → ∃ room th,keyB room = true ∧ (∀ y ∈ th,keyB y = true) ∧ th.length ≤ 10 ∧ room ∈ rs.map RoomE.key ∧ ThOk T th ∧ x = ⟨ixR rs room,bitsT T th,x.s⟩ ∧ nameX rs T x = nameS room th x.s ∧ x.s ≤ 5:=by
  intro x hx;obtain ⟨room,th,h1,h2,h3,h4,h5⟩:=ptX_good hT hx;refine ⟨room,th,?_,fun y hy => hTk y (h2.sub y hy),Nat.le_trans (ThOk.len hT h2) hTl,h1,h2,h3,?_,h5⟩
  ·obtain ⟨r,hr,rfl⟩:=List.mem_map.1 h1; exact hK.1 r hr
  ·unfold nameX; rw [h4]
 refine ⟨fun x y hx hy h => ?_,fun x hx => ?_⟩
 ·obtain ⟨r,t,a1,a2,a0,a3,a4,a5,a6,a7⟩:=key x hx
  obtain ⟨r',t',b1,b2,b0,b3,b4,b5,b6,b7⟩:=key y hy;rw [a6,b6] at h;obtain ⟨e1,e2,e3⟩:=nameS_inj (keyB_free a1).2.2.1 (keyB_free b1).2.2.1 (fun z hz => ⟨(keyB_free (a2 z hz)).1,(keyB_free (a2 z hz)).2.2.2⟩) (fun z hz => ⟨(keyB_free (b2 z hz)).1,(keyB_free (b2 z hz)).2.2.2⟩) (by omega) (by omega) h;rw [a5,b5,e1,e2,e3]
 ·obtain ⟨r,t,a1,a2,a0,a3,a4,a5,a6,a7⟩:=key x hx
  have h1:=join1_len t 44 (M:=40) (fun s hs => (keyB_free (a2 s hs)).2.1);have h2:=(keyB_free a1).2.1;have h3 : t.length * 40 ≤ 10 * 40:=Nat.mul_le_mul_right _ a0;rw [a6]; unfold nameS;simp only [List.length_append,List.length_cons,List.length_nil];omega
def stY (rs : List RoomE) (T : List (List UInt8)) (room : List UInt8) (th : List (List UInt8)) (s : Nat) : StE:=⟨ixR rs room,bitsT T th,s⟩
def sfR (rs : List RoomE) (rooms : List (List UInt8)) (x : StE) : StE:=⟨x.r,x.b,visN rooms (rs.getD x.r default).key x.s⟩
section
variable {rs : List RoomE} {ds : List DoorE} {T : List (List UInt8)} {tr rooms : List (List UInt8)} {st gl : List UInt8}
theorem sfR_st {room : List UInt8} (hr : room ∈ rs.map RoomE.key) (th : List (List UInt8)) (s : Nat) : sfR rs rooms (stY rs T room th s) = stY rs T room th (visN rooms room s):=by
 unfold sfR stY;simp only;rw [List.getD_eq_getElem?_getD,List.getElem?_eq_getElem (ixR_lt hr)];rw [show (some (rs[ixR rs room]'(ixR_lt hr))).getD default = rs[ixR rs room]'(ixR_lt hr) from rfl,ixR_key hr]
theorem stY_good {room : List UInt8} {th : List (List UInt8)} {s : Nat} (hr : room ∈ rs.map RoomE.key) (ht : ThOk T th) (hs : s ≤ 5) : GoodX rs T (stY rs T room th s):=⟨⟨room,hr,rfl⟩,⟨th,ht,rfl⟩,hs⟩
theorem ptX_stY {room : List UInt8} {th : List (List UInt8)} {s : Nat} (hT : T.Pairwise (· < ·)) (hr : room ∈ rs.map RoomE.key) (ht : ThOk T th) : ptX rs T (stY rs T room th s) = (room,th):=by
 rw [← ptX_st (rs:=rs) hr hT ht]; rfl
theorem nxR_iff (hR : Right rs ds st gl) (hTd : onceT (allT rs ds) = T) {sf : StE → StE} {room : List UInt8} (hr : room ∈ rs.map RoomE.key) {th : List (List UInt8)} {s k : Nat} {y : StE} :
  (k,y) ∈ nxX rs T ds tr [] sf (stY rs T room th s) ↔ ∃ hk : k < ds.length,goE tr room th ds[k] = 0 ∧ y = sf (stY rs T ds[k].dst (thru rs th ds[k]) s):=by
 have hT : T.length ≤ 10:=by rw [← hTd]; exact hR.few
 constructor
 ·intro h
  obtain ⟨hk,z,hp,hy,hsrc,hok⟩:=nxX_mem h;simp only at hk hp hy hsrc hok;rw [getD_door hk] at hp hsrc hok;have hd:=List.getElem_mem hk;rw [passX_th (ds:=ds) hT (needs_sub hTd hd) (show (stY rs T room th s).b = bitsT T th from rfl)] at hp
  have hsr : room = ds[k].src:=by
   rw [roomI_mem (hR.src _ hd)] at hsrc;exact ixR_inj hr (hR.src _ hd) (by have : ((stY rs T room th s).r : Int) = (ixR rs room : Int):=rfl; rw [this] at hsrc; omega)
  split at hp
  ·rename_i hn
   injection hp with hp;refine ⟨hk,?_,?_⟩
   ·unfold goE
    rw [if_neg (by rw [hsr]; simp),if_neg ((okD_none (hR.dkey _ hd)).1 hok),if_neg (by simpa using hn)]
   ·rw [hy,← hp]; rfl
  ·cases hp
 ·rintro ⟨hk,hg,rfl⟩
  have hd:=List.getElem_mem hk;unfold goE at hg
  split at hg
  ·cases hg
  rename_i c1
  split at hg
  ·cases hg
  rename_i c2
  split at hg
  ·cases hg
  rename_i c3;have hsr : room = ds[k].src:=Classical.not_not.1 c1;have hn:=Classical.not_not.1 c3;unfold nxX;refine List.mem_filterMap.2 ⟨(k : Int),?_,?_⟩
  ·have : roomI rs ds[k].src = ((stY rs T room th s).r : Int):=by rw [roomI_mem (hR.src _ hd),← hsr]; rfl
   exact (out_mem hk this).2 ((okD_none (hR.dkey _ hd)).2 c2)
  ·rw [Int.toNat_natCast,getD_door hk,passX_th (ds:=ds) hT (needs_sub hTd hd) (show (stY rs T room th s).b = bitsT T th from rfl),if_pos hn]
   rfl
end
theorem sgnS_0 {x y : List UInt8} : sgnS x y = 0 ↔ x = y:=by
 unfold sgnS
 constructor
 ·intro h
  rcases ltS_or x y with h1 | h1 | h1
  ·rw [if_pos h1] at h; cases h
  ·exact h1
  ·by_cases h2 : x < y
   ·rw [if_pos h2] at h; cases h
   ·rw [if_neg h2,if_pos h1] at h; cases h
 ·rintro rfl
  rw [if_neg (ltS_irr x),if_neg (ltS_irr x)]
theorem sgnS_neg {x y : List UInt8} : sgnS x y < 0 ↔ x < y:=by
 unfold sgnS
 constructor
 ·intro h
  by_cases h1 : x < y
  ·exact h1
  ·rw [if_neg h1] at h
   split at h <;> omega
 ·intro h; rw [if_pos h]; decide
theorem key_lt {ds : List DoorE} (hu : UpS (ds.map DoorE.key)) {i j : Nat} (hi : i < ds.length) (hj : j < ds.length) : (keyX ds i < keyX ds j ↔ i < j) ∧ (keyX ds i = keyX ds j ↔ i = j):=by
 have e : ∀ k (h : k < ds.length),keyX ds k = (ds.map DoorE.key)[k]'(by simpa using h):=fun k h => by
  unfold keyX; rw [getD_door h]; simp
 have hl : ∀ a b (ha : a < ds.length) (hb : b < ds.length),a < b → keyX ds a < keyX ds b:=fun a b ha hb h => by
  rw [e a ha,e b hb];exact UpS.lt hu a b (by simpa using hb) h
 refine ⟨⟨fun h => ?_,hl i j hi hj⟩,⟨fun h => ?_,fun h => by rw [h]⟩⟩
 ·rcases Nat.lt_trichotomy i j with g | g | g
  ·exact g
  ·subst g; exact absurd h (ltS_irr _)
  ·exact absurd (List.lt_trans h (hl j i hj hi g)) (ltS_irr _)
 ·rcases Nat.lt_trichotomy i j with g | g | g
  ·exact absurd (h ▸ hl i j hi hj g) (ltS_irr _)
  ·exact g
  ·exact absurd (h ▸ hl j i hj hi g) (ltS_irr _)
theorem cmpLS_lt {ds : List DoorE} (hu : UpS (ds.map DoorE.key)) : ∀ {x y : List Nat}, (∀ k ∈ x, k < ds.length) → (∀ k ∈ y, k < ds.length) → (cmpLS (x.map (keyX ds)) (y.map (keyX ds)) < 0 ↔ ltL x y)
  | [], [], _, _ => by simp [cmpLS, ltL]
  | [], _ :: _, _, _ => by simp [cmpLS, ltL]
  | _ :: _, [], _, _ => by simp [cmpLS, ltL]
  | a :: x, b :: y, hx, hy => by
    obtain ⟨k1, k2⟩ := key_lt hu (hx a (by simp)) (hy b (by simp));show (if sgnS (keyX ds a) (keyX ds b) ≠ 0 then sgnS (keyX ds a) (keyX ds b) else cmpLS (x.map (keyX ds)) (y.map (keyX ds))) < 0 ↔ a < b ∨ a = b ∧ ltL x y
    by_cases h : a = b
    · subst h
      rw [if_neg (by simp [sgnS_0]), cmpLS_lt hu (fun k hk => hx k (by simp [hk])) (fun k hk => hy k (by simp [hk]))]
      exact ⟨fun h => .inr ⟨rfl, h⟩, fun h => by rcases h with h | h; · omega
                                                 · exact h.2⟩
    · rw [if_pos (fun e => h (k2.1 (sgnS_0.1 e))), sgnS_neg, k1]
      exact ⟨fun h => .inl h, fun g => by rcases g with g | g; · exact g
                                          · exact absurd g.1 h⟩
theorem better_lt {ds : List DoorE} (hu : UpS (ds.map DoorE.key)) {a b : PwE} (ha : ∀ k ∈ a.2,k < ds.length) (hb : ∀ k ∈ b.2,k < ds.length) : firstE [cmpI a.1 b.1,cmpI ((a.2.map (keyX ds)).length : Int) ((b.2.map (keyX ds)).length : Int),cmpLS (a.2.map (keyX ds)) (b.2.map (keyX ds))] < 0 ↔ ltP a b:=by
 rw [List.length_map,List.length_map];show (if cmpI a.1 b.1 = 0 then (if cmpI (a.2.length : Int) (b.2.length : Int) = 0 then (if cmpLS (a.2.map (keyX ds)) (b.2.map (keyX ds)) = 0 then 0 else cmpLS (a.2.map (keyX ds)) (b.2.map (keyX ds))) else cmpI (a.2.length : Int) (b.2.length : Int)) else cmpI a.1 b.1) < 0 ↔ ltP a b;unfold ltP
 by_cases h1 : a.1 = b.1
 ·rw [if_pos ((cmpI_eq _ _).2 h1)]
  by_cases h2 : (a.2.length : Int) = (b.2.length : Int)
  ·rw [if_pos ((cmpI_eq _ _).2 h2)]
   have e : (if cmpLS (a.2.map (keyX ds)) (b.2.map (keyX ds)) = 0 then 0 else cmpLS (a.2.map (keyX ds)) (b.2.map (keyX ds))) = cmpLS (a.2.map (keyX ds)) (b.2.map (keyX ds)):=by
    split
    ·rename_i h; exact h.symm
    ·rfl
   rw [e,cmpLS_lt hu ha hb]
   constructor
   ·intro h; exact .inr ⟨h1,.inr ⟨by omega,h⟩⟩
   ·rintro (h | ⟨_,h | ⟨_,h⟩⟩)
    ·omega
    ·omega
    ·exact h
  ·rw [if_neg (fun e => h2 ((cmpI_eq _ _).1 e)),cmpI_lt]
   constructor
   ·intro h; exact .inr ⟨h1,.inl (by omega)⟩
   ·rintro (h | ⟨_,h | ⟨h,_⟩⟩)
    ·omega
    ·omega
    ·omega
 ·rw [if_neg (fun e => h1 ((cmpI_eq _ _).1 e)),cmpI_lt]
  constructor
  ·intro h; exact .inl h
  ·rintro (h | ⟨h,_⟩)
   ·exact h
   ·exact absurd h h1
end Go.Proofs.YtjggbpchmbdocaaGreatDoor
/- Plain: ways that are found visit no stand twice, so they are short; what is found by a right map's doors. -/
namespace Go.Proofs.YtjggbpchmbdocaaGreatDoor
open Go.RowKit

inductive WayT (nx : StE → List (Nat × StE)) (ef : StE → Bool) (tm : Nat → Int) (s0 : StE) : StE → PwE → List StE → Prop
  | nil : WayT nx ef tm s0 s0 (0, []) [s0]
  | snoc {x y : StE} {k : Nat} {a : PwE} {l : List StE} : WayT nx ef tm s0 x a l → ef x = false → (k, y) ∈ nx x → WayT nx ef tm s0 y (extP tm a k) (l ++ [y])
def SimT (nx : StE → List (Nat × StE)) (ef : StE → Bool) (tm : Nat → Int) (s0 : StE) (M : FoundM) (x : StE) (a : PwE) : Prop :=
 ∃ l,WayT nx ef tm s0 x a l ∧ l.Nodup ∧ ∀ z ∈ l,∃ c,M z = some c ∧ c.1 ≤ a.1
def SimI (nx : StE → List (Nat × StE)) (ef : StE → Bool) (tm : Nat → Int) (s0 : StE) (M : FoundM) : Prop:=∀ x a,M x = some a → SimT nx ef tm s0 M x a
section
variable {nx : StE → List (Nat × StE)} {ef : StE → Bool} {tm : Nat → Int} {s0 x y : StE} {a b : PwE} {M M' : FoundM} {l : List StE} {k : Nat}
theorem WayT.len (h : WayT nx ef tm s0 x a l) : l.length = a.2.length + 1:=by
 induction h with
 | nil => rfl
 | snoc _ _ _ ih => unfold extP; simp [ih]
theorem WayT.bnd {t9 : Int} (ht : ∀ x p,p ∈ nx x → tm p.1 ≤ t9) (h : WayT nx ef tm s0 x a l) : a.1 ≤ t9 * (a.2.length : Int):=by
 induction h with
 | nil => simp
 | @snoc x y k a l _ _ hm ih =>
  have:=ht _ _ hm;unfold extP;simp only [List.length_append,List.length_cons,List.length_nil] at *
  have e : t9 * ((a.2.length + (0 + 1) : Nat) : Int) = t9 * (a.2.length : Int) + t9:=by
   rw [show ((a.2.length + (0 + 1) : Nat) : Int) = (a.2.length : Int) + 1 by omega,Int.mul_add,Int.mul_one]
  rw [e]; omega
theorem WayF.door {n : Nat} (hn : ∀ x p,p ∈ nx x → p.1 < n) (h : WayF nx ef tm s0 x a) : ∀ k ∈ a.2,k < n:=by
 induction h with
 | nil => intro k hk; cases hk
 | @snoc x y j a _ _ hm ih =>
  intro k hk;unfold extP at hk;rcases List.mem_append.1 hk with h | h
  ·exact ih k h
  ·rw [List.mem_singleton.1 h]; exact hn _ _ hm
theorem ltP_fst (h : ltP a b) : a.1 ≤ b.1:=by
 unfold ltP at h
 rcases h with h | ⟨h,_⟩ <;> omega
theorem leP_fst (h : leP a b) : a.1 ≤ b.1:=by
 rcases ltP_tot a b with g | g | g
 ·exact ltP_fst g
 ·rw [g]; exact Int.le_refl _
 ·exact absurd g h
theorem SimT.mono (h : SimT nx ef tm s0 M x a) (hl : leM M' M) : SimT nx ef tm s0 M' x a:=by
 obtain ⟨l,h1,h2,h3⟩:=h;refine ⟨l,h1,h2,fun z hz => ?_⟩;obtain ⟨c,hc,hc1⟩:=h3 z hz;obtain ⟨d,hd,hd1⟩:=hl z c hc;have:=leP_fst hd1;exact ⟨d,hd,by omega⟩
theorem SimI.first (s0 : StE) : SimI nx ef tm s0 (fun z => if z = s0 then some (0,[]) else none):=fun x a h => by
 by_cases e : x = s0
 ·subst e
  simp only [if_pos] at h;injection h with h;subst h;exact ⟨[x],.nil,by simp,fun z hz => ⟨(0,[]),by rw [List.mem_singleton.1 hz]; exact if_pos rfl,Int.le_refl _⟩⟩
 ·simp only [if_neg e] at h; cases h
theorem SimI.put (hI : SimI nx ef tm s0 M) (h : SimT nx ef tm s0 M x a) (hf : ef x = false) (hm : (k,y) ∈ nx x) (ht : 1 ≤ tm k) (hb : ∀ b,M y = some b → ltP (extP tm a k) b) : SimI nx ef tm s0 (putM M y (extP tm a k)):=by
 have hl : leM (putM M y (extP tm a k)) M:=putM_le fun b hb' => leP_of_lt (hb b hb')
 intro z c hz
 by_cases e : z = y
 ·subst e
  unfold putM at hz;rw [if_pos rfl] at hz;injection hz with hz;subst hz;obtain ⟨l,h1,h2,h3⟩:=h;refine ⟨l ++ [z],.snoc h1 hf hm,?_,fun v hv => ?_⟩
  ·rw [List.nodup_append]
   refine ⟨h2,by simp,fun v hv u hu => ?_⟩;rw [List.mem_singleton] at hu;subst hu;rintro rfl;obtain ⟨c,hc,hc1⟩:=h3 v hv;have:=ltP_fst (hb c hc);unfold extP at this;simp only at this;omega
  ·by_cases e : v = z
   ·exact ⟨extP tm a k,by unfold putM; rw [if_pos e],Int.le_refl _⟩
   ·rcases List.mem_append.1 hv with hv | hv
    ·obtain ⟨c,hc,hc1⟩:=h3 v hv
     refine ⟨c,by unfold putM; rw [if_neg e]; exact hc,?_⟩;unfold extP; simp only; omega
    ·exact absurd (List.mem_singleton.1 hv) e
 ·have hz' : M z = some c:=by unfold putM at hz; rw [if_neg e] at hz; exact hz
  exact (hI z c hz').mono hl
theorem SimT.short {gd : StE → Prop} {n : Nat} (h : SimT nx ef tm s0 M x a) (hg : ∀ z c,M z = some c → gd z) (hn : ∀ l : List StE,l.Nodup → (∀ z ∈ l,gd z) → l.length ≤ n) : a.2.length ≤ n:=by
 obtain ⟨l,h1,h2,h3⟩:=h;have:=hn l h2 (fun z hz => let ⟨c,hc,_⟩:=h3 z hz; hg z c hc);have:=h1.len;omega
theorem SimT.time {t9 : Int} (h : SimT nx ef tm s0 M x a) (ht : ∀ x p,p ∈ nx x → tm p.1 ≤ t9) : a.1 ≤ t9 * (a.2.length : Int):=let ⟨_,h1,_,_⟩:=h; h1.bnd ht
end
section
variable {rs : List RoomE} {ds : List DoorE} {T : List (List UInt8)} {tr rooms : List (List UInt8)} {st gl : List UInt8}
theorem nS_le (hR : Right rs ds st gl) (hTd : onceT (allT rs ds) = T) : nS rs T ≤ 614400:=by
 have h1 : T.length ≤ 10:=by rw [← hTd]; exact hR.few
 have h2 : 2 ^ T.length ≤ 2 ^ 10:=Nat.pow_le_pow_right (by decide) h1;have h3:=hR.rl;have h4 : rs.length * 2 ^ T.length ≤ 100 * 2 ^ 10:=Nat.mul_le_mul h3 h2;unfold nS;omega
theorem keyF_len {rs : List RoomE} {T : List (List UInt8)} {K : List (List UInt8)} (hn : K.Nodup) (h : ∀ k ∈ K,∃ x,GoodX rs T x ∧ k = nameX rs T x) : K.length ≤ nS rs T:=by
 have key : ∀ K : List (List UInt8),K.Nodup → (∀ k ∈ K,∃ x,GoodX rs T x ∧ k = nameX rs T x) → ∃ l : List StE,l.Nodup ∧ (∀ z ∈ l,GoodX rs T z) ∧ l.map (nameX rs T) = K:=by
  intro K
  induction K with
  | nil => intro _ _; exact ⟨[],by simp,(fun z hz => absurd hz (by simp)),rfl⟩
  | cons k K ih =>
   intro hn h;obtain ⟨l,h1,h2,h3⟩:=ih (List.nodup_cons.1 hn).2 (fun k hk => h k (List.mem_cons_of_mem _ hk));obtain ⟨x,hx,rfl⟩:=h k List.mem_cons_self;refine ⟨x :: l,List.nodup_cons.2 ⟨fun hm => (List.nodup_cons.1 hn).1 ?_,h1⟩,fun z hz => ?_,by rw [List.map_cons,h3]⟩
   ·rw [← h3]; exact List.mem_map.2 ⟨x,hm,rfl⟩
   ·rcases List.mem_cons.1 hz with rfl | hz
    ·exact hx
    ·exact h2 z hz
 obtain ⟨l,h1,h2,h3⟩:=key K hn h;rw [← h3,List.length_map];exact few_statesN h1 h2
end
end Go.Proofs.YtjggbpchmbdocaaGreatDoor
/- What is found, in memory: kept and put; the loops of spreadOut. -/
namespace Go.Proofs.YtjggbpchmbdocaaGreatDoor
open Go.RowKit Go.Maps Go.WideMaps

theorem cell_map {W : World} {b off mb : Nat} {u : Value} (h : W.cell? ⟨b,off,none⟩ = some u) (hm : Kind W (some mb) none) : b ≠ mb:=by
 rintro rfl;have h2:=hm _ rfl;unfold tag at h2;unfold World.cell? at h
 cases hb : W.heap[b]? with
 | none => rw [hb] at h2; cases h2
 | some o => cases o <;> simp [hb] at h h2
theorem Row.mapped {W W' : World} {lo size n mb : Nat} {A : Option Addr} {xs : List Value} (h : Row W lo size A n xs) (hs : 0 < size) (hm : Kind W (some mb) none) (hg : W.grownBy W' (some mb)) : Row W' lo size A n xs :=
 ⟨h.1,fun hn => by
  obtain ⟨b,off,e,h1,h2,h3⟩:=h.2 hn
  have hl : 0 < xs.length:=by rw [h.1]; exact Nat.mul_pos hn hs
  have hne : b ≠ mb:=cell_map (h3 0 xs[0] (List.getElem?_eq_getElem hl)) hm
  exact ⟨b,off,e,h1,Nat.lt_of_lt_of_le h2 hg.size,fun j u hu => (World.cell?_of_block (w:=W) (hg.block b h2 (fun e2 => hne (by injection e2)))).trans (h3 j u hu)⟩⟩
theorem blk_mapped {W W' : World} {b mb : Nat} {t : TypeId} {cs : Array Value} (h : Blk W b t cs) (hm : Kind W (some mb) none) (hg : W.grownBy W' (some mb)) : Blk W' b t cs :=
 h.grown hg (fun e => by
  subst e;have h1:=hm _ rfl;have h2 : W.heap[b]? = some (.cells cs t (0,0)):=h;unfold tag at h1;rw [h2] at h1
  cases h1)
section
variable {W W' : World} {lo mb : Nat} {rs : List RoomE} {ds : List DoorE} {T : List (List UInt8)} {f : List UInt8 → Option FndC} {M : FoundM} {pt : List UInt8 × List (List UInt8)} {s : Nat} {a : PwE} {p : FndC}
theorem FndOk.mapped (h : FndOk W lo ds pt s a p) (hm : Kind W (some mb) none) (hg : W.grownBy W' (some mb)) : FndOk W' lo ds pt s a p :=
 { h with things:=h.things.mapped (by decide) hm hg,doors:=h.doors.mapped (by decide) hm hg }
theorem FndI.mapped (h : FndI W lo rs ds T f M) (hm : Kind W (some mb) none) (hg : W.grownBy W' (some mb)) : FndI W' lo rs ds T f M :=
 ⟨h.good,fun x a hx => let ⟨p,h1,h2⟩:=h.there x a hx; ⟨p,h1,h2.mapped hm hg⟩,h.only⟩
end
structure SpS (nx : StE → List (Nat × StE)) (ef : StE → Bool) (tm : Nat → Int) (s0 : StE) (rs : List RoomE) (ds : List DoorE) (T : List (List UInt8)) (W : World) (mb : Nat) (K : List (List UInt8)) (f : FndF) (M : FoundM) : Prop where
  mp : MapF W mb K.length K f
  fi : FndI W 0 rs ds T f M
  sp : SpW nx ef tm s0 M
  si : SimI nx ef tm s0 M
section
variable {nx : StE → List (Nat × StE)} {ef : StE → Bool} {tm : Nat → Int} {s0 x y : StE} {rs : List RoomE} {ds : List DoorE} {T : List (List UInt8)} {W W' : World} {mb k : Nat} {K : List (List UInt8)} {f : FndF} {M : FoundM} {a : PwE} {p : FndC}
theorem MapF.keys {w : World} {b n : Nat} (h : MapF w b n K f) : (∀ x,x ∈ K ↔ (f x).isSome = true) ∧ K.Nodup:=by obtain ⟨D,_,_,_,h4,h5⟩:=h; exact ⟨h4,h5⟩
theorem SpS.below (h : SpS nx ef tm s0 rs ds T W mb K f M) (hb : Below W.heap.size W W') : SpS nx ef tm s0 rs ds T W' mb K f M:=⟨h.mp.below hb,h.fi.below hb,h.sp,h.si⟩
theorem SpS.alloc (h : SpS nx ef tm s0 rs ds T W mb K f M) (o : Obj) : SpS nx ef tm s0 rs ds T (W.alloc o) mb K f M:=h.below ((Below.refl _ _).alloc (Nat.le_refl _) o)
theorem SpS.drewN (h : SpS nx ef tm s0 rs ds T W mb K f M) (q : Nat) : SpS nx ef tm s0 rs ds T (W.drewN q) mb K f M:=h.below (below_drewN' (Below.refl _ _) q)
theorem SpS.drew (h : SpS nx ef tm s0 rs ds T W mb K f M) : SpS nx ef tm s0 rs ds T W.drew mb K f M:=h.drewN 1
theorem SpS.few (h : SpS nx ef tm s0 rs ds T W mb K f M) : K.length ≤ nS rs T:=keyF_len h.mp.keys.2 fun k hk => by
 obtain ⟨x,a,h1,h2⟩:=h.fi.only k ((h.mp.keys.1 k).1 hk);exact ⟨x,h.fi.good x a h1,h2⟩
theorem SpS.short (h : SpS nx ef tm s0 rs ds T W mb K f M) (hs : SimT nx ef tm s0 M x a) : a.2.length ≤ nS rs T:=hs.short (fun z c hz => h.fi.good z c hz) (fun l hl hg => few_statesN hl hg)
theorem SpS.put (h : SpS nx ef tm s0 rs ds T W mb K f M) (hn : NmOk rs T) (hy : GoodX rs T y) (hp : FndOk W 0 ds (ptX rs T y) y.s (extP tm a k) p) (hw : WayF nx ef tm s0 x a) (hs : SimT nx ef tm s0 M x a) (hf : ef x = false) (hm : (k,y) ∈ nx x) (ht : 1 ≤ tm k) (hb : ∀ b,M y = some b → ltP (extP tm a k) b)
  (hM : MapF W' mb (keyF K (nameX rs T y)).length (keyF K (nameX rs T y)) (putF f (nameX rs T y) p)) (hg : W.grownBy W' (some mb)) : SpS nx ef tm s0 rs ds T W' mb (keyF K (nameX rs T y)) (putF f (nameX rs T y) p) (putM M y (extP tm a k)) :=
 ⟨hM,(h.fi.put hn hy hp).mapped h.mp.kind hg,h.sp.put (.snoc hw hf hm) hb,h.si.put hs hf hm ht hb⟩
end
def Closed (nx : StE → List (Nat × StE)) (ef : StE → Bool) (tm : Nat → Int) (s0 : StE) (M : FoundM) : Prop:=(∀ x a,M x = some a → BestF nx ef tm s0 x a) ∧ ∀ x,ReachX nx ef s0 x → ∃ a,M x = some a
def SoPost (nx : StE → List (Nat × StE)) (ef : StE → Bool) (tm : Nat → Int) (s0 : StE) (rs : List RoomE) (ds : List DoorE) (T : List (List UInt8)) (w : World) (e : Ending) (w' : World) : Prop :=
 ∃ (mb : Nat) (K : List (List UInt8)) (f : FndF) (M : FoundM),e = .returned (.map (some mb)) ∧ SpS nx ef tm s0 rs ds T w' mb K f M ∧ Closed nx ef tm s0 M ∧ w.heap.size ≤ mb ∧ Below w.heap.size w w'
def SpL (nx : StE → List (Nat × StE)) (ef : StE → Bool) (tm : Nat → Int) (s0 : StE) (rs : List RoomE) (ds : List DoorE) (T : List (List UInt8)) (N : Nat) (Z : World) (mb : Nat) (v : Value) (W : World) (n : Nat) : Prop :=
 ∃ (ag : Bool) (r : Nat) (K : List (List UInt8)) (f : FndF) (M : FoundM),v = .bool ag ∧ SpS nx ef tm s0 rs ds T W mb K f M ∧ Z.grownBy W (some mb) ∧ Hid (RdI nx ef tm s0 M r ∧ r ≤ N ∧ (ag = false → Closed nx ef tm s0 M)) ∧ n = if ag then N + 1 - r else 0
theorem SpL.bool {nx : StE → List (Nat × StE)} {ef : StE → Bool} {tm : Nat → Int} {s0 : StE} {rs : List RoomE} {ds : List DoorE} {T : List (List UInt8)} {N : Nat} {Z : World} {mb : Nat} {v : Value} {W : World} (h : ∃ n,SpL nx ef tm s0 rs ds T N Z mb v W n) : ∃ ag,v = .bool ag ∧ ∃ n,SpL nx ef tm s0 rs ds T N Z mb (.bool ag) W n:=by
 obtain ⟨n,ag,r,K,f,M,h1,h2⟩:=h;exact ⟨ag,h1,n,ag,r,K,f,M,rfl,h2⟩
def EndsF (w0 : World) (fid : FuncId) (pre post : Array Value) (ef : StE → Bool) (rs : List RoomE) (T : List (List UInt8)) : Prop :=
 (∀ (args : Array Value) (W : World),(callFunc fid args).run Tryz.prog W = .ok (.enter fid args) W) ∧ ∀ (W : World) (x : StE) (A : Option Addr) (c : Nat),Below w0.heap.size w0 W → GoodX rs T x → Row W 0 1 A (ptX rs T x).2.length (strs (ptX rs T x).2) → Calls Tryz.prog fid ((pre ++ #[.agg #[.string ⟨(ptX rs T x).1.toArray⟩,.slice A (ptX rs T x).2.length c,.int .i64 (x.s : Int)]]) ++ post) W fun e w' => e = .returned (.bool (ef x)) ∧ Below W.heap.size W w'
set_option maxRecDepth 100000 in
theorem step_insF {w : World} {ops : Array Oper} {o : Oper} {a : Act} {KK : Act → World → Prop} {Q : Exit → Act → World → Prop} {E : Prop} {b n : Nat} {K : List (List UInt8)} {f : FndF} (hg : o.guard = none) (m x v : Operand) (hop : o.op = Op.insert 137 m x v ∨ o.op = Op.mapUpdate 137 m x v) (hm : a.eval m = .map (some b)) (h : MapF w b n K f) (hn : K.length < maxLen) (k : List UInt8) (p : FndC) (hk : k.length ≤ maxLen) (hx : a.eval x = .string ⟨k.toArray⟩) (hv : a.eval v = fndV p)
  (hK : ∀ w',MapF w' b (keyF K k).length (keyF K k) (putF f k p) → w.grownBy w' (some b) → KK (a.put o.dst undef) w') :
  if Region.wanted o (yielded ops a.tmps) = true then Oper.wp Tryz.prog o a w KK Q else E:=by
 have hw : Region.wanted o (yielded ops a.tmps) = true:=by simp [Region.wanted,hg]
 rw [if_pos hw];obtain ⟨D,h1,h2,h3,h4,h5⟩:=h.tight;have hm0:=(h1.tidy keySF).isMap;obtain ⟨w',hrun,h1',hg'⟩:=h1.update keySF Tryz.underlying137 hn (keyOf_string_mk Tryz.underlying9 (s:=⟨k.toArray⟩) (by simpa [ByteArray.size] using hk)) (fndR_mk p)
 have hf : MapF w' b (K.length + 1) (keyF K k) (putF f k p):=by
  refine ⟨_,h1',fun x => ?_,fun x q hq z => ?_,fun x => ?_,?_⟩
  ·unfold putF
   by_cases e : x = k
   ·subst e; rw [if_pos rfl]; exact (has_put_same (k:=kLit x) hm0 trivial _).trans rfl
   ·rw [if_neg e]; exact (has_put_other (kLit_ne e) _).trans (h2 x)
  ·unfold putF at hq
   by_cases e : x = k
   ·subst e
    rw [if_pos rfl] at hq;injection hq with hq;rw [← hq]; exact atKey_put_same (k:=kLit x) hm0 trivial _ _
   ·rw [if_neg e] at hq
    exact (atKey_put_other (kLit_ne e) _ _).trans (h3 x q hq z)
  ·unfold putF keyF
   by_cases hq : k ∈ K
   ·rw [if_pos hq]
    by_cases e : x = k
    ·subst e; rw [if_pos rfl]; exact ⟨fun _ => rfl,fun _ => hq⟩
    ·rw [if_neg e]; exact h4 x
   ·rw [if_neg hq,List.mem_append,List.mem_singleton]
    by_cases e : x = k
    ·subst e; rw [if_pos rfl]; exact ⟨fun _ => rfl,fun _ => .inr rfl⟩
    ·rw [if_neg e]; exact ⟨fun g => (h4 x).1 (g.resolve_right e),fun g => .inl ((h4 x).2 g)⟩
  ·unfold keyF
   by_cases hq : k ∈ K
   ·rw [if_pos hq]; exact h5
   ·rw [if_neg hq,List.nodup_append]
    exact ⟨h5,by simp,fun z hz y hy => by simp at hy; subst hy; rintro rfl; exact hq hz⟩
 unfold Oper.wp execOp
 rcases hop with ho | ho <;> simp [ho,hm,hx,hv,hrun,Result.andThen] <;> exact hK w' hf.tight hg'
end Go.Proofs.YtjggbpchmbdocaaGreatDoor
/- Plain: what is behind a door is a good stand; best ways are short; a block that is new may change. -/
namespace Go.Proofs.YtjggbpchmbdocaaGreatDoor
open Go.RowKit

theorem visN_max (rooms : List (List UInt8)) (room : List UInt8) (k : Nat) : visN rooms room k ≤ max k rooms.length:=by
 by_cases h : k ≤ rooms.length
 ·exact Nat.le_trans (visN_le h) (Nat.le_max_right _ _)
 ·rw [visN_stop (fun hk => absurd hk (by omega))]; exact Nat.le_max_left _ _
theorem grown_bel {Z W W' : World} {row : Option Nat} (h : Z.grownBy W row) (h2 : Below W.heap.size W W') : Z.grownBy W' row:=grown_trans' h (grown_of_below h2 row)
section
variable {rs : List RoomE} {ds : List DoorE} {T : List (List UInt8)} {tr rooms : List (List UInt8)} {st gl : List UInt8} {x y z s0 : StE} {ef : StE → Bool} {k : Nat}
theorem nx_good (hR : Right rs ds st gl) (hTd : onceT (allT rs ds) = T) (hrl : rooms.length ≤ 5) (hx : GoodX rs T x) (hm : (k,y) ∈ nxX rs T ds tr [] (sfR rs rooms) x) : GoodX rs T y:=by
 have hT : T.Pairwise (· < ·):=by rw [← hTd]; exact (onceT_spec _).1
 obtain ⟨room,th,h1,h2,h3,_,h5⟩:=ptX_good hT hx;rw [h3] at hm;obtain ⟨hk,_,rfl⟩:=(nxR_iff (st:=st) (gl:=gl) hR hTd h1).1 hm;have hd:=hR.dst _ (List.getElem_mem hk)
 have ht : ThOk T (thru rs th ds[k]):=by
  have:=thru_ok (rs:=rs) (ds:=ds) ds[k] (by rw [hTd]; exact h2)
  rwa [hTd] at this
 rw [sfR_st hd];refine stY_good hd ht ?_;have:=visN_max rooms ds[k].dst x.s;omega
theorem reach_good (hR : Right rs ds st gl) (hTd : onceT (allT rs ds) = T) (hrl : rooms.length ≤ 5) (h0 : GoodX rs T s0) (h : ReachX (nxX rs T ds tr [] (sfR rs rooms)) ef s0 x) : GoodX rs T x:=by
 induction h with
 | refl => exact h0
 | step _ _ hm ih => exact nx_good hR hTd hrl ih hm
def allX (rs : List RoomE) (T : List (List UInt8)) : List StE:=(List.range rs.length).flatMap fun r => (List.range (2 ^ T.length)).flatMap fun b => (List.range 6).map fun s => ⟨r,b,s⟩
theorem allX_mem (h : GoodX rs T x) : x ∈ allX rs T:=by
 obtain ⟨h1,h2,h3⟩:=h.lt;refine List.mem_flatMap.2 ⟨x.r,List.mem_range.2 h1,List.mem_flatMap.2 ⟨x.b,List.mem_range.2 h2,List.mem_map.2 ⟨x.s,List.mem_range.2 h3,rfl⟩⟩⟩
theorem best_few (hR : Right rs ds st gl) (hTd : onceT (allT rs ds) = T) (hrl : rooms.length ≤ 5) (h0 : GoodX rs T s0) : ∃ N,∀ x a,BestF (nxX rs T ds tr [] (sfR rs rooms)) ef (tmX ds) s0 x a → a.2.length ≤ N :=
 best_bound (sts:=allX rs T) (fun _ hx => allX_mem (reach_good hR hTd hrl h0 hx))
theorem names_ok {nx : StE → List (Nat × StE)} {tm : Nat → Int} {W : World} {mb : Nat} {K : List (List UInt8)} {f : List UInt8 → Option FndC} {M : FoundM} (h : SpS nx ef tm s0 rs ds T W mb K f M) {l : List (List UInt8)} (hl : ∀ x,x ∈ l ↔ (f x).isSome = true) : (∀ k ∈ onceT l,∃ x a,M x = some a ∧ k = nameX rs T x) ∧ ∀ x a,M x = some a → nameX rs T x ∈ onceT l:=by
 refine ⟨fun k hk => ?_,fun x a hx => ?_⟩
 ·exact h.fi.only k ((hl k).1 (((onceT_spec l).2 k).1 hk))
 ·obtain ⟨p,h1,_⟩:=h.fi.there x a hx
  exact ((onceT_spec l).2 _).2 ((hl _).2 (by rw [h1]; rfl))
end
def NotC (W : World) (b : Nat) : Prop:=∀ c t z,W.heap[b]? ≠ some (.cells c t z)
theorem cell_offc {W : World} {b off mb : Nat} {u : Value} (h : W.cell? ⟨b,off,none⟩ = some u) (hm : NotC W mb) : b ≠ mb:=by
 rintro rfl;unfold World.cell? at h
 cases hb : W.heap[b]? with
 | none => simp [hb] at h
 | some o =>
  cases o with
  | cells c t z => exact hm c t z hb
  | _ => simp [hb] at h
theorem Row.offc {W W' : World} {lo size n mb : Nat} {A : Option Addr} {xs : List Value} (h : Row W lo size A n xs) (hs : 0 < size) (hm : NotC W mb) (hg : W.grownBy W' (some mb)) : Row W' lo size A n xs :=
 ⟨h.1,fun hn => by
  obtain ⟨b,off,e,h1,h2,h3⟩:=h.2 hn
  have hl : 0 < xs.length:=by rw [h.1]; exact Nat.mul_pos hn hs
  have hne : b ≠ mb:=cell_offc (h3 0 xs[0] (List.getElem?_eq_getElem hl)) hm
  exact ⟨b,off,e,h1,Nat.lt_of_lt_of_le h2 hg.size,fun j u hu => (World.cell?_of_block (w:=W) (hg.block b h2 (fun e2 => hne (by injection e2)))).trans (h3 j u hu)⟩⟩
theorem FndI.offc {W W' : World} {lo mb : Nat} {rs : List RoomE} {ds : List DoorE} {T : List (List UInt8)} {f : List UInt8 → Option FndC} {M : FoundM} (h : FndI W lo rs ds T f M) (hm : NotC W mb) (hg : W.grownBy W' (some mb)) : FndI W' lo rs ds T f M :=
 ⟨h.good,fun x a hx => let ⟨p,h1,h2⟩:=h.there x a hx; ⟨p,h1,{ h2 with things:=h2.things.offc (by decide) hm hg,doors:=h2.doors.offc (by decide) hm hg }⟩,h.only⟩
theorem SpS.offc {nx : StE → List (Nat × StE)} {ef : StE → Bool} {tm : Nat → Int} {s0 : StE} {rs : List RoomE} {ds : List DoorE} {T : List (List UInt8)} {W W' : World} {mb ib : Nat} {K : List (List UInt8)} {f : FndF} {M : FoundM} (h : SpS nx ef tm s0 rs ds T W mb K f M) (hm : NotC W ib) (hne : mb ≠ ib) (hg : W.grownBy W' (some ib)) : SpS nx ef tm s0 rs ds T W' mb K f M :=
 ⟨h.mp.kept hg (fun e => hne (by injection e)),h.fi.offc hm hg,h.sp,h.si⟩
theorem MapFR.notC {w : World} {b r n cnt : Nat} {f : FndF} {left : List UInt8 → Bool} (h : MapFR w b r n f left cnt) : NotC w r:=by
 obtain ⟨D,l,a,c⟩:=h;obtain ⟨es,clock,_,_,_,hb,_,_,_,hr,_⟩:=a;intro c t z e;rw [hr] at e
 cases e
structure RdH (nx : StE → List (Nat × StE)) (ef : StE → Bool) (tm : Nat → Int) (s0 : StE) (M M' : FoundM) (dn : StE → Prop) (N r : Nat) (ag : Bool) : Prop where
  rd : RndI nx ef tm s0 M M' dn
  same : ag = false → M' = M
  still : N ≤ r → ag = false
theorem RdH.start {nx : StE → List (Nat × StE)} {ef : StE → Bool} {tm : Nat → Int} {s0 : StE} {M : FoundM} {dn : StE → Prop} {N r : Nat} (h : SpW nx ef tm s0 M) (hd : ∀ z,¬ dn z) : RdH nx ef tm s0 M M dn N r false :=
 ⟨⟨h,leM_refl M,fun x _ hx => absurd hx (hd x)⟩,fun _ => rfl,fun _ => rfl⟩
def DnX (rs : List RoomE) (T : List (List UInt8)) (Ns : List (List UInt8)) (M : FoundM) (j : Nat) (z : StE) : Prop:=(M z).isSome = true ∧ nameX rs T z ∈ Ns.take j
structure DrH (nx : StE → List (Nat × StE)) (ef : StE → Bool) (tm : Nat → Int) (s0 : StE) (M M' : FoundM) (dn : StE → Prop) (x : StE) (a : PwE) (i : Nat) (N r : Nat) (ag : Bool) : Prop where
  dr : DrI nx ef tm s0 M M' dn x a i
  sim : SimT nx ef tm s0 M' x a
  same : ag = false → M' = M
  still : N ≤ r → ag = false
theorem Row.newer {W : World} {lo size n : Nat} {A : Option Addr} {xs : List Value} (h : Row W lo size A n xs) {g : Nat} (hg : W.heap.size ≤ g) : 0 < n → ∀ a,A = some a → a.block ≠ g:=fun hn a ha => by
 obtain ⟨b,off,e,_,h2,_⟩:=h.2 hn;rw [e] at ha;injection ha with ha;subst ha;show b ≠ g;omega
theorem Row.elder {W : World} {lo size n : Nat} {A : Option Addr} {xs : List Value} (h : Row W lo size A n xs) {g : Nat} (hg : g < lo) : 0 < n → ∀ a,A = some a → a.block ≠ g:=fun hn a ha => by
 obtain ⟨b,off,e,h1,_,_⟩:=h.2 hn;rw [e] at ha;injection ha with ha;subst ha;show b ≠ g;omega
theorem Row.setQ {W : World} {lo size n : Nat} {A : Option Addr} {xs : List Value} (h : Row W lo size A n xs) {g : Nat} (hne : 0 < n → ∀ a,A = some a → a.block ≠ g) (i : Nat) (u : Value) : Row (W.setCell ⟨g,i,none⟩ u) lo size A n xs :=
 ⟨h.1,fun hn => by
  obtain ⟨b,off,e,h1,h2,h3⟩:=h.2 hn;have hb : b ≠ g:=hne hn _ e
  exact ⟨b,off,e,h1,by rw [World.size_setCell]; exact h2,fun j v hv => (World.cell?_of_block (w:=W) (Below.heap_setCell W ⟨g,i,none⟩ u b hb)).trans (h3 j v hv)⟩⟩
end Go.Proofs.YtjggbpchmbdocaaGreatDoor
/- The walks of the reference's bestOf, of goals, and of FromOf. -/
namespace Go.Proofs.YtjggbpchmbdocaaGreatDoor
open Go.RowKit Go.Sort Go.Maps Go.WideMaps

structure BsL (rs : List RoomE) (T : List (List UInt8)) (M : FoundM) (gf : StE → Bool) (left : List UInt8 → Bool) (is : Bool) (b : PwE) : Prop where
  no : is = false → b = (0, []) ∧ ∀ y c, M y = some c → left (nameX rs T y) = false → gf y = false
  yes : is = true → (∃ x, M x = some b ∧ gf x = true) ∧ ∀ y c, M y = some c → left (nameX rs T y) = false → gf y = true → leP b c
structure BsOk (M : FoundM) (gf : StE → Bool) (is : Bool) (b : PwE) : Prop where
  no : is = false → b = (0, []) ∧ ∀ y c, M y = some c → gf y = false
  yes : is = true → (∃ x, M x = some b ∧ gf x = true) ∧ ∀ y c, M y = some c → gf y = true → leP b c
section
variable {rs : List RoomE} {T : List (List UInt8)} {M : FoundM} {gf : StE → Bool} {left : List UInt8 → Bool} {is : Bool} {b a : PwE} {x : StE}
theorem BsL.done (h : BsL rs T M gf left is b) (hl : ∀ k,left k = false) : BsOk M gf is b :=
 ⟨fun hi => ⟨(h.no hi).1,fun y c hy => (h.no hi).2 y c hy (hl _)⟩,fun hi => ⟨(h.yes hi).1,fun y c hy hg => (h.yes hi).2 y c hy (hl _) hg⟩⟩
theorem BsL.skip (h : BsL rs T M gf left is b) (hn : ∀ y c,M y = some c → nameX rs T y = nameX rs T x → y = x) (hx : gf x = false) : BsL rs T M gf (fun k => left k && !decide (k = nameX rs T x)) is b:=by
 have key : ∀ y c,M y = some c → (left (nameX rs T y) && !decide (nameX rs T y = nameX rs T x)) = false → left (nameX rs T y) = false ∨ y = x:=fun y c hy hl => by
  by_cases e : nameX rs T y = nameX rs T x
  ·exact .inr (hn y c hy e)
  ·rw [decide_eq_false e] at hl; exact .inl (by simpa using hl)
 refine ⟨fun hi => ⟨(h.no hi).1,fun y c hy hl => ?_⟩,fun hi => ⟨(h.yes hi).1,fun y c hy hl hg => ?_⟩⟩
 ·rcases key y c hy hl with h1 | rfl
  ·exact (h.no hi).2 y c hy h1
  ·exact hx
 ·rcases key y c hy hl with h1 | rfl
  ·exact (h.yes hi).2 y c hy h1 hg
  ·rw [hx] at hg; cases hg
theorem BsL.put (h : BsL rs T M gf left is b) (hn : ∀ y c,M y = some c → nameX rs T y = nameX rs T x → y = x) (hx : gf x = true) (ha : M x = some a) (hb : is = true → ltP a b) : BsL rs T M gf (fun k => left k && !decide (k = nameX rs T x)) true a:=by
 refine ⟨fun hi => (by cases hi),fun _ => ⟨⟨x,ha,hx⟩,fun y c hy hl hg => ?_⟩⟩
 by_cases e : nameX rs T y = nameX rs T x
 ·obtain rfl:=hn y c hy e
  rw [ha] at hy; injection hy with hy; rw [hy]; exact leP_refl _
 ·rw [decide_eq_false e] at hl
  have hl' : left (nameX rs T y) = false:=by simpa using hl
  cases is with
  | false => have:=(h.no rfl).2 y c hy hl'; rw [this] at hg; cases hg
  | true => exact leP_trans (leP_of_lt (hb rfl)) ((h.yes rfl).2 y c hy hl' hg)
theorem BsL.keep (h : BsL rs T M gf left true b) (hn : ∀ y c,M y = some c → nameX rs T y = nameX rs T x → y = x) (ha : M x = some a) (hb : ¬ ltP a b) : BsL rs T M gf (fun k => left k && !decide (k = nameX rs T x)) true b:=by
 refine ⟨fun hi => (by cases hi),fun _ => ⟨(h.yes rfl).1,fun y c hy hl hg => ?_⟩⟩
 by_cases e : nameX rs T y = nameX rs T x
 ·obtain rfl:=hn y c hy e
  rw [ha] at hy; injection hy with hy; rw [← hy]; exact hb
 ·rw [decide_eq_false e] at hl
  exact (h.yes rfl).2 y c hy (by simpa using hl) hg
end
theorem Row.strOff {W : World} {lo n g m c : Nat} {A B : Option Addr} {t : TypeId} {kk : IntKind} {z : Int} {l : List (List UInt8)} (h : Row W lo 1 A n (strs l)) (hb : Blk W g t #[.slice B m c,.int kk z]) (i : Nat) (u : Value) : Row (W.setCell ⟨g,i,none⟩ u) lo 1 A n (strs l) :=
 h.setQ (fun hn a ha => by
  obtain ⟨b,off,e,_,_,h3⟩:=h.2 hn;rw [e] at ha;injection ha with ha;subst ha;show b ≠ g;rintro rfl
  have hl : 0 < (strs l).length:=by rw [h.1]; omega
  have h4:=h3 0 (strs l)[0] (List.getElem?_eq_getElem hl);rw [hb.cell] at h4
  have h5 : ∃ s,(strs l)[0] = encStr s:=by
   unfold strs;exact ⟨_,List.getElem_map ..⟩
  obtain ⟨s,h5⟩:=h5;rw [h5] at h4;unfold encStr at h4
  have h6 : off + 0 = 0 ∨ off + 0 = 1 ∨ 2 ≤ off + 0:=by omega
  rcases h6 with h6 | h6 | h6
  ·rw [h6] at h4; simp at h4
  ·rw [h6] at h4; simp at h4
  ·rw [Array.getElem?_eq_none (by simpa using h6)] at h4; cases h4) i u
theorem res_bst (tmps : Array Value) (w : World) (g : Nat) (a b v : Value) (B : Option Addr) (n c : Nat) (z : Int) (ha : a = .slice B n c) (hb : b = .int .i64 z) (hx : tmps.getD 4 undef = .pointer (some ⟨g,0,none⟩)) (hv : tmps.getD 5 undef = v) (f0 : w.cell? ⟨g,0,none⟩ = some a) (f1 : w.cell? ⟨g,1,none⟩ = some b) :
  (results Tryz.f77 tmps).run Tryz.prog w = .ok (.tuple #[.agg #[a,b],v]) w:=by
 have e : Tryz.f77.results = #[.cell 4 40,.tmp 5]:=by kernel_rfl
 have hx' : tmps[4]?.getD undef = .pointer (some ⟨g,0,none⟩):=by simpa using hx
 have hv' : tmps[5]?.getD undef = v:=by simpa using hv
 subst ha hb
 simp [results,e,hx',hv',go_sem,f0,f1]
def BsPost (ds : List DoorE) (M : FoundM) (gf : StE → Bool) (w : World) (e : Ending) (w' : World) : Prop :=
 ∃ (is : Bool) (b : PwE) (BA : Option Addr) (bc : Nat),e = .returned (.tuple #[.agg #[.slice BA b.2.length bc,.int .i64 b.1],.bool is]) ∧ Row w' 0 1 BA b.2.length (strs (b.2.map (keyX ds))) ∧ BsOk M gf is b ∧ Below w.heap.size w w'
set_option maxHeartbeats 8000000 in
set_option maxRecDepth 100000 in
theorem bestOf_any (mb : Nat) (K : List (List UInt8)) (f : FndF) (M : FoundM) (nx : StE → List (Nat × StE)) (ef : StE → Bool) (tm : Nat → Int) (s0 : StE) (rs : List RoomE) (ds : List DoorE) (T : List (List UInt8)) (fid : FuncId) (pre post : Array Value) (gf : StE → Bool) (w : World)
  (hS : SpS nx ef tm s0 rs ds T w mb K f M) (hn : NmOk rs T) (hef : EndsF w fid pre post gf rs T) (hu : UpS (ds.map DoorE.key)) (hd : ∀ x p,p ∈ nx x → p.1 < ds.length) (hl : nS rs T ≤ 614400) :
  Calls Tryz.prog 77 #[.map (some mb),.func (.func fid) pre post] w (BsPost ds M gf w):=by
 have HS:=Lib.hid (fun W (h : Below w.heap.size w W) => hS.below h);have HN:=Lib.hid (fun x (hx : GoodX rs T x) y c (hy : M y = some c) (e : nameX rs T y = nameX rs T x) => hn.inj y x (hS.fi.good y c hy) hx e);have HNL:=Lib.hid hn.len;have HEF:=Lib.hid hef;have HU:=Lib.hid hu;have HA : Hid (∀ x a,M x = some a → a.2.length ≤ 614400 ∧ ∀ k ∈ a.2,k < ds.length):=Lib.hid (fun x a h => ⟨Nat.le_trans (hS.short (hS.si x a h)) hl,(hS.sp.way x a h).door hd⟩);have hml:=hS.mp.lt;clear hn hef hu hd hS
 obtain ⟨post',hpost⟩ : ∃ q,q = BsPost ds M gf w:=⟨_,rfl⟩
 rw [← hpost];have HPO:=Lib.hid hpost;clear hpost
 have hb0 : Below w.heap.size w ((w.alloc (.cells #[.slice none 0 0,.int .i64 0] 40)).alloc (.cells #[.slice none 0 0,.int .i64 0] 40)):=(by repeat (first | exact Below.refl _ _ | refine Below.alloc ?_ (by first | omega | (simp; omega) | simp) _ | refine below_drewN' ?_ _ | refine Below.drew ?_))
 have hrb : Blk ((w.alloc (.cells #[.slice none 0 0,.int .i64 0] 40)).alloc (.cells #[.slice none 0 0,.int .i64 0] 40)) w.heap.size 40 #[.slice none 0 0,.int .i64 0]:=(Blk.new _ _ _).alloc _;have hbb : Blk ((w.alloc (.cells #[.slice none 0 0,.int .i64 0] 40)).alloc (.cells #[.slice none 0 0,.int .i64 0] 40)) (w.heap.size + 1) 40 #[.slice none 0 0,.int .i64 0]:=Blk.at_ _ (by simp)
 go_enter Tryz.func77,Tryz.ntmps77
 go_upto_region 3 with (fail);generalize (w.alloc (.cells #[.slice none 0 0,.int .i64 0] 40)).alloc (.cells #[.slice none 0 0,.int .i64 0] 40) = W1 at *;have hM:=(HS.out _ hb0).mp;have hib0:=hbb.lt
 go_wp2_with (first
  | (at_range; refine wpList_rangeF rfl _ rfl rfl hM ?_; intro W5 left0 cnt0 hrg0 hl0 hg0 hs0)
  | fail)
 go_frame
 have hb5 : Below W1.heap.size W1 W5:=(Below.refl _ _).grown hg0 (Nat.le_refl _) (fun q hq => by cases hq);replace hrb:=hrb.below hb5;replace hbb:=hbb.below hb5;replace hb0:=below_up hb0 hb5;have hib : w.heap.size + 1 < W1.heap.size:=hib0
 have HL0 : Hid (BsL rs T M gf left0 false (0,[]) ∧ ∀ k,left0 k = true → (f k).isSome = true):=Lib.hid ⟨⟨fun _ => ⟨rfl,fun y c hy hl => by
  obtain ⟨p,hp,_⟩:=(HS.out _ hb0).fi.there y c hy
  rw [hl0,hp] at hl; cases hl⟩,fun h => (by cases h)⟩,fun k h => by rw [hl0] at h; exact h⟩
 clear hM hg0 hl0 hs0 hb5;generalize W1.heap.size = ib at *
 go_loopw [7] (fun v wq => ∃ (left : List UInt8 → Bool) (cnt : Nat) (is : Bool) (b : PwE) (BA : Option Addr) (bc : Nat),MapFR wq mb ib K.length f left cnt ∧ v = .bool is ∧ Blk wq w.heap.size 40 #[.slice none 0 0,.int .i64 0] ∧ Blk wq (w.heap.size + 1) 40 #[.slice BA b.2.length bc,.int .i64 b.1] ∧ Row wq 0 1 BA b.2.length (strs (b.2.map (keyX ds))) ∧ Hid (BsL rs T M gf left is b ∧ (∀ k,left k = true → (f k).isSome = true)) ∧ Hid (b.2.length ≤ 614400 ∧ ∀ k ∈ b.2,k < ds.length) ∧ Below w.heap.size w wq) (fun _ wq => wq.rangeLeft mb ib)
 case atStart => exact ⟨left0,cnt0,false,(0,[]),none,0,hrg0,rfl,hrb,hbb,Row.none_ _ _ _ _,HL0,Lib.hid ⟨by simp,fun k h => (by cases h)⟩,hb0⟩
 case round =>
  clear hrg0 hrb hbb HL0 hb0;obtain ⟨left,cnt,is,b,BA,bc,hrg,rfl,hrb,hbb,hrow,HL,HB,hbl⟩:=hrel;have HLE:=Lib.hid hrg.left_eq
  go_wp2_with (first
   | (at_next; refine wpList_nextF rfl _ rfl rfl hrg HL.out.2 ?_ ?_)
   | fail)
  ·intro hl0
   have HOK:=Lib.hid (HL.out.1.done hl0)
   have hbne : w.heap.size + 1 ≠ w.heap.size:=by omega
   obtain ⟨r0,r1⟩:=hrb.w2;obtain ⟨c0,c1⟩:=hbb.w2;have f0:=hrb.thaw 0;have f1:=hrb.thaw 1;have zr:=hrb.lt;have zb:=hbb.lt;have hr3:=(hrb.poke 0 (.slice BA b.2.length bc)).poke 1 (.int .i64 b.1);have hb3:=Below.setCell (Below.setCell hbl (p:=⟨w.heap.size,0,none⟩) (Nat.le_refl _) (.slice BA b.2.length bc)) (p:=⟨w.heap.size,1,none⟩) (Nat.le_refl _) (.int .i64 b.1);have HROW : Hid (Row ((wr.setCell ⟨w.heap.size,0,none⟩ (.slice BA b.2.length bc)).setCell ⟨w.heap.size,1,none⟩ (.int .i64 b.1)) 0 1 BA b.2.length (strs (b.2.map (keyX ds)))):=Lib.hid (Row.strOff (Row.strOff hrow hrb 0 _) (hrb.poke 0 _) 1 _);clear hl0 hrg hrow hrb hbb HL HLE hbl;go_wp2_with fail;refine bodyPost_ret (res_bst _ _ w.heap.size _ _ _ BA b.2.length bc b.1 rfl rfl rfl rfl (hr3.cell 0) (hr3.cell 1)) rfl ?_;rw [HPO.out];exact ⟨is,b,BA,bc,rfl,HROW.out,HOK.out,hb3⟩
  ·intro k p W7 cnt2 hlx hfx hrg2 hlt hg7 hs7 hen
   obtain ⟨x,a,hxa,hkx⟩:=(HS.out _ hbl).fi.only k (by rw [hfx]; rfl);obtain ⟨p',hp',hpo⟩:=(HS.out _ hbl).fi.there x a hxa
   obtain rfl : p = p':=by rw [hkx,hp'] at hfx; injection hfx with h; exact h.symm
   have hgx:=(HS.out _ hbl).fi.good x a hxa;have HGX:=Lib.hid hgx;have HXA:=Lib.hid hxa;have HNM:=Lib.hid (HN.out x hgx);have hal:=(HA.out x a hxa).1;have HAD:=Lib.hid (HA.out x a hxa).2
   obtain ⟨xr,xth,hxp⟩ : ∃ xr xth,ptX rs T x = (xr,xth):=⟨_,_,rfl⟩
   have HXP:=Lib.hid hxp;rw [hxp] at hpo;obtain ⟨pr,pta,ptn,ptc,pdo,pda,pdn,pdc,ptm⟩:=p;obtain ⟨e1,e2,e3,e4,e5,e6,e7,e8⟩:=hpo;simp only at e1 e2 e3 e4 e5 e6 e7 e8;replace e1:=e1.symm;subst e1 e2 e5 e6 e8;have HLF : Hid (∀ y,(left y && !decide (y = nameX rs T x)) = true → (f y).isSome = true):=Lib.hid (fun y h => HL.out.2 y (by cases e : left y <;> simp [e] at h ⊢));have HLT : Hid (cnt2 < wr.rangeLeft mb ib):=Lib.hid (by rw [HLE.out]; exact hlt);subst hkx;have HR7:=Lib.hid hrg2;have hrb7:=hrb.grown hg7 (by omega);have hbb7:=hbb.grown hg7 (by omega);have hrow7:=hrow.offc (by decide) hrg.notC hg7;have e47:=e4.offc (by decide) hrg.notC hg7;have e77:=e7.offc (by decide) hrg.notC hg7;have hb7:=hbl.grown hg7 hbl.size (fun q hq => by injection hq with hq; omega);clear hrg hfx hp' hlx hlt hg7 hs7 hrb hbb hrow e4 e7 hbl HLE hxa hgx hxp hrg2;go_upto_region 6 with (fail);have hxb : Blk (W7.alloc (.cells #[.string ⟨xr.toArray⟩,.slice pta xth.length ptc,.int .i64 (x.s : Int),.slice pda a.2.length pdc,.int .i64 a.1] 147)) W7.heap.size 147 #[.string ⟨xr.toArray⟩,.slice pta xth.length ptc,.int .i64 (x.s : Int),.slice pda a.2.length pdc,.int .i64 a.1]:=Blk.new _ _ _;have hba : Below W7.heap.size W7 (W7.alloc (.cells #[.string ⟨xr.toArray⟩,.slice pta xth.length ptc,.int .i64 (x.s : Int),.slice pda a.2.length pdc,.int .i64 a.1] 147)):=(Below.refl _ _).alloc (Nat.le_refl _) _;have hrg7:=HR7.out.kept (grown_of_below hba none) (by simp) (by simp);replace hrb7:=hrb7.below hba;replace hbb7:=hbb7.below hba;replace hrow7:=hrow7.below hba;replace e47:=e47.below hba;replace e77:=e77.below hba;replace hb7:=below_up hb7 hba;clear hba hen HR7;generalize W7.alloc (.cells #[.string ⟨xr.toArray⟩,.slice pta xth.length ptc,.int .i64 (x.s : Int),.slice pda a.2.length pdc,.int .i64 a.1] 147) = W8 at *;generalize W7.heap.size = xb at *;have hen:=HEF.out.2 W8 x pta ptc hb7 HGX.out (by rw [HXP.out]; exact e47);rw [HXP.out] at hen
   obtain ⟨gx,hgx⟩ : ∃ gx,gx = gf x:=⟨_,rfl⟩
   rw [← hgx] at hen;have HG:=Lib.hid hgx;clear hgx;obtain ⟨x0,x1,x2,x3,x4⟩:=hxb.w5;obtain ⟨c0,c1⟩:=hbb7.w2;have zx:=hxb.lt;have zb:=hbb7.lt;have hcf:=HEF.out.1;go_wp2_with fail;clear hcf;refine hen.mono ?_;clear hen;rintro e W9 ⟨rfl,hb⟩;replace hrg7:=hrg7.kept (grown_of_below hb none) (by simp) (by simp);replace hrb7:=hrb7.below hb;replace hbb7:=hbb7.below hb;replace hrow7:=hrow7.below hb;replace e77:=e77.below hb;replace hxb:=hxb.below hb;replace hb7:=below_up hb7 hb;clear hb x0 x1 x2 x3 x4 c0 c1 zx zb e47
   cases gx with
   | false =>
    have HL2 : Hid (BsL rs T M gf (fun k => left k && !decide (k = nameX rs T x)) is b):=Lib.hid (HL.out.1.skip HNM.out HG.out.symm);go_wp2_with fail;go_roundw
    case rel => exact ⟨_,cnt2,is,b,BA,bc,hrg7,rfl,hrb7,hbb7,hrow7,Lib.hid ⟨HL2.out,HLF.out⟩,HB,hb7⟩
    case measure => rw [hrg7.left_eq]; exact HLT.out
   | true =>
    cases is with
    | false =>
     have HL2 : Hid (BsL rs T M gf (fun k => left k && !decide (k = nameX rs T x)) true a):=Lib.hid (HL.out.1.put HNM.out HG.out.symm HXA.out (fun h => (by cases h)));obtain ⟨x0,x1,x2,x3,x4⟩:=hxb.w5;obtain ⟨c0,c1⟩:=hbb7.w2;have zx:=hxb.lt;have zb:=hbb7.lt;have f0:=hbb7.thaw 0;have f1:=hbb7.thaw 1;have hbb8:=(hbb7.poke 0 (.slice pda a.2.length pdc)).poke 1 (.int .i64 a.1);have hrb8:=(hrb7.past (w.heap.size + 1) 0 (.slice pda a.2.length pdc) (by omega)).past (w.heap.size + 1) 1 (.int .i64 a.1) (by omega);have e78:=Row.strOff (Row.strOff e77 hbb7 0 (.slice pda a.2.length pdc)) (hbb7.poke 0 (.slice pda a.2.length pdc)) 1 (.int .i64 a.1);have hb8:=Below.setCell (Below.setCell hb7 (p:=⟨w.heap.size + 1,0,none⟩) (Nat.le_succ _) (.slice pda a.2.length pdc)) (p:=⟨w.heap.size + 1,1,none⟩) (Nat.le_succ _) (.int .i64 a.1);have hrg8:=hrg7.kept (grown_set (grown_set (World.grownBy.refl _ (some (w.heap.size + 1))) 0 (.slice pda a.2.length pdc)) 1 (.int .i64 a.1)) (fun e => by injection e with e; omega) (fun e => by injection e with e; omega);clear hrg7 hbb7 hrb7 e77 hb7 hxb hrow7;go_wp2_with fail;go_roundw
     case rel => exact ⟨_,cnt2,true,a,pda,pdc,hrg8,rfl,hrb8,hbb8,e78,Lib.hid ⟨HL2.out,HLF.out⟩,Lib.hid ⟨hal,HAD.out⟩,hb8⟩
     case measure => rw [hrg8.left_eq]; exact HLT.out
    | true =>
     have hkl : (a.2.map (keyX ds)).length = a.2.length:=by simp
     have hkl2 : (b.2.map (keyX ds)).length = b.2.length:=by simp
     have hbl2:=HB.out.1;have hbt:=better_any 0 0 pdc bc pda BA (a.2.map (keyX ds)) (b.2.map (keyX ds)) a.1 b.1 W9 (by rw [hkl]; exact e77) (by rw [hkl2]; exact hrow7) (by omega) (by omega)
     obtain ⟨bv,hbv⟩ : ∃ bv,bv = firstE [cmpI a.1 b.1,cmpI ((a.2.map (keyX ds)).length : Int) ((b.2.map (keyX ds)).length : Int),cmpLS (a.2.map (keyX ds)) (b.2.map (keyX ds))]:=⟨_,rfl⟩
     rw [← hbv] at hbt;have HBV : Hid (bv < 0 ↔ ltP a b):=Lib.hid (by rw [hbv]; exact better_lt HU.out HAD.out HB.out.2);rw [hkl,hkl2] at hbt;obtain ⟨x0,x1,x2,x3,x4⟩:=hxb.w5;obtain ⟨c0,c1⟩:=hbb7.w2;have zx:=hxb.lt;have zb:=hbb7.lt;clear hbv hkl hkl2 hbl2;go_wp2_with fail;refine hbt.mono ?_;clear hbt;rintro e W10 ⟨rfl,hb⟩;replace hrg7:=hrg7.kept (grown_of_below hb none) (by simp) (by simp);replace hrb7:=hrb7.below hb;replace hbb7:=hbb7.below hb;replace hrow7:=hrow7.below hb;replace e77:=e77.below hb;replace hxb:=hxb.below hb;replace hb7:=below_up hb7 hb;clear hb x0 x1 x2 x3 x4 c0 c1 zx zb
     by_cases hb0 : bv < 0
     ·have c1 : decide (bv < 0) = true:=decide_eq_true hb0
      have HL2 : Hid (BsL rs T M gf (fun k => left k && !decide (k = nameX rs T x)) true a):=Lib.hid (HL.out.1.put HNM.out HG.out.symm HXA.out (fun _ => HBV.out.1 hb0));clear hb0;obtain ⟨x0,x1,x2,x3,x4⟩:=hxb.w5;obtain ⟨c0,c1⟩:=hbb7.w2;have zx:=hxb.lt;have zb:=hbb7.lt;have f0:=hbb7.thaw 0;have f1:=hbb7.thaw 1;have hbb8:=(hbb7.poke 0 (.slice pda a.2.length pdc)).poke 1 (.int .i64 a.1);have hrb8:=(hrb7.past (w.heap.size + 1) 0 (.slice pda a.2.length pdc) (by omega)).past (w.heap.size + 1) 1 (.int .i64 a.1) (by omega);have e78:=Row.strOff (Row.strOff e77 hbb7 0 (.slice pda a.2.length pdc)) (hbb7.poke 0 (.slice pda a.2.length pdc)) 1 (.int .i64 a.1);have hb8:=Below.setCell (Below.setCell hb7 (p:=⟨w.heap.size + 1,0,none⟩) (Nat.le_succ _) (.slice pda a.2.length pdc)) (p:=⟨w.heap.size + 1,1,none⟩) (Nat.le_succ _) (.int .i64 a.1);have hrg8:=hrg7.kept (grown_set (grown_set (World.grownBy.refl _ (some (w.heap.size + 1))) 0 (.slice pda a.2.length pdc)) 1 (.int .i64 a.1)) (fun e => by injection e with e; omega) (fun e => by injection e with e; omega);clear hrg7 hbb7 hrb7 e77 hb7 hxb hrow7;go_wp2_with fail;go_roundw
      case rel => exact ⟨_,cnt2,true,a,pda,pdc,hrg8,rfl,hrb8,hbb8,e78,Lib.hid ⟨HL2.out,HLF.out⟩,Lib.hid ⟨hal,HAD.out⟩,hb8⟩
      case measure => rw [hrg8.left_eq]; exact HLT.out
     ·have c1 : decide (bv < 0) = false:=decide_eq_false hb0
      have HL2 : Hid (BsL rs T M gf (fun k => left k && !decide (k = nameX rs T x)) true b):=Lib.hid (HL.out.1.keep HNM.out HXA.out (fun h => hb0 (HBV.out.2 h)));clear hb0;go_wp2_with fail;go_roundw
      case rel => exact ⟨_,cnt2,true,b,BA,bc,hrg7,rfl,hrb7,hbb7,hrow7,Lib.hid ⟨HL2.out,HLF.out⟩,HB,hb7⟩
      case measure => rw [hrg7.left_eq]; exact HLT.out
end Go.Proofs.YtjggbpchmbdocaaGreatDoor
