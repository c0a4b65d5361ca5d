/- Texts of this seat, laid together: SpH TwA TwC TwD TwF. -/
import Derived.Deep.DeepCutAuto
import Derived.Deep.CutRange
import Derived.Test.YtjggbpchmbdocaaGreatDoorBt44
import Derived.Test.YtjggbpchmbdocaaGreatDoorBt43
import Derived.Test.YtjggbpchmbdocaaGreatDoorBt39
import Derived.Test.YtjggbpchmbdocaaGreatDoorBt38
import Derived.Test.YtjggbpchmbdocaaGreatDoorBt41
/- Goals as function values; the walk of the reference's FromOf. -/
set_option linter.unusedVariables false
set_option linter.unusedSimpArgs false
namespace Go.Proofs.YtjggbpchmbdocaaGreatDoor
open Go.RowKit Go.Sort Go.Maps Go.WideMaps

theorem sfR_nil (rs : List RoomE) : sfR rs [] = id:=funext fun x => by unfold sfR; rw [visN_nil]; rfl
theorem stY_zero (rs : List RoomE) (T : List (List UInt8)) (room : List UInt8) (th : List (List UInt8)) : stY rs T room th (visN [] room 0) = stX rs T room th:=by rw [visN_nil]; rfl
structure FrOk (nx : StE → List (Nat × StE)) (ef : StE → Bool) (tm : Nat → Int) (s0 : StE) (is : Bool) (b : PwE) : Prop where
  no : is = false → b = (0, []) ∧ ∀ y a, ef y = true → ¬ WayF nx ef tm s0 y a
  yes : is = true → (∃ y, ef y = true ∧ WayF nx ef tm s0 y b) ∧ ∀ y a, ef y = true → WayF nx ef tm s0 y a → leP b a
section
variable {nx : StE → List (Nat × StE)} {ef : StE → Bool} {tm : Nat → Int} {s0 : StE} {is : Bool} {b : PwE} {M : FoundM}
theorem FrOk.of (h : BsOk M ef is b) (hc : Closed nx ef tm s0 M) : FrOk nx ef tm s0 is b:=by
 refine ⟨fun hi => ⟨(h.no hi).1,fun y a hy hw => ?_⟩,fun hi => ⟨?_,fun y a hy hw => ?_⟩⟩
 ·obtain ⟨c,hc1⟩:=hc.2 y hw.reach
  have:=(h.no hi).2 y c hc1;rw [hy] at this; cases this
 ·obtain ⟨x,h1,h2⟩:=(h.yes hi).1
  exact ⟨x,h2,(hc.1 x b h1).1⟩
 ·obtain ⟨c,hc1⟩:=hc.2 y hw.reach
  exact leP_trans ((h.yes hi).2 y c hc1 hy) ((hc.1 y c hc1).2 a hw)
theorem FrOk.none (h : FrOk nx ef tm s0 is b) : is = false ↔ ∀ t d ks,¬ WayX nx ef tm s0 t d ks:=by
 constructor
 ·intro hi t d ks hw
  obtain ⟨y,hy,hf⟩:=hw.toF (s0:=s0) .nil;exact (h.no hi).2 y _ hy hf
 ·intro hn
  cases is with
  | false => rfl
  | true =>
   obtain ⟨y,hy,hw⟩:=(h.yes rfl).1;exact absurd (hw.toX (.stop hy)) (hn _ _ _)
end
theorem goal_pt {rs : List RoomE} {ds : List DoorE} {T : List (List UInt8)} {st gl : List UInt8} (hR : Right rs ds st gl) (hT : T.Pairwise (· < ·)) {x : StE} (hx : GoodX rs T x) : ((ptX rs T x).1 == gl) = goalX rs gl x:=by
 obtain ⟨room,th,h1,h2,h3,h4,_⟩:=ptX_good hT hx;rw [h4]
 have h5 : goalX rs gl x = goalX rs gl (stX rs T room th):=by rw [h3]; rfl
 rw [h5];have h6:=goalX_room (T:=T) hR h1 (th:=th)
 by_cases e : room = gl
 ·rw [h6.2 e]; simpa using e
 ·rw [beq_eq_false_iff_ne.2 e]
  cases h7 : goalX rs gl (stX rs T room th) with
  | false => rfl
  | true => exact absurd (h6.1 h7) e
set_option maxHeartbeats 1000000 in
theorem fromC_any (g n c : Nat) (k : Int) (A : Option Addr) (room gl : List UInt8) (w : World) (hg : w.cell? ⟨g,3,none⟩ = some (.string ⟨gl.toArray⟩)) :
  Calls Tryz.prog 76 #[.agg #[.string ⟨room.toArray⟩,.slice A n c,.int .i64 k],.pointer (some ⟨g,0,none⟩)] w fun e w' => e = .returned (.bool (room == gl)) ∧ Below w.heap.size w w':=by
 have hz:=World.block_lt_of_cell? w _ hg
 have hb : Below w.heap.size w (w.alloc (.cells #[.string ⟨room.toArray⟩,.slice A n c,.int .i64 k] 124)):=(by repeat (first | exact Below.refl _ _ | refine Below.alloc ?_ (by first | omega | (simp; omega) | simp) _ | refine below_drewN' ?_ _ | refine Below.drew ?_))
 go_enter Tryz.func76,Tryz.ntmps76
 go_wp2_with fail;go_ret;exact ⟨rfl,hb⟩
theorem from_ends {rs : List RoomE} {ds : List DoorE} {T : List (List UInt8)} {st gl : List UInt8} (hR : Right rs ds st gl) (hT : T.Pairwise (· < ·)) {w : World} {g : Nat} (hg : w.cell? ⟨g,3,none⟩ = some (.string ⟨gl.toArray⟩)) : EndsF w 76 #[] #[.pointer (some ⟨g,0,none⟩)] (goalX rs gl) rs T :=
 ⟨enters_of Tryz.func76 (by kernel_rfl) rfl,fun W x A c hb hx _ => by
  have h:=fromC_any g (ptX rs T x).2.length c (x.s : Int) A (ptX rs T x).1 gl W ((hb.cell (p:=⟨g,3,none⟩) (World.block_lt_of_cell? w _ hg)).trans hg);rw [goal_pt hR hT hx] at h
  simpa using h⟩
theorem res_frm (tmps : Array Value) (w : World) (g : Nat) (a b v : Value) (B : Option Addr) (n c : Nat) (z : Int) (ha : a = .slice B n c) (hb : b = .int .i64 z) (hx : tmps.getD 6 undef = .pointer (some ⟨g,0,none⟩)) (hv : tmps.getD 7 undef = v) (f0 : w.cell? ⟨g,0,none⟩ = some a) (f1 : w.cell? ⟨g,1,none⟩ = some b) :
  (results Tryz.f24 tmps).run Tryz.prog w = .ok (.tuple #[.agg #[a,b],v]) w:=by
 have e : Tryz.f24.results = #[.cell 6 40,.tmp 7]:=by kernel_rfl
 have hx' : tmps[6]?.getD undef = .pointer (some ⟨g,0,none⟩):=by simpa using hx
 have hv' : tmps[7]?.getD undef = v:=by simpa using hv
 subst ha hb
 simp [results,e,hx',hv',go_sem,f0,f1]
def FrcPost (rs : List RoomE) (ds : List DoorE) (T tr : List (List UInt8)) (gl : List UInt8) (s0 : StE) (w : World) (e : Ending) (w' : World) : Prop :=
 ∃ (is : Bool) (b : PwE) (BA : Option Addr) (bc : Nat),e = .returned (.tuple #[.agg #[.slice BA b.2.length bc,.int .i64 b.1],.bool is]) ∧ Row w' 0 1 BA b.2.length (strs (b.2.map (keyX ds))) ∧ FrOk (nxX rs T ds tr [] id) (goalX rs gl) (tmX ds) s0 is b ∧ b.2.length ≤ nS rs T ∧ Below w.heap.size w w'
set_option maxHeartbeats 4000000 in
set_option maxRecDepth 100000 in
theorem fromOfC_any (lo ca cd lo2 c2 lo4 pc : Nat) (A : Option Addr) (rs : List RoomE) (D : Option Addr) (ds : List DoorE) (st gl : List UInt8) (TR : Option Addr) (tr : List (List UInt8)) (room : List UInt8) (PA : Option Addr) (th : List (List UInt8)) (T : List (List UInt8)) (w : World)
  (hA : MapW w lo A rs D ds) (hm : mapE rs ds st gl = 0) (hTd : onceT (allT rs ds) = T) (htr : Row w lo2 1 TR tr.length (strs tr)) (htl : tr.length ≤ 1000000) (hp : Row w lo4 1 PA th.length (strs th)) (hpc : th.length ≤ pc) (hro : room ∈ rs.map RoomE.key) (hth : ThOk T th) :
  Calls Tryz.prog 24 #[.agg #[.slice A rs.length ca,.slice D ds.length cd,.string ⟨st.toArray⟩,.string ⟨gl.toArray⟩],.slice TR tr.length c2,.agg #[.string ⟨room.toArray⟩,.slice PA th.length pc]] w (FrcPost rs ds T tr gl (stX rs T room th) w):=by
 have hb0 : Below w.heap.size w (((w.alloc (.cells #[.slice A rs.length ca,.slice D ds.length cd,.string ⟨st.toArray⟩,.string ⟨gl.toArray⟩] 29)).alloc (.cells #[.string ⟨room.toArray⟩,.slice PA th.length pc] 35)).alloc (.cells #[.slice none 0 0,.int .i64 0] 40)):=(by repeat (first | exact Below.refl _ _ | refine Below.alloc ?_ (by first | omega | (simp; omega) | simp) _ | refine below_drewN' ?_ _ | refine Below.drew ?_))
 have hmb : Blk (((w.alloc (.cells #[.slice A rs.length ca,.slice D ds.length cd,.string ⟨st.toArray⟩,.string ⟨gl.toArray⟩] 29)).alloc (.cells #[.string ⟨room.toArray⟩,.slice PA th.length pc] 35)).alloc (.cells #[.slice none 0 0,.int .i64 0] 40)) w.heap.size 29 #[.slice A rs.length ca,.slice D ds.length cd,.string ⟨st.toArray⟩,.string ⟨gl.toArray⟩]:=((Blk.new _ _ _).alloc _).alloc _;have hpb : Blk (((w.alloc (.cells #[.slice A rs.length ca,.slice D ds.length cd,.string ⟨st.toArray⟩,.string ⟨gl.toArray⟩] 29)).alloc (.cells #[.string ⟨room.toArray⟩,.slice PA th.length pc] 35)).alloc (.cells #[.slice none 0 0,.int .i64 0] 40)) (w.heap.size + 1) 35 #[.string ⟨room.toArray⟩,.slice PA th.length pc]:=(Blk.at_ _ (by simp)).alloc _;have hrb : Blk (((w.alloc (.cells #[.slice A rs.length ca,.slice D ds.length cd,.string ⟨st.toArray⟩,.string ⟨gl.toArray⟩] 29)).alloc (.cells #[.string ⟨room.toArray⟩,.slice PA th.length pc] 35)).alloc (.cells #[.slice none 0 0,.int .i64 0] 40)) (w.heap.size + 2) 40 #[.slice none 0 0,.int .i64 0]:=Blk.at_ _ (by simp);have HR : Hid (Right rs ds st gl):=Lib.hid (right_of hm);have HNM : Hid (NmOk rs T):=Lib.hid (NmOk.right hm hTd);have HNF : Hid (nS rs T ≤ 614400):=Lib.hid (nS_le HR.out hTd);have HTP : Hid (T.Pairwise (· < ·)):=Lib.hid (by rw [← hTd]; exact (onceT_spec _).1);have HS : Hid (∀ W,Below w.heap.size w W → MapW W lo A rs D ds ∧ Row W lo2 1 TR tr.length (strs tr) ∧ Row W lo4 1 PA th.length (strs th)):=Lib.hid (fun W h => ⟨hA.below h,htr.below h,hp.below h⟩);have HM:=Lib.hid (And.intro hm hTd);have HQ:=Lib.hid (And.intro hro hth)
 obtain ⟨post',hpost⟩ : ∃ q,q = FrcPost rs ds T tr gl (stX rs T room th) w:=⟨_,rfl⟩
 rw [← hpost];have HPO:=Lib.hid hpost;clear hA hm hTd htr hp hro hth hpost
 go_enter Tryz.func24,Tryz.ntmps24
 go_upto_region 1 with (fail);generalize ((w.alloc (.cells #[.slice A rs.length ca,.slice D ds.length cd,.string ⟨st.toArray⟩,.string ⟨gl.toArray⟩] 29)).alloc (.cells #[.string ⟨room.toArray⟩,.slice PA th.length pc] 35)).alloc (.cells #[.slice none 0 0,.int .i64 0] 40) = W1 at *;have hso:=spreadOut_any lo ca cd lo2 c2 0 0 lo4 pc A rs D ds st gl TR tr none [] room PA th T 76 #[] #[.pointer (some ⟨w.heap.size,0,none⟩)] (goalX rs gl) W1 (HS.out _ hb0).1 HM.out.1 HM.out.2 (HS.out _ hb0).2.1 htl (Row.none_ _ _ _ _) (by simp) (HS.out _ hb0).2.2 hpc HQ.out.1 HQ.out.2 (from_ends HR.out HTP.out (hmb.cell 3));rw [stY_zero,sfR_nil] at hso;simp only [List.length_nil] at hso;obtain ⟨m0,m1,m2,m3⟩:=hmb.fourR;obtain ⟨p0,p1⟩:=hpb.w2;have zm:=hmb.lt;have zp:=hpb.lt;go_wp2_with fail;refine hso.mono ?_;clear hso;rintro e W2 ⟨mb,K,f,M,rfl,hS,hcl,hmz,hb⟩;replace hmb:=hmb.below hb;replace hrb:=hrb.below hb;replace hb0:=below_up hb0 hb;clear m0 m1 m2 m3 p0 p1 zm zp hb hpb;have HCL:=Lib.hid hcl;have hbo:=bestOf_any mb K f M (nxX rs T ds tr [] id) (goalX rs gl) (tmX ds) (stX rs T room th) rs ds T 76 #[] #[.pointer (some ⟨w.heap.size,0,none⟩)] (goalX rs gl) W2 hS HNM.out (from_ends HR.out HTP.out (hmb.cell 3)) HR.out.dup (fun x p h => (nxX_mem h).1) HNF.out;have HSH : Hid (∀ x a,M x = some a → a.2.length ≤ nS rs T):=Lib.hid (fun x a h => hS.short (hS.si x a h));clear hcl hS;go_wp2_with fail;refine hbo.mono ?_;clear hbo;rintro e W3 ⟨is,b,BA,bc,rfl,hrow,hok,hb⟩;replace hrb:=hrb.below hb;replace hb0:=below_up hb0 hb
 have HLB : Hid (b.2.length ≤ nS rs T):=Lib.hid (by
  cases hi : is with
  | false => rw [(hok.no hi).1]; exact Nat.zero_le _
  | true => obtain ⟨x,h1,_⟩:=(hok.yes hi).1; exact HSH.out x b h1)
 have HOK:=Lib.hid (FrOk.of hok HCL.out);clear hb hok hmb hmz;obtain ⟨r0,r1⟩:=hrb.w2;have f0:=hrb.thaw 0;have f1:=hrb.thaw 1;have zr:=hrb.lt;have hr3:=(hrb.poke 0 (.slice BA b.2.length bc)).poke 1 (.int .i64 b.1);have hb3:=Below.setCell (Below.setCell hb0 (p:=⟨w.heap.size + 2,0,none⟩) (by simp) (.slice BA b.2.length bc)) (p:=⟨w.heap.size + 2,1,none⟩) (by simp) (.int .i64 b.1);have HROW : Hid (Row ((W3.setCell ⟨w.heap.size + 2,0,none⟩ (.slice BA b.2.length bc)).setCell ⟨w.heap.size + 2,1,none⟩ (.int .i64 b.1)) 0 1 BA b.2.length (strs (b.2.map (keyX ds)))):=Lib.hid (Row.strOff (Row.strOff hrow hrb 0 _) (hrb.poke 0 _) 1 _);clear hrow hrb hb0;go_wp2_with fail;refine bodyPost_ret (res_frm _ _ (w.heap.size + 2) _ _ _ BA b.2.length bc b.1 rfl rfl rfl rfl (hr3.cell 0) (hr3.cell 1)) rfl ?_;rw [HPO.out];exact ⟨is,b,BA,bc,rfl,HROW.out,HOK.out,HLB.out,hb3⟩
end Go.Proofs.YtjggbpchmbdocaaGreatDoor
/- The walk of the reference's QuickestOf, and its time. -/
namespace Go.Proofs.YtjggbpchmbdocaaGreatDoor
open Go.RowKit Go.Sort Go.Maps Go.WideMaps

theorem FrOk.least {nx : StE → List (Nat × StE)} {ef : StE → Bool} {tm : Nat → Int} {s0 : StE} {is : Bool} {b : PwE} (ht : ∀ x p,p ∈ nx x → 1 ≤ tm p.1) (h : FrOk nx ef tm s0 is b) : LeastT nx ef tm s0 (if is then b.1 else -1):=by
 cases hi : is with
 | false => exact .inl ⟨by simp,(h.none).1 hi⟩
 | true =>
  obtain ⟨⟨y,hy,hw⟩,h2⟩:=h.yes hi;have h1:=hw.bnd ht;refine .inr ⟨?_,⟨(b.2.length : Int),b.2,?_⟩,fun t d ks hx => ?_⟩
  ·simp only [if_true]; omega
  ·have:=hw.toX (.stop hy)
   rw [Int.zero_add,Int.zero_add,List.append_nil] at this
   simpa only [if_true] using this
  ·obtain ⟨z,hz,hf⟩:=hx.toF (s0:=s0) .nil
   have h3:=h2 z _ hz hf;simp only [if_true]
   have h4 : ¬ (((0 : Int) + t) < b.1):=fun h5 => h3 (.inl h5)
   omega
theorem FrOk.time {rs : List RoomE} {ds : List DoorE} {st gl : List UInt8} {tr : List (List UInt8)} {is : Bool} {b : PwE} (hm : mapE rs ds st gl = 0) (h : FrOk (nxX rs (onceT (allT rs ds)) ds tr [] id) (goalX rs gl) (tmX ds) (st0 rs (onceT (allT rs ds)) st) is b) : timeT rs ds st gl tr = if is then b.1 else -1:=by
 have hR:=right_of hm;exact (timeT_is hR tr).uniq (h.least fun x p hp => (nxX_tm hR x p hp).1)
theorem FrOk.zero {nx : StE → List (Nat × StE)} {ef : StE → Bool} {tm : Nat → Int} {s0 : StE} {is : Bool} {b : PwE} (h : FrOk nx ef tm s0 is b) (hi : is = false) : b.1 = 0:=by rw [(h.no hi).1]
theorem res_qk (tmps : Array Value) (w : World) (g : Nat) (a b v : Value) (B : Option Addr) (n c : Nat) (z : Int) (ha : a = .slice B n c) (hb : b = .int .i64 z) (hx : tmps.getD 4 undef = .pointer (some ⟨g,0,none⟩)) (hv : tmps.getD 5 undef = v) (f0 : w.cell? ⟨g,0,none⟩ = some a) (f1 : w.cell? ⟨g,1,none⟩ = some b) :
  (results Tryz.f16 tmps).run Tryz.prog w = .ok (.tuple #[.agg #[a,b],v]) w:=by
 have e : Tryz.f16.results = #[.cell 4 40,.tmp 5]:=by kernel_rfl
 have hx' : tmps[4]?.getD undef = .pointer (some ⟨g,0,none⟩):=by simpa using hx
 have hv' : tmps[5]?.getD undef = v:=by simpa using hv
 subst ha hb
 simp [results,e,hx',hv',go_sem,f0,f1]
set_option maxHeartbeats 4000000 in
set_option maxRecDepth 100000 in
theorem quickestOf_any (lo ca cd lo2 c2 : Nat) (A : Option Addr) (rs : List RoomE) (D : Option Addr) (ds : List DoorE) (st gl : List UInt8) (TR : Option Addr) (tr : List (List UInt8)) (T : List (List UInt8)) (w : World)
  (hA : MapW w lo A rs D ds) (hm : mapE rs ds st gl = 0) (hTd : onceT (allT rs ds) = T) (htr : Row w lo2 1 TR tr.length (strs tr)) (htl : tr.length ≤ 1000000) :
  Calls Tryz.prog 16 #[.agg #[.slice A rs.length ca,.slice D ds.length cd,.string ⟨st.toArray⟩,.string ⟨gl.toArray⟩],.slice TR tr.length c2] w (FrcPost rs ds T tr gl (st0 rs T st) w):=by
 have hb0 : Below w.heap.size w ((w.alloc (.cells #[.slice A rs.length ca,.slice D ds.length cd,.string ⟨st.toArray⟩,.string ⟨gl.toArray⟩] 29)).alloc (.cells #[.slice none 0 0,.int .i64 0] 40)):=(by repeat (first | exact Below.refl _ _ | refine Below.alloc ?_ (by first | omega | (simp; omega) | simp) _ | refine below_drewN' ?_ _ | refine Below.drew ?_))
 have hmb : Blk ((w.alloc (.cells #[.slice A rs.length ca,.slice D ds.length cd,.string ⟨st.toArray⟩,.string ⟨gl.toArray⟩] 29)).alloc (.cells #[.slice none 0 0,.int .i64 0] 40)) w.heap.size 29 #[.slice A rs.length ca,.slice D ds.length cd,.string ⟨st.toArray⟩,.string ⟨gl.toArray⟩]:=(Blk.new _ _ _).alloc _;have hrb : Blk ((w.alloc (.cells #[.slice A rs.length ca,.slice D ds.length cd,.string ⟨st.toArray⟩,.string ⟨gl.toArray⟩] 29)).alloc (.cells #[.slice none 0 0,.int .i64 0] 40)) (w.heap.size + 1) 40 #[.slice none 0 0,.int .i64 0]:=Blk.at_ _ (by simp);have HR : Hid (Right rs ds st gl):=Lib.hid (right_of hm);have HBG : Hid (ThOk T (onceT (givesOf rs st))):=Lib.hid (by rw [← hTd]; exact begin_ok st);have HS : Hid (∀ W,Below w.heap.size w W → MapW W lo A rs D ds ∧ Row W lo2 1 TR tr.length (strs tr)):=Lib.hid (fun W h => ⟨hA.below h,htr.below h⟩);have HM:=Lib.hid (And.intro hm hTd)
 obtain ⟨post',hpost⟩ : ∃ q,q = FrcPost rs ds T tr gl (st0 rs T st) w:=⟨_,rfl⟩
 rw [← hpost];have HPO:=Lib.hid hpost;clear hA hm hTd htr hpost
 go_enter Tryz.func16,Tryz.ntmps16
 go_upto_region 1 with (fail);generalize (w.alloc (.cells #[.slice A rs.length ca,.slice D ds.length cd,.string ⟨st.toArray⟩,.string ⟨gl.toArray⟩] 29)).alloc (.cells #[.slice none 0 0,.int .i64 0] 40) = W1 at *;replace hmb : Blk W1.drew w.heap.size 29 #[.slice A rs.length ca,.slice D ds.length cd,.string ⟨st.toArray⟩,.string ⟨gl.toArray⟩]:=hmb;replace hrb : Blk W1.drew (w.heap.size + 1) 40 #[.slice none 0 0,.int .i64 0]:=hrb;replace hb0 : Below w.heap.size w W1.drew:=hb0.drew;refine wp_region_held_drew (S:=(fun w' => w'.cell? ⟨w.heap.size,0,none⟩ = some (.slice A rs.length ca) ∧ w'.cell? ⟨w.heap.size,1,none⟩ = some (.slice D ds.length cd) ∧ w'.cell? ⟨w.heap.size,2,none⟩ = some (.string ⟨st.toArray⟩) ∧ w'.cell? ⟨w.heap.size,3,none⟩ = some (.string ⟨gl.toArray⟩))) (by kernel_rfl) (hmb.fourR) (fun hHeld => ?_);generalize W1.drew = wd at *;(refine QU 0 ?_; (try simp only [Act.put,Q3,Q4,Q5]));(refine QU 1 ?_; (try simp only [Act.put,Q3,Q4,Q5]));(refine QU 2 ?_; (try simp only [Act.put,Q3,Q4,Q5]));refine QR 3 fun K hK => ?_;go_simp;go_at_call 64;refine (firstPointC_any lo ca cd A rs D ds st gl _ (HS.out _ hb0).1 HR.out.rup HR.out.st).mono ?_;rintro e W3 ⟨PA,pc,rfl,hfr,hpc,hb⟩;replace hmb:=hmb.below hb;replace hrb:=hrb.below hb;replace hb0:=below_up hb0 hb;replace hfr:=row_down0 hfr;clear hb;go_wp2_with fail;refine hK.out _ _ (hmb.fourR) (fun hHeld => ?_);clear hK K;(try simp only [Act.put,Q3,Q4,Q5]);refine QR 4 fun K hK => ?_;go_simp;go_at_call 24;refine (fromOfC_any lo ca cd lo2 c2 0 pc A rs D ds st gl TR tr st PA (onceT (givesOf rs st)) T _ (HS.out _ hb0).1 HM.out.1 HM.out.2 (HS.out _ hb0).2 htl hfr hpc HR.out.st HBG.out).mono ?_;rintro e W4 ⟨is,b,BA,bc,rfl,hrow,hok,hlb,hb⟩;rw [← st0_once] at hok;replace hmb:=hmb.below hb;replace hrb:=hrb.below hb;replace hb0:=below_up hb0 hb;have HOK:=Lib.hid hok;have HLB:=Lib.hid hlb;clear hb hok hfr hlb;go_wp2_with fail;refine hK.out _ _ (hmb.fourR) (fun hHeld => ?_);clear hK K;(try simp only [Act.put,Q3,Q4,Q5]);(refine QU 5 ?_; (try simp only [Act.put,Q3,Q4,Q5]));(refine QU 6 ?_; (try simp only [Act.put,Q3,Q4,Q5]));refine QR 7 fun K hK => ?_;obtain ⟨r0,r1⟩:=hrb.w2;have f0:=hrb.thaw 0;have f1:=hrb.thaw 1;have zr:=hrb.lt;have hr3:=(hrb.poke 0 (.slice BA b.2.length bc)).poke 1 (.int .i64 b.1);have hm3:=(hmb.past (w.heap.size + 1) 0 (.slice BA b.2.length bc) (by omega)).past (w.heap.size + 1) 1 (.int .i64 b.1) (by omega);have hb3:=Below.setCell (Below.setCell hb0 (p:=⟨w.heap.size + 1,0,none⟩) (by simp) (.slice BA b.2.length bc)) (p:=⟨w.heap.size + 1,1,none⟩) (by simp) (.int .i64 b.1);have HROW : Hid (Row ((W4.setCell ⟨w.heap.size + 1,0,none⟩ (.slice BA b.2.length bc)).setCell ⟨w.heap.size + 1,1,none⟩ (.int .i64 b.1)) 0 1 BA b.2.length (strs (b.2.map (keyX ds)))):=Lib.hid (Row.strOff (Row.strOff hrow hrb 0 _) (hrb.poke 0 _) 1 _);clear hrow hrb hb0 hmb;go_wp2_with fail;refine hK.out _ _ (hm3.fourR) (fun hHeld => ?_);clear hK K;(try simp only [Act.put,Q3,Q4,Q5]);(refine QU 8 ?_; (try simp only [Act.put,Q3,Q4,Q5]));refine wpAnyH_done (by kernel_rfl) ?_ _;go_wp2_with fail;refine bodyPost_ret (res_qk _ _ (w.heap.size + 1) _ _ _ BA b.2.length bc b.1 rfl rfl rfl rfl (hr3.cell 0) (hr3.cell 1)) rfl ?_;rw [HPO.out];exact ⟨is,b,BA,bc,rfl,HROW.out,HOK.out,HLB.out,hb3⟩
theorem FrOk.most {rs : List RoomE} {ds : List DoorE} {T : List (List UInt8)} {st gl : List UInt8} {tr : List (List UInt8)} {s0 : StE} {ef : StE → Bool} {is : Bool} {b : PwE} (hR : Right rs ds st gl) (h : FrOk (nxX rs T ds tr [] id) ef (tmX ds) s0 is b) (hn : nS rs T ≤ 614400) (hl : b.2.length ≤ nS rs T) : 0 ≤ b.1 ∧ b.1 ≤ 530841600000000:=by
 cases hi : is with
 | false => rw [h.zero hi]; decide
 | true =>
  obtain ⟨⟨y,hy,hw⟩,_⟩:=h.yes hi
  have h1:=hw.bnd fun x p hp => (nxX_tm hR x p hp).1
  have h2:=(hw.toX (.stop hy)).ub fun x p hp => (nxX_tm hR x p hp).2
  simp only [List.append_nil,Int.zero_add] at h2;omega
def QtPost (v : Int) (w : World) (e : Ending) (w' : World) : Prop :=
 ∃ (BA : Option Addr) (n bc : Nat),e = .returned (.tuple #[.agg #[.slice BA n bc,.int .i64 (if v < 0 then 0 else v)],.bool (!decide (v < 0))]) ∧ (-1 ≤ v ∧ v ≤ 530841600000000) ∧ Below w.heap.size w w'
theorem quickTime_any (lo ca cd lo2 c2 : Nat) (A : Option Addr) (rs : List RoomE) (D : Option Addr) (ds : List DoorE) (st gl : List UInt8) (TR : Option Addr) (tr : List (List UInt8)) (w : World)
  (hA : MapW w lo A rs D ds) (hm : mapE rs ds st gl = 0) (htr : Row w lo2 1 TR tr.length (strs tr)) (htl : tr.length ≤ 1000000) :
  Calls Tryz.prog 16 #[.agg #[.slice A rs.length ca,.slice D ds.length cd,.string ⟨st.toArray⟩,.string ⟨gl.toArray⟩],.slice TR tr.length c2] w (QtPost (timeT rs ds st gl tr) w):=by
 refine (quickestOf_any lo ca cd lo2 c2 A rs D ds st gl TR tr _ w hA hm rfl htr htl).mono ?_;rintro e w' ⟨is,b,BA,bc,rfl,_,hok,hlb,hb⟩;have h1:=hok.time hm;obtain ⟨h2,h3⟩:=hok.most (right_of hm) (nS_le (right_of hm) rfl) hlb;refine ⟨BA,b.2.length,bc,?_,?_,hb⟩
 ·rw [h1]
  cases hi : is with
  | false => rw [hok.zero hi]; rfl
  | true =>
   have h4 : ¬ b.1 < 0:=by omega
   simp [h4]
 ·rw [h1]
  cases is with
  | false => simp
  | true => simp only [if_true]; omega
end Go.Proofs.YtjggbpchmbdocaaGreatDoor
/- The walk of the reference's WorthsOf. -/
namespace Go.Proofs.YtjggbpchmbdocaaGreatDoor
open Go.RowKit Go.Sort Go.Maps Go.WideMaps

def QvPost (v : Int) (w : World) (e : Ending) (w' : World) : Prop :=
 ∃ (BA : Option Addr) (n bc : Nat) (t : Int) (is : Bool),e = .returned (.tuple #[.agg #[.slice BA n bc,.int .i64 t],.bool is]) ∧ (is = !decide (v < 0) ∧ t = (if v < 0 then 0 else v) ∧ -1 ≤ v ∧ v ≤ 530841600000000) ∧ Below w.heap.size w w'
theorem QtPost.v {v : Int} {w w' : World} {e : Ending} (h : QtPost v w e w') : QvPost v w e w':=by
 obtain ⟨BA,n,bc,h1,h2,h3⟩:=h;exact ⟨BA,n,bc,_,_,h1,⟨rfl,rfl,h2⟩,h3⟩
def WroPost (f : List (List UInt8) → Int) (tr : List (List UInt8)) (w : World) (e : Ending) (w' : World) : Prop :=
 ∃ (A : Option Addr) (c : Nat),e = .returned (.slice A tr.length c) ∧ w'.ownsRow w.heap.size 77 3 (.slice A tr.length c) tr.length (tr.flatMap (encWo f tr)) ∧ Below w.heap.size w w'
set_option maxHeartbeats 8000000 in
set_option maxRecDepth 100000 in
theorem worthsOf_any (lo ca cd lo2 c2 : Nat) (A : Option Addr) (rs : List RoomE) (D : Option Addr) (ds : List DoorE) (st gl : List UInt8) (TR : Option Addr) (tr : List (List UInt8)) (w : World)
  (hA : MapW w lo A rs D ds) (hm : mapE rs ds st gl = 0) (htr : Row w lo2 1 TR tr.length (strs tr)) (htl : tr.length ≤ 1000000) :
  Calls Tryz.prog 39 #[.agg #[.slice A rs.length ca,.slice D ds.length cd,.string ⟨st.toArray⟩,.string ⟨gl.toArray⟩],.slice TR tr.length c2] w (WroPost (timeT rs ds st gl) tr w):=by
 have hb0 : Below w.heap.size w (w.alloc (.cells #[.slice A rs.length ca,.slice D ds.length cd,.string ⟨st.toArray⟩,.string ⟨gl.toArray⟩] 29)):=(by repeat (first | exact Below.refl _ _ | refine Below.alloc ?_ (by first | omega | (simp; omega) | simp) _ | refine below_drewN' ?_ _ | refine Below.drew ?_))
 have hmb : Blk (w.alloc (.cells #[.slice A rs.length ca,.slice D ds.length cd,.string ⟨st.toArray⟩,.string ⟨gl.toArray⟩] 29)) w.heap.size 29 #[.slice A rs.length ca,.slice D ds.length cd,.string ⟨st.toArray⟩,.string ⟨gl.toArray⟩]:=Blk.new _ _ _;have HQ : Hid (∀ (W : World) (B : Option Addr) (lo3 c3 : Nat) (l : List (List UInt8)),Below w.heap.size w W → Row W lo3 1 B l.length (strs l) → l.length ≤ 1000000 → Calls Tryz.prog 16 #[.agg #[.slice A rs.length ca,.slice D ds.length cd,.string ⟨st.toArray⟩,.string ⟨gl.toArray⟩],.slice B l.length c3] W (QvPost (timeT rs ds st gl l) W)):=Lib.hid (fun W B lo3 c3 l h hr hl => (quickTime_any lo ca cd lo3 c3 A rs D ds st gl B l W (hA.below h) hm hr hl).mono fun _ _ h => h.v);have HTR : Hid (∀ W,Below w.heap.size w W → Row W lo2 1 TR tr.length (strs tr)):=Lib.hid (fun W h => htr.below h);have HTL:=Lib.hid htl;clear hA hm htr htl;generalize timeT rs ds st gl = f at *
 obtain ⟨post',hpost⟩ : ∃ q,q = WroPost f tr w:=⟨_,rfl⟩
 rw [← hpost];have HPO:=Lib.hid hpost;clear hpost
 go_enter Tryz.func39,Tryz.ntmps39
 go_upto_region 1 with (fail);generalize w.alloc (.cells #[.slice A rs.length ca,.slice D ds.length cd,.string ⟨st.toArray⟩,.string ⟨gl.toArray⟩] 29) = W1 at *;have hq:=HQ.out W1 TR lo2 c2 tr hb0 (HTR.out _ hb0) HTL.out;obtain ⟨m0,m1,m2,m3⟩:=hmb.fourR;have zm:=hmb.lt;go_wp2_with fail;refine hq.mono ?_;clear hq;rintro e V2 ⟨BA,bn,bc,t0,is0,rfl,hf0,hb⟩;replace hmb:=hmb.below hb;replace hb0:=below_up hb0 hb;have HF0:=Lib.hid hf0;clear hb m0 m1 m2 m3 zm hf0;go_upto_region 3 with (fail);have zz : w.heap.size < V2.heap.size:=hmb.lt;have hpb : Blk (V2.alloc (.cells #[.slice BA bn bc,.int .i64 t0] 40)) V2.heap.size 40 #[.slice BA bn bc,.int .i64 t0]:=Blk.new _ _ _;replace hmb : Blk (V2.alloc (.cells #[.slice BA bn bc,.int .i64 t0] 40)) w.heap.size 29 #[.slice A rs.length ca,.slice D ds.length cd,.string ⟨st.toArray⟩,.string ⟨gl.toArray⟩]:=hmb.alloc _;replace hb0 : Below w.heap.size w (V2.alloc (.cells #[.slice BA bn bc,.int .i64 t0] 40)):=hb0.alloc hb0.size _;generalize V2.alloc (.cells #[.slice BA bn bc,.int .i64 t0] 40) = V3 at *;generalize V2.heap.size = pb at *;have HVZ : Hid (w.heap.size ≤ V3.heap.size):=Lib.hid hb0.size;have HMP : Hid (∀ W,Below V3.heap.size V3 W → Blk W w.heap.size 29 #[.slice A rs.length ca,.slice D ds.length cd,.string ⟨st.toArray⟩,.string ⟨gl.toArray⟩] ∧ Blk W pb 40 #[.slice BA bn bc,.int .i64 t0] ∧ Row W lo2 1 TR tr.length (strs tr) ∧ Below w.heap.size w W):=Lib.hid (fun W h => ⟨hmb.below h,hpb.below h,HTR.out _ (below_up hb0 h),below_up hb0 h⟩);clear hmb hpb hb0 zz;go_wp2_with fail
 go_loopw [7,21] (fun v u wr => ∃ (i : Nat) (PA : Option Addr) (pc : Nat),i ≤ tr.length ∧ v = .slice PA i pc ∧ u = .int .i64 i ∧ wr.ownsRow V3.heap.size 77 3 (.slice PA i pc) i ((tr.take i).flatMap (encWo f tr)) ∧ Below V3.heap.size V3 wr) (fun _ u _ => tr.length - (intOf u).toNat)
 case atStart => exact ⟨0,none,0,Nat.zero_le _,rfl,rfl,World.ownsRow_nil _ _ _ _,Below.refl _ _⟩
 case round =>
  obtain ⟨i,PA0,pc0,hi,rfl,rfl,hown,hbl⟩:=hrel
  by_cases hlt : i < tr.length
  ·obtain ⟨tb,toff,rfl,htb,hts⟩:=strs_at (HMP.out _ hbl).2.2.1 hlt
   have t0':=hts i hlt;have HTK : Hid ((tr.take (i + 1)).flatMap (encWo f tr) = (tr.take i).flatMap (encWo f tr) ++ encWo f tr tr[i]):=Lib.hid (by rw [List.take_add_one,List.getElem?_eq_getElem hlt,List.flatMap_append]; simp);simp only [encStr] at t0';generalize tr[i] = s at *
   have hlb1 : (i + 1) * 32 ≤ 140737488355328:=by have:=HTL.out; omega
   have hlb2 : i + 1 ≤ 9223372036854775807:=by have:=HTL.out; omega
   clear hts;go_upto_region 7 with (fail);clear t0' htb;have hbx : Blk (wr.alloc (.cells #[.string ⟨s.toArray⟩,.int .i64 0,.bool false] 77)) wr.heap.size 77 #[.string ⟨s.toArray⟩,.int .i64 0,.bool false]:=Blk.new _ _ _;have hxz : V3.heap.size ≤ wr.heap.size:=hbl.size
   have hown0 : ∀ j,(Value.slice PA0 i pc0).ownBlock = some j → j < wr.heap.size:=fun j hj => (hown.lt _ hj).2
   have HXO : Hid (∀ j,(Value.slice PA0 i pc0).ownBlock = some j → j ≠ wr.heap.size):=Lib.hid (fun j hj e => by have:=hown0 j hj; omega);replace hown:=hown.alloc (.cells #[.string ⟨s.toArray⟩,.int .i64 0,.bool false] 77);replace hbl:=hbl.alloc hbl.size (.cells #[.string ⟨s.toArray⟩,.int .i64 0,.bool false] 77);generalize wr.alloc (.cells #[.string ⟨s.toArray⟩,.int .i64 0,.bool false] 77) = W7 at *;generalize wr.heap.size = xb at *
   go_cut [11,12] from 27 to 34 (fun u v wx => ∃ (p2 : Nat) (BB : Option Addr) (bn2 bc2 : Nat) (t1 : Int) (is1 : Bool),u = .pointer (some ⟨p2,0,none⟩) ∧ v = .bool is1 ∧ Hid (is1 = !decide (f (lessL tr s) < 0) ∧ t1 = (if f (lessL tr s) < 0 then 0 else f (lessL tr s)) ∧ -1 ≤ f (lessL tr s) ∧ f (lessL tr s) ≤ 530841600000000) ∧ Blk wx p2 40 #[.slice BB bn2 bc2,.int .i64 t1] ∧ Below W7.heap.size W7 wx)
   case first =>
    have hbw : Below W7.heap.size W7 W7.drew:=(Below.refl _ _).drew;go_wp2_with fail;refine wp_region_held_drew (S:=(fun w' => w'.cell? ⟨w.heap.size,0,none⟩ = some (.slice A rs.length ca) ∧ w'.cell? ⟨w.heap.size,1,none⟩ = some (.slice D ds.length cd) ∧ w'.cell? ⟨w.heap.size,2,none⟩ = some (.string ⟨st.toArray⟩) ∧ w'.cell? ⟨w.heap.size,3,none⟩ = some (.string ⟨gl.toArray⟩))) (by kernel_rfl) ((HMP.out _ (below_up hbl hbw)).1.fourR) (fun hHeld => ?_);generalize W7.drew = wd at hbw hHeld ⊢;(refine QU 0 ?_; (try simp only [Act.put,Q3,Q4,Q5]));(refine QU 1 ?_; (try simp only [Act.put,Q3,Q4,Q5]));(refine QU 2 ?_; (try simp only [Act.put,Q3,Q4,Q5]));refine wpAnyH_ready (rs:=[3,8]) (by kernel_rfl) (by simp) ?_;refine AllReadyH.cons rfl (fun K hK => ?_) (AllReadyH.cons rfl (fun K hK => ?_) AllReadyH.nil)
    focus (
     go_simp;go_at_call 104;refine (without_any _ c2 lo2 tr s wd ((HMP.out _ (below_up hbl hbw)).2.2.1) (Nat.le_trans HTL.out (by decide))).mono ?_;rintro e Y3 ⟨B,d,rfl,hlo,hb⟩;replace hbw:=below_up hbw hb;have hlr:=row_down0 (Row.of_own hlo);clear hb hlo;go_wp2_with fail;refine hK.out _ _ ((HMP.out _ (below_up hbl hbw)).1.fourR) (fun hHeld => ?_);clear hK K;(try simp only [Act.put,Q3,Q4,Q5]);refine wpAnyH_ready (rs:=[4,8]) (by kernel_rfl) (by simp) ?_;refine AllReadyH.cons rfl (fun K hK => ?_) (AllReadyH.cons rfl (fun K hK => ?_) AllReadyH.nil)
     focus (
      go_simp;go_at_call 16;refine (HQ.out Y3 B 0 d (lessL tr s) ((HMP.out _ (below_up hbl hbw)).2.2.2) hlr (Nat.le_trans (lessL_len tr s) HTL.out)).mono ?_;rintro e Y4 ⟨BB,bn2,bc2,t1,is1,rfl,hf1,hb⟩;have HF1:=Lib.hid hf1;replace hbw:=below_up hbw hb;clear hb hlr hf1;go_wp2_with fail;refine hK.out _ _ ((HMP.out _ (below_up hbl hbw)).1.fourR) (fun hHeld => ?_);clear hK K;(try simp only [Act.put,Q3,Q4,Q5]);(refine QU 5 ?_; (try simp only [Act.put,Q3,Q4,Q5]));(refine QU 6 ?_; (try simp only [Act.put,Q3,Q4,Q5]));(refine QU 7 ?_; (try simp only [Act.put,Q3,Q4,Q5]));refine QR 8 fun K hK => ?_;go_simp;have hp2 : Blk (Y4.alloc (.cells #[.slice none 0 0,.int .i64 0] 40)) Y4.heap.size 40 #[.slice none 0 0,.int .i64 0]:=Blk.new _ _ _;have hpz : W7.heap.size ≤ Y4.heap.size:=hbw.size;replace hbw:=hbw.alloc hbw.size (.cells #[.slice none 0 0,.int .i64 0] 40);generalize Y4.alloc (.cells #[.slice none 0 0,.int .i64 0] 40) = Y8 at hp2 hbw ⊢;generalize Y4.heap.size = p2 at hp2 hpz ⊢;refine hK.out _ _ ((HMP.out _ (below_up hbl hbw)).1.fourR) (fun hHeld => ?_);clear hK K;(try simp only [Act.put,Q3,Q4,Q5])
      generalize Y8 = U at hp2 hbw ⊢)
     rotate_left 1
     focus (
      go_simp;have hp2 : Blk (Y3.alloc (.cells #[.slice none 0 0,.int .i64 0] 40)) Y3.heap.size 40 #[.slice none 0 0,.int .i64 0]:=Blk.new _ _ _;have hpz : W7.heap.size ≤ Y3.heap.size:=hbw.size;replace hbw:=hbw.alloc hbw.size (.cells #[.slice none 0 0,.int .i64 0] 40);replace hlr:=hlr.alloc (.cells #[.slice none 0 0,.int .i64 0] 40);generalize Y3.alloc (.cells #[.slice none 0 0,.int .i64 0] 40) = Y8 at hp2 hbw hlr ⊢;generalize Y3.heap.size = p2 at hp2 hpz ⊢;refine hK.out _ _ ((HMP.out _ (below_up hbl hbw)).1.fourR) (fun hHeld => ?_);clear hK K;(try simp only [Act.put,Q3,Q4,Q5]);refine QR 4 fun K hK => ?_;go_simp;go_at_call 16;refine (HQ.out Y8 B 0 d (lessL tr s) ((HMP.out _ (below_up hbl hbw)).2.2.2) hlr (Nat.le_trans (lessL_len tr s) HTL.out)).mono ?_;rintro e Y4 ⟨BB,bn2,bc2,t1,is1,rfl,hf1,hb⟩;have HF1:=Lib.hid hf1;replace hbw:=below_up hbw hb;replace hp2:=hp2.below hb;clear hb hlr hf1;go_wp2_with fail;refine hK.out _ _ ((HMP.out _ (below_up hbl hbw)).1.fourR) (fun hHeld => ?_);clear hK K;(try simp only [Act.put,Q3,Q4,Q5]);(refine QU 5 ?_; (try simp only [Act.put,Q3,Q4,Q5]));(refine QU 6 ?_; (try simp only [Act.put,Q3,Q4,Q5]));(refine QU 7 ?_; (try simp only [Act.put,Q3,Q4,Q5]))
      generalize Y4 = U at hp2 hbw ⊢)
     rotate_left 1)
    rotate_left 2
    focus (
     go_simp;have hp2 : Blk (wd.alloc (.cells #[.slice none 0 0,.int .i64 0] 40)) wd.heap.size 40 #[.slice none 0 0,.int .i64 0]:=Blk.new _ _ _;have hpz : W7.heap.size ≤ wd.heap.size:=hbw.size;replace hbw:=hbw.alloc hbw.size (.cells #[.slice none 0 0,.int .i64 0] 40);generalize wd.alloc (.cells #[.slice none 0 0,.int .i64 0] 40) = Y8 at hp2 hbw ⊢;generalize wd.heap.size = p2 at hp2 hpz ⊢;refine hK.out _ _ ((HMP.out _ (below_up hbl hbw)).1.fourR) (fun hHeld => ?_);clear hK K;(try simp only [Act.put,Q3,Q4,Q5]);refine QR 3 fun K hK => ?_;go_simp;go_at_call 104;refine (without_any _ c2 lo2 tr s Y8 ((HMP.out _ (below_up hbl hbw)).2.2.1) (Nat.le_trans HTL.out (by decide))).mono ?_;rintro e Y3 ⟨B,d,rfl,hlo,hb⟩;replace hbw:=below_up hbw hb;replace hp2:=hp2.below hb;have hlr:=row_down0 (Row.of_own hlo);clear hb hlo;go_wp2_with fail;refine hK.out _ _ ((HMP.out _ (below_up hbl hbw)).1.fourR) (fun hHeld => ?_);clear hK K;(try simp only [Act.put,Q3,Q4,Q5]);refine QR 4 fun K hK => ?_;go_simp;go_at_call 16;refine (HQ.out Y3 B 0 d (lessL tr s) ((HMP.out _ (below_up hbl hbw)).2.2.2) hlr (Nat.le_trans (lessL_len tr s) HTL.out)).mono ?_;rintro e Y4 ⟨BB,bn2,bc2,t1,is1,rfl,hf1,hb⟩;have HF1:=Lib.hid hf1;replace hbw:=below_up hbw hb;replace hp2:=hp2.below hb;clear hb hlr hf1;go_wp2_with fail;refine hK.out _ _ ((HMP.out _ (below_up hbl hbw)).1.fourR) (fun hHeld => ?_);clear hK K;(try simp only [Act.put,Q3,Q4,Q5]);(refine QU 5 ?_; (try simp only [Act.put,Q3,Q4,Q5]));(refine QU 6 ?_; (try simp only [Act.put,Q3,Q4,Q5]));(refine QU 7 ?_; (try simp only [Act.put,Q3,Q4,Q5]))
     generalize Y4 = U at hp2 hbw ⊢)
    rotate_left 1
    all_goals (
     refine QR 9 fun K hK => ?_;obtain ⟨r0,r1⟩:=hp2.w2;have f0:=hp2.thaw 0;have f1:=hp2.thaw 1;have zr:=hp2.lt;replace hp2 : Blk ((U.setCell ⟨p2,0,none⟩ (.slice BB bn2 bc2)).setCell ⟨p2,1,none⟩ (.int .i64 t1)) p2 40 #[.slice BB bn2 bc2,.int .i64 t1]:=(hp2.poke 0 (.slice BB bn2 bc2)).poke 1 (.int .i64 t1);replace hbw : Below W7.heap.size W7 ((U.setCell ⟨p2,0,none⟩ (.slice BB bn2 bc2)).setCell ⟨p2,1,none⟩ (.int .i64 t1)):=Below.setCell (Below.setCell hbw (p:=⟨p2,0,none⟩) (show W7.heap.size ≤ p2 from hpz) (.slice BB bn2 bc2)) (p:=⟨p2,1,none⟩) (show W7.heap.size ≤ p2 from hpz) (.int .i64 t1);go_simp;clear r0 r1 f0 f1 zr;generalize (U.setCell ⟨p2,0,none⟩ (.slice BB bn2 bc2)).setCell ⟨p2,1,none⟩ (.int .i64 t1) = Y9 at hp2 hbw ⊢;refine hK.out _ _ ((HMP.out _ (below_up hbl hbw)).1.fourR) (fun hHeld => ?_);clear hK K;(try simp only [Act.put,Q3,Q4,Q5]);(refine QU 10 ?_; (try simp only [Act.put,Q3,Q4,Q5]));refine wpAnyH_done (by kernel_rfl) ?_ _;go_wp2_with fail;go_meet
     exact ⟨p2,BB,bn2,bc2,t1,is1,rfl,rfl,HF1,hp2,hbw⟩)
   case rest =>
    obtain ⟨p2,BB,bn2,bc2,t1,is1,rfl,rfl,HF1,hp2,hbw⟩:=hcut;generalize wc = Y9 at *;replace hown:=own_keep hown hbw;replace hbx:=hbx.below hbw;replace hbl:=below_up hbl hbw;obtain ⟨g1,g2,g3,g4⟩:=HF0.out;obtain ⟨k1,k2,k3,k4⟩:=HF1.out;have hpq:=(HMP.out _ hbl).2.1;obtain ⟨q0,q1⟩:=hpq.w2;obtain ⟨r0,r1⟩:=hp2.w2;obtain ⟨x0,x1,x2⟩:=hbx.w3;have fx1:=hbx.thaw 1;have fx2:=hbx.thaw 2;have zx:=hbx.lt;have zr:=hp2.lt;have zq:=hpq.lt
    cases is0 with
    | false =>
     have ha : f tr < 0:=by simpa using g1
     have HV : Hid (encWo f tr s = [.string ⟨s.toArray⟩,.int .i64 0,.bool false]):=Lib.hid (by unfold encWo worthV; rw [if_pos ha]);clear g1 g2 g3 g4 k1 k2 k3 k4 fx1 fx2 q0 q1 r0 r1;go_upto_region 12 with (fail);clear x0 x1 x2 zx zr zq;obtain ⟨x0,x1,x2⟩:=hbx.w3;have zx:=hbx.lt;have hsz:=hbl.size
     go_wp2_with (at_builtin; go_must (refine wpList_app (lo:=V3.heap.size) (base:=V3.heap.size) (n:=i) (xs:=(tr.take i).flatMap (encWo f tr)) _ _ rfl _ _ ty_woL rfl (by repeat (first | exact hown | refine World.ownsRow.alloc ?_ _ | refine own_drewN ?_ _ | refine World.ownsRow.drew ?_)) rfl (by first | exact row_new' _ (by first | rfl | simp) (by first | omega | (simp; omega)) rfl | exact row_newN _ _ (by first | rfl | simp) (by first | omega | (simp; omega)) rfl | exact row_newD _ (by first | rfl | simp) (by first | omega | (simp; omega)) rfl) rfl rfl (by first | omega | decide) (by first | omega | decide) (by first | omega | (simp; omega)) ?_))
     intro A5 c5 w8 hown8 hg8 _;have hbl8 : Below V3.heap.size V3 w8:=Below.grown (by repeat (first | exact hbl | refine Below.alloc ?_ (by first | omega | (simp; omega)) _)) hg8 (by first | omega | (simp; omega)) (own_base (by repeat (first | exact hown | refine World.ownsRow.alloc ?_ _)));have HO8 : Hid (w8.ownsRow V3.heap.size 77 3 (.slice A5 (i + 1) c5) (i + 1) ((tr.take (i + 1)).flatMap (encWo f tr))):=Lib.hid (by rw [HTK.out,HV.out]; exact hown8);clear hown8 hg8;go_wp2_with fail;go_roundw
     case rel => exact ⟨i + 1,A5,c5,by omega,rfl,by go_num,HO8.out,hbl8⟩
     case measure => simp [intOf]; omega
    | true =>
     have ha : ¬ f tr < 0:=by simpa using g1
     rw [if_neg ha] at g2
     cases is1 with
     | false =>
      have hn : f (lessL tr s) < 0:=by simpa using k1
      have HV : Hid (encWo f tr s = [.string ⟨s.toArray⟩,.int .i64 0,.bool true]):=Lib.hid (by unfold encWo worthV; rw [if_neg ha,if_pos hn]);clear g1 g2 g3 g4 k1 k2 k3 k4 q0 q1 r0 r1;go_upto_region 12 with (fail);clear x0 x1 x2 fx1 fx2 zx zr zq;replace hown:=own_keepX hown (grown_poke Y9 xb 2 (.bool true)) (fun k j hk hj => by injection hk with hk; subst hk; exact HXO.out j hj);replace hbl : Below V3.heap.size V3 (Y9.setCell ⟨xb,2,none⟩ (.bool true)):=Below.setCell hbl (show V3.heap.size ≤ (⟨xb,2,none⟩ : Addr).block from hxz) (.bool true)
      replace hbx : Blk (Y9.setCell ⟨xb,2,none⟩ (.bool true)) xb 77 #[.string ⟨s.toArray⟩,.int .i64 0,.bool true]:=by simpa using hbx.poke 2 (.bool true)
      generalize hY10 : Y9.setCell ⟨xb,2,none⟩ (.bool true) = Y10 at *;clear hY10;obtain ⟨x0,x1,x2⟩:=hbx.w3;have zx:=hbx.lt;have hsz:=hbl.size
      go_wp2_with (at_builtin; go_must (refine wpList_app (lo:=V3.heap.size) (base:=V3.heap.size) (n:=i) (xs:=(tr.take i).flatMap (encWo f tr)) _ _ rfl _ _ ty_woL rfl (by repeat (first | exact hown | refine World.ownsRow.alloc ?_ _ | refine own_drewN ?_ _ | refine World.ownsRow.drew ?_)) rfl (by first | exact row_new' _ (by first | rfl | simp) (by first | omega | (simp; omega)) rfl | exact row_newN _ _ (by first | rfl | simp) (by first | omega | (simp; omega)) rfl | exact row_newD _ (by first | rfl | simp) (by first | omega | (simp; omega)) rfl) rfl rfl (by first | omega | decide) (by first | omega | decide) (by first | omega | (simp; omega)) ?_))
      intro A5 c5 w8 hown8 hg8 _;have hbl8 : Below V3.heap.size V3 w8:=Below.grown (by repeat (first | exact hbl | refine Below.alloc ?_ (by first | omega | (simp; omega)) _)) hg8 (by first | omega | (simp; omega)) (own_base (by repeat (first | exact hown | refine World.ownsRow.alloc ?_ _)));have HO8 : Hid (w8.ownsRow V3.heap.size 77 3 (.slice A5 (i + 1) c5) (i + 1) ((tr.take (i + 1)).flatMap (encWo f tr))):=Lib.hid (by rw [HTK.out,HV.out]; exact hown8);clear hown8 hg8;go_wp2_with fail;go_roundw
      case rel => exact ⟨i + 1,A5,c5,by omega,rfl,by go_num,HO8.out,hbl8⟩
      case measure => simp [intOf]; omega
     | true =>
      have hn : ¬ f (lessL tr s) < 0:=by simpa using k1
      rw [if_neg hn] at k2;have ws : IntKind.i64.wrap (t1 - t0) = t1 - t0:=IntWalk.i64_in _ ⟨by omega,by omega⟩;have HV : Hid (encWo f tr s = [.string ⟨s.toArray⟩,.int .i64 (t1 - t0),.bool false]):=Lib.hid (by unfold encWo worthV; rw [if_neg ha,if_neg hn,g2,k2]);clear g1 g2 g3 g4 k1 k2 k3 k4;go_upto_region 12 with (fail);clear x0 x1 x2 fx1 fx2 zx zr zq q0 q1 r0 r1;replace hown:=own_keepX hown (grown_poke Y9 xb 1 (.int .i64 (t1 - t0))) (fun k j hk hj => by injection hk with hk; subst hk; exact HXO.out j hj);replace hbl : Below V3.heap.size V3 (Y9.setCell ⟨xb,1,none⟩ (.int .i64 (t1 - t0))):=Below.setCell hbl (show V3.heap.size ≤ (⟨xb,1,none⟩ : Addr).block from hxz) (.int .i64 (t1 - t0))
      replace hbx : Blk (Y9.setCell ⟨xb,1,none⟩ (.int .i64 (t1 - t0))) xb 77 #[.string ⟨s.toArray⟩,.int .i64 (t1 - t0),.bool false]:=by simpa using hbx.poke 1 (.int .i64 (t1 - t0))
      generalize hY10 : Y9.setCell ⟨xb,1,none⟩ (.int .i64 (t1 - t0)) = Y10 at *;clear hY10;obtain ⟨x0,x1,x2⟩:=hbx.w3;have zx:=hbx.lt;have hsz:=hbl.size
      go_wp2_with (at_builtin; go_must (refine wpList_app (lo:=V3.heap.size) (base:=V3.heap.size) (n:=i) (xs:=(tr.take i).flatMap (encWo f tr)) _ _ rfl _ _ ty_woL rfl (by repeat (first | exact hown | refine World.ownsRow.alloc ?_ _ | refine own_drewN ?_ _ | refine World.ownsRow.drew ?_)) rfl (by first | exact row_new' _ (by first | rfl | simp) (by first | omega | (simp; omega)) rfl | exact row_newN _ _ (by first | rfl | simp) (by first | omega | (simp; omega)) rfl | exact row_newD _ (by first | rfl | simp) (by first | omega | (simp; omega)) rfl) rfl rfl (by first | omega | decide) (by first | omega | decide) (by first | omega | (simp; omega)) ?_))
      intro A5 c5 w8 hown8 hg8 _;have hbl8 : Below V3.heap.size V3 w8:=Below.grown (by repeat (first | exact hbl | refine Below.alloc ?_ (by first | omega | (simp; omega)) _)) hg8 (by first | omega | (simp; omega)) (own_base (by repeat (first | exact hown | refine World.ownsRow.alloc ?_ _)));have HO8 : Hid (w8.ownsRow V3.heap.size 77 3 (.slice A5 (i + 1) c5) (i + 1) ((tr.take (i + 1)).flatMap (encWo f tr))):=Lib.hid (by rw [HTK.out,HV.out]; exact hown8);clear hown8 hg8;go_wp2_with fail;go_roundw
      case rel => exact ⟨i + 1,A5,c5,by omega,rfl,by go_num,HO8.out,hbl8⟩
      case measure => simp [intOf]; omega
  ·have hie : i = tr.length:=by omega
   subst hie;have HO : Hid (wr.ownsRow V3.heap.size 77 3 (.slice PA0 tr.length pc0) tr.length (tr.flatMap (encWo f tr))):=Lib.hid (by have:=hown; rwa [List.take_length] at this);clear hown;go_wp2_with fail;rw [HPO.out];exact ⟨PA0,pc0,rfl,own_down9 HO.out HVZ.out,(HMP.out _ hbl).2.2.2⟩
end Go.Proofs.YtjggbpchmbdocaaGreatDoor
/- The walk of the reference's SpareOf. -/
namespace Go.Proofs.YtjggbpchmbdocaaGreatDoor
open Go.RowKit Go.Sort Go.Maps Go.WideMaps

def SprPost (f : List (List UInt8) → Int) (tr : List (List UInt8)) (w : World) (e : Ending) (w' : World) : Prop :=
 ∃ (l : List (List UInt8)) (A : Option Addr) (c : Nat),e = .returned (.slice A l.length c) ∧ l = (if f tr < 0 then [] else (spareF f tr).1) ∧ Row w' 0 1 A l.length (strs l) ∧ Below w.heap.size w w'
set_option maxHeartbeats 8000000 in
set_option maxRecDepth 100000 in
theorem spareOf_any (lo ca cd lo2 c2 : Nat) (A : Option Addr) (rs : List RoomE) (D : Option Addr) (ds : List DoorE) (st gl : List UInt8) (TR : Option Addr) (tr : List (List UInt8)) (w : World)
  (hA : MapW w lo A rs D ds) (hm : mapE rs ds st gl = 0) (htr : Row w lo2 1 TR tr.length (strs tr)) (htl : tr.length ≤ 1000000) :
  Calls Tryz.prog 40 #[.agg #[.slice A rs.length ca,.slice D ds.length cd,.string ⟨st.toArray⟩,.string ⟨gl.toArray⟩],.slice TR tr.length c2] w (SprPost (timeT rs ds st gl) tr w):=by
 have hb0 : Below w.heap.size w (w.alloc (.cells #[.slice A rs.length ca,.slice D ds.length cd,.string ⟨st.toArray⟩,.string ⟨gl.toArray⟩] 29)):=(by repeat (first | exact Below.refl _ _ | refine Below.alloc ?_ (by first | omega | (simp; omega) | simp) _ | refine below_drewN' ?_ _ | refine Below.drew ?_))
 have hmb : Blk (w.alloc (.cells #[.slice A rs.length ca,.slice D ds.length cd,.string ⟨st.toArray⟩,.string ⟨gl.toArray⟩] 29)) w.heap.size 29 #[.slice A rs.length ca,.slice D ds.length cd,.string ⟨st.toArray⟩,.string ⟨gl.toArray⟩]:=Blk.new _ _ _;have HQ : Hid (∀ (W : World) (B : Option Addr) (lo3 c3 : Nat) (l : List (List UInt8)),Below w.heap.size w W → Row W lo3 1 B l.length (strs l) → l.length ≤ 1000000 → Calls Tryz.prog 16 #[.agg #[.slice A rs.length ca,.slice D ds.length cd,.string ⟨st.toArray⟩,.string ⟨gl.toArray⟩],.slice B l.length c3] W (QvPost (timeT rs ds st gl l) W)):=Lib.hid (fun W B lo3 c3 l h hr hl => (quickTime_any lo ca cd lo3 c3 A rs D ds st gl B l W (hA.below h) hm hr hl).mono fun _ _ h => h.v);have HTR : Hid (∀ W,Below w.heap.size w W → Row W lo2 1 TR tr.length (strs tr)):=Lib.hid (fun W h => htr.below h);have HTL:=Lib.hid htl;clear hA hm htr htl;generalize timeT rs ds st gl = f at *
 obtain ⟨post',hpost⟩ : ∃ q,q = SprPost f tr w:=⟨_,rfl⟩
 rw [← hpost];have HPO:=Lib.hid hpost;clear hpost
 go_enter Tryz.func40,Tryz.ntmps40
 go_upto_region 1 with (fail);generalize w.alloc (.cells #[.slice A rs.length ca,.slice D ds.length cd,.string ⟨st.toArray⟩,.string ⟨gl.toArray⟩] 29) = W1 at *;have hq:=HQ.out W1 TR lo2 c2 tr hb0 (HTR.out _ hb0) HTL.out;obtain ⟨m0,m1,m2,m3⟩:=hmb.fourR;have zm:=hmb.lt;go_wp2_with fail;refine hq.mono ?_;clear hq;rintro e V2 ⟨BA,bn,bc,t0,is0,rfl,hf0,hb⟩;replace hmb:=hmb.below hb;replace hb0:=below_up hb0 hb;have HF0:=Lib.hid hf0;clear hb m0 m1 m2 m3 zm hf0;go_upto_region 2 with (fail);have zz : w.heap.size < V2.heap.size:=hmb.lt;have hpb : Blk (V2.alloc (.cells #[.slice BA bn bc,.int .i64 t0] 40)) V2.heap.size 40 #[.slice BA bn bc,.int .i64 t0]:=Blk.new _ _ _;replace hmb : Blk (V2.alloc (.cells #[.slice BA bn bc,.int .i64 t0] 40)) w.heap.size 29 #[.slice A rs.length ca,.slice D ds.length cd,.string ⟨st.toArray⟩,.string ⟨gl.toArray⟩]:=hmb.alloc _;replace hb0 : Below w.heap.size w (V2.alloc (.cells #[.slice BA bn bc,.int .i64 t0] 40)):=hb0.alloc hb0.size _;generalize V2.alloc (.cells #[.slice BA bn bc,.int .i64 t0] 40) = V3 at *;generalize V2.heap.size = pb at *;have HVZ : Hid (w.heap.size ≤ V3.heap.size):=Lib.hid hb0.size;have HMP : Hid (∀ W,Below V3.heap.size V3 W → Blk W w.heap.size 29 #[.slice A rs.length ca,.slice D ds.length cd,.string ⟨st.toArray⟩,.string ⟨gl.toArray⟩] ∧ Blk W pb 40 #[.slice BA bn bc,.int .i64 t0] ∧ Row W lo2 1 TR tr.length (strs tr) ∧ Below w.heap.size w W):=Lib.hid (fun W h => ⟨hmb.below h,hpb.below h,HTR.out _ (below_up hb0 h),below_up hb0 h⟩);clear hmb hpb hb0 zz
 cases is0 with
 | false =>
  have ha : f tr < 0:=by have:=HF0.out.1; simpa using this
  have HA2:=Lib.hid ha;clear ha;go_wp2_with fail;rw [HPO.out];exact ⟨[],none,0,rfl,by rw [if_pos HA2.out],Row.none_ _ _ _ _,(HMP.out _ (Below.refl _ _)).2.2.2⟩
 | true =>
  have HAL : Hid (0 ≤ f tr ∧ t0 = f tr):=Lib.hid (by
   obtain ⟨h1,h2,h3,_⟩:=HF0.out
   have ha : ¬ f tr < 0:=by simpa using h1
   rw [if_neg ha] at h2
   omega)
  clear HF0;go_wp2_with fail
  go_loopw [7,8,24] (fun v x u wr => ∃ (i m k : Nat) (out left : List (List UInt8)) (PA : Option Addr) (pc : Nat) (LA : Option Addr) (lc : Nat),i ≤ tr.length ∧ v = .slice LA k lc ∧ x = .slice PA m pc ∧ u = .int .i64 i ∧ wr.ownsRow V3.heap.size 9 1 (.slice PA m pc) m (strs out) ∧ Row wr 0 1 LA k (strs left) ∧ Below V3.heap.size V3 wr ∧ m ≤ i ∧ k ≤ tr.length ∧ Hid (out.length = m ∧ left.length = k ∧ (tr.take i).foldl (spareS f (f tr)) ([],tr) = (out,left))) (fun _ _ u _ => tr.length - (intOf u).toNat)
  case atStart => exact ⟨0,0,tr.length,[],tr,none,0,TR,c2,Nat.zero_le _,rfl,rfl,rfl,World.ownsRow_nil _ _ _ _,row_down0 (HMP.out _ (Below.refl _ _)).2.2.1,Below.refl _ _,Nat.le_refl _,Nat.le_refl _,Lib.hid ⟨rfl,rfl,rfl⟩⟩
  case round =>
   obtain ⟨i,m,k,out,left,PA0,pc0,LA,lc,hi,rfl,rfl,rfl,hown,hleft,hbl,hmi,hkt,HS⟩:=hrel
   by_cases hlt : i < tr.length
   ·obtain ⟨tb,toff,rfl,htb,hts⟩:=strs_at (HMP.out _ hbl).2.2.1 hlt
    have t0':=hts i hlt;have HTK : Hid ((tr.take (i + 1)).foldl (spareS f (f tr)) ([],tr) = spareS f (f tr) (out,left) tr[i]):=Lib.hid (by rw [List.take_add_one,List.getElem?_eq_getElem hlt,List.foldl_append,HS.out.2.2]; rfl);simp only [encStr] at t0';generalize tr[i] = s at *
    have hlb1 : (m + 1) * 16 ≤ 140737488355328:=by have:=HTL.out; omega
    have hlb2 : m + 1 ≤ 9223372036854775807:=by have:=HTL.out; omega
    have hlb3 : i + 1 ≤ 9223372036854775807:=by have:=HTL.out; omega
    clear hts;go_upto_region 9 with (fail);clear t0' htb
    have HWO : Hid (∀ C,Below wr.heap.size wr C → Calls Tryz.prog 104 #[.slice LA k lc,.string ⟨s.toArray⟩] C fun e w' => ∃ B d,e = .returned (.slice B (lessL left s).length d) ∧ w'.ownsRow C.heap.size 9 1 (.slice B (lessL left s).length d) (lessL left s).length (strs (lessL left s)) ∧ Below C.heap.size C w'):=Lib.hid (fun C h => by
     have h1:=without_any LA lc 0 left s C (by rw [HS.out.2.1]; exact hleft.below h) (by have:=HTL.out; rw [HS.out.2.1]; omega);rw [HS.out.2.1] at h1
     exact h1)
    have HLL : Hid ((lessL left s).length ≤ k):=Lib.hid (by have:=lessL_len left s; rw [HS.out.2.1] at this; exact this)
    go_cut [11,12] from 28 to 35 (fun u v wx => ∃ (p2 : Nat) (BB : Option Addr) (bn2 bc2 : Nat) (t1 : Int) (is1 : Bool),u = .pointer (some ⟨p2,0,none⟩) ∧ v = .bool is1 ∧ Hid (is1 = !decide (f (lessL left s) < 0) ∧ t1 = (if f (lessL left s) < 0 then 0 else f (lessL left s)) ∧ -1 ≤ f (lessL left s) ∧ f (lessL left s) ≤ 530841600000000) ∧ Blk wx p2 40 #[.slice BB bn2 bc2,.int .i64 t1] ∧ Below wr.heap.size wr wx)
    case first =>
     have hbw : Below wr.heap.size wr wr.drew:=(Below.refl _ _).drew;go_wp2_with fail;refine wp_region_held_drew (S:=(fun w' => w'.cell? ⟨w.heap.size,0,none⟩ = some (.slice A rs.length ca) ∧ w'.cell? ⟨w.heap.size,1,none⟩ = some (.slice D ds.length cd) ∧ w'.cell? ⟨w.heap.size,2,none⟩ = some (.string ⟨st.toArray⟩) ∧ w'.cell? ⟨w.heap.size,3,none⟩ = some (.string ⟨gl.toArray⟩))) (by kernel_rfl) ((HMP.out _ (below_up hbl hbw)).1.fourR) (fun hHeld => ?_);generalize wr.drew = wd at hbw hHeld ⊢;(refine QU 0 ?_; (try simp only [Act.put,Q3,Q4,Q5]));(refine QU 1 ?_; (try simp only [Act.put,Q3,Q4,Q5]));(refine QU 2 ?_; (try simp only [Act.put,Q3,Q4,Q5]));refine wpAnyH_ready (rs:=[3,8]) (by kernel_rfl) (by simp) ?_;refine AllReadyH.cons rfl (fun K hK => ?_) (AllReadyH.cons rfl (fun K hK => ?_) AllReadyH.nil)
     focus (
      go_simp;go_at_call 104;refine (HWO.out wd hbw).mono ?_;rintro e Y3 ⟨B,d,rfl,hlo,hb⟩;replace hbw:=below_up hbw hb;have hlr:=row_down0 (Row.of_own hlo);clear hb hlo;go_wp2_with fail;refine hK.out _ _ ((HMP.out _ (below_up hbl hbw)).1.fourR) (fun hHeld => ?_);clear hK K;(try simp only [Act.put,Q3,Q4,Q5]);refine wpAnyH_ready (rs:=[4,8]) (by kernel_rfl) (by simp) ?_;refine AllReadyH.cons rfl (fun K hK => ?_) (AllReadyH.cons rfl (fun K hK => ?_) AllReadyH.nil)
      focus (
       go_simp;go_at_call 16;refine (HQ.out Y3 B 0 d (lessL left s) ((HMP.out _ (below_up hbl hbw)).2.2.2) hlr (Nat.le_trans HLL.out (Nat.le_trans hkt HTL.out))).mono ?_;rintro e Y4 ⟨BB,bn2,bc2,t1,is1,rfl,hf1,hb⟩;have HF1:=Lib.hid hf1;replace hbw:=below_up hbw hb;clear hb hlr hf1;go_wp2_with fail;refine hK.out _ _ ((HMP.out _ (below_up hbl hbw)).1.fourR) (fun hHeld => ?_);clear hK K;(try simp only [Act.put,Q3,Q4,Q5]);(refine QU 5 ?_; (try simp only [Act.put,Q3,Q4,Q5]));(refine QU 6 ?_; (try simp only [Act.put,Q3,Q4,Q5]));(refine QU 7 ?_; (try simp only [Act.put,Q3,Q4,Q5]));refine QR 8 fun K hK => ?_;go_simp;have hp2 : Blk (Y4.alloc (.cells #[.slice none 0 0,.int .i64 0] 40)) Y4.heap.size 40 #[.slice none 0 0,.int .i64 0]:=Blk.new _ _ _;have hpz : wr.heap.size ≤ Y4.heap.size:=hbw.size;replace hbw:=hbw.alloc hbw.size (.cells #[.slice none 0 0,.int .i64 0] 40);generalize Y4.alloc (.cells #[.slice none 0 0,.int .i64 0] 40) = Y8 at hp2 hbw ⊢;generalize Y4.heap.size = p2 at hp2 hpz ⊢;refine hK.out _ _ ((HMP.out _ (below_up hbl hbw)).1.fourR) (fun hHeld => ?_);clear hK K;(try simp only [Act.put,Q3,Q4,Q5])
       generalize Y8 = U at hp2 hbw ⊢)
      rotate_left 1
      focus (
       go_simp;have hp2 : Blk (Y3.alloc (.cells #[.slice none 0 0,.int .i64 0] 40)) Y3.heap.size 40 #[.slice none 0 0,.int .i64 0]:=Blk.new _ _ _;have hpz : wr.heap.size ≤ Y3.heap.size:=hbw.size;replace hbw:=hbw.alloc hbw.size (.cells #[.slice none 0 0,.int .i64 0] 40);replace hlr:=hlr.alloc (.cells #[.slice none 0 0,.int .i64 0] 40);generalize Y3.alloc (.cells #[.slice none 0 0,.int .i64 0] 40) = Y8 at hp2 hbw hlr ⊢;generalize Y3.heap.size = p2 at hp2 hpz ⊢;refine hK.out _ _ ((HMP.out _ (below_up hbl hbw)).1.fourR) (fun hHeld => ?_);clear hK K;(try simp only [Act.put,Q3,Q4,Q5]);refine QR 4 fun K hK => ?_;go_simp;go_at_call 16;refine (HQ.out Y8 B 0 d (lessL left s) ((HMP.out _ (below_up hbl hbw)).2.2.2) hlr (Nat.le_trans HLL.out (Nat.le_trans hkt HTL.out))).mono ?_;rintro e Y4 ⟨BB,bn2,bc2,t1,is1,rfl,hf1,hb⟩;have HF1:=Lib.hid hf1;replace hbw:=below_up hbw hb;replace hp2:=hp2.below hb;clear hb hlr hf1;go_wp2_with fail;refine hK.out _ _ ((HMP.out _ (below_up hbl hbw)).1.fourR) (fun hHeld => ?_);clear hK K;(try simp only [Act.put,Q3,Q4,Q5]);(refine QU 5 ?_; (try simp only [Act.put,Q3,Q4,Q5]));(refine QU 6 ?_; (try simp only [Act.put,Q3,Q4,Q5]));(refine QU 7 ?_; (try simp only [Act.put,Q3,Q4,Q5]))
       generalize Y4 = U at hp2 hbw ⊢)
      rotate_left 1)
     rotate_left 2
     focus (
      go_simp;have hp2 : Blk (wd.alloc (.cells #[.slice none 0 0,.int .i64 0] 40)) wd.heap.size 40 #[.slice none 0 0,.int .i64 0]:=Blk.new _ _ _;have hpz : wr.heap.size ≤ wd.heap.size:=hbw.size;replace hbw:=hbw.alloc hbw.size (.cells #[.slice none 0 0,.int .i64 0] 40);generalize wd.alloc (.cells #[.slice none 0 0,.int .i64 0] 40) = Y8 at hp2 hbw ⊢;generalize wd.heap.size = p2 at hp2 hpz ⊢;refine hK.out _ _ ((HMP.out _ (below_up hbl hbw)).1.fourR) (fun hHeld => ?_);clear hK K;(try simp only [Act.put,Q3,Q4,Q5]);refine QR 3 fun K hK => ?_;go_simp;go_at_call 104;refine (HWO.out Y8 hbw).mono ?_;rintro e Y3 ⟨B,d,rfl,hlo,hb⟩;replace hbw:=below_up hbw hb;replace hp2:=hp2.below hb;have hlr:=row_down0 (Row.of_own hlo);clear hb hlo;go_wp2_with fail;refine hK.out _ _ ((HMP.out _ (below_up hbl hbw)).1.fourR) (fun hHeld => ?_);clear hK K;(try simp only [Act.put,Q3,Q4,Q5]);refine QR 4 fun K hK => ?_;go_simp;go_at_call 16;refine (HQ.out Y3 B 0 d (lessL left s) ((HMP.out _ (below_up hbl hbw)).2.2.2) hlr (Nat.le_trans HLL.out (Nat.le_trans hkt HTL.out))).mono ?_;rintro e Y4 ⟨BB,bn2,bc2,t1,is1,rfl,hf1,hb⟩;have HF1:=Lib.hid hf1;replace hbw:=below_up hbw hb;replace hp2:=hp2.below hb;clear hb hlr hf1;go_wp2_with fail;refine hK.out _ _ ((HMP.out _ (below_up hbl hbw)).1.fourR) (fun hHeld => ?_);clear hK K;(try simp only [Act.put,Q3,Q4,Q5]);(refine QU 5 ?_; (try simp only [Act.put,Q3,Q4,Q5]));(refine QU 6 ?_; (try simp only [Act.put,Q3,Q4,Q5]));(refine QU 7 ?_; (try simp only [Act.put,Q3,Q4,Q5]))
      generalize Y4 = U at hp2 hbw ⊢)
     rotate_left 1
     all_goals (
      refine QR 9 fun K hK => ?_;obtain ⟨r0,r1⟩:=hp2.w2;have f0:=hp2.thaw 0;have f1:=hp2.thaw 1;have zr:=hp2.lt;replace hp2 : Blk ((U.setCell ⟨p2,0,none⟩ (.slice BB bn2 bc2)).setCell ⟨p2,1,none⟩ (.int .i64 t1)) p2 40 #[.slice BB bn2 bc2,.int .i64 t1]:=(hp2.poke 0 (.slice BB bn2 bc2)).poke 1 (.int .i64 t1);replace hbw : Below wr.heap.size wr ((U.setCell ⟨p2,0,none⟩ (.slice BB bn2 bc2)).setCell ⟨p2,1,none⟩ (.int .i64 t1)):=Below.setCell (Below.setCell hbw (p:=⟨p2,0,none⟩) (show wr.heap.size ≤ p2 from hpz) (.slice BB bn2 bc2)) (p:=⟨p2,1,none⟩) (show wr.heap.size ≤ p2 from hpz) (.int .i64 t1);go_simp;clear r0 r1 f0 f1 zr;generalize (U.setCell ⟨p2,0,none⟩ (.slice BB bn2 bc2)).setCell ⟨p2,1,none⟩ (.int .i64 t1) = Y9 at hp2 hbw ⊢;refine hK.out _ _ ((HMP.out _ (below_up hbl hbw)).1.fourR) (fun hHeld => ?_);clear hK K;(try simp only [Act.put,Q3,Q4,Q5]);(refine QU 10 ?_; (try simp only [Act.put,Q3,Q4,Q5]));refine wpAnyH_done (by kernel_rfl) ?_ _;go_wp2_with fail;go_meet
      exact ⟨p2,BB,bn2,bc2,t1,is1,rfl,rfl,HF1,hp2,hbw⟩)
    case rest =>
     obtain ⟨p2,BB,bn2,bc2,t1,is1,rfl,rfl,HF1,hp2,hbw⟩:=hcut;generalize wc = Y9 at *;have HPO3 : Hid (∀ j,(Value.slice PA0 m pc0).ownBlock = some j → j < wr.heap.size):=Lib.hid (fun j hj => (hown.lt _ hj).2);have hbwz:=hbw.size;replace hown:=own_keep hown hbw;replace hleft:=hleft.below hbw;have HWO2 : Hid (∀ C,Below Y9.heap.size Y9 C → Calls Tryz.prog 104 #[.slice LA k lc,.string ⟨s.toArray⟩] C fun e w' => ∃ B d,e = .returned (.slice B (lessL left s).length d) ∧ w'.ownsRow C.heap.size 9 1 (.slice B (lessL left s).length d) (lessL left s).length (strs (lessL left s)) ∧ Below C.heap.size C w'):=Lib.hid (fun C h => HWO.out C (below_up hbw h));replace hbl:=below_up hbl hbw;clear hbw;obtain ⟨k1,k2,k3,k4⟩:=HF1.out;have hpq:=(HMP.out _ hbl).2.1
     cases is1 with
     | false =>
      have hn : f (lessL left s) < 0:=by simpa using k1
      have HV : Hid (spareS f (f tr) (out,left) s = (out,left)):=Lib.hid (by unfold spareS; simp only; rw [if_neg (by have:=HAL.out.1; omega)]);clear k1 k2 k3 k4 hpq;go_wp2_with fail;go_roundw
      case rel => exact ⟨i + 1,m,k,out,left,PA0,pc0,LA,lc,by omega,rfl,rfl,by go_num,hown,hleft,hbl,by omega,hkt,Lib.hid ⟨HS.out.1,HS.out.2.1,by rw [HTK.out,HV.out]⟩⟩
      case measure => simp [intOf]; omega
     | true =>
      have hn : ¬ f (lessL left s) < 0:=by simpa using k1
      rw [if_neg hn] at k2;obtain ⟨q0,q1⟩:=hpq.w2;obtain ⟨r0,r1⟩:=hp2.w2;have zr:=hp2.lt;have zq:=hpq.lt
      by_cases hc : t1 = t0
      ·have d2 : (t1 == t0) = true:=beq_iff_eq.2 hc
       have HV : Hid (spareS f (f tr) (out,left) s = (out ++ [s],lessL left s)):=Lib.hid (by unfold spareS; simp only; rw [if_pos (by rw [← k2,hc]; exact HAL.out.2)]);clear k1 k2 k3 k4 hn hc;go_wp2_with fail;refine (HWO2.out _ (Below.refl _ _)).mono ?_;clear q0 q1 r0 r1 zr zq hpq hp2;rintro e w5 ⟨B,d,rfl,hlo,hb⟩;replace hbl:=below_up hbl hb;replace hown:=own_keep hown hb;have hlr:=row_down0 (Row.of_own hlo)
       have HLX : Hid (∀ a j,B = some a → (Value.slice PA0 m pc0).ownBlock = some j → a.block ≠ j):=Lib.hid (fun a j ha hj => by
        have h1:=HPO3.out j hj;have h2:=(hlo.lt a.block (by rw [obk_is,ha]; rfl)).1
        omega)
       have hll:=HLL.out
       obtain ⟨lk,hlk⟩ : ∃ lk,lk = (lessL left s).length:=⟨_,rfl⟩
       rw [← hlk] at hlr hll ⊢;have HLK:=Lib.hid hlk;have hsz:=hbl.size;clear hb hlo hleft hlk
       go_wp2_with (at_builtin; go_must (refine wpList_app (lo:=V3.heap.size) (base:=V3.heap.size) (n:=m) (xs:=strs out) _ _ rfl _ _ ty_strsL rfl (by repeat (first | exact hown | refine World.ownsRow.alloc ?_ _ | refine own_drewN ?_ _ | refine World.ownsRow.drew ?_)) rfl (by first | exact row_new' _ (by first | rfl | simp) (by first | omega | (simp; omega)) rfl | exact row_newN _ _ (by first | rfl | simp) (by first | omega | (simp; omega)) rfl | exact row_newD _ (by first | rfl | simp) (by first | omega | (simp; omega)) rfl) rfl rfl (by first | omega | decide) (by first | omega | decide) (by first | omega | (simp; omega)) ?_))
       intro A5 c5 w8 hown8 hg8 _;have hbl8 : Below V3.heap.size V3 w8:=Below.grown (by repeat (first | exact hbl | refine Below.alloc ?_ (by first | omega | (simp; omega)) _)) hg8 (by first | omega | (simp; omega)) (own_base (by repeat (first | exact hown | refine World.ownsRow.alloc ?_ _)));have hlr8 : Row w8 0 1 B lk (strs (lessL left s)):=Row.grown_x (by repeat (first | exact hlr | refine Row.alloc ?_ _)) hg8 HLX.out;have HO8 : Hid (w8.ownsRow V3.heap.size 9 1 (.slice A5 (m + 1) c5) (m + 1) (strs (out ++ [s]))):=Lib.hid (by simpa [strs,encStr] using hown8);clear hown8 hg8;go_wp2_with fail;go_roundw
       case rel => exact ⟨i + 1,m + 1,lk,out ++ [s],lessL left s,A5,c5,B,d,by omega,rfl,rfl,by go_num,HO8.out,hlr8,hbl8,by omega,by omega,Lib.hid ⟨by simp [HS.out.1],HLK.out.symm,by rw [HTK.out,HV.out]⟩⟩
       case measure => simp [intOf]; omega
      ·have d2 : (t1 == t0) = false:=beq_eq_false_iff_ne.2 hc
       have HV : Hid (spareS f (f tr) (out,left) s = (out,left)):=Lib.hid (by unfold spareS; simp only; rw [if_neg (by rw [← k2,← HAL.out.2]; exact hc)]);clear k1 k2 k3 k4 hn hc;go_wp2_with fail;go_roundw
       case rel => exact ⟨i + 1,m,k,out,left,PA0,pc0,LA,lc,by omega,rfl,rfl,by go_num,hown,hleft,hbl,by omega,hkt,Lib.hid ⟨HS.out.1,HS.out.2.1,by rw [HTK.out,HV.out]⟩⟩
       case measure => simp [intOf]; omega
   ·have hie : i = tr.length:=by omega
    subst hie;have HE : Hid (out = (spareF f tr).1):=Lib.hid (by have h:=HS.out.2.2; rw [List.take_length] at h; unfold spareF; rw [h]);obtain ⟨hm1,-,-⟩:=HS.out;subst hm1;clear hleft;go_wp2_with fail;rw [HPO.out];exact ⟨out,PA0,pc0,rfl,by rw [if_neg (by have:=HAL.out.1; omega)]; exact HE.out,row_down0 (Row.of_own hown),(HMP.out _ hbl).2.2.2⟩
end Go.Proofs.YtjggbpchmbdocaaGreatDoor
/- The walk of the reference's LearnOf. -/
namespace Go.Proofs.YtjggbpchmbdocaaGreatDoor
open Go.RowKit Go.Sort Go.Maps Go.WideMaps

theorem bit_tm (k i : Nat) : ((k : Int) / 2 ^ i).tmod 2 = ((k / 2 ^ i % 2 : Nat) : Int):=by
 have e : ((k : Int) / 2 ^ i) = ((k / 2 ^ i : Nat) : Int):=by simp
 rw [e];generalize k / 2 ^ i = q;rw [Int.tmod_eq_emod_of_nonneg (by omega)];omega
theorem shl_12 (n : Nat) (hn : n ≤ 12) : IntKind.i64.wrap ((2 : Int) ^ n) = ((2 ^ n : Nat) : Int):=by
 have : ∀ k : Fin 13,IntKind.i64.wrap ((2 : Int) ^ k.val) = ((2 ^ k.val : Nat) : Int):=by decide
 exact this ⟨n,by omega⟩
def LrnPost (f : List (List UInt8) → Int) (most : Int) (tr : List (List UInt8)) (w : World) (e : Ending) (w' : World) : Prop :=
 ∃ (l : List (List UInt8)) (is : Bool) (A : Option Addr) (c : Nat),learnR f most tr (2 ^ tr.length) = (l,is) ∧ e = .returned (.tuple #[.slice A l.length c,.bool is]) ∧ Row w' 0 1 A l.length (strs l) ∧ Below w.heap.size w w'
set_option maxHeartbeats 8000000 in
set_option maxRecDepth 100000 in
theorem learnOf_any (lo ca cd lo2 c2 : Nat) (A : Option Addr) (rs : List RoomE) (D : Option Addr) (ds : List DoorE) (st gl : List UInt8) (TR : Option Addr) (tr : List (List UInt8)) (most : Int) (w : World)
  (hA : MapW w lo A rs D ds) (hm : mapE rs ds st gl = 0) (htr : Row w lo2 1 TR tr.length (strs tr)) (htl : tr.length ≤ 12) :
  Calls Tryz.prog 43 #[.agg #[.slice A rs.length ca,.slice D ds.length cd,.string ⟨st.toArray⟩,.string ⟨gl.toArray⟩],.slice TR tr.length c2,.int .i64 most] w (LrnPost (timeT rs ds st gl) most tr w):=by
 have hb0 : Below w.heap.size w (w.alloc (.cells #[.slice A rs.length ca,.slice D ds.length cd,.string ⟨st.toArray⟩,.string ⟨gl.toArray⟩] 29)):=(by repeat (first | exact Below.refl _ _ | refine Below.alloc ?_ (by first | omega | (simp; omega) | simp) _ | refine below_drewN' ?_ _ | refine Below.drew ?_))
 have hmb : Blk (w.alloc (.cells #[.slice A rs.length ca,.slice D ds.length cd,.string ⟨st.toArray⟩,.string ⟨gl.toArray⟩] 29)) w.heap.size 29 #[.slice A rs.length ca,.slice D ds.length cd,.string ⟨st.toArray⟩,.string ⟨gl.toArray⟩]:=Blk.new _ _ _;have HQ : Hid (∀ (W : World) (B : Option Addr) (lo3 c3 : Nat) (l : List (List UInt8)) (m : Nat),l.length = m → Below w.heap.size w W → Row W lo3 1 B m (strs l) → m ≤ 1000000 → Calls Tryz.prog 16 #[.agg #[.slice A rs.length ca,.slice D ds.length cd,.string ⟨st.toArray⟩,.string ⟨gl.toArray⟩],.slice B m c3] W (QvPost (timeT rs ds st gl l) W)):=Lib.hid (fun W B lo3 c3 l m e h hr hl => by subst e; exact (quickTime_any lo ca cd lo3 c3 A rs D ds st gl B l W (hA.below h) hm hr hl).mono fun _ _ h => h.v);have HTR : Hid (∀ W,Below w.heap.size w W → Row W lo2 1 TR tr.length (strs tr)):=Lib.hid (fun W h => htr.below h)
 obtain ⟨n,hn⟩ : ∃ n,tr.length = n:=⟨_,rfl⟩
 obtain ⟨N,hN⟩ : ∃ N,N = 2 ^ n:=⟨_,rfl⟩
 have hsh : IntKind.i64.wrap ((2 : Int) ^ n) = (N : Int):=by rw [hN]; exact shl_12 n (by omega)
 have hn12 : n ≤ 12:=by omega
 have hNl : N ≤ 4096:=by
  have:=Nat.pow_le_pow_right (n:=2) (by omega) hn12;omega
 have HN:=Lib.hid hn;have HNN:=Lib.hid hN;clear hA hm htr htl hN;generalize timeT rs ds st gl = f at *
 obtain ⟨post',hpost⟩ : ∃ q,q = LrnPost f most tr w:=⟨_,rfl⟩
 rw [← hpost];have HPO:=Lib.hid hpost;clear hpost;rw [hn];clear hn
 go_enter Tryz.func43,Tryz.ntmps43
 go_upto_region 1 with (fail);generalize w.alloc (.cells #[.slice A rs.length ca,.slice D ds.length cd,.string ⟨st.toArray⟩,.string ⟨gl.toArray⟩] 29) = W1 at *;have HMB : Hid (∀ W,Below W1.heap.size W1 W → Blk W w.heap.size 29 #[.slice A rs.length ca,.slice D ds.length cd,.string ⟨st.toArray⟩,.string ⟨gl.toArray⟩]):=Lib.hid (fun W h => hmb.below h);clear hmb;go_wp2_with fail
 go_loopw [8,9,19] (fun v x u wr => ∃ (k : Nat) (bl : List (List UInt8)) (bi : Bool) (BA : Option Addr) (bn bc : Nat),k ≤ N ∧ v = .slice BA bn bc ∧ x = .bool bi ∧ u = .int .i64 k ∧ Row wr 0 1 BA bn (strs bl) ∧ Hid (bl.length = bn ∧ (bl,bi) = learnR f most tr k) ∧ bn ≤ n ∧ Below W1.heap.size W1 wr) (fun _ _ u _ => N - (intOf u).toNat)
 case atStart => exact ⟨0,[],false,none,0,0,Nat.zero_le _,rfl,rfl,rfl,Row.none_ _ _ _ _,Lib.hid ⟨rfl,rfl⟩,Nat.zero_le _,Below.refl _ _⟩
 case round =>
  obtain ⟨k,bl,bi,BA,bn,bc,hk,rfl,rfl,rfl,hbest,HR,hbn,hbl⟩:=hrel
  by_cases hkl : k < N
  ·obtain ⟨wo,rfl⟩ : ∃ wo,wo = wr:=⟨_,rfl⟩
   have hk2 : k + 1 ≤ 9223372036854775807:=by omega
   go_wp2_with fail
   go_loopw [11,24] (fun v u wr => ∃ (i m : Nat) (SA : Option Addr) (sc : Nat),i ≤ n ∧ v = .slice SA m sc ∧ u = .int .i64 i ∧ wr.ownsRow wo.heap.size 9 1 (.slice SA m sc) m (strs (someF tr k i)) ∧ Hid ((someF tr k i).length = m) ∧ m ≤ i ∧ Below wo.heap.size wo wr) (fun _ u _ => n - (intOf u).toNat)
   case atStart => exact ⟨0,0,none,0,Nat.zero_le _,rfl,rfl,World.ownsRow_nil _ _ _ _,Lib.hid rfl,Nat.le_refl _,Below.refl _ _⟩
   case round =>
    obtain ⟨i,m,SA,sc,hi,rfl,rfl,hown,HSL,hmn,hbw⟩:=hrel
    by_cases hlt : i < n
    ·obtain ⟨tb,toff,rfl,htb,hts⟩:=strs_at (HTR.out _ (below_up hb0 (below_up hbl hbw))) (by rw [HN.out]; exact hlt)
     have t0':=hts i (by rw [HN.out]; exact hlt)
     have HSM : Hid (someF tr k (i + 1) = someF tr k i ++ if k / 2 ^ i % 2 = 1 then [tr[i]'(by rw [HN.out]; exact hlt)] else []):=Lib.hid (by
      have : i < tr.length:=by rw [HN.out]; exact hlt
      conv => lhs; unfold someF
      rw [List.getD_eq_getElem?_getD,List.getElem?_eq_getElem this]; rfl)
     simp only [encStr] at t0';generalize tr[i]'(by rw [HN.out]; exact hlt) = s at *
     have hlb1 : (m + 1) * 16 ≤ 140737488355328:=by omega
     have hlb2 : m + 1 ≤ 9223372036854775807:=by omega
     have hsz:=hbw.size;have HBI:=Lib.hid (bit_tm k i);clear hts
     by_cases hbit : k / 2 ^ i % 2 = 1
     ·have e1 : ((k : Int) / 2 ^ i).tmod 2 = 1:=by rw [HBI.out,hbit]; rfl
      have HSE : Hid (someF tr k (i + 1) = someF tr k i ++ [s]):=Lib.hid (by rw [HSM.out,if_pos hbit]);clear hbit;generalize someF tr k i = S at *
      go_wp2_with (at_builtin; go_must (refine wpList_app (lo:=wo.heap.size) (base:=wo.heap.size) (n:=m) (xs:=strs S) _ _ rfl _ _ ty_strsL rfl (by repeat (first | exact hown | refine World.ownsRow.alloc ?_ _ | refine own_drewN ?_ _ | refine World.ownsRow.drew ?_)) rfl (by first | exact row_new' _ (by first | rfl | simp) (by first | omega | (simp; omega)) rfl | exact row_newN _ _ (by first | rfl | simp) (by first | omega | (simp; omega)) rfl | exact row_newD _ (by first | rfl | simp) (by first | omega | (simp; omega)) rfl) rfl rfl (by first | omega | decide) (by first | omega | decide) (by first | omega | (simp; omega)) ?_))
      intro A5 c5 w8 hown8 hg8 _;have hbw8 : Below wo.heap.size wo w8:=Below.grown (by repeat (first | exact hbw | refine Below.alloc ?_ (by first | omega | (simp; omega)) _)) hg8 (by first | omega | (simp; omega)) (own_base (by repeat (first | exact hown | refine World.ownsRow.alloc ?_ _)));have HO8 : Hid (w8.ownsRow wo.heap.size 9 1 (.slice A5 (m + 1) c5) (m + 1) (strs (S ++ [s]))):=Lib.hid (by simpa [strs,encStr] using hown8);clear hown8 hg8 t0';go_wp2_with fail;go_roundw
      case rel => exact ⟨i + 1,m + 1,A5,c5,by omega,rfl,by go_num,by rw [HSE.out]; exact HO8.out,Lib.hid (by rw [HSE.out,List.length_append,HSL.out]; rfl),by omega,hbw8⟩
      case measure => simp [intOf]; omega
     ·have e1 : ((k : Int) / 2 ^ i).tmod 2 = 0:=by rw [HBI.out,show k / 2 ^ i % 2 = 0 by omega]; rfl
      have HSE : Hid (someF tr k (i + 1) = someF tr k i):=Lib.hid (by rw [HSM.out,if_neg hbit,List.append_nil]);clear hbit;generalize someF tr k i = S at *;go_wp2_with fail;go_roundw
      case rel => exact ⟨i + 1,m,SA,sc,by omega,rfl,by go_num,by rw [HSE.out]; exact hown,by rw [HSE.out]; exact HSL,by omega,hbw⟩
      case measure => simp [intOf]; omega
    ·have hie : i = n:=by omega
     subst hie;have HSS : Hid (someF tr k tr.length = someF tr k i):=Lib.hid (by rw [HN.out]);generalize someF tr k i = S at *;have hbl2:=below_up hbl hbw;have hbest2:=hbest.below hbw;have hsome:=row_down0 (Row.of_own hown);have hq:=HQ.out wr SA 0 sc S m HSL.out (below_up hb0 hbl2) hsome (by omega);obtain ⟨m0,m1,m2,m3⟩:=(HMB.out _ hbl2).fourR;have zm:=(HMB.out _ hbl2).lt;clear hown hbl hbest;go_wp2_with fail;refine hq.mono ?_;clear hq;rintro e V2 ⟨QA,qn,qc,t1,is1,rfl,hf1,hb⟩;have HF1:=Lib.hid hf1;have hbl:=below_up hbl2 hb;have hbest:=hbest2.below hb;replace hsome:=hsome.below hb;clear hb m0 m1 m2 m3 zm hf1 hbl2 hbest2 hbw;go_upto_region 14 with (fail);have hpb : Blk (V2.alloc (.cells #[.slice QA qn qc,.int .i64 t1] 40)) V2.heap.size 40 #[.slice QA qn qc,.int .i64 t1]:=Blk.new _ _ _;replace hbest : Row (V2.alloc (.cells #[.slice QA qn qc,.int .i64 t1] 40)) 0 1 BA bn (strs bl):=hbest.alloc _;replace hsome : Row (V2.alloc (.cells #[.slice QA qn qc,.int .i64 t1] 40)) 0 1 SA m (strs S):=hsome.alloc _;replace hbl : Below W1.heap.size W1 (V2.alloc (.cells #[.slice QA qn qc,.int .i64 t1] 40)):=hbl.alloc hbl.size _;generalize V2.alloc (.cells #[.slice QA qn qc,.int .i64 t1] 40) = Z at *;generalize V2.heap.size = pb at *;obtain ⟨p0,p1⟩:=hpb.w2;have zp:=hpb.lt
     cases is1 with
     | false =>
      have HV : Hid (learnS f most tr (bl,bi) k = (bl,bi)):=Lib.hid (by
       have hn : f S < 0:=by have:=HF1.out.1; simpa using this
       unfold learnS; rw [HSS.out,if_neg (fun h => by have h1:=h.1; unfold fastB at h1; simp only [Bool.and_eq_true,decide_eq_true_eq] at h1; omega)])
      go_wp2_with fail;go_roundw
      case rel => exact ⟨k + 1,bl,bi,BA,bn,bc,by omega,rfl,rfl,by go_num,hbest,Lib.hid ⟨HR.out.1,by rw [learnR_succ,← HR.out.2,HV.out]⟩,hbn,hbl⟩
      case measure => simp [intOf]; omega
     | true =>
      have HT1 : Hid (0 ≤ f S ∧ t1 = f S):=Lib.hid (by
       obtain ⟨h1,h2,h3,_⟩:=HF1.out
       have ha : ¬ f S < 0:=by simpa using h1
       rw [if_neg ha] at h2
       omega)
      clear HF1
      by_cases hm : t1 ≤ most
      ·have d1 : decide (t1 ≤ most) = true:=decide_eq_true hm
       have HF : Hid (fastB f most S = true):=Lib.hid (by have:=HT1.out; unfold fastB; simp only [Bool.and_eq_true,decide_eq_true_eq]; omega);clear hm
       cases bi with
       | false =>
        have HV : Hid (learnS f most tr (bl,false) k = (S,true)):=Lib.hid (by unfold learnS; rw [HSS.out,if_pos ⟨HF.out,.inl rfl⟩]);go_wp2_with fail;go_roundw
        case rel => exact ⟨k + 1,S,true,SA,m,sc,by omega,rfl,rfl,by go_num,hsome,Lib.hid ⟨HSL.out,by rw [learnR_succ,← HR.out.2,HV.out]⟩,hmn,hbl⟩
        case measure => simp [intOf]; omega
       | true =>
        have hcs:=compareS_any SA BA sc bc 0 0 S bl Z (by rw [HSL.out]; exact hsome) (by rw [HR.out.1]; exact hbest) (by rw [HSL.out]; omega) (by rw [HR.out.1]; omega);rw [HSL.out,HR.out.1] at hcs;go_wp2_with fail;refine (cmpInt_any (m : Int) (bn : Int) _).mono ?_;rintro e Z1 ⟨rfl,rfl⟩;go_wp2_with fail;refine hcs.mono ?_;rintro e Z1 ⟨rfl,rfl⟩;clear hcs;have hor:=orP_any (some ⟨Z.heap.size,0,none⟩) 2 Z.heap.size [cmpI (m : Int) (bn : Int),cmpLS S bl] (Z.alloc (.cells #[.int .i64 (cmpI (m : Int) (bn : Int)),.int .i64 (cmpLS S bl)] 3)) (Row.lit (Blk.new Z 3 #[.int .i64 (cmpI (m : Int) (bn : Int)),.int .i64 (cmpLS S bl)]) (Nat.le_refl _) rfl) (by simp);have HLB : Hid (firstE [cmpI (m : Int) (bn : Int),cmpLS S bl] = lbE S bl):=Lib.hid (by unfold lbE; rw [HSL.out,HR.out.1]);rw [HLB.out] at hor
        obtain ⟨lb,hlb⟩ : ∃ lb,lb = lbE S bl:=⟨_,rfl⟩
        rw [← hlb] at hor;have HLBE : Hid (lbE S bl = lb):=Lib.hid hlb.symm;clear hlb;go_wp2_with fail;refine hor.mono ?_;rintro e Z2 ⟨rfl,rfl⟩;clear hor;replace hbest:=hbest.alloc (.cells #[.int .i64 (cmpI (m : Int) (bn : Int)),.int .i64 (cmpLS S bl)] 3);replace hsome:=hsome.alloc (.cells #[.int .i64 (cmpI (m : Int) (bn : Int)),.int .i64 (cmpLS S bl)] 3);replace hbl:=hbl.alloc hbl.size (.cells #[.int .i64 (cmpI (m : Int) (bn : Int)),.int .i64 (cmpLS S bl)] 3);generalize Z.alloc (.cells #[.int .i64 (cmpI (m : Int) (bn : Int)),.int .i64 (cmpLS S bl)] 3) = Z2 at *
        by_cases hc : lb < 0
        ·have d2 : decide (lb < 0) = true:=decide_eq_true hc
         have HV : Hid (learnS f most tr (bl,true) k = (S,true)):=Lib.hid (by unfold learnS; rw [HSS.out,if_pos ⟨HF.out,.inr (by rw [HLBE.out]; exact hc)⟩]);clear hc;go_wp2_with fail;go_roundw
         case rel => exact ⟨k + 1,S,true,SA,m,sc,by omega,rfl,rfl,by go_num,hsome,Lib.hid ⟨HSL.out,by rw [learnR_succ,← HR.out.2,HV.out]⟩,hmn,hbl⟩
         case measure => simp [intOf]; omega
        ·have d2 : decide (lb < 0) = false:=decide_eq_false hc
         have HV : Hid (learnS f most tr (bl,true) k = (bl,true)):=Lib.hid (by unfold learnS; rw [HSS.out,if_neg (fun h => h.2.elim (fun h => by cases h) (fun h => hc (by rw [HLBE.out] at h; exact h)))]);clear hc;go_wp2_with fail;go_roundw
         case rel => exact ⟨k + 1,bl,true,BA,bn,bc,by omega,rfl,rfl,by go_num,hbest,Lib.hid ⟨HR.out.1,by rw [learnR_succ,← HR.out.2,HV.out]⟩,hbn,hbl⟩
         case measure => simp [intOf]; omega
      ·have d1 : decide (t1 ≤ most) = false:=decide_eq_false hm
       have HV : Hid (learnS f most tr (bl,bi) k = (bl,bi)):=Lib.hid (by
        have h2:=HT1.out
        unfold learnS; rw [HSS.out,if_neg (fun h => by have h1:=h.1; unfold fastB at h1; simp only [Bool.and_eq_true,decide_eq_true_eq] at h1; omega)])
       clear hm;go_wp2_with fail;go_roundw
       case rel => exact ⟨k + 1,bl,bi,BA,bn,bc,by omega,rfl,rfl,by go_num,hbest,Lib.hid ⟨HR.out.1,by rw [learnR_succ,← HR.out.2,HV.out]⟩,hbn,hbl⟩
       case measure => simp [intOf]; omega
  ·have hke : k = N:=by omega
   subst hke;obtain ⟨h1,h2⟩:=HR.out;have HE : Hid (learnR f most tr (2 ^ tr.length) = (bl,bi)):=Lib.hid (by rw [HN.out,← HNN.out]; exact h2.symm);clear h2;subst h1;go_wp2_with fail;rw [HPO.out];exact ⟨bl,bi,BA,bc,HE.out,rfl,hbest,below_up hb0 hbl⟩
end Go.Proofs.YtjggbpchmbdocaaGreatDoor
