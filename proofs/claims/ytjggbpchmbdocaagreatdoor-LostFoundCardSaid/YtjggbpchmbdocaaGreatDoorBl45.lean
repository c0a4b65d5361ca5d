/- Texts of this seat, laid together: SpH SpI SpK. -/
import Derived.Deep.DeepCutAuto
import Derived.Test.YtjggbpchmbdocaaGreatDoorBl44
import Derived.Test.YtjggbpchmbdocaaGreatDoorBl43
import Derived.Test.YtjggbpchmbdocaaGreatDoorBl40
import Derived.Test.YtjggbpchmbdocaaGreatDoorBl38
/- Goals as function values; the walk of the reference's FromOf. -/
set_option linter.unusedVariables false
set_option linter.unusedSimpArgs false
namespace Go.Proofs.YtjggbpchmbdocaaGreatDoor
open Go.RowKit Go.Sort Go.Maps Go.WideMaps

theorem sfR_nil (rs : List RoomE) : sfR rs [] = id:=funext fun x => by unfold sfR; rw [visN_nil]; rfl
theorem stY_zero (rs : List RoomE) (T : List (List UInt8)) (room : List UInt8) (th : List (List UInt8)) : stY rs T room th (visN [] room 0) = stX rs T room th:=by rw [visN_nil]; rfl
structure FrOk (nx : StE → List (Nat × StE)) (ef : StE → Bool) (tm : Nat → Int) (s0 : StE) (is : Bool) (b : PwE) : Prop where
  no : is = false → b = (0, []) ∧ ∀ y a, ef y = true → ¬ WayF nx ef tm s0 y a
  yes : is = true → (∃ y, ef y = true ∧ WayF nx ef tm s0 y b) ∧ ∀ y a, ef y = true → WayF nx ef tm s0 y a → leP b a
section
variable {nx : StE → List (Nat × StE)} {ef : StE → Bool} {tm : Nat → Int} {s0 : StE} {is : Bool} {b : PwE} {M : FoundM}
theorem FrOk.of (h : BsOk M ef is b) (hc : Closed nx ef tm s0 M) : FrOk nx ef tm s0 is b:=by
 refine ⟨fun hi => ⟨(h.no hi).1,fun y a hy hw => ?_⟩,fun hi => ⟨?_,fun y a hy hw => ?_⟩⟩
 ·obtain ⟨c,hc1⟩:=hc.2 y hw.reach
  have:=(h.no hi).2 y c hc1
  rw [hy] at this; cases this
 ·obtain ⟨x,h1,h2⟩:=(h.yes hi).1
  exact ⟨x,h2,(hc.1 x b h1).1⟩
 ·obtain ⟨c,hc1⟩:=hc.2 y hw.reach
  exact leP_trans ((h.yes hi).2 y c hc1 hy) ((hc.1 y c hc1).2 a hw)
theorem FrOk.none (h : FrOk nx ef tm s0 is b) : is = false ↔ ∀ t d ks,¬ WayX nx ef tm s0 t d ks:=by
 constructor
 ·intro hi t d ks hw
  obtain ⟨y,hy,hf⟩:=hw.toF (s0:=s0) .nil
  exact (h.no hi).2 y _ hy hf
 ·intro hn
  cases is with
  | false => rfl
  | true =>
   obtain ⟨y,hy,hw⟩:=(h.yes rfl).1
   exact absurd (hw.toX (.stop hy)) (hn _ _ _)
end
theorem goal_pt {rs : List RoomE} {ds : List DoorE} {T : List (List UInt8)} {st gl : List UInt8} (hR : Right rs ds st gl) (hT : T.Pairwise (· < ·)) {x : StE} (hx : GoodX rs T x) : ((ptX rs T x).1 == gl) = goalX rs gl x:=by
 obtain ⟨room,th,h1,h2,h3,h4,_⟩:=ptX_good hT hx
 rw [h4]
 have h5 : goalX rs gl x = goalX rs gl (stX rs T room th):=by rw [h3]; rfl
 rw [h5]
 have h6:=goalX_room (T:=T) hR h1 (th:=th)
 by_cases e : room = gl
 ·rw [h6.2 e]; simpa using e
 ·rw [beq_eq_false_iff_ne.2 e]
  cases h7 : goalX rs gl (stX rs T room th) with
  | false => rfl
  | true => exact absurd (h6.1 h7) e
set_option maxHeartbeats 1000000 in
theorem fromC_any (g n c : Nat) (k : Int) (A : Option Addr) (room gl : List UInt8) (w : World) (hg : w.cell? ⟨g,3,none⟩ = some (.string ⟨gl.toArray⟩)) :
  Calls Tryz.prog 76 #[.agg #[.string ⟨room.toArray⟩,.slice A n c,.int .i64 k],.pointer (some ⟨g,0,none⟩)] w fun e w' => e = .returned (.bool (room == gl)) ∧ Below w.heap.size w w':=by
 have hz:=World.block_lt_of_cell? w _ hg
 have hb : Below w.heap.size w (w.alloc (.cells #[.string ⟨room.toArray⟩,.slice A n c,.int .i64 k] 124)):=(by repeat (first | exact Below.refl _ _ | refine Below.alloc ?_ (by first | omega | (simp; omega) | simp) _ | refine below_drewN' ?_ _ | refine Below.drew ?_))
 go_enter Tryz.func76,Tryz.ntmps76
 go_wp2_with fail
 go_ret
 exact ⟨rfl,hb⟩
theorem from_ends {rs : List RoomE} {ds : List DoorE} {T : List (List UInt8)} {st gl : List UInt8} (hR : Right rs ds st gl) (hT : T.Pairwise (· < ·)) {w : World} {g : Nat} (hg : w.cell? ⟨g,3,none⟩ = some (.string ⟨gl.toArray⟩)) : EndsF w 76 #[] #[.pointer (some ⟨g,0,none⟩)] (goalX rs gl) rs T :=
 ⟨enters_of Tryz.func76 (by kernel_rfl) rfl,fun W x A c hb hx _ => by
  have h:=fromC_any g (ptX rs T x).2.length c (x.s : Int) A (ptX rs T x).1 gl W ((hb.cell (p:=⟨g,3,none⟩) (World.block_lt_of_cell? w _ hg)).trans hg)
  rw [goal_pt hR hT hx] at h
  simpa using h⟩
set_option maxHeartbeats 1000000 in
theorem lostC_any (g n c : Nat) (k : Int) (A : Option Addr) (room gl : List UInt8) (w : World) (hg : w.cell? ⟨g,3,none⟩ = some (.string ⟨gl.toArray⟩)) :
  Calls Tryz.prog 93 #[.agg #[.string ⟨room.toArray⟩,.slice A n c,.int .i64 k],.pointer (some ⟨g,0,none⟩)] w fun e w' => e = .returned (.bool (room == gl)) ∧ Below w.heap.size w w':=by
 have hz:=World.block_lt_of_cell? w _ hg
 have hb : Below w.heap.size w (w.alloc (.cells #[.string ⟨room.toArray⟩,.slice A n c,.int .i64 k] 124)):=(by repeat (first | exact Below.refl _ _ | refine Below.alloc ?_ (by first | omega | (simp; omega) | simp) _ | refine below_drewN' ?_ _ | refine Below.drew ?_))
 go_enter Tryz.func93,Tryz.ntmps93
 go_wp2_with fail
 go_ret
 exact ⟨rfl,hb⟩
theorem lost_ends {rs : List RoomE} {ds : List DoorE} {T : List (List UInt8)} {st gl : List UInt8} (hR : Right rs ds st gl) (hT : T.Pairwise (· < ·)) {w : World} {g : Nat} (hg : w.cell? ⟨g,3,none⟩ = some (.string ⟨gl.toArray⟩)) : EndsF w 93 #[] #[.pointer (some ⟨g,0,none⟩)] (goalX rs gl) rs T :=
 ⟨enters_of Tryz.func93 (by kernel_rfl) rfl,fun W x A c hb hx _ => by
  have h:=lostC_any g (ptX rs T x).2.length c (x.s : Int) A (ptX rs T x).1 gl W ((hb.cell (p:=⟨g,3,none⟩) (World.block_lt_of_cell? w _ hg)).trans hg)
  rw [goal_pt hR hT hx] at h
  simpa using h⟩
theorem never_any (room : List UInt8) (A : Option Addr) (n c : Nat) (k : Int) (w : World) :
  Calls Tryz.prog 91 #[.agg #[.string ⟨room.toArray⟩,.slice A n c,.int .i64 k]] w fun e w' => e = .returned (.bool false) ∧ Below w.heap.size w w':=by
 have hb : Below w.heap.size w (w.alloc (.cells #[.string ⟨room.toArray⟩,.slice A n c,.int .i64 k] 124)):=(by repeat (first | exact Below.refl _ _ | refine Below.alloc ?_ (by first | omega | (simp; omega) | simp) _ | refine below_drewN' ?_ _ | refine Below.drew ?_))
 go_enter Tryz.func91,Tryz.ntmps91
 go_wp2_with fail
 go_ret
 exact ⟨rfl,hb⟩
theorem never_ends (rs : List RoomE) (T : List (List UInt8)) (w : World) : EndsF w 91 #[] #[] (fun _ => false) rs T :=
 ⟨enters_of Tryz.func91 (by kernel_rfl) rfl,fun W x A c _ _ _ => by
  have h:=never_any (ptX rs T x).1 A (ptX rs T x).2.length c (x.s : Int) W
  simpa using h⟩
theorem res_frm (tmps : Array Value) (w : World) (g : Nat) (a b v : Value) (B : Option Addr) (n c : Nat) (z : Int) (ha : a = .slice B n c) (hb : b = .int .i64 z) (hx : tmps.getD 6 undef = .pointer (some ⟨g,0,none⟩)) (hv : tmps.getD 7 undef = v) (f0 : w.cell? ⟨g,0,none⟩ = some a) (f1 : w.cell? ⟨g,1,none⟩ = some b) :
  (results Tryz.f24 tmps).run Tryz.prog w = .ok (.tuple #[.agg #[a,b],v]) w:=by
 have e : Tryz.f24.results = #[.cell 6 40,.tmp 7]:=by kernel_rfl
 have hx' : tmps[6]?.getD undef = .pointer (some ⟨g,0,none⟩):=by simpa using hx
 have hv' : tmps[7]?.getD undef = v:=by simpa using hv
 subst ha hb
 simp [results,e,hx',hv',go_sem,f0,f1]
def FrqPost (rs : List RoomE) (ds : List DoorE) (T tr : List (List UInt8)) (gl : List UInt8) (s0 : StE) (w : World) (e : Ending) (w' : World) : Prop :=
 ∃ (is : Bool) (b : PwE) (BA : Option Addr) (bc : Nat),e = .returned (.tuple #[.agg #[.slice BA b.2.length bc,.int .i64 b.1],.bool is]) ∧ Row w' 0 1 BA b.2.length (strs (b.2.map (keyX ds))) ∧ FrOk (nxX rs T ds tr [] id) (goalX rs gl) (tmX ds) s0 is b ∧ Below w.heap.size w w'
set_option maxHeartbeats 4000000 in
set_option maxRecDepth 100000 in
theorem fromOf_any (lo ca cd lo2 c2 lo4 pc : Nat) (A : Option Addr) (rs : List RoomE) (D : Option Addr) (ds : List DoorE) (st gl : List UInt8) (TR : Option Addr) (tr : List (List UInt8)) (room : List UInt8) (PA : Option Addr) (th : List (List UInt8)) (T : List (List UInt8)) (w : World)
  (hA : MapW w lo A rs D ds) (hm : mapE rs ds st gl = 0) (hTd : onceT (allT rs ds) = T) (htr : Row w lo2 1 TR tr.length (strs tr)) (htl : tr.length ≤ 1000000) (hp : Row w lo4 1 PA th.length (strs th)) (hpc : th.length ≤ pc) (hro : room ∈ rs.map RoomE.key) (hth : ThOk T th) :
  Calls Tryz.prog 24 #[.agg #[.slice A rs.length ca,.slice D ds.length cd,.string ⟨st.toArray⟩,.string ⟨gl.toArray⟩],.slice TR tr.length c2,.agg #[.string ⟨room.toArray⟩,.slice PA th.length pc]] w (FrqPost rs ds T tr gl (stX rs T room th) w):=by
 have hb0 : Below w.heap.size w (((w.alloc (.cells #[.slice A rs.length ca,.slice D ds.length cd,.string ⟨st.toArray⟩,.string ⟨gl.toArray⟩] 29)).alloc (.cells #[.string ⟨room.toArray⟩,.slice PA th.length pc] 35)).alloc (.cells #[.slice none 0 0,.int .i64 0] 40)):=(by repeat (first | exact Below.refl _ _ | refine Below.alloc ?_ (by first | omega | (simp; omega) | simp) _ | refine below_drewN' ?_ _ | refine Below.drew ?_))
 have hmb : Blk (((w.alloc (.cells #[.slice A rs.length ca,.slice D ds.length cd,.string ⟨st.toArray⟩,.string ⟨gl.toArray⟩] 29)).alloc (.cells #[.string ⟨room.toArray⟩,.slice PA th.length pc] 35)).alloc (.cells #[.slice none 0 0,.int .i64 0] 40)) w.heap.size 29 #[.slice A rs.length ca,.slice D ds.length cd,.string ⟨st.toArray⟩,.string ⟨gl.toArray⟩]:=((Blk.new _ _ _).alloc _).alloc _
 have hpb : Blk (((w.alloc (.cells #[.slice A rs.length ca,.slice D ds.length cd,.string ⟨st.toArray⟩,.string ⟨gl.toArray⟩] 29)).alloc (.cells #[.string ⟨room.toArray⟩,.slice PA th.length pc] 35)).alloc (.cells #[.slice none 0 0,.int .i64 0] 40)) (w.heap.size + 1) 35 #[.string ⟨room.toArray⟩,.slice PA th.length pc]:=(Blk.at_ _ (by simp)).alloc _
 have hrb : Blk (((w.alloc (.cells #[.slice A rs.length ca,.slice D ds.length cd,.string ⟨st.toArray⟩,.string ⟨gl.toArray⟩] 29)).alloc (.cells #[.string ⟨room.toArray⟩,.slice PA th.length pc] 35)).alloc (.cells #[.slice none 0 0,.int .i64 0] 40)) (w.heap.size + 2) 40 #[.slice none 0 0,.int .i64 0]:=Blk.at_ _ (by simp)
 have HR : Hid (Right rs ds st gl):=Lib.hid (right_of hm)
 have HNM : Hid (NmOk rs T):=Lib.hid (NmOk.right hm hTd)
 have HNF : Hid (nS rs T ≤ 614400):=Lib.hid (nS_le HR.out hTd)
 have HTP : Hid (T.Pairwise (· < ·)):=Lib.hid (by rw [← hTd]; exact (onceT_spec _).1)
 have HS : Hid (∀ W,Below w.heap.size w W → MapW W lo A rs D ds ∧ Row W lo2 1 TR tr.length (strs tr) ∧ Row W lo4 1 PA th.length (strs th)):=Lib.hid (fun W h => ⟨hA.below h,htr.below h,hp.below h⟩)
 have HM:=Lib.hid (And.intro hm hTd)
 have HQ:=Lib.hid (And.intro hro hth)
 obtain ⟨post',hpost⟩ : ∃ q,q = FrqPost rs ds T tr gl (stX rs T room th) w:=⟨_,rfl⟩
 rw [← hpost]
 have HPO:=Lib.hid hpost
 clear hA hm hTd htr hp hro hth hpost
 go_enter Tryz.func24,Tryz.ntmps24
 go_upto_region 1 with (fail)
 generalize ((w.alloc (.cells #[.slice A rs.length ca,.slice D ds.length cd,.string ⟨st.toArray⟩,.string ⟨gl.toArray⟩] 29)).alloc (.cells #[.string ⟨room.toArray⟩,.slice PA th.length pc] 35)).alloc (.cells #[.slice none 0 0,.int .i64 0] 40) = W1 at *
 have hso:=spreadOut_any lo ca cd lo2 c2 0 0 lo4 pc A rs D ds st gl TR tr none [] room PA th T 76 #[] #[.pointer (some ⟨w.heap.size,0,none⟩)] (goalX rs gl) W1 (HS.out _ hb0).1 HM.out.1 HM.out.2 (HS.out _ hb0).2.1 htl (Row.none_ _ _ _ _) (by simp) (HS.out _ hb0).2.2 hpc HQ.out.1 HQ.out.2 (from_ends HR.out HTP.out (hmb.cell 3))
 rw [stY_zero,sfR_nil] at hso
 simp only [List.length_nil] at hso
 obtain ⟨m0,m1,m2,m3⟩:=hmb.fourR
 obtain ⟨p0,p1⟩:=hpb.w2
 have zm:=hmb.lt
 have zp:=hpb.lt
 go_wp2_with fail
 refine hso.mono ?_
 clear hso
 rintro e W2 ⟨mb,K,f,M,rfl,hS,hcl,hmz,hb⟩
 replace hmb:=hmb.below hb
 replace hrb:=hrb.below hb
 replace hb0:=below_up hb0 hb
 clear m0 m1 m2 m3 p0 p1 zm zp hb hpb
 have HCL:=Lib.hid hcl
 have hbo:=bestOf_any mb K f M (nxX rs T ds tr [] id) (goalX rs gl) (tmX ds) (stX rs T room th) rs ds T 76 #[] #[.pointer (some ⟨w.heap.size,0,none⟩)] (goalX rs gl) W2 hS HNM.out (from_ends HR.out HTP.out (hmb.cell 3)) HR.out.dup (fun x p h => (nxX_mem h).1) HNF.out
 clear hcl hS
 go_wp2_with fail
 refine hbo.mono ?_
 clear hbo
 rintro e W3 ⟨is,b,BA,bc,rfl,hrow,hok,hb⟩
 replace hrb:=hrb.below hb
 replace hb0:=below_up hb0 hb
 have HOK:=Lib.hid (FrOk.of hok HCL.out)
 clear hb hok hmb hmz
 obtain ⟨r0,r1⟩:=hrb.w2
 have f0:=hrb.thaw 0
 have f1:=hrb.thaw 1
 have zr:=hrb.lt
 have hr3:=(hrb.poke 0 (.slice BA b.2.length bc)).poke 1 (.int .i64 b.1)
 have hb3:=Below.setCell (Below.setCell hb0 (p:=⟨w.heap.size + 2,0,none⟩) (by simp) (.slice BA b.2.length bc)) (p:=⟨w.heap.size + 2,1,none⟩) (by simp) (.int .i64 b.1)
 have HROW : Hid (Row ((W3.setCell ⟨w.heap.size + 2,0,none⟩ (.slice BA b.2.length bc)).setCell ⟨w.heap.size + 2,1,none⟩ (.int .i64 b.1)) 0 1 BA b.2.length (strs (b.2.map (keyX ds)))):=Lib.hid (Row.strOff (Row.strOff hrow hrb 0 _) (hrb.poke 0 _) 1 _)
 clear hrow hrb hb0
 go_wp2_with fail
 refine bodyPost_ret (res_frm _ _ (w.heap.size + 2) _ _ _ BA b.2.length bc b.1 rfl rfl rfl rfl (hr3.cell 0) (hr3.cell 1)) rfl ?_
 rw [HPO.out]
 exact ⟨is,b,BA,bc,rfl,HROW.out,HOK.out,hb3⟩
end Go.Proofs.YtjggbpchmbdocaaGreatDoor
/- The walks of the reference's ReachedRooms and LostOf. -/
namespace Go.Proofs.YtjggbpchmbdocaaGreatDoor
open Go.RowKit Go.Sort Go.Maps Go.WideMaps

set_option maxRecDepth 100000 in
theorem step_rangeF {w : World} {ops : Array Oper} {o : Oper} {a : Act} {KK : Act → World → Prop} {Q : Exit → Act → World → Prop} {E : Prop} {b n : Nat} {K : List (List UInt8)} {f : FndF} (hg : o.guard = none) (m : Operand) (hop : o.op = Op.range 137 m) (hm : a.eval m = .map (some b)) (h : MapF w b n K f)
  (hK : ∀ (w' : World) (left : List UInt8 → Bool) (cnt : Nat),MapFR w' b w.heap.size n f left cnt → (∀ x,left x = (f x).isSome) → w.grownBy w' none → w'.heap.size = w.heap.size + 1 → KK (a.put o.dst (.pointer (some ⟨w.heap.size,0,none⟩))) w') :
  if Region.wanted o (yielded ops a.tmps) = true then Oper.wp Tryz.prog o a w KK Q else E:=by
 have hw : Region.wanted o (yielded ops a.tmps) = true:=by simp [Region.wanted,hg]
 rw [if_pos hw]
 obtain ⟨D,h1,h2,h3,h4⟩:=h
 obtain ⟨w',hrun,r1,r2,r3⟩:=h1.range keySF Tryz.underlying137
 unfold Oper.wp execOp
 simp [hop,hm,hrun,Result.andThen]
 exact hK w' (fun x => Maps.has D (kLit x)) _ ⟨D,_,r1,h2,h3,fun _ => rfl⟩ h2 r2 r3
def RoPost (rs : List RoomE) (ds : List DoorE) (T tr : List (List UInt8)) (st : List UInt8) (w : World) (e : Ending) (w' : World) : Prop :=
 ∃ (l : List (List UInt8)) (LA : Option Addr) (lc : Nat),e = .returned (.slice LA l.length lc) ∧ Row w' 0 1 LA l.length (strs l) ∧ l.Pairwise (· < ·) ∧ (∀ r,r ∈ l ↔ ∃ x,ReachX (nxX rs T ds tr [] id) (fun _ => false) (st0 rs T st) x ∧ r = (ptX rs T x).1) ∧ l.length ≤ 614400 ∧ Below w.heap.size w w'
set_option maxHeartbeats 8000000 in
set_option maxRecDepth 100000 in
theorem reachedRooms_any (lo ca cd lo2 c2 : Nat) (A : Option Addr) (rs : List RoomE) (D : Option Addr) (ds : List DoorE) (st gl : List UInt8) (TR : Option Addr) (tr : List (List UInt8)) (T : List (List UInt8)) (w : World)
  (hA : MapW w lo A rs D ds) (hm : mapE rs ds st gl = 0) (hTd : onceT (allT rs ds) = T) (htr : Row w lo2 1 TR tr.length (strs tr)) (htl : tr.length ≤ 1000000) :
  Calls Tryz.prog 30 #[.agg #[.slice A rs.length ca,.slice D ds.length cd,.string ⟨st.toArray⟩,.string ⟨gl.toArray⟩],.slice TR tr.length c2] w (RoPost rs ds T tr st w):=by
 have hb0 : Below w.heap.size w (w.alloc (.cells #[.slice A rs.length ca,.slice D ds.length cd,.string ⟨st.toArray⟩,.string ⟨gl.toArray⟩] 29)):=(by repeat (first | exact Below.refl _ _ | refine Below.alloc ?_ (by first | omega | (simp; omega) | simp) _ | refine below_drewN' ?_ _ | refine Below.drew ?_))
 have hmb : Blk (w.alloc (.cells #[.slice A rs.length ca,.slice D ds.length cd,.string ⟨st.toArray⟩,.string ⟨gl.toArray⟩] 29)) w.heap.size 29 #[.slice A rs.length ca,.slice D ds.length cd,.string ⟨st.toArray⟩,.string ⟨gl.toArray⟩]:=Blk.new _ _ _
 have HR : Hid (Right rs ds st gl):=Lib.hid (right_of hm)
 have HNM : Hid (NmOk rs T):=Lib.hid (NmOk.right hm hTd)
 have HNF : Hid (nS rs T ≤ 614400):=Lib.hid (nS_le HR.out hTd)
 have HTP : Hid (T.Pairwise (· < ·)):=Lib.hid (by rw [← hTd]; exact (onceT_spec _).1)
 have HBG : Hid (ThOk T (onceT (givesOf rs st))):=Lib.hid (by rw [← hTd]; exact begin_ok st)
 have HS : Hid (∀ W,Below w.heap.size w W → MapW W lo A rs D ds ∧ Row W lo2 1 TR tr.length (strs tr)):=Lib.hid (fun W h => ⟨hA.below h,htr.below h⟩)
 have HM:=Lib.hid (And.intro hm hTd)
 obtain ⟨post',hpost⟩ : ∃ q,q = RoPost rs ds T tr st w:=⟨_,rfl⟩
 rw [← hpost]
 have HPO:=Lib.hid hpost
 clear hA hm hTd htr hpost
 go_enter Tryz.func30,Tryz.ntmps30
 go_upto_region 2 with (fail)
 generalize w.alloc (.cells #[.slice A rs.length ca,.slice D ds.length cd,.string ⟨st.toArray⟩,.string ⟨gl.toArray⟩] 29) = W1 at *
 replace hmb : Blk W1.drew w.heap.size 29 #[.slice A rs.length ca,.slice D ds.length cd,.string ⟨st.toArray⟩,.string ⟨gl.toArray⟩]:=hmb
 replace hb0 : Below w.heap.size w W1.drew:=hb0.drew
 refine wp_region_held_drew (S:=(fun w' => w'.cell? ⟨w.heap.size,0,none⟩ = some (.slice A rs.length ca) ∧ w'.cell? ⟨w.heap.size,1,none⟩ = some (.slice D ds.length cd) ∧ w'.cell? ⟨w.heap.size,2,none⟩ = some (.string ⟨st.toArray⟩) ∧ w'.cell? ⟨w.heap.size,3,none⟩ = some (.string ⟨gl.toArray⟩))) (by kernel_rfl) (hmb.fourR) (fun hHeld => ?_)
 generalize W1.drew = wd at *
 (refine QT (i:=0) (v:=?_) ?_ ?_; (rotate_left 1; (intro w hSw; (try dsimp only at hSw); go_simp); (try with_reducible rfl)); (try simp only [Act.put,Q3,Q4,Q5]))
 (refine QT (i:=1) (v:=?_) ?_ ?_; (rotate_left 1; (intro w hSw; (try dsimp only at hSw); go_simp); (try with_reducible rfl)); (try simp only [Act.put,Q3,Q4,Q5]))
 (refine QT (i:=2) (v:=?_) ?_ ?_; (rotate_left 1; (intro w hSw; (try dsimp only at hSw); go_simp); (try with_reducible rfl)); (try simp only [Act.put,Q3,Q4,Q5]))
 refine wpAnyH_ready (rs:=[3]) (by kernel_rfl) (by simp) ?_
 refine AllReadyH.cons rfl (fun K hK => ?_) AllReadyH.nil
 go_simp
 go_at_call 64
 refine (firstPointC_any lo ca cd A rs D ds st gl _ (HS.out _ hb0).1 HR.out.rup HR.out.st).mono ?_
 rintro e W3 ⟨PA,pc,rfl,hfr,hpc,hb⟩
 replace hmb:=hmb.below hb
 replace hb0:=below_up hb0 hb
 replace hfr:=row_down0 hfr
 clear hb
 go_wp2_with fail
 refine hK.out _ _ (hmb.fourR) (fun hHeld => ?_)
 clear hK K
 (try simp only [Act.put,Q3,Q4,Q5])
 refine wpAnyH_ready (rs:=[4]) (by kernel_rfl) (by simp) ?_
 refine AllReadyH.cons rfl (fun K hK => ?_) AllReadyH.nil
 go_simp
 go_at_call 78
 have hso:=spreadOut_any lo ca cd lo2 c2 0 0 0 pc A rs D ds st gl TR tr none [] st PA (onceT (givesOf rs st)) T 91 #[] #[] (fun _ => false) W3 (HS.out _ hb0).1 HM.out.1 HM.out.2 (HS.out _ hb0).2 htl (Row.none_ _ _ _ _) (by simp) hfr hpc HR.out.st HBG.out (never_ends rs T W3)
 rw [stY_zero,sfR_nil,← st0_once] at hso
 simp only [List.length_nil] at hso
 refine hso.mono ?_
 clear hso
 rintro e W4 ⟨mb,KL,f,M,rfl,hS,hcl,hmz,hb⟩
 replace hmb:=hmb.below hb
 replace hb0:=below_up hb0 hb
 have HCL:=Lib.hid hcl
 clear hb hcl hfr
 go_wp2_with fail
 refine hK.out _ _ (hmb.fourR) (fun hHeld => ?_)
 clear hK K
 (try simp only [Act.put,Q3,Q4,Q5])
 refine wpAnyH_ready (rs:=[5]) (by kernel_rfl) (by simp) ?_
 refine AllReadyH.cons rfl (fun K hK => ?_) AllReadyH.nil
 refine step_rangeF rfl _ rfl rfl hS.mp ?_
 intro W5 left0 cnt0 hrg0 hl0 hg0 hs0
 have hb5 : Below W4.heap.size W4 W5:=(Below.refl _ _).grown hg0 (Nat.le_refl _) (fun q hq => by cases hq)
 replace hmb:=hmb.below hb5
 refine hK.out _ _ (hmb.fourR) (fun hHeld => ?_)
 clear hK K
 (try simp only [Act.put,Q3,Q4,Q5])
 refine wpAnyH_done (by kernel_rfl) ?_ _
 have HKM:=Lib.hid hS.mp.keys
 have hkf : KL.length ≤ 614400:=Nat.le_trans hS.few HNF.out
 have HSV:=Lib.hid hS
 have HBV:=Lib.hid hb0
 have hml:=hS.mp.lt
 have HL0 : Hid (([] : List (List UInt8)).Nodup ∧ (∀ k,k ∈ ([] : List (List UInt8)) ↔ (f k).isSome = true ∧ left0 k = false) ∧ (∀ k,left0 k = true → (f k).isSome = true) ∧ ([] : List (List UInt8)).length ≤ KL.length ∧ ([] : List (List UInt8)).length = ([] : List (List UInt8)).length ∧ ∀ r,r ∈ ([] : List (List UInt8)) ↔ ∃ x a,M x = some a ∧ left0 (nameX rs T x) = false ∧ r = (ptX rs T x).1):=Lib.hid ⟨List.nodup_nil,fun k => ⟨(fun h => absurd h (by simp)),(fun h => by rw [hl0 k,h.1] at h; exact absurd h.2 (by simp))⟩,fun k h => by rw [hl0] at h; exact h,Nat.zero_le _,rfl,fun r => ⟨(fun h => absurd h (by simp)),fun ⟨x,a,h1,h2,_⟩ => by
  obtain ⟨p,hp,_⟩:=hS.fi.there x a h1
  rw [hl0,hp] at h2; cases h2⟩⟩
 have hbi : W4.heap.size + 1 ≤ W5.heap.size:=by omega
 generalize W4 = V at *
 clear hS hb0 hmb hg0 hl0 hs0 hmz
 go_wp2_with fail
 go_loopw [5] (fun v wq => ∃ (left : List UInt8 → Bool) (cnt : Nat) (LA : Option Addr) (lc : Nat) (l ks : List (List UInt8)),MapFR wq mb V.heap.size KL.length f left cnt ∧ v = .slice LA l.length lc ∧ wq.ownsRow (V.heap.size + 1) 9 1 (.slice LA l.length lc) l.length (strs l) ∧ Hid (ks.Nodup ∧ (∀ k,k ∈ ks ↔ (f k).isSome = true ∧ left k = false) ∧ (∀ k,left k = true → (f k).isSome = true) ∧ ks.length ≤ KL.length ∧ l.length = ks.length ∧ ∀ r,r ∈ l ↔ ∃ x a,M x = some a ∧ left (nameX rs T x) = false ∧ r = (ptX rs T x).1) ∧ Below V.heap.size V wq ∧ V.heap.size + 1 ≤ wq.heap.size) (fun _ wq => wq.rangeLeft mb V.heap.size)
 case atStart => exact ⟨left0,cnt0,none,0,[],[],hrg0,rfl,World.ownsRow_nil _ _ _ _,Lib.hid ⟨HL0.out.1,HL0.out.2.1,HL0.out.2.2.1,HL0.out.2.2.2.1,rfl,HL0.out.2.2.2.2.2⟩,hb5,hbi⟩
 case round =>
  clear hrg0 HL0 hb5 hbi
  obtain ⟨left,cnt,LA,lc,l,ks,hrg,rfl,hown,HL,hbv,hbi⟩:=hrel
  have HLE:=Lib.hid hrg.left_eq
  have hlk : l.length ≤ 614400:=by have h1:=HL.out.2.2.2.1; have h2:=HL.out.2.2.2.2.1; omega
  go_wp2_with (first
   | (at_next; refine wpList_nextF rfl _ rfl rfl hrg HL.out.2.2.1 ?_ ?_)
   | fail)
  ·intro hl0
   have HLM : Hid (∀ r,r ∈ l ↔ ∃ x,ReachX (nxX rs T ds tr [] id) (fun _ => false) (st0 rs T st) x ∧ r = (ptX rs T x).1):=Lib.hid (fun r => by
    rw [HL.out.2.2.2.2.2 r]
    constructor
    ·rintro ⟨x,a,h1,_,h2⟩; exact ⟨x,(HCL.out.1 x a h1).1.reach,h2⟩
    ·rintro ⟨x,h1,h2⟩
     obtain ⟨a,ha⟩:=HCL.out.2 x h1
     exact ⟨x,a,ha,hl0 _,h2⟩)
   have hrow:=row_down0 (Row.of_own hown)
   have hbw:=below_up HBV.out hbv
   clear hl0 hrg hown HL HLE hbi hbv
   go_wp2_with fail
   refine (onceR_any LA lc 0 l wr hrow (by omega)).mono ?_
   rintro e W8 ⟨A8,c8,rfl,ho8,hb8⟩
   have HRW:=Lib.hid (row_down0 (Row.of_own ho8))
   have hbw8:=below_up hbw hb8
   clear ho8 hb8 hrow hbw
   go_wp2_with fail
   rw [HPO.out]
   exact ⟨onceT l,A8,c8,rfl,HRW.out,(onceT_spec l).1,fun r => by rw [(onceT_spec l).2]; exact HLM.out r,Nat.le_trans (onceT_le l) hlk,hbw8⟩
  ·intro k p W7 cnt2 hlx hfx hrg2 hlt hg7 hs7 hen
   obtain ⟨x,a,hxa,hkx⟩:=HSV.out.fi.only k (by rw [hfx]; rfl)
   obtain ⟨p',hp',hpo⟩:=(HSV.out.below hbv).fi.there x a hxa
   obtain rfl : p = p':=by rw [hkx,hp'] at hfx; injection hfx with h; exact h.symm
   have hgx:=HSV.out.fi.good x a hxa
   have HGX:=Lib.hid hgx
   have HXA:=Lib.hid hxa
   obtain ⟨xr,xth,hxr,hxt,hxe,hxp,hxs⟩:=ptX_good HTP.out hgx
   have HXP:=Lib.hid hxp
   have HXT:=Lib.hid hxt
   have HXR:=Lib.hid hxr
   have HXE:=Lib.hid hxe
   rw [hxp] at hpo
   obtain ⟨pr,pta,ptn,ptc,pdo,pda,pdn,pdc,ptm⟩:=p
   obtain ⟨e1,e2,e3,e4,e5,e6,e7,e8⟩:=hpo
   simp only at e1 e2 e3 e4 e5 e6 e7 e8
   replace e1:=e1.symm
   subst e1 e2 e5 e6 e8
   subst hkx
   have HKS : Hid ((nameX rs T x :: ks).Nodup ∧ (nameX rs T x :: ks).length ≤ KL.length ∧ (∀ k,k ∈ nameX rs T x :: ks ↔ (f k).isSome = true ∧ (left k && !decide (k = nameX rs T x)) = false)):=Lib.hid (by
    have hxl : nameX rs T x ∉ ks:=fun h => by have:=((HL.out.2.1 _).1 h).2; rw [hlx] at this; cases this
    have hnd : (nameX rs T x :: ks).Nodup:=List.nodup_cons.2 ⟨hxl,HL.out.1⟩
    have hin : ∀ k,k ∈ nameX rs T x :: ks ↔ (f k).isSome = true ∧ (left k && !decide (k = nameX rs T x)) = false:=fun k => by
     by_cases e : k = nameX rs T x
     ·subst e; simp [hfx]
     ·rw [List.mem_cons,HL.out.2.1 k]; simp [e]
    exact ⟨hnd,nodup_sub_len _ _ hnd (fun y hy => (HKM.out.1 y).2 ((hin y).1 hy).1),hin⟩)
   have HLF : Hid (∀ y,(left y && !decide (y = nameX rs T x)) = true → (f y).isSome = true):=Lib.hid (fun y h => HL.out.2.2.1 y (by cases e : left y <;> simp [e] at h ⊢))
   have HLX : Hid (left (nameX rs T x) = true):=Lib.hid hlx
   have HLT : Hid (cnt2 < wr.rangeLeft mb V.heap.size):=Lib.hid (by rw [HLE.out]; exact hlt)
   have HR7:=Lib.hid hrg2
   have hown7:=own_keepB hown hg7 (fun k j hk hj => by injection hk with hk; have:=(hown.lt j hj).1; omega)
   have hb7:=hbv.grown hg7 hbv.size (fun q hq => by injection hq with hq; omega)
   have hbi7 : V.heap.size + 1 ≤ W7.heap.size:=by omega
   have e47:=e4.offc (by decide) hrg.notC hg7
   clear hrg hfx hp' hlx hlt hg7 hs7 hown e4 e7 hbv hbi HLE hxa hgx hxp hrg2 hxt hxr hxe
   go_upto_region 5 with (fail)
   have hxb : Blk (W7.alloc (.cells #[.string ⟨xr.toArray⟩,.slice pta xth.length ptc,.int .i64 (x.s : Int),.slice pda a.2.length pdc,.int .i64 a.1] 147)) W7.heap.size 147 #[.string ⟨xr.toArray⟩,.slice pta xth.length ptc,.int .i64 (x.s : Int),.slice pda a.2.length pdc,.int .i64 a.1]:=Blk.new _ _ _
   have hba : Below W7.heap.size W7 (W7.alloc (.cells #[.string ⟨xr.toArray⟩,.slice pta xth.length ptc,.int .i64 (x.s : Int),.slice pda a.2.length pdc,.int .i64 a.1] 147)):=(Below.refl _ _).alloc (Nat.le_refl _) _
   have hrg7:=HR7.out.kept (grown_of_below hba none) (by simp) (by simp)
   replace hown7:=own_keep hown7 hba
   replace e47:=e47.below hba
   replace hb7:=below_up hb7 hba
   replace hbi7 : V.heap.size + 1 ≤ (W7.alloc (.cells #[.string ⟨xr.toArray⟩,.slice pta xth.length ptc,.int .i64 (x.s : Int),.slice pda a.2.length pdc,.int .i64 a.1] 147)).heap.size:=Nat.le_trans hbi7 hba.size
   clear hba hen HR7
   generalize W7.alloc (.cells #[.string ⟨xr.toArray⟩,.slice pta xth.length ptc,.int .i64 (x.s : Int),.slice pda a.2.length pdc,.int .i64 a.1] 147) = W8 at *
   generalize W7.heap.size = xb at *
   obtain ⟨x0,x1,x2,x3,x4⟩:=hxb.w5
   have zx:=hxb.lt
   go_wp2_with (at_builtin; go_must (refine wpList_app (lo:=V.heap.size + 1) (base:=V.heap.size + 1) (n:=l.length) (xs:=strs l) _ _ rfl _ _ ty_strs rfl (by repeat (first | exact hown7 | refine World.ownsRow.alloc ?_ _ | refine own_drewN ?_ _ | refine World.ownsRow.drew ?_)) rfl (by first | exact row_new' _ (by first | rfl | simp) (by first | omega | (simp; omega)) rfl | exact row_newN _ _ (by first | rfl | simp) (by first | omega | (simp; omega)) rfl | exact row_newD _ (by first | rfl | simp) (by first | omega | (simp; omega)) rfl) rfl rfl (by first | omega | decide) (by first | omega | decide) (by first | omega | (simp; omega)) ?_))
   intro A5 c5 w5 hown5 hg5 _
   have HO5 : Hid (w5.ownsRow (V.heap.size + 1) 9 1 (.slice A5 (l ++ [xr]).length c5) (l ++ [xr]).length (strs (l ++ [xr]))):=Lib.hid (by simpa [strs,encStr] using hown5)
   have hown8:=hown7.alloc (.cells #[.string ⟨xr.toArray⟩] 9)
   have hrg5:=(hrg7.kept (World.grownBy_alloc W8 (.cells #[.string ⟨xr.toArray⟩] 9) none) (by simp) (by simp)).kept hg5 (fun e => by have:=(hown8.lt mb e.symm).1; omega) (fun e => by have:=(hown8.lt _ e.symm).1; omega)
   have hb8:=(hb7.alloc hb7.size (.cells #[.string ⟨xr.toArray⟩] 9)).grown hg5 (hb7.alloc hb7.size (.cells #[.string ⟨xr.toArray⟩] 9)).size (fun q hq => by have:=(hown8.lt q hq).1; omega)
   have hbi8 : V.heap.size + 1 ≤ w5.heap.size:=by have:=hg5.size; simp at this; omega
   have HL5 : Hid (∀ r,r ∈ l ++ [xr] ↔ ∃ y b,M y = some b ∧ (left (nameX rs T y) && !decide (nameX rs T y = nameX rs T x)) = false ∧ r = (ptX rs T y).1):=Lib.hid (fun r => by
    rw [List.mem_append,List.mem_singleton,HL.out.2.2.2.2.2 r]
    constructor
    ·rintro (⟨y,b,h1,h2,h3⟩ | h)
     ·exact ⟨y,b,h1,by rw [h2]; rfl,h3⟩
     ·exact ⟨x,a,HXA.out,by simp,by rw [h,HXP.out]⟩
    ·rintro ⟨y,b,h1,h2,h3⟩
     by_cases e : nameX rs T y = nameX rs T x
     ·have:=HNM.out.inj y x (HSV.out.fi.good y b h1) HGX.out e
      subst this
      exact .inr (by rw [h3,HXP.out])
     ·rw [decide_eq_false e] at h2
      exact .inl ⟨y,b,h1,by simpa using h2,h3⟩)
   have HLN : Hid ((l ++ [xr]).length = (nameX rs T x :: ks).length):=Lib.hid (by rw [List.length_append,HL.out.2.2.2.2.1]; simp)
   clear hown7 hown5 hown8 hg5 hrg7 hb7 hbi7 hxb x0 x1 x2 x3 x4 zx e47
   go_wp2_with fail
   go_roundw
   case rel => exact ⟨_,cnt2,A5,c5,l ++ [xr],nameX rs T x :: ks,hrg5,by simp,HO5.out,Lib.hid ⟨HKS.out.1,HKS.out.2.2,HLF.out,HKS.out.2.1,HLN.out,HL5.out⟩,hb8,hbi8⟩
   case measure => rw [hrg5.left_eq]; exact HLT.out
def LofPost (rs : List RoomE) (ds : List DoorE) (T tr : List (List UInt8)) (st gl : List UInt8) (w : World) (e : Ending) (w' : World) : Prop :=
 ∃ (zs : List PtE) (ZA : Option Addr) (zc : Nat),e = .returned (.slice ZA zs.length zc) ∧ Row w' 0 2 ZA zs.length (zs.flatMap encP) ∧ (∀ z ∈ zs,Row w' 0 1 z.B z.th.length (strs z.th) ∧ z.th.length ≤ 1000) ∧ zs.length ≤ 614400 ∧ (zs.map fun z => (z.room,z.th)).Nodup ∧ (∀ q,q ∈ zs.map (fun z => (z.room,z.th)) ↔ ∃ x,ReachX (nxX rs T ds tr [] id) (goalX rs gl) (st0 rs T st) x ∧ (∀ t d ks,¬ WayX (nxX rs T ds tr [] id) (goalX rs gl) (tmX ds) x t d ks) ∧ q = ptX rs T x) ∧ SrtP zs ∧ Below w.heap.size w w'
structure LofI (rs : List RoomE) (ds : List DoorE) (T tr : List (List UInt8)) (gl : List UInt8) (V : World) (KL : List (List UInt8)) (f : FndF) (M : FoundM) (left : List UInt8 → Bool) (zs : List PtE) (ks : List (List UInt8)) : Prop where
  nd : ks.Nodup
  km : ∀ k, k ∈ ks ↔ (f k).isSome = true ∧ left k = false
  lf : ∀ k, left k = true → (f k).isSome = true
  len : zs.length ≤ ks.length
  kl : ks.length ≤ KL.length
  zd : (zs.map fun z => (z.room, z.th)).Nodup
  zm : ∀ q, q ∈ zs.map (fun z => (z.room, z.th)) ↔ ∃ x a, M x = some a ∧ left (nameX rs T x) = false ∧ (∀ t d ks, ¬ WayX (nxX rs T ds tr [] id) (goalX rs gl) (tmX ds) x t d ks) ∧ q = ptX rs T x
  th : ∀ z ∈ zs, ThElse V V.heap.size z
set_option maxHeartbeats 8000000 in
set_option maxRecDepth 100000 in
theorem lostOf_any (lo ca cd lo2 c2 : Nat) (A : Option Addr) (rs : List RoomE) (D : Option Addr) (ds : List DoorE) (st gl : List UInt8) (TR : Option Addr) (tr : List (List UInt8)) (T : List (List UInt8)) (w : World)
  (hA : MapW w lo A rs D ds) (hm : mapE rs ds st gl = 0) (hTd : onceT (allT rs ds) = T) (htr : Row w lo2 1 TR tr.length (strs tr)) (htl : tr.length ≤ 1000000) :
  Calls Tryz.prog 32 #[.agg #[.slice A rs.length ca,.slice D ds.length cd,.string ⟨st.toArray⟩,.string ⟨gl.toArray⟩],.slice TR tr.length c2] w (LofPost rs ds T tr st gl w):=by
 have hb0 : Below w.heap.size w (w.alloc (.cells #[.slice A rs.length ca,.slice D ds.length cd,.string ⟨st.toArray⟩,.string ⟨gl.toArray⟩] 29)):=(by repeat (first | exact Below.refl _ _ | refine Below.alloc ?_ (by first | omega | (simp; omega) | simp) _ | refine below_drewN' ?_ _ | refine Below.drew ?_))
 have hmb : Blk (w.alloc (.cells #[.slice A rs.length ca,.slice D ds.length cd,.string ⟨st.toArray⟩,.string ⟨gl.toArray⟩] 29)) w.heap.size 29 #[.slice A rs.length ca,.slice D ds.length cd,.string ⟨st.toArray⟩,.string ⟨gl.toArray⟩]:=Blk.new _ _ _
 have HR : Hid (Right rs ds st gl):=Lib.hid (right_of hm)
 have HNM : Hid (NmOk rs T):=Lib.hid (NmOk.right hm hTd)
 have HNF : Hid (nS rs T ≤ 614400):=Lib.hid (nS_le HR.out hTd)
 have HTP : Hid (T.Pairwise (· < ·)):=Lib.hid (by rw [← hTd]; exact (onceT_spec _).1)
 have HBG : Hid (ThOk T (onceT (givesOf rs st))):=Lib.hid (by rw [← hTd]; exact begin_ok st)
 have HS : Hid (∀ W,Below w.heap.size w W → MapW W lo A rs D ds ∧ Row W lo2 1 TR tr.length (strs tr)):=Lib.hid (fun W h => ⟨hA.below h,htr.below h⟩)
 have HM:=Lib.hid (And.intro hm hTd)
 obtain ⟨post',hpost⟩ : ∃ q,q = LofPost rs ds T tr st gl w:=⟨_,rfl⟩
 rw [← hpost]
 have HPO:=Lib.hid hpost
 clear hA hm hTd htr hpost
 go_enter Tryz.func32,Tryz.ntmps32
 go_upto_region 3 with (fail)
 generalize w.alloc (.cells #[.slice A rs.length ca,.slice D ds.length cd,.string ⟨st.toArray⟩,.string ⟨gl.toArray⟩] 29) = W1 at *
 replace hmb : Blk W1.drew w.heap.size 29 #[.slice A rs.length ca,.slice D ds.length cd,.string ⟨st.toArray⟩,.string ⟨gl.toArray⟩]:=hmb
 replace hb0 : Below w.heap.size w W1.drew:=hb0.drew
 refine wp_region_held_drew (S:=(fun w' => w'.cell? ⟨w.heap.size,0,none⟩ = some (.slice A rs.length ca) ∧ w'.cell? ⟨w.heap.size,1,none⟩ = some (.slice D ds.length cd) ∧ w'.cell? ⟨w.heap.size,2,none⟩ = some (.string ⟨st.toArray⟩) ∧ w'.cell? ⟨w.heap.size,3,none⟩ = some (.string ⟨gl.toArray⟩))) (by kernel_rfl) (hmb.fourR) (fun hHeld => ?_)
 generalize W1.drew = wd at *
 (refine QT (i:=0) (v:=?_) ?_ ?_; (rotate_left 1; (intro w hSw; (try dsimp only at hSw); go_simp); (try with_reducible rfl)); (try simp only [Act.put,Q3,Q4,Q5]))
 (refine QT (i:=1) (v:=?_) ?_ ?_; (rotate_left 1; (intro w hSw; (try dsimp only at hSw); go_simp); (try with_reducible rfl)); (try simp only [Act.put,Q3,Q4,Q5]))
 (refine QT (i:=2) (v:=?_) ?_ ?_; (rotate_left 1; (intro w hSw; (try dsimp only at hSw); go_simp); (try with_reducible rfl)); (try simp only [Act.put,Q3,Q4,Q5]))
 (refine QT (i:=4) (v:=?_) ?_ ?_; (rotate_left 1; (intro w hSw; (try dsimp only at hSw); go_simp); (try with_reducible rfl)); (try simp only [Act.put,Q3,Q4,Q5]))
 refine wpAnyH_ready (rs:=[3]) (by kernel_rfl) (by simp) ?_
 refine AllReadyH.cons rfl (fun K hK => ?_) AllReadyH.nil
 go_simp
 go_at_call 64
 refine (firstPointC_any lo ca cd A rs D ds st gl _ (HS.out _ hb0).1 HR.out.rup HR.out.st).mono ?_
 rintro e W3 ⟨PA,pc,rfl,hfr,hpc,hb⟩
 replace hmb:=hmb.below hb
 replace hb0:=below_up hb0 hb
 replace hfr:=row_down0 hfr
 clear hb
 go_wp2_with fail
 refine hK.out _ _ (hmb.fourR) (fun hHeld => ?_)
 clear hK K
 (try simp only [Act.put,Q3,Q4,Q5])
 refine wpAnyH_ready (rs:=[5]) (by kernel_rfl) (by simp) ?_
 refine AllReadyH.cons rfl (fun K hK => ?_) AllReadyH.nil
 go_simp
 go_at_call 78
 have hso:=spreadOut_any lo ca cd lo2 c2 0 0 0 pc A rs D ds st gl TR tr none [] st PA (onceT (givesOf rs st)) T 93 #[] #[.pointer (some ⟨w.heap.size,0,none⟩)] (goalX rs gl) W3 (HS.out _ hb0).1 HM.out.1 HM.out.2 (HS.out _ hb0).2 htl (Row.none_ _ _ _ _) (by simp) hfr hpc HR.out.st HBG.out (lost_ends HR.out HTP.out (hmb.cell 3))
 rw [stY_zero,sfR_nil,← st0_once] at hso
 simp only [List.length_nil] at hso
 refine hso.mono ?_
 clear hso
 rintro e W4 ⟨mb,KL,f,M,rfl,hS,hcl,hmz,hb⟩
 replace hmb:=hmb.below hb
 replace hb0:=below_up hb0 hb
 have HCL:=Lib.hid hcl
 clear hb hcl hfr
 go_wp2_with fail
 refine hK.out _ _ (hmb.fourR) (fun hHeld => ?_)
 clear hK K
 (try simp only [Act.put,Q3,Q4,Q5])
 refine wpAnyH_ready (rs:=[6]) (by kernel_rfl) (by simp) ?_
 refine AllReadyH.cons rfl (fun K hK => ?_) AllReadyH.nil
 refine step_rangeF rfl _ rfl rfl hS.mp ?_
 intro W5 left0 cnt0 hrg0 hl0 hg0 hs0
 have hmb4:=hmb
 have hb5 : Below W4.heap.size W4 W5:=(Below.refl _ _).grown hg0 (Nat.le_refl _) (fun q hq => by cases hq)
 replace hmb:=hmb.below hb5
 refine hK.out _ _ (hmb.fourR) (fun hHeld => ?_)
 clear hK K
 (try simp only [Act.put,Q3,Q4,Q5])
 refine wpAnyH_done (by kernel_rfl) ?_ _
 (try simp only [List.getElem_toArray,List.getElem_cons_succ,List.getElem_cons_zero,Act.put,Q3,Q4,Q5])
 have HKM:=Lib.hid hS.mp.keys
 have hkf : KL.length ≤ 614400:=Nat.le_trans hS.few HNF.out
 have HSV:=Lib.hid hS
 have HBV:=Lib.hid hb0
 have hml:=hS.mp.lt
 have HMB : Hid (∀ W,Below W4.heap.size W4 W → Blk W w.heap.size 29 #[.slice A rs.length ca,.slice D ds.length cd,.string ⟨st.toArray⟩,.string ⟨gl.toArray⟩]):=Lib.hid (fun W h => hmb4.below h)
 have HL0 : Hid (LofI rs ds T tr gl W4 KL f M left0 [] []):=Lib.hid ⟨List.nodup_nil,fun k => ⟨(fun h => absurd h (by simp)),(fun h => by rw [hl0 k,h.1] at h; exact absurd h.2 (by simp))⟩,fun k h => by rw [hl0] at h; exact h,Nat.le_refl _,Nat.zero_le _,List.nodup_nil,fun r => ⟨(fun h => absurd h (by simp)),fun ⟨x,a,h1,h2,_⟩ => by
  obtain ⟨p,hp,_⟩:=hS.fi.there x a h1
  rw [hl0,hp] at h2; cases h2⟩,fun z hz => by cases hz⟩
 have hbi : W4.heap.size + 1 ≤ W5.heap.size:=by omega
 generalize W4 = V at *
 clear hS hb0 hmb hg0 hl0 hs0 hmz hmb4
 go_wp2_with fail
 go_loopw [6] (fun v wq => ∃ (left : List UInt8 → Bool) (cnt : Nat) (LA : Option Addr) (lc : Nat) (zs : List PtE) (ks : List (List UInt8)),MapFR wq mb V.heap.size KL.length f left cnt ∧ v = .slice LA zs.length lc ∧ wq.ownsRow (V.heap.size + 1) 35 2 (.slice LA zs.length lc) zs.length (zs.flatMap encP) ∧ Hid (LofI rs ds T tr gl V KL f M left zs ks) ∧ Below V.heap.size V wq ∧ V.heap.size + 1 ≤ wq.heap.size) (fun _ wq => wq.rangeLeft mb V.heap.size)
 case atStart => exact ⟨left0,cnt0,none,0,[],[],hrg0,rfl,World.ownsRow_nil _ _ _ _,HL0,hb5,hbi⟩
 case round =>
  clear hrg0 HL0 hb5 hbi
  obtain ⟨left,cnt,LA,lc,zs,ks,hrg,rfl,hown,HL,hbv,hbi⟩:=hrel
  have HLE:=Lib.hid hrg.left_eq
  have hlk : zs.length ≤ 614400:=by have h1:=HL.out.len; have h2:=HL.out.kl; omega
  go_wp2_with (first
   | (at_next; refine wpList_nextF rfl _ rfl rfl hrg HL.out.lf ?_ ?_)
   | fail)
  ·intro hl0
   have HZM : Hid (∀ q,q ∈ zs.map (fun z => (z.room,z.th)) ↔ ∃ x,ReachX (nxX rs T ds tr [] id) (goalX rs gl) (st0 rs T st) x ∧ (∀ t d ks,¬ WayX (nxX rs T ds tr [] id) (goalX rs gl) (tmX ds) x t d ks) ∧ q = ptX rs T x):=Lib.hid (fun q => by
    rw [HL.out.zm q]
    constructor
    ·rintro ⟨x,a,h1,_,h2,h3⟩; exact ⟨x,(HCL.out.1 x a h1).1.reach,h2,h3⟩
    ·rintro ⟨x,h1,h2,h3⟩
     obtain ⟨a,ha⟩:=HCL.out.2 x h1
     exact ⟨x,a,ha,hl0 _,h2,h3⟩)
   have hbw:=below_up HBV.out hbv
   have hso:=sortL_any LA lc (V.heap.size + 1) zs wr hown (fun z hz => by
    obtain ⟨h1,h2,h3⟩:=HL.out.th z hz
    exact ⟨h1.below hbv,fun hn a ha => by have:=h2 hn a ha; omega,h3⟩) (by omega)
   have HOL:=Lib.hid (fun j hj => (hown.lt j hj).1)
   have HLF:=Lib.hid HL.out
   clear hl0 hrg HL HLE hbi
   go_wp2_with fail
   refine hso.mono ?_
   clear hso
   rintro e W8 ⟨rfl,ys,hpm,hpw,hys,hg8⟩
   have hlen : ys.length = zs.length:=hpm.length_eq
   have hb8 : Below V.heap.size V W8:=hbv.grown hg8 hbv.size (fun q hq => by have:=HOL.out q hq; omega)
   have hbw8 : Below w.heap.size w W8:=below_up HBV.out hb8
   have HYS:=Lib.hid (row_down0 (Row.of_own hys))
   have HPM:=Lib.hid hpm
   have HPW : Hid (SrtP ys):=Lib.hid hpw
   clear hys hg8 hpm hpw hown hbv hbw
   go_wp2_with fail
   rw [HPO.out]
   refine ⟨ys,LA,lc,by rw [hlen]; rfl,HYS.out,fun z hz => ?_,by omega,?_,fun q => ?_,HPW.out,hbw8⟩
   ·obtain ⟨h1,_,h3⟩:=HLF.out.th z (HPM.out.mem_iff.1 hz)
    exact ⟨h1.below hb8,h3⟩
   ·exact ((HPM.out.map fun z => (z.room,z.th)).nodup_iff).2 HLF.out.zd
   ·rw [(HPM.out.map fun z => (z.room,z.th)).mem_iff]; exact HZM.out q
  ·intro k p W7 cnt2 hlx hfx hrg2 hlt hg7 hs7 hen
   obtain ⟨x,a,hxa,hkx⟩:=HSV.out.fi.only k (by rw [hfx]; rfl)
   obtain ⟨p',hp',hpo⟩:=(HSV.out.below hbv).fi.there x a hxa
   obtain rfl : p = p':=by rw [hkx,hp'] at hfx; injection hfx with h; exact h.symm
   have hgx:=HSV.out.fi.good x a hxa
   have HGX:=Lib.hid hgx
   have HXA:=Lib.hid hxa
   obtain ⟨p9,hp9,hpo9⟩:=HSV.out.fi.there x a hxa
   obtain rfl : p = p9:=by rw [hkx,hp9] at hfx; injection hfx with h; exact h.symm
   have HE4:=Lib.hid hpo9.things
   obtain ⟨xr,xth,hxr,hxt,hxe,hxp,hxs⟩:=ptX_good HTP.out hgx
   have HXP:=Lib.hid hxp
   have HXT:=Lib.hid hxt
   have HXR:=Lib.hid hxr
   have HXE:=Lib.hid hxe
   rw [hxp] at hpo
   rw [hxp] at HE4
   clear hp9 hpo9
   obtain ⟨pr,pta,ptn,ptc,pdo,pda,pdn,pdc,ptm⟩:=p
   obtain ⟨e1,e2,e3,e4,e5,e6,e7,e8⟩:=hpo
   simp only at e1 e2 e3 e4 e5 e6 e7 e8
   replace e1:=e1.symm
   subst e1 e2 e5 e6 e8
   subst hkx
   have HKS : Hid ((nameX rs T x :: ks).Nodup ∧ (nameX rs T x :: ks).length ≤ KL.length ∧ (∀ k,k ∈ nameX rs T x :: ks ↔ (f k).isSome = true ∧ (left k && !decide (k = nameX rs T x)) = false)):=Lib.hid (by
    have hxl : nameX rs T x ∉ ks:=fun h => by have:=((HL.out.km _).1 h).2; rw [hlx] at this; cases this
    have hnd : (nameX rs T x :: ks).Nodup:=List.nodup_cons.2 ⟨hxl,HL.out.nd⟩
    have hin : ∀ k,k ∈ nameX rs T x :: ks ↔ (f k).isSome = true ∧ (left k && !decide (k = nameX rs T x)) = false:=fun k => by
     by_cases e : k = nameX rs T x
     ·subst e; simp [hfx]
     ·rw [List.mem_cons,HL.out.km k]; simp [e]
    exact ⟨hnd,nodup_sub_len _ _ hnd (fun y hy => (HKM.out.1 y).2 ((hin y).1 hy).1),hin⟩)
   have HLF : Hid (∀ y,(left y && !decide (y = nameX rs T x)) = true → (f y).isSome = true):=Lib.hid (fun y h => HL.out.lf y (by cases e : left y <;> simp [e] at h ⊢))
   have HLX : Hid (left (nameX rs T x) = true):=Lib.hid hlx
   have HLT : Hid (cnt2 < wr.rangeLeft mb V.heap.size):=Lib.hid (by rw [HLE.out]; exact hlt)
   have HR7:=Lib.hid hrg2
   have hown7:=own_keepB hown hg7 (fun k j hk hj => by injection hk with hk; have:=(hown.lt j hj).1; omega)
   have hb7:=hbv.grown hg7 hbv.size (fun q hq => by injection hq with hq; omega)
   have hbi7 : V.heap.size + 1 ≤ W7.heap.size:=by omega
   have e47:=e4.offc (by decide) hrg.notC hg7
   clear hrg hfx hp' hlx hlt hg7 hs7 hown e4 e7 hbv hbi HLE hxa hgx hxp hrg2 hxt hxr hxe
   go_upto_region 6 with (fail)
   have hxb : Blk (W7.alloc (.cells #[.string ⟨xr.toArray⟩,.slice pta xth.length ptc,.int .i64 (x.s : Int),.slice pda a.2.length pdc,.int .i64 a.1] 147)) W7.heap.size 147 #[.string ⟨xr.toArray⟩,.slice pta xth.length ptc,.int .i64 (x.s : Int),.slice pda a.2.length pdc,.int .i64 a.1]:=Blk.new _ _ _
   have hba : Below W7.heap.size W7 (W7.alloc (.cells #[.string ⟨xr.toArray⟩,.slice pta xth.length ptc,.int .i64 (x.s : Int),.slice pda a.2.length pdc,.int .i64 a.1] 147)):=(Below.refl _ _).alloc (Nat.le_refl _) _
   have hrg7:=HR7.out.kept (grown_of_below hba none) (by simp) (by simp)
   replace hown7:=own_keep hown7 hba
   replace e47:=e47.below hba
   replace hb7:=below_up hb7 hba
   replace hbi7 : V.heap.size + 1 ≤ (W7.alloc (.cells #[.string ⟨xr.toArray⟩,.slice pta xth.length ptc,.int .i64 (x.s : Int),.slice pda a.2.length pdc,.int .i64 a.1] 147)).heap.size:=Nat.le_trans hbi7 hba.size
   clear hba hen HR7
   generalize W7.alloc (.cells #[.string ⟨xr.toArray⟩,.slice pta xth.length ptc,.int .i64 (x.s : Int),.slice pda a.2.length pdc,.int .i64 a.1] 147) = W8 at *
   generalize W7.heap.size = xb at *
   have hxs0 : x.s = 0:=reach_s (HCL.out.1 x a HXA.out).1.reach rfl
   have hlx3 : (x.s : Int) = 0:=by omega
   have hbw8:=below_up HBV.out hb7
   have hfo:=fromOf_any lo ca cd lo2 c2 0 ptc A rs D ds st gl TR tr xr pta xth T W8 (HS.out _ hbw8).1 HM.out.1 HM.out.2 (HS.out _ hbw8).2 htl e47 e3 HXR.out HXT.out
   have HXX : Hid (stX rs T xr xth = x):=Lib.hid (by rw [HXE.out,hxs0]; rfl)
   rw [HXX.out] at hfo
   have e40 : Row V 0 1 pta xth.length (strs xth):=HE4.out
   obtain ⟨x0,x1,x2,x3,x4⟩:=hxb.w5
   obtain ⟨m0,m1,m2,m3⟩:=(HMB.out _ hb7).fourR
   have zx:=hxb.lt
   have zm:=(HMB.out _ hb7).lt
   go_wp2_with fail
   refine hfo.mono ?_
   clear hfo
   rintro e W9 ⟨is,b,BA,bc,rfl,-,hfr,hb⟩
   have HFR:=Lib.hid hfr.none
   have hba : Below W9.heap.size W9 (W9.alloc (.cells #[.slice BA b.2.length bc,.int .i64 b.1] 40)):=(Below.refl _ _).alloc (Nat.le_refl _) _
   replace hb:=below_up hb hba
   replace hrg7:=hrg7.kept (grown_of_below hb none) (by simp) (by simp)
   replace hown7:=own_keep hown7 hb
   replace hxb:=hxb.below hb
   replace hb7:=below_up hb7 hb
   replace hbi7 : V.heap.size + 1 ≤ (W9.alloc (.cells #[.slice BA b.2.length bc,.int .i64 b.1] 40)).heap.size:=Nat.le_trans hbi7 hb.size
   clear hfr hb hba x0 x1 x2 x3 x4 m0 m1 m2 m3 zx zm e47 hbw8
   go_upto_region 7 with (fail)
   generalize W9.alloc (.cells #[.slice BA b.2.length bc,.int .i64 b.1] 40) = W10 at *
   have HIN : Hid (∀ y b,M y = some b → (ptX rs T y = ptX rs T x → y = x)):=Lib.hid (fun y b hy e => HNM.out.inj y x (HSV.out.fi.good y b hy) HGX.out (by
    unfold nameX
    rw [e,hxs0,reach_s (HCL.out.1 y b hy).1.reach rfl]))
   cases is with
   | true =>
    have HL2 : Hid (LofI rs ds T tr gl V KL f M (fun k => left k && !decide (k = nameX rs T x)) zs (nameX rs T x :: ks)):=Lib.hid ⟨HKS.out.1,HKS.out.2.2,HLF.out,Nat.le_succ_of_le HL.out.len,HKS.out.2.1,HL.out.zd,fun q => by
     rw [HL.out.zm q]
     constructor
     ·rintro ⟨y,b,h1,h2,h3,h4⟩; exact ⟨y,b,h1,by rw [h2]; rfl,h3,h4⟩
     ·rintro ⟨y,b,h1,h2,h3,h4⟩
      by_cases e : nameX rs T y = nameX rs T x
      ·have:=HNM.out.inj y x (HSV.out.fi.good y b h1) HGX.out e
       subst this
       exact absurd (HFR.out.2 h3) (by simp)
      ·rw [decide_eq_false e] at h2
       exact ⟨y,b,h1,by simpa using h2,h3,h4⟩,HL.out.th⟩
    clear hxb
    go_wp2_with fail
    go_roundw
    case rel => exact ⟨_,cnt2,LA,lc,zs,nameX rs T x :: ks,hrg7,rfl,hown7,HL2,hb7,hbi7⟩
    case measure => rw [hrg7.left_eq]; exact HLT.out
   | false =>
    obtain ⟨x0,x1,x2,x3,x4⟩:=hxb.w5
    have zx:=hxb.lt
    go_wp2_with (at_builtin; go_must (refine wpList_app (lo:=V.heap.size + 1) (base:=V.heap.size + 1) (n:=zs.length) (xs:=zs.flatMap encP) _ _ rfl _ _ ty_ptsL rfl (by repeat (first | exact hown7 | refine World.ownsRow.alloc ?_ _ | refine own_drewN ?_ _ | refine World.ownsRow.drew ?_)) rfl (by first | exact row_new' _ (by first | rfl | simp) (by first | omega | (simp; omega)) rfl | exact row_newN _ _ (by first | rfl | simp) (by first | omega | (simp; omega)) rfl | exact row_newD _ (by first | rfl | simp) (by first | omega | (simp; omega)) rfl) rfl rfl (by first | omega | decide) (by first | omega | decide) (by first | omega | (simp; omega)) ?_))
    intro A5 c5 w5 hown5 hg5 _
    have hz1 : (zs ++ [(⟨xr,xth,pta,ptc⟩ : PtE)]).flatMap encP = zs.flatMap encP ++ encP ⟨xr,xth,pta,ptc⟩:=by simp
    have HO5 : Hid (w5.ownsRow (V.heap.size + 1) 35 2 (.slice A5 (zs ++ [(⟨xr,xth,pta,ptc⟩ : PtE)]).length c5) (zs ++ [(⟨xr,xth,pta,ptc⟩ : PtE)]).length ((zs ++ [(⟨xr,xth,pta,ptc⟩ : PtE)]).flatMap encP)):=Lib.hid (by rw [hz1,List.length_append]; exact hown5)
    have hown8:=hown7.alloc (.cells #[.string ⟨xr.toArray⟩,.slice pta xth.length ptc] 35)
    have hrg5:=(hrg7.kept (World.grownBy_alloc W10 (.cells #[.string ⟨xr.toArray⟩,.slice pta xth.length ptc] 35) none) (by simp) (by simp)).kept hg5 (fun e => by have:=(hown8.lt mb e.symm).1; omega) (fun e => by have:=(hown8.lt _ e.symm).1; omega)
    have hb8:=(hb7.alloc hb7.size (.cells #[.string ⟨xr.toArray⟩,.slice pta xth.length ptc] 35)).grown hg5 (hb7.alloc hb7.size (.cells #[.string ⟨xr.toArray⟩,.slice pta xth.length ptc] 35)).size (fun q hq => by have:=(hown8.lt q hq).1; omega)
    have hbi8 : V.heap.size + 1 ≤ w5.heap.size:=by have:=hg5.size; simp at this; omega
    have HWN:=Lib.hid (HFR.out.1 (by first | rfl | trivial))
    have HL2 : Hid (LofI rs ds T tr gl V KL f M (fun k => left k && !decide (k = nameX rs T x)) (zs ++ [(⟨xr,xth,pta,ptc⟩ : PtE)]) (nameX rs T x :: ks)):=Lib.hid ⟨HKS.out.1,HKS.out.2.2,HLF.out,by have:=HL.out.len; simp; omega,HKS.out.2.1,by
     rw [List.map_append,List.nodup_append]
     refine ⟨HL.out.zd,by simp,fun q hq r hr => ?_⟩
     rw [List.map_cons,List.map_nil,List.mem_singleton] at hr
     subst hr
     rintro rfl
     obtain ⟨y,b,h1,h2,h3,h4⟩:=(HL.out.zm _).1 hq
     have:=HIN.out y b h1 (h4.symm.trans HXP.out.symm)
     subst this
     rw [HLX.out] at h2; exact absurd h2 (by simp),fun q => by
     rw [List.map_append,List.mem_append,HL.out.zm q,List.map_cons,List.map_nil,List.mem_singleton]
     constructor
     ·rintro (⟨y,b,h1,h2,h3,h4⟩ | h)
      ·exact ⟨y,b,h1,by rw [h2]; rfl,h3,h4⟩
      ·exact ⟨x,a,HXA.out,by simp,HWN.out,by rw [h,HXP.out]⟩
     ·rintro ⟨y,b,h1,h2,h3,h4⟩
      by_cases e : nameX rs T y = nameX rs T x
      ·have:=HNM.out.inj y x (HSV.out.fi.good y b h1) HGX.out e
       subst this
       exact .inr (by rw [h4,HXP.out])
      ·rw [decide_eq_false e] at h2
       exact .inl ⟨y,b,h1,by simpa using h2,h3,h4⟩,fun z hz => by
     rcases List.mem_append.1 hz with hz | hz
     ·exact HL.out.th z hz
     ·rw [List.mem_singleton.1 hz]
      refine ⟨HE4.out,fun hn aa ha => ?_,by have:=ThOk.len HTP.out HXT.out; have:=HR.out.few; rw [HM.out.2] at this; show xth.length ≤ 1000; omega⟩
      obtain ⟨bb,off,ee,_,hlt,_⟩:=HE4.out.2 hn
      simp only at ha
      rw [ee] at ha
      injection ha with ha
      subst ha
      exact hlt⟩
    clear hown7 hown5 hown8 hg5 hrg7 hb7 hbi7 hxb x0 x1 x2 x3 x4 zx hz1
    go_wp2_with fail
    go_roundw
    case rel => exact ⟨_,cnt2,A5,c5,_,nameX rs T x :: ks,hrg5,by simp,HO5.out,HL2,hb8,hbi8⟩
    case measure => rw [hrg5.left_eq]; exact HLT.out
end Go.Proofs.YtjggbpchmbdocaaGreatDoor
/- Reached rooms and lost points, plain: both sides tell the same; equal points are found equal. -/
namespace Go.Proofs.YtjggbpchmbdocaaGreatDoor
open Go.RowKit Go.Sort

theorem sorted_same {α : Type} {f : α → α → Int} (hf : TotC f) : ∀ {l m : List α},l.Perm m → l.Pairwise (fun x y => ¬ f y x < 0) → m.Pairwise (fun x y => ¬ f y x < 0) → l = m
 | [],m,hp,_,_ => (List.nil_perm.1 hp).symm
 | a :: l,[],hp,_,_ => absurd hp.length_eq (by simp)
 | a :: l,b :: m,hp,hl,hm => by
  have h1:=List.pairwise_cons.1 hl
  have h2:=List.pairwise_cons.1 hm
  have e : a = b:=by
   have ha : a ∈ b :: m:=hp.mem_iff.1 List.mem_cons_self
   have hb : b ∈ a :: l:=hp.mem_iff.2 List.mem_cons_self
   rcases List.mem_cons.1 ha with h | h
   ·exact h
   rcases List.mem_cons.1 hb with g | g
   ·exact g.symm
   have x1:=h2.1 a h
   have x2:=h1.1 b g
   have x3:=hf.flip a b
   exact ((hf.eq b a).1 (by omega)).symm
  subst e
  rw [sorted_same hf (List.perm_cons a |>.1 hp) h1.2 h2.2]
section
variable {rs : List RoomE} {ds : List DoorE} {T tr : List (List UInt8)} {st gl : List UInt8}
theorem reach_same {l l' : List (List UInt8)} (h : ReachOk rs ds T tr st l) (hp : l'.Pairwise (· < ·)) (hm : ∀ r,r ∈ l' ↔ ∃ x,ReachX (nxX rs T ds tr [] id) (fun _ => false) (st0 rs T st) x ∧ r = (ptX rs T x).1) : l = l':=by
 obtain ⟨sts,_,h2,rfl⟩:=h
 refine up_ext (onceT_spec _).1 hp fun r => ?_
 rw [(onceT_spec _).2,hm r]
 constructor
 ·intro h
  obtain ⟨x,hx,rfl⟩:=List.mem_map.1 h
  exact ⟨x,(h2 x).1 hx,rfl⟩
 ·rintro ⟨x,hx,rfl⟩
  exact List.mem_map.2 ⟨x,(h2 x).2 hx,rfl⟩
theorem ptX_inj (hT : T.Pairwise (· < ·)) {x y : StE} (hx : GoodX rs T x) (hy : GoodX rs T y) (hs : x.s = y.s) (h : ptX rs T x = ptX rs T y) : x = y:=by
 obtain ⟨r,t,_,_,a3,a4,_⟩:=ptX_good hT hx
 obtain ⟨r',t',_,_,b3,b4,_⟩:=ptX_good hT hy
 rw [a4,b4] at h
 injection h with h1 h2
 rw [a3,b3,h1,h2,hs]
theorem lost_same (hT : T.Pairwise (· < ·)) {zs zs' : List PtE} (h : LostOk rs ds T tr st gl zs) (hn : (zs'.map fun z => (z.room,z.th)).Nodup) (hm : ∀ q,q ∈ zs'.map (fun z => (z.room,z.th)) ↔ ∃ x,ReachX (nxX rs T ds tr [] id) (goalX rs gl) (st0 rs T st) x ∧ (∀ t d ks,¬ WayX (nxX rs T ds tr [] id) (goalX rs gl) (tmX ds) x t d ks) ∧ q = ptX rs T x) (hs : SrtP zs') : (zs.map fun z => (z.room,z.th)) = zs'.map fun z => (z.room,z.th):=by
 obtain ⟨sts,h1,h2,h3,h4,h5⟩:=h
 have hnd : ((sts.filter (lostB (nxX rs T ds tr [] id) (goalX rs gl) (tmX ds))).map (ptX rs T)).Nodup:=by
  have h6 : (sts.filter (lostB (nxX rs T ds tr [] id) (goalX rs gl) (tmX ds))).Nodup:=h1.filter _
  unfold List.Nodup
  rw [List.pairwise_map]
  refine h6.imp_of_mem fun {x y} hx hy hne e => hne ?_
  have hx':=(List.mem_filter.1 hx).1
  have hy':=(List.mem_filter.1 hy).1
  exact ptX_inj hT (h2 x hx') (h2 y hy') (by rw [reach_s ((h3 x).1 hx') rfl,reach_s ((h3 y).1 hy') rfl]) e
 have hperm : (zs.map fun z => (z.room,z.th)).Perm (zs'.map fun z => (z.room,z.th)):=by
  refine h4.trans ((List.perm_ext_iff_of_nodup hnd hn).2 fun q => ?_)
  rw [hm q,List.mem_map]
  constructor
  ·rintro ⟨x,hx,rfl⟩
   obtain ⟨a,b⟩:=List.mem_filter.1 hx
   exact ⟨x,(h3 x).1 a,lostB_iff.1 b,rfl⟩
  ·rintro ⟨x,a,b,rfl⟩
   exact ⟨x,List.mem_filter.2 ⟨(h3 x).2 a,lostB_iff.2 b⟩,rfl⟩
 have hsrt : ∀ l : List PtE,l.Pairwise (fun x y => ¬ cfP y x < 0) → (l.map fun z => (z.room,z.th)).Pairwise (fun p q => ¬ cf2 q p < 0):=fun l hl => by
  rw [List.pairwise_map]
  exact hl.imp fun {x y} h => by rw [← cfP_2]; exact h
 exact sorted_same cf2_tot hperm (hsrt _ h5) (hsrt _ hs)
end
set_option maxHeartbeats 2000000 in
set_option maxRecDepth 100000 in
theorem eqPts_yes (A A' : Option Addr) (c c' lo lo' : Nat) (zs zs' : List PtE) (w : World) (hA : Row w lo 2 A zs.length (zs.flatMap encP)) (hB : Row w lo' 2 A' zs'.length (zs'.flatMap encP)) (ha : ∀ z ∈ zs,Row w 0 1 z.B z.th.length (strs z.th) ∧ z.th.length ≤ 1000000000) (hb : ∀ z ∈ zs',Row w 0 1 z.B z.th.length (strs z.th) ∧ z.th.length ≤ 1000000000) (hl : zs.length ≤ 1000000000) (he : (zs.map fun z => (z.room,z.th)) = zs'.map fun z => (z.room,z.th)) :
  Calls Tryz.prog 31 #[.slice A zs.length c,.slice A' zs'.length c',.func (.func 33) #[] #[]] w fun e w' => e = .returned (.bool true) ∧ Below w.heap.size w w':=by
 have hlen : zs.length = zs'.length:=by have:=congrArg List.length he; simpa using this
 have h0 : ((zs.length : Int) != (zs'.length : Int)) = false:=by simp [hlen]
 have HLEN:=Lib.hid hlen
 have HE : Hid (∀ k (h1 : k < zs.length) (h2 : k < zs'.length),zs[k].room = zs'[k].room ∧ zs[k].th = zs'[k].th):=Lib.hid (fun k h1 h2 => by
  have h3 : (zs.map fun z => (z.room,z.th))[k]? = (zs'.map fun z => (z.room,z.th))[k]?:=by rw [he]
  rw [List.getElem?_map,List.getElem?_map,List.getElem?_eq_getElem h1,List.getElem?_eq_getElem h2] at h3
  simp only [Option.map_some,Option.some.injEq,Prod.mk.injEq] at h3
  exact h3)
 have HA:=Lib.hid hA
 have HB:=Lib.hid hB
 have HRA:=Lib.hid ha
 have HRB:=Lib.hid hb
 clear hlen he hA hB ha hb
 go_enter Tryz.func31,Tryz.ntmps31
 go_wp2_with fail
 go_loopw [17] (fun i wr => ∃ (k : Nat),k ≤ zs.length ∧ i = .int .i64 k ∧ Below w.heap.size w wr) (fun i _ => zs.length - (intOf i).toNat)
 case atStart => exact ⟨0,Nat.zero_le _,rfl,Below.refl _ _⟩
 case round =>
  obtain ⟨k,hk,rfl,hbw⟩:=hrel
  have hz:=hbw.size
  by_cases hlt : k < zs.length
  ·have hlt' : k < zs'.length:=by have:=HLEN.out; omega
   obtain ⟨b,off,rfl,_,hbs,hc⟩:=(HA.out.below hbw).2 (by omega)
   obtain ⟨b',off',rfl,_,hbs',hd⟩:=(HB.out.below hbw).2 (by omega)
   have c0 : wr.cell? ⟨b,off + k * 2,none⟩ = some (.string ⟨zs[k].room.toArray⟩):=hc (k * 2) _ ((flat_at encP 2 (fun _ => rfl) zs k hlt 0 (by omega)).trans rfl)
   have c1 : wr.cell? ⟨b,off + k * 2 + 1,none⟩ = some (.slice zs[k].B zs[k].th.length zs[k].c):=by
    have:=hc (k * 2 + 1) _ ((flat_at encP 2 (fun _ => rfl) zs k hlt 1 (by omega)).trans rfl); rw [← Nat.add_assoc] at this; exact this
   have d0 : wr.cell? ⟨b',off' + k * 2,none⟩ = some (.string ⟨zs'[k].room.toArray⟩):=hd (k * 2) _ ((flat_at encP 2 (fun _ => rfl) zs' k hlt' 0 (by omega)).trans rfl)
   have d1 : wr.cell? ⟨b',off' + k * 2 + 1,none⟩ = some (.slice zs'[k].B zs'[k].th.length zs'[k].c):=by
    have:=hd (k * 2 + 1) _ ((flat_at encP 2 (fun _ => rfl) zs' k hlt' 1 (by omega)).trans rfl); rw [← Nat.add_assoc] at this; exact this
   obtain ⟨q1,q2⟩:=HE.out k hlt hlt'
   obtain ⟨r1,l1⟩:=HRA.out _ (List.getElem_mem hlt)
   obtain ⟨r2,l2⟩:=HRB.out _ (List.getElem_mem hlt')
   replace r1:=r1.below hbw
   replace r2:=r2.below hbw
   clear hc hd
   generalize zs[k] = x at *
   generalize zs'[k] = y at *
   obtain ⟨xk,xg,xB,xc⟩:=x
   obtain ⟨yk,yg,yB,yc⟩:=y
   dsimp only at *
   subst q1 q2
   go_wp2_with fail
   refine (samePoint_any xB yB xc yc 0 0 xk xk xg xg _ ((r1.alloc _).alloc _) ((r2.alloc _).alloc _) l1 l1).mono ?_
   rintro e w1 ⟨rfl,hb1⟩
   rw [decide_eq_true (⟨rfl,rfl⟩ : xk = xk ∧ xg = xg)]
   go_wp2_with fail
   go_roundw
   case rel => exact ⟨k + 1,by omega,by go_num,below_up (by repeat (first | exact hbw | refine Below.alloc ?_ (by first | omega | (simp; omega) | simp) _ | refine below_drewN' ?_ _ | refine Below.drew ?_)) hb1⟩
   case measure => simp [intOf]; omega
  ·go_wp2_with fail
   go_ret
   exact ⟨rfl,hbw⟩
end Go.Proofs.YtjggbpchmbdocaaGreatDoor
