/- Texts of this seat, laid together: HpV HpT HpU. -/
import Derived.Test.YthchgkdhegaehaaGreatDoorBr34
import Derived.Test.YthchgkdhegaehaaGreatDoorBr38
import Derived.Test.YthchgkdhegaehaaGreatDoorBr27
import Derived.Test.YthchgkdhegaehaaGreatDoorBr36
/- Which states are reached, plain; and what Lost and Reached tell. -/
namespace Go.Proofs.YthchgkdhegaehaaGreatDoor
set_option linter.unusedVariables false
set_option linter.unusedSimpArgs false
open Go.RowKit

inductive ReachX (nx : StE → List (Nat × StE)) (ef : StE → Bool) (x : StE) : StE → Prop
  | refl : ReachX nx ef x x
  | step {y z : StE} {k : Nat} : ReachX nx ef x y → ef y = false → (k, z) ∈ nx y → ReachX nx ef x z
section
variable {nx : StE → List (Nat × StE)} {ef : StE → Bool} {gd : StE → Prop} {tm : Nat → Int} {s0 x y z : StE} {sts : List StE} {stp : List (List (Nat × Nat))}
theorem ReachX.head {k : Nat} (hf : ef x = false) (hm : (k,y) ∈ nx x) (h : ReachX nx ef y z) : ReachX nx ef x z:=by
 induction h with
 | refl => exact .step .refl hf hm
 | step _ h1 h2 ih => exact .step ih h1 h2
theorem ExOk.reach_iff (h : ExOk nx ef gd s0 sts stp) (y : StE) : y ∈ sts ↔ ReachX nx ef s0 y:=by
 constructor
 ·intro hy
  obtain ⟨j,hj,rfl⟩:=List.mem_iff_getElem.1 hy
  induction j using Nat.strongRecOn with
  | ind j ih =>
   by_cases h0 : j = 0
   ·subst h0
    have:=h.first
    rw [List.getElem?_eq_getElem hj] at this
    rw [Option.some.inj this]; exact .refl
   ·obtain ⟨j',k,h1,h2⟩:=h.reach j (by omega) hj
    have hj' : j' < sts.length:=by omega
    rw [List.getD_eq_getElem?_getD,h.steps j' sts[j'] (List.getElem?_eq_getElem hj')] at h2
    by_cases he : ef sts[j'] = true
    ·rw [if_pos he] at h2; cases h2
    ·rw [if_neg he] at h2
     obtain ⟨p,hp,e⟩:=List.mem_map.1 h2
     injection e with e1 e2
     have he' : ef sts[j'] = false:=by simpa using he
     have hm:=h.closed _ (List.getElem_mem hj') he' p hp
     have hpe : p.2 = sts[j]:=by
      have:=List.getElem_idxOf (List.idxOf_lt_length_of_mem hm)
      simp only [e2] at this
      exact this.symm
     rw [← hpe]
     exact .step (ih j' h1 hj' (List.getElem_mem hj')) he' hp
 ·intro hr
  induction hr with
  | refl => exact List.mem_of_getElem? h.first
  | step _ h1 h2 ih => exact h.closed _ ih h1 _ h2
theorem way_of_reach (h : ReachX nx ef x y) (hy : ef y = true) : ∃ t d ks,WayX nx ef tm x t d ks:=by
 have key : ∀ {z},ReachX nx ef x z → (∃ t d ks,WayX nx ef tm z t d ks) → ∃ t d ks,WayX nx ef tm x t d ks:=by
  intro z hz
  induction hz with
  | refl => exact id
  | step _ h1 h2 ih => rintro ⟨t,d,ks,hw⟩; exact ih ⟨_,_,_,.go h1 h2 hw⟩
 exact key h ⟨_,_,_,.stop hy⟩
theorem reach_of_way {t d : Int} {ks : List Nat} (h : WayX nx ef tm x t d ks) : ∃ y,ReachX nx ef x y ∧ ef y = true:=by
 induction h with
 | stop h => exact ⟨_,.refl,h⟩
 | go h1 h2 _ ih => obtain ⟨y,h3,h4⟩:=ih; exact ⟨y,h3.head h1 h2,h4⟩
theorem ReachX.never (h : ReachX nx ef x y) : ReachX nx (fun _ => false) x y:=by
 induction h with
 | refl => exact .refl
 | step _ _ h2 ih => exact .step ih rfl h2
theorem way_of_never (h : ReachX nx (fun _ => false) x y) (hy : ef y = true) : ∃ t d ks,WayX nx ef tm x t d ks:=by
 have key : ∀ {z},ReachX nx (fun _ => false) x z → (∃ t d ks,WayX nx ef tm x t d ks) ∨ ReachX nx ef x z:=by
  intro z hz
  induction hz with
  | refl => exact .inr .refl
  | @step y' _ _ _ _ h2 ih =>
   rcases ih with h | h
   ·exact .inl h
   ·cases he : ef y' with
    | true => exact .inl (way_of_reach h he)
    | false => exact .inr (.step h he h2)
 rcases key h with h | h
 ·exact h
 ·exact way_of_reach h hy
end
def thX (T : List (List UInt8)) (b : Nat) : List (List UInt8):=T.filter fun s => b.testBit (T.idxOf s)
theorem thX_bits (T th : List (List UInt8)) : thX T (bitsT T th) = T.filter fun x => decide (x ∈ th):=by
 unfold thX bitsT
 refine List.filter_congr fun s hs => ?_
 have hl:=List.idxOf_lt_length_of_mem hs
 rw [bitsN_test,decide_eq_true hl,Bool.true_and,List.getD_eq_getElem?_getD,List.getElem?_eq_getElem hl,List.getElem_idxOf]
 rfl
def ptX (rs : List RoomE) (T : List (List UInt8)) (x : StE) : List UInt8 × List (List UInt8):=((rs.getD x.r default).key,thX T x.b)
theorem ptX_st {rs : List RoomE} {T : List (List UInt8)} {room : List UInt8} {th : List (List UInt8)} (hr : room ∈ rs.map RoomE.key) (hT : T.Pairwise (· < ·)) (ht : ThOk T th) : ptX rs T (stX rs T room th) = (room,th):=by
 unfold ptX stX
 simp only
 rw [thX_bits,list_bits hT ht,List.getD_eq_getElem?_getD,List.getElem?_eq_getElem (ixR_lt hr)]
 exact congrArg (·,th) (ixR_key hr)
theorem GoodX.st {rs : List RoomE} {T : List (List UInt8)} {x : StE} (h : GoodX rs T x) (hs : x.s = 0) : ∃ room th,room ∈ rs.map RoomE.key ∧ ThOk T th ∧ x = stX rs T room th:=by
 obtain ⟨⟨room,hr,e1⟩,⟨th,ht,e2⟩,_⟩:=h
 refine ⟨room,th,hr,ht,?_⟩
 cases x
 simp only at e1 e2 hs
 subst e1 e2 hs
 rfl
theorem reach_s {rs : List RoomE} {T : List (List UInt8)} {ds : List DoorE} {tr : List (List UInt8)} {wo : List UInt8} {ef : StE → Bool} {x y : StE} (h : ReachX (nxX rs T ds tr wo id) ef x y) (hx : x.s = 0) : y.s = 0:=by
 induction h with
 | refl => exact hx
 | step _ _ h2 ih =>
  obtain ⟨_,z,hz,e,_,_⟩:=nxX_mem h2
  simp only at hz e
  unfold passX at hz
  split at hz
  ·injection hz with hz
   rw [e,← hz]; exact ih
  ·cases hz
noncomputable def lostB (nx : StE → List (Nat × StE)) (ef : StE → Bool) (tm : Nat → Int) (x : StE) : Bool:=@decide (∀ t d ks,¬ WayX nx ef tm x t d ks) (Classical.propDecidable _)
theorem lostB_iff {nx : StE → List (Nat × StE)} {ef : StE → Bool} {tm : Nat → Int} {x : StE} : lostB nx ef tm x = true ↔ ∀ t d ks,¬ WayX nx ef tm x t d ks:=by
 unfold lostB; exact @decide_eq_true_iff _ (Classical.propDecidable _)
theorem LeastT.lost {nx : StE → List (Nat × StE)} {ef : StE → Bool} {tm : Nat → Int} {x : StE} {v : Int} (h : LeastT nx ef tm x v) : decide (v < 0) = lostB nx ef tm x:=by
 rcases h with ⟨rfl,h1⟩ | ⟨h0,⟨d,ks,h1⟩,_⟩
 ·rw [lostB_iff.2 h1]; decide
 ·have : lostB nx ef tm x = false:=by
   cases hb : lostB nx ef tm x with
   | false => rfl
   | true => exact absurd h1 (lostB_iff.1 hb _ _ _)
  rw [this]; exact decide_eq_false (by omega)
def LostOk (rs : List RoomE) (ds : List DoorE) (T tr : List (List UInt8)) (st gl : List UInt8) (zs : List PtE) : Prop :=
 ∃ sts : List StE,sts.Nodup ∧ (∀ x ∈ sts,GoodX rs T x) ∧ (∀ y,y ∈ sts ↔ ReachX (nxX rs T ds tr [] id) (goalX rs gl) (st0 rs T st) y) ∧
  (zs.map fun z => (z.room,z.th)).Perm ((sts.filter (lostB (nxX rs T ds tr [] id) (goalX rs gl) (tmX ds))).map (ptX rs T)) ∧ zs.Pairwise (fun x y => ¬ cfP y x < 0)
def ReachOk (rs : List RoomE) (ds : List DoorE) (T tr : List (List UInt8)) (st : List UInt8) (l : List (List UInt8)) : Prop :=
 ∃ sts : List StE,(∀ x ∈ sts,GoodX rs T x) ∧ (∀ y,y ∈ sts ↔ ReachX (nxX rs T ds tr [] id) (fun _ => false) (st0 rs T st) y) ∧ l = onceT (sts.map fun x => (rs.getD x.r default).key)
section
variable {rs : List RoomE} {ds : List DoorE} {T tr : List (List UInt8)} {st gl : List UInt8} {zs : List PtE} {l : List (List UInt8)}
theorem LostOk.mem (h : LostOk rs ds T tr st gl zs) (hT : T.Pairwise (· < ·)) {z : PtE} (hz : z ∈ zs) : z.room ∈ rs.map RoomE.key ∧ ThOk T z.th ∧ ReachX (nxX rs T ds tr [] id) (goalX rs gl) (st0 rs T st) (stX rs T z.room z.th) ∧ ∀ t d ks,¬ WayX (nxX rs T ds tr [] id) (goalX rs gl) (tmX ds) (stX rs T z.room z.th) t d ks:=by
 obtain ⟨sts,_,hg,hr,hp,_⟩:=h
 have:=hp.mem_iff.1 (List.mem_map.2 ⟨z,hz,rfl⟩)
 obtain ⟨x,hx,e⟩:=List.mem_map.1 this
 obtain ⟨hx,hl⟩:=List.mem_filter.1 hx
 have hrx:=(hr x).1 hx
 obtain ⟨room,th,h1,h2,e2⟩:=(hg x hx).st (reach_s hrx rfl)
 rw [e2,ptX_st h1 hT h2] at e
 injection e with e3 e4
 subst e3 e4
 rw [e2] at hrx hl
 exact ⟨h1,h2,hrx,lostB_iff.1 hl⟩
theorem ReachOk.mem (h : ReachOk rs ds T tr st l) {room : List UInt8} (hr : room ∈ rs.map RoomE.key) {th : List (List UInt8)} (hx : ReachX (nxX rs T ds tr [] id) (fun _ => false) (st0 rs T st) (stX rs T room th)) : room ∈ l:=by
 obtain ⟨sts,_,h1,rfl⟩:=h
 rw [(onceT_spec _).2]
 refine List.mem_map.2 ⟨_,(h1 _).2 hx,?_⟩
 show (rs.getD (ixR rs room) default).key = room
 rw [List.getD_eq_getElem?_getD,List.getElem?_eq_getElem (ixR_lt hr)]
 exact ixR_key hr
theorem ReachOk.of (h : ReachOk rs ds T tr st l) {room : List UInt8} (hm : room ∈ l) : ∃ th,room ∈ rs.map RoomE.key ∧ ThOk T th ∧ ReachX (nxX rs T ds tr [] id) (fun _ => false) (st0 rs T st) (stX rs T room th):=by
 obtain ⟨sts,hg,h1,rfl⟩:=h
 rw [(onceT_spec _).2] at hm
 obtain ⟨x,hx,e⟩:=List.mem_map.1 hm
 have hrx:=(h1 x).1 hx
 obtain ⟨room',th,h2,h3,e2⟩:=(hg x hx).st (reach_s hrx rfl)
 subst e2
 have e : (rs.getD (ixR rs room') default).key = room:=e
 rw [List.getD_eq_getElem?_getD,List.getElem?_eq_getElem (ixR_lt h2)] at e
 have e' : (rs[ixR rs room']'(ixR_lt h2)).key = room:=e
 rw [ixR_key h2] at e'
 subst e'
 exact ⟨th,h2,h3,hrx⟩
theorem FaQ.reach (h : ReachOk rs ds T tr st l) (hR : Right rs ds st gl) {K : List (List UInt8)} {t : Int} {is : Bool} (hq : ∃ r : PathR,PathOk (nxX rs T ds tr [] id) (goalX rs gl) (tmX ds) (st0 rs T st) (nS rs T) r ∧ K = r.ks.map (keyX ds) ∧ t = r.t ∧ is = r.is) : is = decide (gl ∈ l):=by
 obtain ⟨r,h1,_,_,rfl⟩:=hq
 cases hi : r.is with
 | true =>
  obtain ⟨⟨d,hw⟩,_⟩:=h1.yes hi
  obtain ⟨y,hy,hg⟩:=reach_of_way hw
  obtain ⟨sts,hgd,h2,rfl⟩:=h
  have hrx:=hy.never
  have hym:=(h2 y).2 hrx
  obtain ⟨room,th,hrm,_,e⟩:=(hgd y hym).st (reach_s hrx rfl)
  subst e
  have : room = gl:=(goalX_room hR hrm).1 hg
  subst this
  refine (decide_eq_true ?_).symm
  rw [(onceT_spec _).2]
  refine List.mem_map.2 ⟨_,hym,?_⟩
  show (rs.getD (ixR rs room) default).key = room
  rw [List.getD_eq_getElem?_getD,List.getElem?_eq_getElem (ixR_lt hrm)]
  exact ixR_key hrm
 | false =>
  refine (decide_eq_false fun hm => ?_).symm
  obtain ⟨th,h2,_,h3⟩:=h.of hm
  obtain ⟨t,d,ks,hw⟩:=way_of_never (ef:=goalX rs gl) (tm:=tmX ds) h3 ((goalX_room hR h2).2 rfl)
  exact (h1.no hi).2 _ _ _ hw
end
end Go.Proofs.YthchgkdhegaehaaGreatDoor
/- The walks of Lost and Reached. -/
namespace Go.Proofs.YthchgkdhegaehaaGreatDoor
set_option linter.unusedVariables false
set_option linter.unusedSimpArgs false
open Go.RowKit

theorem ty_ptsL : SliceTy Tryz.prog 56 52 2 40:=.mk' Tryz.underlying56 (z:=.agg #[.string ⟨#[]⟩,.slice none 0 0]) (by kernel_rfl) rfl (by decide)
theorem point_g {v W : World} {lo0 M lo1 ca cd : Nat} {q : WorP} {rs : List RoomE} {ds : List DoorE} {T tr : List (List UInt8)} {wo st gl : List UInt8} {A D : Option Addr} (hW : WorW W lo0 M q T rs ds tr wo st gl) (hC : McC v W M lo1 A rs ca D ds cd st gl) (hR : Right rs ds st gl) (hTd : onceT (allT rs ds) = T) {x : StE} (hg : GoodX rs T x) :
  Calls Tryz.prog 58 #[.pointer (some ⟨q.p,0,none⟩),stV x] W (PtO W (ptX rs T x).1 (ptX rs T x).2):=by
 obtain ⟨room,hr,e1⟩:=hg.1
 obtain ⟨th,ht,e2⟩:=hg.2.1
 have hrl:=ixR_lt hr
 obtain ⟨rb,roff,e,_,hc⟩:=hC.m.room (by omega)
 have h0:=hC.cells.1
 rw [e] at h0
 have hk:=(hc (ixR rs room) hrl).1
 have hh:=pointO_any q.p M q.tc lo0 rb roff ca rs.length (ixR rs room) (x.s : Int) q.TA T th (rs[ixR rs room]'hrl).key W hW.cells.1 hW.cells.2.1 hW.things (by rw [← hTd]; exact hR.few) h0 hk hrl (by have:=hR.rl; omega)
 have e3 : ptX rs T x = ((rs[ixR rs room]'hrl).key,T.filter fun y => decide (y ∈ th)):=by
  unfold ptX
  rw [e1,e2,thX_bits,List.getD_eq_getElem?_getD,List.getElem?_eq_getElem hrl]; rfl
 rw [e3]
 unfold stV
 rw [e1,e2]
 exact hh
theorem GrW.stC {W : World} {lo g p n nc eb ec bc fb fc : Nat} {NA BA : Option Addr} {sts : List StE} {stp : List (List (Nat × Nat))} {lst : List Bool} {far : List (Int × Int)} (h : GrW W lo g p n nc eb ec bc fb fc NA BA sts stp lst far) {i : Nat} {x : StE} (hx : sts[i]? = some x) (hi : i < n) : ∃ b off,NA = some ⟨b,off,none⟩ ∧ b < W.heap.size ∧ W.cell? ⟨b,off + i * 3,none⟩ = some (.int .i64 (x.r : Int)) ∧ W.cell? ⟨b,off + i * 3 + 1,none⟩ = some (.int .i64 (x.b : Int)) ∧ W.cell? ⟨b,off + i * 3 + 2,none⟩ = some (.int .i64 (x.s : Int)):=by
 obtain ⟨b,off,e,_,hb,hc⟩:=h.N.2 (by omega)
 refine ⟨b,off,e,hb,?_,?_,?_⟩
 ·have:=hc (i * 3) _ ((st_at hx 0 (by omega)).trans rfl); exact this
 ·have:=hc (i * 3 + 1) _ ((st_at hx 1 (by omega)).trans rfl); rw [← Nat.add_assoc] at this; exact this
 ·have:=hc (i * 3 + 2) _ ((st_at hx 2 (by omega)).trans rfl); rw [← Nat.add_assoc] at this; exact this
theorem cell_al0 {w : World} {p : Addr} {v : Value} (h : w.cell? p = some v) (o : Obj) : (w.alloc o).cell? p = some v:=(((Below.refl w.heap.size w).alloc (Nat.le_refl _) o).cell (World.block_lt_of_cell? w _ h)).trans h
theorem thX_le {T : List (List UInt8)} {b : Nat} : (thX T b).length ≤ T.length:=List.length_filter_le _ _
def LoPost (w : World) (rs : List RoomE) (ds : List DoorE) (T tr : List (List UInt8)) (st gl : List UInt8) (err : Int) (e : Ending) (w' : World) : Prop :=
 ∃ (zs : List PtE) (A : Option Addr) (c : Nat),(err ≠ 0 → zs = []) ∧ (err = 0 → LostOk rs ds T tr st gl zs) ∧ e = .returned (.tuple #[.slice A zs.length c,.int .i64 err]) ∧ OPts w' w.heap.size A c zs ∧ zs.length ≤ 614400 ∧ Below w.heap.size w w'
def RePost (w : World) (rs : List RoomE) (ds : List DoorE) (T tr : List (List UInt8)) (st gl : List UInt8) (err : Int) (e : Ending) (w' : World) : Prop :=
 ∃ (l : List (List UInt8)) (A : Option Addr) (c : Nat),(err ≠ 0 → l = []) ∧ (err = 0 → ReachOk rs ds T tr st l) ∧ e = .returned (.tuple #[.slice A l.length c,.int .i64 err]) ∧ w'.ownsRow w.heap.size 9 1 (.slice A l.length c) l.length (strs l) ∧ l.length ≤ 614400 ∧ Below w.heap.size w w'

set_option maxHeartbeats 8000000 in
set_option maxRecDepth 100000 in
theorem lost_any (lo ca cd lo2 c2 : Nat) (A : Option Addr) (rs : List RoomE) (D : Option Addr) (ds : List DoorE) (st gl : List UInt8) (TR : Option Addr) (tr : List (List UInt8)) (w : World) (hA : MapW w lo A rs D ds) (hr : Row w lo2 1 TR tr.length (strs tr)) (hrl : tr.length ≤ 1000000000) :
  Calls Tryz.prog 19 #[mapV A rs ca D ds cd st gl,.slice TR tr.length c2] w (LoPost w rs ds (onceT (allT rs ds)) tr st gl (tricksE rs ds st gl tr)):=by
 obtain ⟨T,hT⟩ : ∃ T,onceT (allT rs ds) = T:=⟨_,rfl⟩
 have HT:=Lib.hid hT
 rw [hT]
 have hC : McC w (w.alloc (.cells #[.slice A rs.length ca,.slice D ds.length cd,.string ⟨st.toArray⟩,.string ⟨gl.toArray⟩] 29)) w.heap.size lo A rs ca D ds cd st gl:=⟨hA.alloc _,Blk.new _ _ _,(by repeat (first | exact Below.refl _ _ | refine Below.alloc ?_ (by first | omega | (simp; omega) | simp) _ | refine below_drewN' ?_ _ | refine Below.drew ?_))⟩
 have HRR:=Lib.hid hr
 obtain ⟨err,herr⟩ : ∃ err,err = tricksE rs ds st gl tr:=⟨_,rfl⟩
 rw [← herr]
 have HER:=Lib.hid herr
 clear hA hr hT herr
 unfold mapV
 simp only [encStr]
 go_enter Tryz.func19,Tryz.ntmps19
 go_wp2_with fail
 generalize w.alloc (.cells #[.slice A rs.length ca,.slice D ds.length cd,.string ⟨st.toArray⟩,.string ⟨gl.toArray⟩] 29) = W1 at *
 have hct:=checkTricks_any lo ca cd A rs D ds st gl lo2 c2 TR tr W1 hC.m (HRR.out.below hC.b) hrl
 unfold mapV at hct
 simp only [encStr] at hct
 rw [← HER.out] at hct
 refine hct.mono ?_
 rintro e w2 ⟨rfl,hb⟩
 have hC:=hC.below hb
 clear hct hb
 by_cases h0 : err = 0
 ·subst h0
  have HR : Hid (Right rs ds st gl):=Lib.hid (right_of (tricks_right HER.out.symm))
  have hTl : T.length ≤ 10:=by rw [← HT.out]; exact HR.out.few
  go_wp2_with fail
  refine (fastest_any w.heap.size lo ca cd lo2 c2 A rs D ds st gl T TR tr [] w2 hC.m hC.bl HR.out HT.out (HRR.out.below hC.b) hrl).mono ?_
  rintro e w3 ⟨g,rfl,⟨glo,lo0,q,n,nc,eb,ec,bc,fb,fc,NA,BA,sts,stp,far,hG,hW,hH,_⟩,hb⟩
  have hC:=hC.below hb
  have hw3:=hC.b.size
  have HG:=Lib.hid hG
  have HW:=Lib.hid hW
  have HC:=Lib.hid hC
  have hfew:=few_states hH.out.2.2.nodup (fun x hx => (hH.out.2.2.good x hx).ok hTl HR.out.rl)
  have HN:=Lib.hid hH.out.1
  have HL : Hid (∀ i x,sts[i]? = some x → decide ((fA far i).1 < 0) = lostB (nxX rs T ds tr [] id) (goalX rs gl) (tmX ds) x):=Lib.hid (fun i x hx => (hH.out.2.2.least hH.out.1 hH.out.2.1 hx).lost)
  have HFL:=Lib.hid hH.out.2.1.flen
  have HGD:=Lib.hid hH.out.2.2.good
  obtain ⟨k0,k1,k2,k3,k4⟩:=hG.g.w5
  have zg:=hG.g.lt
  rw [HN.out] at hfew
  clear hb hG hW hC
  obtain ⟨lb,hlb⟩ : ∃ lb,lb = lostB (nxX rs T ds tr [] id) (goalX rs gl) (tmX ds):=⟨_,rfl⟩
  rw [← hlb] at HL
  have HLB:=Lib.hid hlb
  clear hlb
  go_wp2_with fail
  clear k0 k1 k2 k3 k4 zg
  go_loopw [8,24] (fun v u wr => ∃ (i m : Nat) (zs : List PtE) (PA : Option Addr) (pc : Nat),i ≤ n ∧ v = .slice PA m pc ∧ u = .int .i64 i ∧ OPts wr w3.heap.size PA pc zs ∧ Below w3.heap.size w3 wr ∧ Hid (zs.length = m ∧ zs.map (fun z => (z.room,z.th)) = ((sts.take i).filter lb).map (ptX rs T))) (fun _ u _ => n - (intOf u).toNat)
  case atStart => exact ⟨0,0,[],none,0,Nat.zero_le _,rfl,rfl,OPts.nil _ _,Below.refl _ _,Lib.hid (by simp)⟩
  case round =>
   obtain ⟨i,m,zs,PA0,pc0,hi,rfl,rfl,hpt,hbl,HZ⟩:=hrel
   obtain ⟨hzm,hzz⟩:=HZ.out
   subst hzm
   replace HZ:=Lib.hid hzz
   clear hzz
   have hzl : zs.length ≤ i:=by
    have h1:=congrArg List.length HZ.out
    rw [List.length_map,List.length_map] at h1
    have h2:=List.length_filter_le lb (sts.take i)
    have h3:=List.length_take_le i sts
    omega
   by_cases hlt : i < n
   ·obtain ⟨x,HXI⟩ : ∃ x,Hid (sts[i]? = some x):=⟨sts[i]'(by rw [HN.out]; exact hlt),Lib.hid (List.getElem?_eq_getElem _)⟩
    have HGX : Hid (GoodX rs T x):=Lib.hid (HGD.out x (List.mem_of_getElem? HXI.out))
    have HTK : Hid ((sts.take (i + 1)).filter lb = (sts.take i).filter lb ++ if lb x then [x] else []):=Lib.hid (by
     rw [List.take_add_one,HXI.out,List.filter_append]
     cases hx : lb x <;> simp [hx])
    obtain ⟨k0,k1,k2,k3,k4⟩:=(HG.out.below hbl).g.w5
    have zg:=(HG.out.below hbl).g.lt
    obtain ⟨zf,f0,f1⟩:=(HG.out.below hbl).farC HFL.out hlt
    obtain ⟨nb,noff,hNA,zn,n0,n1,n2⟩:=(HG.out.below hbl).stC HXI.out hlt
    rw [hNA] at k1
    have hd:=HL.out i x HXI.out
    generalize (fA far i).1 = fi at *
    generalize (fA far i).2 = fd at *
    cases hlx : lb x with
    | false =>
     rw [hlx] at hd HTK
     clear hlx
     go_wp2_with fail
     go_roundw
     case rel => exact ⟨i + 1,zs.length,zs,PA0,pc0,by omega,rfl,by go_num,hpt.alloc _,hbl.alloc hbl.size _,Lib.hid ⟨rfl,by rw [HTK.out]; simpa using HZ.out⟩⟩
     case measure => simp [intOf]; omega
    | true =>
     rw [hlx] at hd HTK
     have hlb1 : (zs.length + 1) * 40 ≤ 140737488355328:=by omega
     have hlb2 : zs.length + 1 ≤ 9223372036854775807:=by omega
     clear hlx
     go_upto_region 10 with (fail)
     clear k0 k1 k2 k3 k4 zg zf f0 f1 n0 n1 n2 zn
     have hs : Blk (wr.alloc (.cells #[.int .i64 (x.r : Int),.int .i64 (x.b : Int),.int .i64 (x.s : Int)] 114)) wr.heap.size 114 #[.int .i64 (x.r : Int),.int .i64 (x.b : Int),.int .i64 (x.s : Int)]:=Blk.new _ _ _
     have hbl:=hbl.alloc hbl.size (.cells #[.int .i64 (x.r : Int),.int .i64 (x.b : Int),.int .i64 (x.s : Int)] 114)
     have hpt:=hpt.alloc (.cells #[.int .i64 (x.r : Int),.int .i64 (x.b : Int),.int .i64 (x.s : Int)] 114)
     generalize wr.alloc (.cells #[.int .i64 (x.r : Int),.int .i64 (x.b : Int),.int .i64 (x.s : Int)] 114) = Z at *
     generalize wr.heap.size = s at *
     have hs:=hs.drew
     have hpt:=hpt.drew
     have hwz : w3.heap.size ≤ Z.drew.heap.size:=hbl.size
     have hbl : Below w3.heap.size w3 Z.drew:=hbl.drew
     refine wp_region_held_drew (S:=(fun w' => w'.cell? ⟨g,0,none⟩ = some (.pointer (some ⟨q.p,0,none⟩)) ∧ w'.cell? ⟨s,0,none⟩ = some (.int .i64 (x.r : Int)) ∧ w'.cell? ⟨s,1,none⟩ = some (.int .i64 (x.b : Int)) ∧ w'.cell? ⟨s,2,none⟩ = some (.int .i64 (x.s : Int)))) (by kernel_rfl) (⟨(HG.out.below hbl).g.w5.1,hs.w3⟩) (fun hHeld => ?_)
     (refine wpAnyH_take (i:=0) (v:=?_) (by (simp only [Q0,Q2]; rfl)) (by kernel_rfl) (by kernel_rfl) (by kernel_rfl) (by exact fun _ _ _ h => h) (Or.inl ⟨by rfl,?_⟩) (by assumption) ?_; (rotate_left 1; (intro w hSw; (try dsimp only at hSw); go_simp); (try with_reducible rfl)); (try simp only [Act.put,Q3,Q4,Q5]))
     (refine wpAnyH_take (i:=1) (v:=?_) (by (simp only [Q0,Q1,Q2]; rfl)) (by kernel_rfl) (by kernel_rfl) (by kernel_rfl) (by exact fun _ _ _ h => h) (Or.inl ⟨by rfl,?_⟩) (by assumption) ?_; (rotate_left 1; (intro w hSw; (try dsimp only at hSw); go_simp); (try with_reducible rfl)); (try simp only [Act.put,Q3,Q4,Q5]))
     (refine wpAnyH_take (i:=2) (v:=?_) (by (simp only [Q0,Q1,Q2]; rfl)) (by kernel_rfl) (by kernel_rfl) (by kernel_rfl) (by exact fun _ _ _ h => h) (Or.inl ⟨by rfl,?_⟩) (by assumption) ?_; (rotate_left 1; (intro w hSw; (try dsimp only at hSw); go_simp); (try with_reducible rfl)); (try simp only [Act.put,Q3,Q4,Q5]))
     (refine wpAnyH_take (i:=3) (v:=?_) (by (simp only [Q0,Q1,Q2]; rfl)) (by kernel_rfl) (by kernel_rfl) (by kernel_rfl) (by exact fun _ _ _ h => h) (Or.inl ⟨by rfl,?_⟩) (by assumption) ?_; (rotate_left 1; (intro w hSw; (try dsimp only at hSw); go_simp); (try with_reducible rfl)); (try simp only [Act.put,Q3,Q4,Q5]))
     (refine wpAnyH_take (i:=4) (v:=?_) (by (simp only [Q0,Q1,Q2]; rfl)) (by kernel_rfl) (by kernel_rfl) (by kernel_rfl) (by exact fun _ _ _ h => h) (Or.inl ⟨by rfl,?_⟩) (by assumption) ?_; (rotate_left 1; (intro w hSw; (try dsimp only at hSw); go_simp); (try with_reducible rfl)); (try simp only [Act.put,Q3,Q4,Q5]))
     (refine wpAnyH_take (i:=5) (v:=?_) (by (simp only [Q0,Q1,Q2]; rfl)) (by kernel_rfl) (by kernel_rfl) (by kernel_rfl) (by exact fun _ _ _ h => h) (Or.inl ⟨by rfl,?_⟩) (by assumption) ?_; (rotate_left 1; (intro w hSw; (try dsimp only at hSw); go_simp); (try with_reducible rfl)); (try simp only [Act.put,Q3,Q4,Q5]))
     refine wpAnyH_ready (rs:=[6]) (by kernel_rfl) (by simp) ?_
     refine AllReadyH.cons rfl (fun K hK => ?_) AllReadyH.nil
     go_simp
     go_at_call 58
     refine (point_g (v:=w) (HW.out.below hbl) (HC.out.below hbl) HR.out HT.out HGX.out).mono ?_
     rintro e wp ⟨PA,pc,rfl,hpo,hb⟩
     have hbl:=hbl.trans (hb.mono hbl.size)
     have hs:=hs.below hb
     have hpt:=hpt.below hb
     have hpo:=own_down9 hpo hwz
     clear hb
     go_wp2_with fail
     refine hK.out _ _ (⟨(HG.out.below hbl).g.w5.1,hs.w3⟩) (fun hHeld => ?_)
     clear hK K
     (try simp only [Act.put,Q3,Q4,Q5])
     refine wpAnyH_ready (rs:=[7]) (by kernel_rfl) (by simp) ?_
     refine AllReadyH.cons rfl (fun K hK => ?_) AllReadyH.nil
     go_simp
     have hk : Blk (wp.alloc (.cells #[.string ⟨(ptX rs T x).1.toArray⟩,.slice PA (ptX rs T x).2.length pc] 52)) wp.heap.size 52 #[.string ⟨(ptX rs T x).1.toArray⟩,.slice PA (ptX rs T x).2.length pc]:=Blk.new _ _ _
     have hbl:=hbl.alloc hbl.size (.cells #[.string ⟨(ptX rs T x).1.toArray⟩,.slice PA (ptX rs T x).2.length pc] 52)
     have hs:=hs.alloc (.cells #[.string ⟨(ptX rs T x).1.toArray⟩,.slice PA (ptX rs T x).2.length pc] 52)
     have hpt:=hpt.alloc (.cells #[.string ⟨(ptX rs T x).1.toArray⟩,.slice PA (ptX rs T x).2.length pc] 52)
     have hpo:=hpo.alloc (.cells #[.string ⟨(ptX rs T x).1.toArray⟩,.slice PA (ptX rs T x).2.length pc] 52)
     refine hK.out _ _ (⟨(HG.out.below hbl).g.w5.1,hs.w3⟩) (fun hHeld => ?_)
     clear hK K
     (try simp only [Act.put,Q3,Q4,Q5])
     refine wpAnyH_ready (rs:=[8]) (by kernel_rfl) (by simp) ?_
     refine AllReadyH.cons rfl (fun K hK => ?_) AllReadyH.nil
     refine step_app (lo:=0) (base:=w3.heap.size) (n:=zs.length) (xs:=zs.flatMap encP) _ rfl _ _ ty_ptsL rfl hpt.row rfl (Row.lit (n:=1) (size:=2) hk (Nat.zero_le _) rfl) rfl rfl hlb1 hlb2 hbl.size ?_
     intro A5 c5 w5 hd5 g5 _
     have hpt5:=hpt.push (x:=⟨(ptX rs T x).1,(ptX rs T x).2,PA,pc⟩) g5 hpo hd5
     have hbl:=hbl.grown g5 hbl.size (own_base hpt.row)
     have hs:=hs.other g5 (own_kind hpt.row) (by decide)
     refine hK.out _ _ (⟨(HG.out.below hbl).g.w5.1,hs.w3⟩) (fun hHeld => ?_)
     clear hK K
     (try simp only [Act.put,Q3,Q4,Q5])
     (refine wpAnyH_take (i:=9) (v:=?_) (by (simp only [Q0,Q1,Q2]; rfl)) (by kernel_rfl) (by kernel_rfl) (by kernel_rfl) (by exact fun _ _ _ h => h) (Or.inl ⟨by rfl,?_⟩) (by assumption) ?_; (rotate_left 1; (intro w hSw; (try dsimp only at hSw); go_simp); (try with_reducible rfl)); (try simp only [Act.put,Q3,Q4,Q5]))
     refine wpAnyH_done (by kernel_rfl) ?_ _
     clear hs
     go_wp2_with fail
     go_roundw
     case rel => exact ⟨_,_,_,_,⟨i + 1,by omega,zs.length + 1,_,A5,c5,rfl,rfl,hpt5,Lib.hid ⟨by simp,by rw [HTK.out,List.map_append,List.map_append,HZ.out]; rfl⟩⟩,rfl,rfl,rfl,by simp⟩
     case measure => simp [intOf]; omega
   ·have hie : i = n:=by omega
    subst hie
    have HXO:=Lib.hid hH.out.2.2
    have HZA : Hid (zs.map (fun z => (z.room,z.th)) = (sts.filter lb).map (ptX rs T)):=Lib.hid (by have:=HZ.out; rwa [← HN.out,List.take_length] at this)
    have hth : ∀ z ∈ zs,z.th.length ≤ 1000:=fun z hz => by
     have hm : (z.room,z.th) ∈ (sts.filter lb).map (ptX rs T):=by rw [← HZA.out]; exact List.mem_map.2 ⟨z,hz,rfl⟩
     obtain ⟨x,_,e⟩:=List.mem_map.1 hm
     have e2 : z.th = thX T x.b:=(congrArg Prod.snd e).symm
     rw [e2]
     exact Nat.le_trans thX_le (by omega)
    have HTH:=Lib.hid hth
    clear hth
    go_wp2_with fail
    refine (sortP_any PA0 pc0 w3.heap.size zs _ hpt (by omega) HTH.out).mono ?_
    rintro e w6 ⟨rfl,ys,hp,hs,ho,hg⟩
    have hbl:=hbl.grown hg hbl.size (own_base hpt.row)
    have hyl:=hp.length_eq
    have HP:=Lib.hid hp
    have HS:=Lib.hid hs
    clear hp hs
    go_wp2_with fail
    go_ret2
    refine ⟨ys,PA0,pc0,fun h => absurd rfl h,fun _ => ⟨sts,HXO.out.nodup,HXO.out.good,HXO.out.reach_iff,?_,HS.out.imp (fun h => by omega)⟩,by rw [hyl]; rfl,⟨own_down9 ho.row hw3,fun x hx => own_down9 (ho.ths x hx) hw3⟩,by omega,below_up HC.out.b hbl⟩
    rw [← HLB.out,← HZA.out]
    exact HP.out.map _
 ·have d0 : (err != 0) = true:=bne_iff_ne.2 h0
  go_wp2_with fail
  go_ret2
  exact ⟨[],none,0,fun _ => rfl,fun h => absurd h h0,rfl,OPts.nil _ _,Nat.zero_le _,hC.b⟩

set_option maxHeartbeats 400000 in
theorem neverC_any (x : StE) (w : World) : Calls Tryz.prog 65 #[stV x] w fun e w' => e = .returned (.bool false) ∧ Below w.heap.size w w':=by
 unfold stV
 go_enter Tryz.func65,Tryz.ntmps65
 go_wp2_with fail
 go_ret
 exact ⟨rfl,(by repeat (first | exact Below.refl _ _ | refine Below.alloc ?_ (by first | omega | (simp; omega) | simp) _ | refine below_drewN' ?_ _ | refine Below.drew ?_))⟩
theorem never_ok (w : World) (t : Nat) (TC : Array Value) : EndsOk w t TC 65 #[] #[] (fun _ => false) :=
 ⟨fun args W => by kernel_rfl,fun W x _ _ _ => neverC_any x W⟩

set_option maxHeartbeats 8000000 in
set_option maxRecDepth 100000 in
theorem reached_any (lo ca cd lo2 c2 : Nat) (A : Option Addr) (rs : List RoomE) (D : Option Addr) (ds : List DoorE) (st gl : List UInt8) (TR : Option Addr) (tr : List (List UInt8)) (w : World) (hA : MapW w lo A rs D ds) (hr : Row w lo2 1 TR tr.length (strs tr)) (hrl : tr.length ≤ 1000000000) :
  Calls Tryz.prog 20 #[mapV A rs ca D ds cd st gl,.slice TR tr.length c2] w (RePost w rs ds (onceT (allT rs ds)) tr st gl (tricksE rs ds st gl tr)):=by
 obtain ⟨T,hT⟩ : ∃ T,onceT (allT rs ds) = T:=⟨_,rfl⟩
 have HT:=Lib.hid hT
 rw [hT]
 have hC : McC w (w.alloc (.cells #[.slice A rs.length ca,.slice D ds.length cd,.string ⟨st.toArray⟩,.string ⟨gl.toArray⟩] 29)) w.heap.size lo A rs ca D ds cd st gl:=⟨hA.alloc _,Blk.new _ _ _,(by repeat (first | exact Below.refl _ _ | refine Below.alloc ?_ (by first | omega | (simp; omega) | simp) _ | refine below_drewN' ?_ _ | refine Below.drew ?_))⟩
 have HRR:=Lib.hid hr
 obtain ⟨err,herr⟩ : ∃ err,err = tricksE rs ds st gl tr:=⟨_,rfl⟩
 rw [← herr]
 have HER:=Lib.hid herr
 clear hA hr hT herr
 unfold mapV
 simp only [encStr]
 go_enter Tryz.func20,Tryz.ntmps20
 go_wp2_with fail
 generalize w.alloc (.cells #[.slice A rs.length ca,.slice D ds.length cd,.string ⟨st.toArray⟩,.string ⟨gl.toArray⟩] 29) = W1 at *
 have hct:=checkTricks_any lo ca cd A rs D ds st gl lo2 c2 TR tr W1 hC.m (HRR.out.below hC.b) hrl
 unfold mapV at hct
 simp only [encStr] at hct
 rw [← HER.out] at hct
 refine hct.mono ?_
 rintro e w2 ⟨rfl,hb⟩
 have hC:=hC.below hb
 clear hct hb
 by_cases h0 : err = 0
 ·subst h0
  have HR : Hid (Right rs ds st gl):=Lib.hid (right_of (tricks_right HER.out.symm))
  have hTl : T.length ≤ 10:=by rw [← HT.out]; exact HR.out.few
  go_wp2_with fail
  refine (newWorld_any w.heap.size lo ca cd lo2 c2 A rs D ds st gl T TR tr [] w2 hC.m hC.bl HR.out HT.out (HRR.out.below hC.b) hrl).mono ?_
  rintro e w3 ⟨q,rfl,hW,hq,hb⟩
  have hC:=hC.below hb
  have HW:=Lib.hid hW
  clear hb hW
  go_wp2_with fail
  refine (begin_w HW.out HR.out).mono ?_
  rintro e w4 ⟨rfl,hb⟩
  have hC:=hC.below hb
  have HW2:=Lib.hid (HW.out.below hb)
  clear hb
  go_wp2_with fail
  refine (exploreG_any (x0:=st0 rs T st) (w:=w) HW2.out HR.out HT.out (st0_good HR.out HT.out) hC.b (fun _ h => h) (fun t => see_ok _ t _ _ _ _) (fun t => never_ok _ t _)).mono ?_
  rintro e w5 ⟨g,rfl,⟨glo,lo0,q2,n,nc,eb,ec,bc,fb,fc,NA,BA,sts,stp,far,hG,hW,hH,_⟩,hb⟩
  have hC:=hC.below hb
  have hw5:=hC.b.size
  have HG:=Lib.hid hG
  have HC:=Lib.hid hC
  have hfew:=few_states hH.out.2.2.nodup (fun x hx => (hH.out.2.2.good x hx).ok hTl HR.out.rl)
  have HN:=Lib.hid hH.out.1
  have HGD:=Lib.hid hH.out.2.2.good
  obtain ⟨k0,k1,k2,k3,k4⟩:=hG.g.w5
  have zg:=hG.g.lt
  rw [HN.out] at hfew
  obtain ⟨L,hL⟩ : ∃ L,L = sts.map fun x => (rs.getD x.r default).key:=⟨_,rfl⟩
  have HLE:=Lib.hid hL
  have HLL : Hid (L.length = n):=Lib.hid (by rw [hL,List.length_map]; exact HN.out)
  clear hb hG hW hC hL
  go_wp2_with fail
  clear k0 k1 k2 k3 k4 zg
  go_loopw [8,28] (fun v u wr => ∃ (i : Nat) (PA : Option Addr) (pc : Nat),i ≤ n ∧ v = .slice PA i pc ∧ u = .int .i64 i ∧ wr.ownsRow w5.heap.size 9 1 (.slice PA i pc) i (strs (L.take i)) ∧ Below w5.heap.size w5 wr) (fun _ u _ => n - (intOf u).toNat)
  case atStart => exact ⟨0,none,0,Nat.zero_le _,rfl,rfl,World.ownsRow_nil _ _ _ _,Below.refl _ _⟩
  case round =>
   obtain ⟨i,PA0,pc0,hi,rfl,rfl,hown,hbl⟩:=hrel
   by_cases hlt : i < n
   ·obtain ⟨x,HXI⟩ : ∃ x,Hid (sts[i]? = some x):=⟨sts[i]'(by rw [HN.out]; exact hlt),Lib.hid (List.getElem?_eq_getElem _)⟩
    have HGX : Hid (GoodX rs T x):=Lib.hid (HGD.out x (List.mem_of_getElem? HXI.out))
    obtain ⟨nb,noff,rfl,zn,n0,n1,n2⟩:=(HG.out.below hbl).stC HXI.out hlt
    have hxr:=HGX.out.lt.1
    obtain ⟨rb,roff,rfl,zr,hrc⟩:=(HC.out.below hbl).m.room (by omega)
    have r0:=(hrc x.r hxr).1
    have m0:=(HC.out.below hbl).cells.1
    have zm:=(HC.out.below hbl).bl.lt
    have HTK : Hid (L.take (i + 1) = L.take i ++ [rs[x.r].key]):=Lib.hid (by
     have h1 : L[i]? = some (rs[x.r].key):=by
      rw [HLE.out,List.getElem?_map,HXI.out]
      simp only [Option.map_some]
      rw [List.getD_eq_getElem?_getD,List.getElem?_eq_getElem hxr]; rfl
     rw [List.take_add_one,h1]; rfl)
    simp only [encStr] at r0
    generalize rs[x.r].key = kk at *
    have hx0 : (0 : Int) ≤ (x.r : Int):=by omega
    have hx1 : (x.r : Int) < (rs.length : Int):=by omega
    have hlb1 : (i + 1) * 16 ≤ 140737488355328:=by omega
    have hlb2 : i + 1 ≤ 9223372036854775807:=by omega
    clear hrc
    go_upto_region 9 with (fail)
    clear n0 n1 n2 zn
    have hs : Blk (wr.alloc (.cells #[.int .i64 (x.r : Int),.int .i64 (x.b : Int),.int .i64 (x.s : Int)] 114)) wr.heap.size 114 #[.int .i64 (x.r : Int),.int .i64 (x.b : Int),.int .i64 (x.s : Int)]:=Blk.new _ _ _
    have hbl:=hbl.alloc hbl.size (.cells #[.int .i64 (x.r : Int),.int .i64 (x.b : Int),.int .i64 (x.s : Int)] 114)
    have hown:=hown.alloc (.cells #[.int .i64 (x.r : Int),.int .i64 (x.b : Int),.int .i64 (x.s : Int)] 114)
    have r0:=cell_al0 r0 (.cells #[.int .i64 (x.r : Int),.int .i64 (x.b : Int),.int .i64 (x.s : Int)] 114)
    have m0:=cell_al0 m0 (.cells #[.int .i64 (x.r : Int),.int .i64 (x.b : Int),.int .i64 (x.s : Int)] 114)
    have zr : rb < (wr.alloc (.cells #[.int .i64 (x.r : Int),.int .i64 (x.b : Int),.int .i64 (x.s : Int)] 114)).heap.size:=by simp; omega
    have zm : w.heap.size < (wr.alloc (.cells #[.int .i64 (x.r : Int),.int .i64 (x.b : Int),.int .i64 (x.s : Int)] 114)).heap.size:=by simp; omega
    generalize wr.alloc (.cells #[.int .i64 (x.r : Int),.int .i64 (x.b : Int),.int .i64 (x.s : Int)] 114) = Z at *
    generalize wr.heap.size = s at *
    obtain ⟨s0,s1,s2⟩:=hs.w3
    have zs:=hs.lt
    have hsz:=hbl.size
    go_wp2_with (at_builtin; go_must (refine wpList_app (lo:=w5.heap.size) (base:=w5.heap.size) (n:=i) (xs:=strs (L.take i)) _ _ rfl _ _ ty_strsL rfl (by repeat (first | exact hown | refine World.ownsRow.alloc ?_ _ | refine own_drewN ?_ _ | refine World.ownsRow.drew ?_)) rfl (by first | exact row_new' _ (by first | rfl | simp) (by first | omega | (simp; omega)) rfl | exact row_newN _ _ (by first | rfl | simp) (by first | omega | (simp; omega)) rfl | exact row_newD _ (by first | rfl | simp) (by first | omega | (simp; omega)) rfl) rfl rfl (by first | omega | decide) (by first | omega | decide) (by first | omega | (simp; omega)) ?_))
    intro A5 c5 w6 hown6 hg6 _
    have hbl6 : Below w5.heap.size w5 w6:=Below.grown (by repeat (first | exact hbl | refine Below.alloc ?_ (by first | omega | (simp; omega)) _)) hg6 (by first | omega | (simp; omega)) (own_base (by repeat (first | exact hown | refine World.ownsRow.alloc ?_ _)))
    have HO6 : Hid (w6.ownsRow w5.heap.size 9 1 (.slice A5 (i + 1) c5) (i + 1) (strs (L.take (i + 1)))):=Lib.hid (by rw [HTK.out]; simpa [strs,encStr] using hown6)
    clear hown6 hg6 s0 s1 s2 r0 m0
    go_wp2_with fail
    go_roundw
    case rel => exact ⟨i + 1,A5,c5,by omega,rfl,by go_num,HO6.out,hbl6⟩
    case measure => simp [intOf]; omega
   ·have hie : i = n:=by omega
    subst hie
    have HXO:=Lib.hid hH.out.2.2
    have HTL : Hid (L.take i = L):=Lib.hid (by rw [← HLL.out,List.take_length])
    rw [HTL.out] at hown
    have HS:=Lib.hid (sortT_len L)
    have HO:=Lib.hid (onceT_eq L)
    have hown : wr.ownsRow w5.heap.size 9 1 (.slice PA0 L.length pc0) L.length (strs L):=by rw [HLL.out]; exact hown
    have hll : L.length ≤ 1000000000:=by rw [HLL.out]; omega
    have hst:=sortT_any PA0 pc0 w5.heap.size L wr hown hll
    rw [HLL.out] at hst
    go_wp2_with fail
    refine hst.mono ?_
    rintro e w6 ⟨rfl,ho2,hg2⟩
    have hb2 : Below w5.heap.size w5 w6:=hbl.grown hg2 hbl.size (own_base (by rw [← HLL.out]; exact hown))
    have hb2z:=hb2.size
    clear hst
    go_wp2_with fail
    have ho2' : w6.ownsRow w5.heap.size 9 1 (.slice PA0 (sortT L).length pc0) (sortT L).length (strs (sortT L)):=by rw [HS.out,HLL.out]; exact ho2
    have hcm:=compactT_any PA0 pc0 w5.heap.size (sortT L) _ ho2' (by rw [HS.out]; exact hll)
    rw [HS.out,← HO.out,HLL.out] at hcm
    refine hcm.mono ?_
    rintro e w7 ⟨rfl,ho3,hg3⟩
    have hb3 : Below w5.heap.size w5 w7:=hb2.grown hg3 hb2z (own_base ho2)
    have HO3:=Lib.hid ho3
    have hol:=onceT_le L
    rw [HLL.out] at hol
    clear ho2 ho2' ho3 hg2 hg3 hb2 hcm hown
    go_wp2_with fail
    go_ret2
    exact ⟨onceT L,PA0,pc0,fun h => absurd rfl h,fun _ => ⟨sts,HXO.out.good,HXO.out.reach_iff,by rw [HLE.out]⟩,rfl,own_down9 HO3.out hw5,by omega,below_up HC.out.b hb3⟩
 ·have d0 : (err != 0) = true:=bne_iff_ne.2 h0
  go_wp2_with fail
  go_ret2
  exact ⟨[],none,0,fun _ => rfl,fun h => absurd h h0,rfl,World.ownsRow_nil _ _ _ _,Nat.zero_le _,hC.b⟩

end Go.Proofs.YthchgkdhegaehaaGreatDoor
/- The walks of wantedFault and From. -/
namespace Go.Proofs.YthchgkdhegaehaaGreatDoor
set_option linter.unusedVariables false
set_option linter.unusedSimpArgs false
open Go.RowKit Go.Sort Go.Shelf

def wantE (T l : List (List UInt8)) : Int:=if thingsE l ≠ 0 then thingsE l else if l.any (fun x => !decide (x ∈ T)) then 8 else 0
theorem wantE_0 {T l : List (List UInt8)} (h : wantE T l = 0) : thingsE l = 0 ∧ ∀ x ∈ l,x ∈ T:=by
 unfold wantE at h
 by_cases c : thingsE l = 0
 ·rw [if_neg (by simp [c])] at h
  refine ⟨c,fun x hx => ?_⟩
  by_cases c2 : l.any (fun x => !decide (x ∈ T)) = true
  ·rw [if_pos c2] at h; cases h
  ·have:=List.any_eq_false.1 (by simpa using c2 : l.any (fun x => !decide (x ∈ T)) = false) x hx
   simpa using this
 ·rw [if_pos c] at h; exact absurd h c
theorem waC_any (x : List UInt8) (pb c lo : Nat) (A : Option Addr) (th : List (List UInt8)) (w : World) (h1 : w.cell? ⟨pb,0,none⟩ = some (.slice A th.length c)) (hr : Row w lo 1 A th.length (strs th)) (hl : th.length ≤ 1000000000) :
  Calls Tryz.prog 119 #[encStr x,.pointer (some ⟨pb,0,none⟩)] w fun e w' => e = .returned (.bool (!decide (x ∈ th))) ∧ ∃ q,w' = w.drewN q:=by
 have hcon:=containsS_any A c lo th x w hr hl
 unfold encStr at hcon ⊢
 go_enter Tryz.func119,Tryz.ntmps119
 go_wp2_with fail
 refine hcon.mono ?_
 rintro e w1 ⟨rfl,rfl⟩
 go_wp2_with fail
 go_ret
 exact ⟨rfl,0,rfl⟩
theorem waX_any (pb c lo lo2 nc : Nat) (A N : Option Addr) (th l : List (List UInt8)) (w : World) (h1 : w.cell? ⟨pb,0,none⟩ = some (.slice A th.length c)) (hr : Row w lo 1 A th.length (strs th)) (hl : th.length ≤ 1000000000) (hn : Row w lo2 1 N l.length (strs l)) (hnl : l.length ≤ 1000000000) :
  Calls Tryz.prog 79 #[.slice N l.length nc,.func (.func 119) #[] #[.pointer (some ⟨pb,0,none⟩)]] w fun e w' => e = .returned (.bool (l.any fun x => !decide (x ∈ th))) ∧ Below w.heap.size w w':=by
 have eg : ∀ args w,(callFunc 119 args).run Tryz.prog w = .ok (.enter 119 args) w:=enters_of Tryz.func119 (by kernel_rfl) rfl
 have hz:=World.block_lt_of_cell? w _ h1
 rcases Nat.eq_zero_or_pos l.length with h0 | h0
 ·obtain rfl : l = []:=List.eq_nil_of_length_eq_zero h0
  refine (AnyE.slices_ContainsFunc_empty Tryz.layCon N nc _ w).mono ?_
  rintro e w' ⟨rfl,rfl⟩
  exact ⟨rfl,Below.refl _ _⟩
 ·obtain ⟨b,off,rfl,hb,hc⟩:=strs_at hn h0
  have hp : PredAt Tryz.prog 119 #[.pointer (some ⟨pb,0,none⟩)] encStr (fun x => !decide (x ∈ th)) w:=fun W x hW =>
   waC_any x pb c lo A th W ((hW.cell (p:=⟨pb,0,none⟩) hz).trans h1) (hr.below hW) hl
  have:=AnyE.slices_ContainsFunc Tryz.layCon encStr (fun x => !decide (x ∈ th)) 119 #[.pointer (some ⟨pb,0,none⟩)] eg b off l.length nc l w hp (Nat.le_refl _) (by omega) (fun j hj => by rw [getElem!_pos l j hj]; exact hc j hj)
  rw [List.take_length] at this
  refine this.mono ?_
  rintro e w' ⟨rfl,q,rfl⟩
  exact ⟨rfl,below_drewN' (Below.refl _ _) q⟩
set_option maxHeartbeats 4000000 in
set_option maxRecDepth 100000 in
theorem wanted_any (M lo ca cd lo2 c2 : Nat) (A : Option Addr) (rs : List RoomE) (D : Option Addr) (ds : List DoorE) (st gl : List UInt8) (N : Option Addr) (l : List (List UInt8)) (v w : World) (hC : McC v w M lo A rs ca D ds cd st gl) (hr : Row w lo2 1 N l.length (strs l)) (hl : l.length ≤ 1000000000) (hfew : (onceT (allT rs ds)).length ≤ 10) :
  Calls Tryz.prog 69 #[.pointer (some ⟨M,0,none⟩),.slice N l.length c2] w fun e w' => e = .returned (.int .i64 (wantE (onceT (allT rs ds)) l)) ∧ Below w.heap.size w w':=by
 have HTF:=Lib.hid (thingsFault_any N c2 lo2 l w hr hl)
 have HTH : Hid (∀ W,Below w.heap.size w W → Calls Tryz.prog 101 #[.pointer (some ⟨M,0,none⟩)] W fun e w' => ∃ A' c',e = .returned (.slice A' (onceT (allT rs ds)).length c') ∧ w'.ownsRow W.heap.size 9 1 (.slice A' (onceT (allT rs ds)).length c') (onceT (allT rs ds)).length (strs (onceT (allT rs ds))) ∧ Below W.heap.size W w'):=Lib.hid (fun W hb => things_any lo ca cd M A rs D ds W (hC.m.below hb) (hC.below hb).cells.1 (hC.below hb).cells.2.1)
 have HRR:=Lib.hid hr
 clear hC hr
 generalize onceT (allT rs ds) = T at *
 have HW : Hid (wantE T l = if thingsE l ≠ 0 then thingsE l else if l.any (fun x => !decide (x ∈ T)) then 8 else 0):=Lib.hid rfl
 generalize wantE T l = we at *
 generalize thingsE l = te at *
 go_enter Tryz.func69,Tryz.ntmps69
 go_wp2_with fail
 refine HTF.out.mono ?_
 rintro e w1 ⟨rfl,hb⟩
 by_cases h0 : te = 0
 ·have HV : Hid (we = if l.any (fun x => !decide (x ∈ T)) then 8 else 0):=Lib.hid (by rw [HW.out,if_neg (by simp [h0])])
  have d0 : (te != 0) = false:=by rw [h0]; rfl
  clear h0 HW
  go_wp2_with fail
  refine (HTH.out _ hb).mono ?_
  rintro e w2 ⟨A',c',rfl,ho,hb2⟩
  have hb:=below_up hb hb2
  have hx : Blk (w2.alloc (.cells #[.slice A' T.length c'] 31)) w2.heap.size 31 #[.slice A' T.length c']:=Blk.new _ _ _
  have hb:=hb.alloc hb.size (.cells #[.slice A' T.length c'] 31)
  have hro:=(Row.of_own ho).alloc (.cells #[.slice A' T.length c'] 31)
  go_upto_region 5 with (fail)
  generalize w2.alloc (.cells #[.slice A' T.length c'] 31) = w3 at *
  generalize w2.heap.size = pb at *
  have hwa:=waX_any pb c' _ lo2 c2 A' N T l w3 (hx.cell 0) hro (by omega) (HRR.out.below hb) hl
  generalize (l.any fun x => !decide (x ∈ T)) = an at *
  clear ho hb2 hx hro
  go_wp2_with fail
  refine hwa.mono ?_
  rintro e w4 ⟨rfl,hb4⟩
  have hb:=below_up hb hb4
  clear hwa hb4
  cases an with
  | true =>
   go_wp2_with fail
   go_ret
   exact ⟨by rw [HV.out]; rfl,hb⟩
  | false =>
   go_wp2_with fail
   go_ret
   exact ⟨by rw [HV.out]; rfl,hb⟩
 ·have HV : Hid (we = te):=Lib.hid (by rw [HW.out,if_pos h0])
  have d0 : (te != 0) = true:=bne_iff_ne.2 h0
  go_wp2_with fail
  go_ret
  exact ⟨by rw [HV.out]; rfl,hb⟩
def fromE (rs : List RoomE) (ds : List DoorE) (st gl : List UInt8) (tr : List (List UInt8)) (room : List UInt8) (th : List (List UInt8)) : Int :=
 if tricksE rs ds st gl tr ≠ 0 then tricksE rs ds st gl tr else if room ∉ rs.map RoomE.key then 8 else wantE (onceT (allT rs ds)) th
def FrPost (w : World) (rs : List RoomE) (ds : List DoorE) (T tr : List (List UInt8)) (gl room : List UInt8) (th : List (List UInt8)) (err : Int) (e : Ending) (w' : World) : Prop :=
 ∃ (r : PathR) (A : Option Addr) (c : Nat),(err ≠ 0 → r = ⟨[],0,false⟩) ∧ (err = 0 → PathOk (nxX rs T ds tr [] id) (goalX rs gl) (tmX ds) (stX rs T room th) (nS rs T) r) ∧ e = .returned (.tuple #[.agg #[.slice A r.ks.length c,.int .i64 r.t],.bool r.is,.int .i64 err]) ∧ w'.ownsRow w.heap.size 9 1 (.slice A r.ks.length c) r.ks.length (strs (r.ks.map (keyX ds))) ∧ Below w.heap.size w w'
theorem FrPost.bad {w w' : World} {rs : List RoomE} {ds : List DoorE} {T tr : List (List UInt8)} {gl room : List UInt8} {th : List (List UInt8)} {err : Int} (h : err ≠ 0) (hb : Below w.heap.size w w') : FrPost w rs ds T tr gl room th err (.returned (.tuple #[.agg #[.slice none 0 0,.int .i64 0],.bool false,.int .i64 err])) w' :=
 ⟨⟨[],0,false⟩,none,0,fun _ => rfl,fun e => absurd e h,rfl,World.ownsRow_nil _ _ _ _,hb⟩

set_option maxHeartbeats 8000000 in
set_option maxRecDepth 100000 in
theorem from_any (lo ca cd lo2 c2 lo3 pc : Nat) (A : Option Addr) (rs : List RoomE) (D : Option Addr) (ds : List DoorE) (st gl : List UInt8) (TR : Option Addr) (tr : List (List UInt8)) (room : List UInt8) (PA : Option Addr) (th : List (List UInt8)) (w : World) (hA : MapW w lo A rs D ds) (hr : Row w lo2 1 TR tr.length (strs tr)) (hrl : tr.length ≤ 1000000000) (hrt : Row w lo3 1 PA th.length (strs th)) (htl : th.length ≤ 1000000000) :
  Calls Tryz.prog 21 #[mapV A rs ca D ds cd st gl,.slice TR tr.length c2,.agg #[.string ⟨room.toArray⟩,.slice PA th.length pc]] w (FrPost w rs ds (onceT (allT rs ds)) tr gl room th (fromE rs ds st gl tr room th)):=by
 obtain ⟨T,hT⟩ : ∃ T,onceT (allT rs ds) = T:=⟨_,rfl⟩
 have HT:=Lib.hid hT
 rw [hT]
 have hC : McC w (((w.alloc (.cells #[.slice A rs.length ca,.slice D ds.length cd,.string ⟨st.toArray⟩,.string ⟨gl.toArray⟩] 29)).alloc (.cells #[.string ⟨room.toArray⟩,.slice PA th.length pc] 52)).alloc (.cells #[.slice none 0 0,.int .i64 0] 34)) w.heap.size lo A rs ca D ds cd st gl:=⟨((hA.alloc _).alloc _).alloc _,((Blk.new _ _ _).alloc _).alloc _,(by repeat (first | exact Below.refl _ _ | refine Below.alloc ?_ (by first | omega | (simp; omega) | simp) _ | refine below_drewN' ?_ _ | refine Below.drew ?_))⟩
 have HP : Hid (Blk (((w.alloc (.cells #[.slice A rs.length ca,.slice D ds.length cd,.string ⟨st.toArray⟩,.string ⟨gl.toArray⟩] 29)).alloc (.cells #[.string ⟨room.toArray⟩,.slice PA th.length pc] 52)).alloc (.cells #[.slice none 0 0,.int .i64 0] 34)) (w.heap.size + 1) 52 #[.string ⟨room.toArray⟩,.slice PA th.length pc] ∧ Blk (((w.alloc (.cells #[.slice A rs.length ca,.slice D ds.length cd,.string ⟨st.toArray⟩,.string ⟨gl.toArray⟩] 29)).alloc (.cells #[.string ⟨room.toArray⟩,.slice PA th.length pc] 52)).alloc (.cells #[.slice none 0 0,.int .i64 0] 34)) (w.heap.size + 2) 34 #[.slice none 0 0,.int .i64 0]):=Lib.hid ⟨(Blk.at_ _ (by simp)).alloc _,Blk.at_ _ (by simp)⟩
 have HRR:=Lib.hid hr
 have HRT:=Lib.hid hrt
 obtain ⟨err,herr⟩ : ∃ err,err = tricksE rs ds st gl tr:=⟨_,rfl⟩
 have HFE : Hid (fromE rs ds st gl tr room th = if err ≠ 0 then err else if room ∉ rs.map RoomE.key then 8 else wantE T th):=Lib.hid (by unfold fromE; rw [hT,herr])
 generalize fromE rs ds st gl tr room th = fe at *
 have HER:=Lib.hid herr
 clear hA hr hT herr hrt
 unfold mapV
 simp only [encStr]
 go_enter Tryz.func21,Tryz.ntmps21
 go_wp2_with fail
 obtain ⟨hq,hp⟩:=HP.out
 clear HP
 generalize (((w.alloc (.cells #[.slice A rs.length ca,.slice D ds.length cd,.string ⟨st.toArray⟩,.string ⟨gl.toArray⟩] 29)).alloc (.cells #[.string ⟨room.toArray⟩,.slice PA th.length pc] 52)).alloc (.cells #[.slice none 0 0,.int .i64 0] 34)) = W1 at *
 have hrz : w.heap.size ≤ w.heap.size + 2:=Nat.le_add_right _ _
 rw [show w.heap.size + 1 + 1 = w.heap.size + 2 from rfl]
 generalize w.heap.size + 2 = r at *
 generalize w.heap.size + 1 = qb at *
 have hct:=checkTricks_any lo ca cd A rs D ds st gl lo2 c2 TR tr W1 hC.m (HRR.out.below hC.b) hrl
 unfold mapV at hct
 simp only [encStr] at hct
 rw [← HER.out] at hct
 refine hct.mono ?_
 rintro e w2 ⟨rfl,hb⟩
 have hC:=hC.below hb
 have hp:=hp.below hb
 have hq:=hq.below hb
 clear hct hb
 by_cases h0 : err = 0
 ·subst h0
  have HR : Hid (Right rs ds st gl):=Lib.hid (right_of (tricks_right HER.out.symm))
  obtain ⟨q0,q1⟩:=hq.w2
  have zq:=hq.lt
  have hro:=room_any lo ca w.heap.size A rs D ds room w2 hC.m HR.out.rup hC.cells.1
  unfold encStr at hro
  go_wp2_with fail
  refine hro.mono ?_
  rintro e w3 ⟨rfl,hb⟩
  have hC:=hC.below hb
  have hp:=hp.below hb
  have hq:=hq.below hb
  clear hro hb q0 q1 zq
  by_cases hm : room ∈ rs.map RoomE.key
  ·have HFE2 : Hid (fe = wantE T th):=Lib.hid (by rw [HFE.out,if_neg (by simp),if_neg (by simpa using hm)])
   have hk : keyI (rs.map RoomE.key) room = (ixR rs room : Int):=roomI_mem hm
   rw [hk]
   have d1 : decide ((ixR rs room : Int) < 0) = false:=decide_eq_false (by omega)
   have HM:=Lib.hid hm
   clear hk hm
   obtain ⟨q0,q1⟩:=hq.w2
   have zq:=hq.lt
   have hwa:=wanted_any w.heap.size lo ca cd lo3 pc A rs D ds st gl PA th w w3 hC (HRT.out.below hC.b) htl HR.out.few
   rw [HT.out] at hwa
   rw [← HFE2.out] at hwa
   go_wp2_with fail
   refine hwa.mono ?_
   rintro e w4 ⟨rfl,hb⟩
   have hC:=hC.below hb
   have hp:=hp.below hb
   have hq:=hq.below hb
   clear hwa hb q0 q1 zq
   by_cases h1 : fe = 0
   ·subst h1
    have HWA:=Lib.hid (wantE_0 HFE2.out.symm)
    go_wp2_with fail
    refine (newWorld_any w.heap.size lo ca cd lo2 c2 A rs D ds st gl T TR tr [] w4 hC.m hC.bl HR.out HT.out (HRR.out.below hC.b) hrl).mono ?_
    rintro e w5 ⟨q,rfl,hW,_,hb⟩
    have hC:=hC.below hb
    have hp:=hp.below hb
    have hq:=hq.below hb
    have HW:=Lib.hid hW
    clear hb hW
    obtain ⟨q0,q1⟩:=hq.w2
    have zq:=hq.lt
    have hbi:=bits_any q.p q.tc w4.heap.size lo3 pc q.TA PA T th w5 HW.out.cells.2.1 HW.out.things (by rw [← HT.out]; exact (onceT_spec _).1) (by rw [← HT.out]; exact HR.out.few) (HRT.out.below hC.b) htl HWA.out.2
    go_wp2_with fail
    refine hbi.mono ?_
    rintro e w6 ⟨rfl,rfl⟩
    clear hbi q0 q1 zq
    have HGX : Hid (GoodX rs T (stX rs T room th)):=Lib.hid ⟨⟨room,HM.out,rfl⟩,⟨onceT th,⟨(onceT_spec _).1,fun x hx => HWA.out.2 x (((onceT_spec _).2 x).1 hx)⟩,(bitsT_once T th).symm⟩,Nat.zero_le _⟩
    go_wp2_with fail
    refine (exploreG_any (x0:=stX rs T room th) (w:=w) HW.out HR.out HT.out HGX.out hC.b (fun _ h => h) (fun t => see_ok _ t _ _ _ _) (fun t => goal_ok HW.out t _)).mono ?_
    rintro e w7 ⟨g,rfl,hE,hb⟩
    have hC:=hC.below hb
    have hp:=hp.below hb
    have z7:=hC.b.size
    clear hb hq
    go_wp2_with fail
    refine (path_g hE hC HR.out HT.out).mono ?_
    rintro e w8 ⟨r4,hok,PX,px,rfl,hown,hb⟩
    have hok:=Lib.hid hok
    have hC:=hC.below hb
    have hp:=hp.below hb
    have hks : (r4.ks.map (keyX ds)).length = r4.ks.length:=List.length_map ..
    have hown:=own_down9 hown z7
    rw [hks] at hown
    rw [hks]
    clear hks hE hb
    obtain ⟨KL,hKL⟩ : ∃ KL,KL = r4.ks.length:=⟨_,rfl⟩
    obtain ⟨KT,hKT⟩ : ∃ KT,KT = r4.t:=⟨_,rfl⟩
    obtain ⟨KI,hKI⟩ : ∃ KI,KI = r4.is:=⟨_,rfl⟩
    rw [← hKL] at hown ⊢
    rw [← hKT,← hKI]
    have HK:=Lib.hid (And.intro hKL (And.intro hKT hKI))
    clear hKL hKT hKI
    obtain ⟨u0,u1⟩:=hp.w2
    have fu0:=hp.thaw 0
    have fu1:=hp.thaw 1
    have zu:=hp.lt
    go_wp2_with fail
    have hr2 : Blk (((w8.setCell ⟨r,0,none⟩ (.slice PX KL px)).setCell ⟨r,1,none⟩ (.int .i64 KT)).alloc (.cells #[.slice PX KL px,.int .i64 KT] 34)) r 34 #[.slice PX KL px,.int .i64 KT]:=(show Blk _ _ _ _ by simpa using (hp.poke 0 (.slice PX KL px)).poke 1 (.int .i64 KT)).alloc _
    have hbel:=Below.setCell (Below.setCell hC.b (show w.heap.size ≤ (⟨r,0,none⟩ : Addr).block from hrz) (.slice PX KL px)) (show w.heap.size ≤ (⟨r,1,none⟩ : Addr).block from hrz) (.int .i64 KT)
    have HB : Hid (Below w.heap.size w (((w8.setCell ⟨r,0,none⟩ (.slice PX KL px)).setCell ⟨r,1,none⟩ (.int .i64 KT)).alloc (.cells #[.slice PX KL px,.int .i64 KT] 34))):=Lib.hid (hbel.alloc hbel.size _)
    have hd:=own_past (own_past hown hp (by decide) 0 (.slice PX KL px)) (hp.poke 0 (.slice PX KL px)) (by decide) 1 (.int .i64 KT)
    have HD : Hid ((((w8.setCell ⟨r,0,none⟩ (.slice PX KL px)).setCell ⟨r,1,none⟩ (.int .i64 KT)).alloc (.cells #[.slice PX KL px,.int .i64 KT] 34)).ownsRow w.heap.size 9 1 (.slice PX KL px) KL (strs (r4.ks.map (keyX ds)))):=Lib.hid (hd.alloc _)
    clear hbel
    generalize ((w8.setCell ⟨r,0,none⟩ (.slice PX KL px)).setCell ⟨r,1,none⟩ (.int .i64 KT)).alloc (.cells #[.slice PX KL px,.int .i64 KT] 34) = W5 at *
    obtain ⟨v0,v1⟩:=hr2.w2
    refine bodyPost_ret (v:=.tuple #[.agg #[.slice PX KL px,.int .i64 KT],.bool KI,.int .i64 0]) (by simp [results,Tryz.results21,go_sem,v0,v1]) rfl ?_
    obtain ⟨e1,e2,e3⟩:=HK.out
    subst e1 e2 e3
    exact ⟨r4,PX,px,fun h => absurd rfl h,fun _ => hok.out,rfl,HD.out,HB.out⟩
   ·obtain ⟨u0,u1⟩:=hp.w2
    have fu0:=hp.thaw 0
    have fu1:=hp.thaw 1
    have zu:=hp.lt
    have d2 : (fe != 0) = true:=bne_iff_ne.2 h1
    go_wp2_with fail
    have hr2 : Blk ((w4.setCell ⟨r,0,none⟩ (.slice none 0 0)).setCell ⟨r,1,none⟩ (.int .i64 0)) r 34 #[.slice none 0 0,.int .i64 0]:=(show Blk _ _ _ _ by simpa using (hp.poke 0 (.slice none 0 0)).poke 1 (.int .i64 0))
    have HB : Hid (Below w.heap.size w ((w4.setCell ⟨r,0,none⟩ (.slice none 0 0)).setCell ⟨r,1,none⟩ (.int .i64 0))):=Lib.hid (Below.setCell (Below.setCell hC.b (show w.heap.size ≤ (⟨r,0,none⟩ : Addr).block from hrz) (.slice none 0 0)) (show w.heap.size ≤ (⟨r,1,none⟩ : Addr).block from hrz) (.int .i64 0))
    generalize (w4.setCell ⟨r,0,none⟩ (.slice none 0 0)).setCell ⟨r,1,none⟩ (.int .i64 0) = W5 at *
    obtain ⟨v0,v1⟩:=hr2.w2
    refine bodyPost_ret (v:=.tuple #[.agg #[.slice none 0 0,.int .i64 0],.bool false,.int .i64 fe]) (by simp [results,Tryz.results21,go_sem,v0,v1]) rfl ?_
    exact FrPost.bad h1 HB.out
  ·obtain ⟨u0,u1⟩:=hp.w2
   have fu0:=hp.thaw 0
   have fu1:=hp.thaw 1
   have zu:=hp.lt
   have hk : keyI (rs.map RoomE.key) room = -1:=if_neg hm
   rw [hk]
   go_wp2_with fail
   have hr2 : Blk ((w3.setCell ⟨r,0,none⟩ (.slice none 0 0)).setCell ⟨r,1,none⟩ (.int .i64 0)) r 34 #[.slice none 0 0,.int .i64 0]:=(show Blk _ _ _ _ by simpa using (hp.poke 0 (.slice none 0 0)).poke 1 (.int .i64 0))
   have HB : Hid (Below w.heap.size w ((w3.setCell ⟨r,0,none⟩ (.slice none 0 0)).setCell ⟨r,1,none⟩ (.int .i64 0))):=Lib.hid (Below.setCell (Below.setCell hC.b (show w.heap.size ≤ (⟨r,0,none⟩ : Addr).block from hrz) (.slice none 0 0)) (show w.heap.size ≤ (⟨r,1,none⟩ : Addr).block from hrz) (.int .i64 0))
   generalize (w3.setCell ⟨r,0,none⟩ (.slice none 0 0)).setCell ⟨r,1,none⟩ (.int .i64 0) = W5 at *
   obtain ⟨v0,v1⟩:=hr2.w2
   refine bodyPost_ret (v:=.tuple #[.agg #[.slice none 0 0,.int .i64 0],.bool false,.int .i64 8]) (by simp [results,Tryz.results21,go_sem,v0,v1]) rfl ?_
   rw [HFE.out,if_neg (by simp),if_pos hm]
   exact FrPost.bad (by decide) HB.out
 ·obtain ⟨u0,u1⟩:=hp.w2
  have fu0:=hp.thaw 0
  have fu1:=hp.thaw 1
  have zu:=hp.lt
  have d0 : (err != 0) = true:=bne_iff_ne.2 h0
  go_wp2_with fail
  have hr2 : Blk ((w2.setCell ⟨r,0,none⟩ (.slice none 0 0)).setCell ⟨r,1,none⟩ (.int .i64 0)) r 34 #[.slice none 0 0,.int .i64 0]:=(show Blk _ _ _ _ by simpa using (hp.poke 0 (.slice none 0 0)).poke 1 (.int .i64 0))
  have HB : Hid (Below w.heap.size w ((w2.setCell ⟨r,0,none⟩ (.slice none 0 0)).setCell ⟨r,1,none⟩ (.int .i64 0))):=Lib.hid (Below.setCell (Below.setCell hC.b (show w.heap.size ≤ (⟨r,0,none⟩ : Addr).block from hrz) (.slice none 0 0)) (show w.heap.size ≤ (⟨r,1,none⟩ : Addr).block from hrz) (.int .i64 0))
  generalize (w2.setCell ⟨r,0,none⟩ (.slice none 0 0)).setCell ⟨r,1,none⟩ (.int .i64 0) = W5 at *
  obtain ⟨v0,v1⟩:=hr2.w2
  refine bodyPost_ret (v:=.tuple #[.agg #[.slice none 0 0,.int .i64 0],.bool false,.int .i64 err]) (by simp [results,Tryz.results21,go_sem,v0,v1]) rfl ?_
  rw [HFE.out,if_pos h0]
  exact FrPost.bad h0 HB.out

end Go.Proofs.YthchgkdhegaehaaGreatDoor
