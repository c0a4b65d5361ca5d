/- Texts of this seat, laid together: LawWorthsAreDifferences. -/
import Derived.Test.YthchgkdhegaehaaGreatDoorBv39
import Derived.Test.YthchgkdhegaehaaGreatDoorBv41
import Derived.Test.YthchgkdhegaehaaGreatDoorBv27
/- For every list of numbers the law WorthsAreDifferences returns true and leaves the list as it was: its walk. -/
namespace Go.Proofs.YthchgkdhegaehaaGreatDoor
set_option linter.unusedVariables false
set_option linter.unusedSimpArgs false
open Go.RowKit Go.Sort

theorem filter_next {l : List (List UInt8)} {f : List UInt8 → Bool} {i : Nat} (hi : i < l.length) : (l.take (i + 1)).filter f = (l.take i).filter f ++ if f l[i] then [l[i]] else []:=by
 rw [List.take_add_one,List.getElem?_eq_getElem hi,List.filter_append]
 cases h : f l[i] <;> simp [h]
theorem worth_at {f : List (List UInt8) → Int} {tr l : List (List UInt8)} {i : Nat} (hi : i < l.length) (j : Nat) (hj : j < 3) : (l.flatMap (encWo f tr))[i * 3 + j]? = (encWo f tr l[i])[j]?:=flat_at (encWo f tr) 3 (fun _ => rfl) l i hi j hj
theorem spare_len (f : List (List UInt8) → Int) (a : Int) : ∀ (p : List (List UInt8)) (ol : List (List UInt8) × List (List UInt8)),(p.foldl (spareS f a) ol).1.length ≤ ol.1.length + p.length
 | [],_ => by simp
 | s :: p,ol => by
  have h:=spare_len f a p (spareS f a ol s)
  have h2 : (spareS f a ol s).1.length ≤ ol.1.length + 1:=by unfold spareS; split <;> simp
  rw [List.foldl_cons,List.length_cons]
  omega
structure WaI (rs : List RoomE) (ds : List DoorE) (st gl : List UInt8) (tr sp left : List (List UInt8)) (t1 : Int) : Prop where
  all : timeT rs ds st gl tr = t1
  nn : 0 ≤ t1 ∧ t1 ≤ 864000000000
  w0 : ∀ s ∈ sp, worthV (timeT rs ds st gl) tr s = (0, false)
  lft : left = tr.filter fun x => !decide (x ∈ sp)
  time : timeT rs ds st gl left = t1
theorem waI_of {rs : List RoomE} {ds : List DoorE} {st gl : List UInt8} (hR : Right rs ds st gl) {tr K sp : List (List UInt8)} {t1 : Int} (hN : nS rs (onceT (allT rs ds)) ≤ 240) (hq : FaQ rs ds (onceT (allT rs ds)) tr st gl K t1 true) (hs : sp = if timeT rs ds st gl tr < 0 then [] else (spareF (timeT rs ds st gl) tr).1) : WaI rs ds st gl tr sp (tr.filter fun x => !decide (x ∈ sp)) t1:=by
 have h1:=hq.time hR
 have h2:=hq.ub hR
 simp only [if_true] at h1
 rw [if_neg (by omega)] at hs
 obtain ⟨a1,a2⟩:=spare_is hR (tr:=tr) (by omega)
 rw [← hs] at a1 a2
 exact ⟨h1,by omega,a2,rfl,by omega⟩
theorem waI_learn {rs : List RoomE} {ds : List DoorE} {st gl : List UInt8} (hR : Right rs ds st gl) {tr sp left le : List (List UInt8)} {t1 : Int} (h : WaI rs ds st gl tr sp left t1) (hl : LearnOk (timeT rs ds st gl) t1 tr le) : le.Sublist tr ∧ le.length ≤ left.length ∧ timeT rs ds st gl le = t1:=by
 obtain ⟨h1,h2,h3⟩:=learn_is hl
 refine ⟨h1,h3 left (by rw [h.lft]; exact List.filter_sublist) (by unfold fastB; rw [h.time]; simp [h.nn.1]),?_⟩
 unfold fastB at h2
 simp only [Bool.and_eq_true,decide_eq_true_eq] at h2
 have:=timeT_mono hR (fun s hs => h1.subset hs) h2.1
 have:=h.all
 omega
theorem fa_is {rs : List RoomE} {ds : List DoorE} {st gl : List UInt8} (hR : Right rs ds st gl) {l K : List (List UInt8)} {t t1 : Int} {is : Bool} (hq : FaQ rs ds (onceT (allT rs ds)) l st gl K t is) (h : timeT rs ds st gl l = t1) (h0 : 0 ≤ t1) : is = true ∧ t = t1:=by
 have:=hq.time hR
 cases is with
 | true => simp only [if_true] at this; exact ⟨rfl,by omega⟩
 | false => simp at this; omega

set_option maxHeartbeats 8000000 in
set_option maxRecDepth 100000 in
theorem worths_walk (A0 : Option Addr) (n c : Nat) (w : World) (hn : n ≤ 9223372036854775807)
  (hz : ∀ k,k < n → ∃ b off z,A0 = some ⟨b,off,none⟩ ∧ b < w.heap.size ∧ w.cell? ⟨b,off + k,none⟩ = some (.int .i64 z) ∧ I64 z) :
  LawCall 3 A0 n c w:=by
 have hstr:=str_make (c:=c) hn hz
 clear hz
 have hx : Below w.heap.size w (w.alloc (.cells #[.slice A0 n c,.int .i64 0] 25)):=(Below.refl _ _).alloc (Nat.le_refl _) _
 have hz0 : (w.alloc (.cells #[.slice A0 n c,.int .i64 0] 25)).heap.size = w.heap.size + 1:=by simp
 go_enter Tryz.func3,Tryz.ntmps3
 go_wp2_with fail
 generalize w.alloc (.cells #[.slice A0 n c,.int .i64 0] 25) = w0 at *
 clear hn
 refine (rightMapG_any w.heap.size 0 w0 hstr (by omega)).mono ?_
 clear hstr
 rintro e w1 ⟨A,ca,rs,D,cd,ds,st,gl,rfl,hmo,hrg,hdg,hr2,hr5,hd1,hd9,hst,hgl,hs1,hg1⟩
 have hz1:=hg1.size
 have HM0:=Lib.hid (mapE_G hrg hdg hr5 hd9 hst hgl)
 have HR : Hid (Right rs ds st gl):=Lib.hid (right_of HM0.out)
 have HKB : Hid ((onceT (allK ds)).length ≤ 10000):=Lib.hid (by have:=allK_le ds; have:=onceT_le (allK ds); omega)
 have HNS : Hid (nS rs (onceT (allT rs ds)) ≤ 240):=Lib.hid (nS_few hr5 (few_G hrg hdg))
 have hmw:=hmo.toW (by omega) (by omega) hrg.b hdg.b
 have hx:=(hx.grown hg1 (by omega) (fun k hk => by injection hk with hk; omega)).alloc (by omega) (.cells #[.slice A rs.length ca,.slice D ds.length cd,.string ⟨st.toArray⟩,.string ⟨gl.toArray⟩] 29)
 have hbx0 : Blk (w1.alloc (.cells #[.slice A rs.length ca,.slice D ds.length cd,.string ⟨st.toArray⟩,.string ⟨gl.toArray⟩] 29)) w1.heap.size 29 #[.slice A rs.length ca,.slice D ds.length cd,.string ⟨st.toArray⟩,.string ⟨gl.toArray⟩]:=Blk.new _ _ _
 replace hmw:=hmw.alloc (.cells #[.slice A rs.length ca,.slice D ds.length cd,.string ⟨st.toArray⟩,.string ⟨gl.toArray⟩] 29)
 have hs:=hs1.alloc (.cells #[.slice A rs.length ca,.slice D ds.length cd,.string ⟨st.toArray⟩,.string ⟨gl.toArray⟩] 29)
 have hlw : w0.heap.size ≤ (w1.alloc (.cells #[.slice A rs.length ca,.slice D ds.length cd,.string ⟨st.toArray⟩,.string ⟨gl.toArray⟩] 29)).heap.size:=by simp; omega
 clear hmo hrg hdg hs1 hg1 hst hgl hz0 hz1
 go_upto_region 3 with (fail)
 generalize w1.alloc (.cells #[.slice A rs.length ca,.slice D ds.length cd,.string ⟨st.toArray⟩,.string ⟨gl.toArray⟩] 29) = w2 at *
 generalize w1.heap.size = mb at *
 generalize w0.heap.size = lo at *
 obtain ⟨a0,a1,a2,a3⟩:=hbx0.fourR
 have za:=hbx0.lt
 obtain ⟨tr,htr⟩ : ∃ tr,tr = onceT (allK ds):=⟨_,rfl⟩
 have HTE : Hid (tricksE rs ds st gl tr = 0):=Lib.hid (by rw [htr]; exact tricks_all HM0.out)
 have hrt:=rTricks_any lo ca cd A rs D ds st gl w2 hmw
 rw [← htr] at hrt HKB
 unfold mapV at hrt
 simp only [encStr] at hrt
 have htl:=HKB.out
 have HTR:=Lib.hid htr
 clear htr
 go_wp2_with fail
 refine hrt.mono ?_
 clear hrt
 rintro e w3 ⟨TR,c2,rfl,hto,hb⟩
 have hcap:=own_capY hto
 have HTA : Hid (∀ a,TR = some a → a.block < w3.heap.size):=Lib.hid (fun a ha => (hto.lt a.block (by rw [obk_is,ha]; rfl)).2)
 have hI : LrI w w3 lo mb (0 + 200) A ca rs D cd ds st gl TR tr:=⟨hmw.below hb,(Row.of_own hto).weak hlw,hbx0.below hb,hs.keep hb,below_up hx hb⟩
 clear hmw hto hbx0 hs hx hb hlw a0 a1 a2 a3 za
 obtain ⟨a0,a1,a2,a3⟩:=hI.cells
 have za:=hI.b.lt
 have hFA:=Fastest_ok lo ca cd lo c2 A rs D ds st gl TR tr w3 hI.m hI.t (by omega) HTE.out
 unfold mapV at hFA
 simp only [encStr] at hFA
 go_wp2_with fail
 refine hFA.mono ?_
 clear hFA
 rintro e w4 ⟨K1,t1,b1,P1,p1,rfl,hq1,-,hb⟩
 have HQ1:=Lib.hid hq1
 have hp1 : Blk (w4.alloc (.cells #[.slice P1 K1.length p1,.int .i64 t1] 34)) w4.heap.size 34 #[.slice P1 K1.length p1,.int .i64 t1]:=Blk.new _ _ _
 have hz34:=hb.size
 replace hI:=(hI.below hb).alloc (.cells #[.slice P1 K1.length p1,.int .i64 t1] 34)
 clear hq1 hb a0 a1 a2 a3 za
 go_upto_region 5 with (fail)
 have hz4 : w3.heap.size ≤ (w4.alloc (.cells #[.slice P1 K1.length p1,.int .i64 t1] 34)).heap.size:=by simp; omega
 generalize w4.alloc (.cells #[.slice P1 K1.length p1,.int .i64 t1] 34) = w5 at *
 generalize w4.heap.size = pa at *
 obtain ⟨a0,a1,a2,a3⟩:=hI.cells
 have za:=hI.b.lt
 have hWO:=worths_any lo ca cd lo c2 A rs D ds st gl TR tr w5 hI.m hI.t (by omega)
 rw [HTE.out] at hWO
 unfold mapV at hWO
 simp only [encStr] at hWO
 go_wp2_with fail
 refine hWO.mono ?_
 clear hWO
 rintro e w6 ⟨wn,WA,wc,rfl,-,hwo,hb⟩
 obtain ⟨rfl,hwr⟩:=hwo rfl
 have hwr:=Row.of_own hwr
 have hz5:=hb.size
 replace hI:=hI.below hb
 replace hp1:=hp1.below hb
 clear hwo hb a0 a1 a2 a3 za
 obtain ⟨a0,a1,a2,a3⟩:=hI.cells
 have za:=hI.b.lt
 have hSP:=spare_any lo ca cd lo c2 A rs D ds st gl TR tr w6 hI.m hI.t (by omega)
 rw [HTE.out] at hSP
 unfold mapV at hSP
 simp only [encStr] at hSP
 go_wp2_with fail
 refine hSP.mono ?_
 clear hSP
 rintro e w7 ⟨sp,SA,sc,rfl,-,hsp,hso,hb⟩
 have HSP:=Lib.hid (hsp rfl)
 have hsr:=row_down0 (Row.of_own hso)
 have hz6:=hb.size
 replace hI:=hI.below hb
 replace hp1:=hp1.below hb
 replace hwr:=hwr.below hb
 clear hsp hso hb a0 a1 a2 a3 za
 have dnn : ((tr.length : Int) != (tr.length : Int)) = false:=by simp
 cases hb1 : b1 with
 | false =>
  rw [hb1] at HQ1
  subst hb1
  have hse : sp = []:=by
   have h1:=HQ1.out.time HR.out
   rw [HSP.out,if_pos (by rw [h1]; simp)]
  subst hse
  clear hsr
  go_wp2_with fail
  refine (ready_any _).mono ?_
  rintro e w8 ⟨rfl,hb⟩
  replace hI:=hI.below hb
  go_wp2_with fail
  go_ret
  exact ⟨rfl,hI.x⟩
 | true =>
  rw [hb1] at HQ1
  subst hb1
  obtain ⟨left,hleft⟩ : ∃ left,left = tr.filter fun x => !decide (x ∈ sp):=⟨_,rfl⟩
  have HWA : Hid (WaI rs ds st gl tr sp left t1):=Lib.hid (by rw [hleft]; exact waI_of HR.out HNS.out HQ1.out HSP.out)
  have HLF:=Lib.hid hleft
  clear hleft
  have HSL : Hid (sp.length ≤ 1000000000):=Lib.hid (by
   rw [HSP.out]
   split
   ·simp
   ·have:=spare_len (timeT rs ds st gl) (timeT rs ds st gl tr) tr ([],tr)
    simp only [List.length_nil] at this
    unfold spareF
    omega)
  have hsl:=HSL.out
  have HST : Hid (∀ W,Below w7.heap.size w7 W → (LrI w W lo mb (0 + 200) A ca rs D cd ds st gl TR tr) ∧ Blk W pa 34 #[.slice P1 K1.length p1,.int .i64 t1] ∧ Row W w5.heap.size 3 WA tr.length (tr.flatMap (encWo (timeT rs ds st gl) tr)) ∧ Row W 0 1 SA sp.length (strs sp)):=Lib.hid (fun W hb => ⟨hI.below hb,hp1.below hb,hwr.below hb,hsr.below hb⟩)
  clear hI hp1 hwr hsr
  go_wp2_with fail
  go_loopw [13,73] (fun v u wr => ∃ (i m : Nat) (PA : Option Addr) (pc : Nat),i ≤ tr.length ∧ m ≤ i ∧ v = .slice PA m pc ∧ u = .int .i64 i ∧ wr.ownsRow w7.heap.size 9 1 (.slice PA m pc) m (strs ((tr.take i).filter fun x => !decide (x ∈ sp))) ∧ Below w7.heap.size w7 wr ∧ Hid (((tr.take i).filter fun x => !decide (x ∈ sp)).length = m)) (fun _ u _ => tr.length - (intOf u).toNat)
  case atStart => exact ⟨0,0,none,0,Nat.zero_le _,Nat.le_refl _,rfl,rfl,World.ownsRow_nil _ _ _ _,Below.refl _ _,Lib.hid rfl⟩
  case round =>
   obtain ⟨i,m,LA,lc,hi,hmi,rfl,rfl,hown,hbl,HML⟩:=hrel
   by_cases hlt : i < tr.length
   ·obtain ⟨tb,toff,rfl,htb,hts⟩:=strs_at (HST.out _ hbl).1.t hlt
    have t0:=hts i hlt
    have HFN:=Lib.hid (filter_next (f:=fun x => !decide (x ∈ sp)) hlt)
    have HW0 : Hid (tr[i] ∈ sp → worthV (timeT rs ds st gl) tr tr[i] = (0,false)):=Lib.hid (HWA.out.w0 _)
    have HWC : Hid (∃ b off,WA = some ⟨b,off,none⟩ ∧ b < wr.heap.size ∧ wr.cell? ⟨b,off + i * 3 + 1,none⟩ = some (.int .i64 (worthV (timeT rs ds st gl) tr tr[i]).1) ∧ wr.cell? ⟨b,off + i * 3 + 2,none⟩ = some (.bool (worthV (timeT rs ds st gl) tr tr[i]).2)):=Lib.hid (by
     obtain ⟨b,off,e,_,hb,hc⟩:=(HST.out _ hbl).2.2.1.2 (by omega)
     refine ⟨b,off,e,hb,?_,?_⟩
     ·rw [Nat.add_assoc]; exact hc (i * 3 + 1) _ ((worth_at hlt 1 (by omega)).trans rfl)
     ·rw [Nat.add_assoc]; exact hc (i * 3 + 2) _ ((worth_at hlt 2 (by omega)).trans rfl))
    simp only [encStr] at t0
    generalize tr[i] = s at *
    have hcm:=containsS_any SA sc 0 sp s wr (HST.out _ hbl).2.2.2 hsl
    have hi0 : (0 : Int) ≤ (i : Int):=by omega
    have hi1 : (i : Int) < (tr.length : Int):=by omega
    have hlb1 : (m + 1) * 16 ≤ 140737488355328:=by omega
    have hlb2 : m + 1 ≤ 9223372036854775807:=by omega
    clear hts
    by_cases hms : s ∈ sp
    ·rw [decide_eq_true hms] at hcm
     have hwv:=HW0.out hms
     obtain ⟨wb,woff,rfl,zwb,wc1,wc2⟩:=HWC.out
     rw [hwv] at wc1 wc2
     simp only at wc1 wc2
     have HFE : Hid ((tr.take (i + 1)).filter (fun x => !decide (x ∈ sp)) = (tr.take i).filter (fun x => !decide (x ∈ sp))):=Lib.hid (by rw [HFN.out]; simp [hms])
     clear hms hwv HWC
     go_wp2_with fail
     refine hcm.mono ?_
     rintro e w8 ⟨rfl,rfl⟩
     clear hcm
     go_wp2_with fail
     go_roundw
     case rel => exact ⟨i + 1,m,LA,lc,by omega,by omega,rfl,by go_num,by rw [HFE.out]; exact hown,hbl,Lib.hid (by rw [HFE.out]; exact HML.out)⟩
     case measure => simp [intOf]; omega
    ·rw [decide_eq_false hms] at hcm
     have HFE : Hid ((tr.take (i + 1)).filter (fun x => !decide (x ∈ sp)) = (tr.take i).filter (fun x => !decide (x ∈ sp)) ++ [s]):=Lib.hid (by rw [HFN.out]; simp [hms])
     clear hms HWC
     have hsz:=hbl.size
     go_wp2_with fail
     refine hcm.mono ?_
     rintro e w8 ⟨rfl,rfl⟩
     clear hcm
     obtain ⟨LS,hLS⟩ : ∃ LS,LS = (tr.take i).filter (fun x => !decide (x ∈ sp)):=⟨_,rfl⟩
     rw [← hLS] at hown HFE HML
     have HLS:=Lib.hid hLS
     clear hLS
     go_wp2_with (at_builtin; go_must (refine wpList_app (lo:=w7.heap.size) (base:=w7.heap.size) (n:=m) (xs:=strs LS) _ _ rfl _ _ ty_strsL rfl (by repeat (first | exact hown | refine World.ownsRow.alloc ?_ _ | refine own_drewN ?_ _ | refine World.ownsRow.drew ?_)) rfl (by first | exact row_new' _ (by first | rfl | simp) (by first | omega | (simp; omega)) rfl | exact row_newN _ _ (by first | rfl | simp) (by first | omega | (simp; omega)) rfl | exact row_newD _ (by first | rfl | simp) (by first | omega | (simp; omega)) rfl) rfl rfl (by first | omega | decide) (by first | omega | decide) (by first | omega | (simp; omega)) ?_))
     intro A5 c5 w9 hown9 hg9 _
     have hbl9 : Below w7.heap.size w7 w9:=Below.grown (by repeat (first | exact hbl | refine Below.alloc ?_ (by first | omega | (simp; omega)) _)) hg9 (by first | omega | (simp; omega)) (own_base (by repeat (first | exact hown | refine World.ownsRow.alloc ?_ _)))
     have HO9 : Hid (w9.ownsRow w7.heap.size 9 1 (.slice A5 (m + 1) c5) (m + 1) (strs ((tr.take (i + 1)).filter fun x => !decide (x ∈ sp)))):=Lib.hid (by rw [HFE.out]; simpa [strs,encStr] using hown9)
     clear hown9 hg9
     go_wp2_with fail
     go_roundw
     case rel => exact ⟨i + 1,m + 1,A5,c5,by omega,by omega,rfl,by go_num,HO9.out,hbl9,Lib.hid (by rw [HFE.out]; simp [HML.out])⟩
     case measure => simp [intOf]; omega
   ·have hie : i = tr.length:=by omega
    have HO : Hid (left.length = m ∧ Row wr 0 1 LA left.length (strs left)):=Lib.hid (by
     have h1:=HML.out
     have h2:=row_down0 (Row.of_own hown)
     rw [hie,List.take_length,← HLF.out] at h1 h2
     rw [h1]; exact ⟨rfl,h2⟩)
    clear hown HML hmi
    obtain ⟨hlm,hlr⟩:=HO.out
    subst hlm
    have hll : left.length ≤ tr.length:=by rw [HLF.out]; exact List.length_filter_le _ _
    have HLS : Hid (left.Sublist tr):=Lib.hid (by rw [HLF.out]; exact List.filter_sublist)
    have HTL : Hid (tricksE rs ds st gl left = 0):=Lib.hid (tricks_ok HM0.out (fun s hs => (tricks_in HTE.out).1 s (HLS.out.subset hs)) ((tricks_in HTE.out).2.sublist HLS.out))
    have hI:=(HST.out _ hbl).1
    have hp1:=(HST.out _ hbl).2.1
    have hwz : w7.heap.size ≤ wr.heap.size:=hbl.size
    obtain ⟨a0,a1,a2,a3⟩:=hI.cells
    have za:=hI.b.lt
    obtain ⟨p0,p1c⟩:=hp1.w2
    have zp:=hp1.lt
    have hFA:=Fastest_ok lo ca cd 0 lc A rs D ds st gl LA left wr hI.m hlr (by omega) HTL.out
    unfold mapV at hFA
    simp only [encStr] at hFA
    go_wp2_with fail
    refine hFA.mono ?_
    clear hFA
    rintro e w10 ⟨K2,t2,b2,P2,p2,rfl,hq2,-,hb⟩
    obtain ⟨rfl,rfl⟩:=fa_is HR.out hq2 HWA.out.time HWA.out.nn.1
    have hp2 : Blk (w10.alloc (.cells #[.slice P2 K2.length p2,.int .i64 t2] 34)) w10.heap.size 34 #[.slice P2 K2.length p2,.int .i64 t2]:=Blk.new _ _ _
    have hz10:=hb.size
    have hab : pa ≠ w10.heap.size:=by have:=hp1.lt; omega
    have hwpb : w.heap.size ≤ w10.heap.size:=by have:=hI.x.size; omega
    replace hI:=(hI.below hb).alloc (.cells #[.slice P2 K2.length p2,.int .i64 t2] 34)
    replace hp1:=(hp1.below hb).alloc (.cells #[.slice P2 K2.length p2,.int .i64 t2] 34)
    clear hq2 hb a0 a1 a2 a3 za p0 p1c zp hlr
    go_upto_region 21 with (fail)
    have hz11 : w7.heap.size ≤ (w10.alloc (.cells #[.slice P2 K2.length p2,.int .i64 t2] 34)).heap.size:=by simp; omega
    generalize w10.alloc (.cells #[.slice P2 K2.length p2,.int .i64 t2] 34) = w11 at *
    generalize w10.heap.size = pb at *
    have dtt : (t2 != t2) = false:=by simp
    obtain ⟨a0,a1,a2,a3⟩:=hI.cells
    have za:=hI.b.lt
    obtain ⟨p0,p1c⟩:=hp1.w2
    have zp:=hp1.lt
    obtain ⟨e0,e1⟩:=hp2.w2
    have ze:=hp2.lt
    have hLE:=learn_any lo ca cd lo c2 A rs D ds st gl TR tr t2 w11 hI.m hI.t (by omega) hcap (fun a ha => by have:=HTA.out a ha; omega)
    have hle0 : learnE rs ds st gl tr t2 = 0:=by
     unfold learnE
     have:=HWA.out.nn
     rw [if_neg (by simp [HTE.out]),if_neg (by omega)]
    rw [hle0] at hLE
    unfold mapV at hLE
    simp only [encStr] at hLE
    clear hle0
    go_wp2_with fail
    refine hLE.mono ?_
    clear hLE
    rintro e w12 ⟨le,EA,ec,bl,rfl,-,hle,hler,hb⟩
    obtain ⟨hbl1,-,hlok⟩:=hle rfl
    have hbl2 : bl = true:=by rw [hbl1]; unfold fastB; rw [HWA.out.all]; simp [HWA.out.nn.1]
    have HLI:=Lib.hid (waI_learn HR.out HWA.out (hlok hbl2))
    subst hbl2
    replace hI:=hI.below hb
    replace hp1:=hp1.below hb
    replace hp2:=hp2.below hb
    clear hbl1 hlok hle hb a0 a1 a2 a3 za p0 p1c zp e0 e1 ze
    have hl1:=HLI.out.2.1
    have dll : decide (left.length < le.length) = false:=decide_eq_false (by omega)
    have HTE2 : Hid (tricksE rs ds st gl le = 0):=Lib.hid (tricks_ok HM0.out (fun s hs => (tricks_in HTE.out).1 s (HLI.out.1.subset hs)) ((tricks_in HTE.out).2.sublist HLI.out.1))
    obtain ⟨a0,a1,a2,a3⟩:=hI.cells
    have za:=hI.b.lt
    have hFA:=Fastest_ok lo ca cd 0 ec A rs D ds st gl EA le w12 hI.m hler (by omega) HTE2.out
    unfold mapV at hFA
    simp only [encStr] at hFA
    go_wp2_with fail
    refine hFA.mono ?_
    clear hFA
    rintro e w13 ⟨K3,t3,b3,P3,p3,rfl,hq3,-,hb⟩
    obtain ⟨rfl,ht3⟩:=fa_is HR.out hq3 HLI.out.2.2 HWA.out.nn.1
    have d33 : (t3 == t2) = true:=beq_iff_eq.2 ht3
    replace hI:=hI.below hb
    replace hp1:=hp1.below hb
    replace hp2:=hp2.below hb
    clear hq3 hb a0 a1 a2 a3 za hler ht3
    obtain ⟨p0,p1c⟩:=hp1.w2
    have zp:=hp1.lt
    obtain ⟨e0,e1⟩:=hp2.w2
    have fe0:=hp2.thaw 0
    have fe1:=hp2.thaw 1
    have ze:=hp2.lt
    have hxx:=hI.x
    have HBX : Hid (Below w.heap.size w ((w13.setCell ⟨pb,0,none⟩ (.slice P3 K3.length p3)).setCell ⟨pb,1,none⟩ (.int .i64 t3))):=Lib.hid (Below.setCell (Below.setCell hxx (show w.heap.size ≤ (⟨pb,0,none⟩ : Addr).block from hwpb) _) (show w.heap.size ≤ (⟨pb,1,none⟩ : Addr).block from hwpb) _)
    go_wp2_with fail
    refine (ready_any _).mono ?_
    rintro e w14 ⟨rfl,hb⟩
    have hbx:=below_up HBX.out hb
    clear hb p0 p1c e0 e1 fe0 fe1
    go_wp2_with fail
    go_ret
    exact ⟨rfl,hbx⟩

end Go.Proofs.YthchgkdhegaehaaGreatDoor
