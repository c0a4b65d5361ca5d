/- Texts of this seat, laid together: LawTricksWorth. -/
import Derived.Test.YtjggbpchmbdocaaGreatDoorBt45
import Derived.Test.YtjggbpchmbdocaaGreatDoorBt49
import Derived.Test.YtjggbpchmbdocaaGreatDoorBt52
import Derived.Test.YtjggbpchmbdocaaGreatDoorBt39
/- For every list of numbers the law TricksWorth returns true and leaves the list as it was: its walk. -/
namespace Go.Proofs.YtjggbpchmbdocaaGreatDoor
set_option linter.unusedVariables false
set_option linter.unusedSimpArgs false
open Go.RowKit Go.Sort

structure TwI (w W : World) (lo mb : Nat) (A : Option Addr) (ca : Nat) (rs : List RoomE) (D : Option Addr) (cd : Nat) (ds : List DoorE) (st gl : List UInt8) (TR : Option Addr) (tr : List (List UInt8)) : Prop where
  m : MapW W lo A rs D ds
  t : Row W lo 1 TR tr.length (strs tr)
  b : Blk W mb 29 #[.slice A rs.length ca, .slice D ds.length cd, .string ⟨st.toArray⟩, .string ⟨gl.toArray⟩]
  x : Below w.heap.size w W
section
variable {w W W' : World} {lo mb : Nat} {A : Option Addr} {ca : Nat} {rs : List RoomE} {D : Option Addr} {cd : Nat} {ds : List DoorE} {st gl : List UInt8} {TR : Option Addr} {tr : List (List UInt8)}
theorem TwI.below (h : TwI w W lo mb A ca rs D cd ds st gl TR tr) (hb : Below W.heap.size W W') : TwI w W' lo mb A ca rs D cd ds st gl TR tr:=⟨h.m.below hb,h.t.below hb,h.b.below hb,below_up h.x hb⟩
theorem TwI.alloc (h : TwI w W lo mb A ca rs D cd ds st gl TR tr) (o : Obj) : TwI w (W.alloc o) lo mb A ca rs D cd ds st gl TR tr:=h.below ((Below.refl _ _).alloc (Nat.le_refl _) o)
theorem TwI.drewN (h : TwI w W lo mb A ca rs D cd ds st gl TR tr) (q : Nat) : TwI w (W.drewN q) lo mb A ca rs D cd ds st gl TR tr:=h.below (below_drewN' (Below.refl _ _) q)
theorem TwI.grown (h : TwI w W lo mb A ca rs D cd ds st gl TR tr) (hg : W.grownBy W' (some w.heap.size)) (hl : w.heap.size < lo) (hm : w.heap.size < mb) : TwI w W' lo mb A ca rs D cd ds st gl TR tr :=
 ⟨h.m.grown hg hl,h.t.grown hg hl,h.b.grown hg (by omega),h.x.grown hg (by have:=h.x.size; omega) (fun k hk => by injection hk with hk; omega)⟩
end
theorem worth_row {w : World} {lo : Nat} {A : Option Addr} {f : List (List UInt8) → Int} {tr : List (List UInt8)} (h : Row w lo 3 A tr.length (tr.flatMap (encWo f tr))) {k : Nat} (hk : k < tr.length) : ∃ b off,A = some ⟨b,off,none⟩ ∧ b < w.heap.size ∧ w.cell? ⟨b,off + k * 3,none⟩ = some (.string ⟨tr[k].toArray⟩) ∧ w.cell? ⟨b,off + k * 3 + 1,none⟩ = some (.int .i64 (worthV f tr tr[k]).1) ∧ w.cell? ⟨b,off + k * 3 + 2,none⟩ = some (.bool (worthV f tr tr[k]).2):=by
 obtain ⟨b,off,e,_,hb,hc⟩:=h.2 (by omega)
 have g : ∀ j (hj : j < 3) u,(encWo f tr tr[k])[j]? = some u → w.cell? ⟨b,off + k * 3 + j,none⟩ = some u:=fun j hj u hu => by
  rw [Nat.add_assoc]; exact hc (k * 3 + j) u (by rw [flat_at (encWo f tr) 3 (fun _ => rfl) tr k hk j hj,hu])
 exact ⟨b,off,e,hb,g 0 (by omega) _ rfl,g 1 (by omega) _ rfl,g 2 (by omega) _ rfl⟩
set_option maxHeartbeats 1000000 in
theorem equalW_any (f : List (List UInt8) → Int) (tr : List (List UInt8)) (A B : Option Addr) (c d lo lo' : Nat) (w : World) (hr : Row w lo 3 A tr.length (tr.flatMap (encWo f tr))) (hr' : Row w lo' 3 B tr.length (tr.flatMap (encWo f tr))) (hl : tr.length ≤ 1000000000) :
  Calls Tryz.prog 38 #[.slice A tr.length c,.slice B tr.length d] w fun e w' => e = .returned (.bool true) ∧ Below w.heap.size w w':=by
 have h0 : ((tr.length : Int) != (tr.length : Int)) = false:=by simp
 go_enter Tryz.func38,Tryz.ntmps38
 go_wp2_with fail
 go_loopw [13] (fun i wr => ∃ (k : Nat),k ≤ tr.length ∧ i = .int .i64 k ∧ Below w.heap.size w wr) (fun i _ => tr.length - (intOf i).toNat)
 case atStart => exact ⟨0,Nat.zero_le _,rfl,Below.refl _ _⟩
 case round =>
  obtain ⟨k,hk,rfl,hbw⟩:=hrel;have hsz:=hbw.size
  by_cases hlt : k < tr.length
  ·obtain ⟨b,off,rfl,hbs,c0,c1,c2⟩:=worth_row (hr.below hbw) hlt
   obtain ⟨b',off',rfl,hbs',d0,d1,d2⟩:=worth_row (hr'.below hbw) hlt;generalize (worthV f tr tr[k]).1 = v1 at *;generalize (worthV f tr tr[k]).2 = v2 at *;generalize tr[k] = s at *;go_wp2_with fail
   go_quiet (fail)
   have hb2 : Below w.heap.size w (wr.drewN nq):=below_drewN' hbw nq;generalize wr.drewN nq = wd at *;clear c0 c1 c2 d0 d1 d2;go_wp2_with fail;go_roundw
   case rel => exact ⟨k + 1,by omega,by go_num,hb2⟩
   case measure => simp [intOf]; omega
  ·go_wp2_with fail
   go_ret;exact ⟨rfl,hbw⟩
theorem tr_few {rs : List RoomE} {ds : List DoorE} {st gl : List UInt8} {tr : List (List UInt8)} (hm : mapE rs ds st gl = 0) (h : (∀ s ∈ tr,s ∈ onceT (allK ds)) ∧ tr.Pairwise (· < ·)) : tr.length ≤ 12:=by
 have h1 : (onceT (allK ds)).length ≤ 12:=by
  unfold mapE at hm
  by_cases c1 : roomsE rs = 0
  ·rw [if_neg (fun e => e c1)] at hm
   by_cases c2 : doorsE rs ds = 0
   ·rw [if_neg (fun e => e c2)] at hm
    by_cases c3 : (!hasR rs st || !hasR rs gl) = true
    ·rw [if_pos c3] at hm; cases hm
    rw [if_neg c3] at hm
    by_cases c4 : 10 < (onceT (allT rs ds)).length ∨ 12 < (onceT (allK ds)).length
    ·rw [if_pos c4] at hm; cases hm
    ·omega
   ·rw [if_pos c2] at hm; exact absurd hm c2
  ·rw [if_pos c1] at hm; exact absurd hm c1
 have h2:=once_short (onceT_spec (allK ds)).1 h.1
 have h3 : tr.length ≤ (onceT tr).length:=by
  have hn : tr.Nodup:=h.2.imp fun h e => by rw [e] at h; exact ltS_irr _ h
  exact nodup_sub_len _ _ hn fun x hx => ((onceT_spec tr).2 x).2 hx
 omega
theorem noneTw_any (b : Bool) (w : World) : Calls Tryz.prog 21 #[.bool b] w fun e w' => e = .returned (.int .i64 (if b = true then 8 else 0)) ∧ w = w':=by
 cases b <;>
 ·go_enter Tryz.func21,Tryz.ntmps21
  go_wp2_with fail;go_ret;exact ⟨rfl,rfl⟩
theorem keyI_neg (l : List (List UInt8)) (k : List UInt8) : decide (keyI l k < 0) = !decide (k ∈ l):=by
 unfold keyI
 by_cases h : k ∈ l
 ·rw [if_pos h,decide_eq_true h,decide_eq_false (by omega)]; rfl
 ·rw [if_neg h,decide_eq_false h]; rfl
theorem spareL_len (f : List (List UInt8) → Int) (a : Int) : ∀ (p : List (List UInt8)) (ol : List (List UInt8) × List (List UInt8)),(p.foldl (spareS f a) ol).1.length ≤ ol.1.length + p.length
 | [],_ => Nat.le_refl _
 | x :: p,ol => by
  have h1:=spareL_len f a p (spareS f a ol x)
  have h2 : (spareS f a ol x).1.length ≤ ol.1.length + 1:=by unfold spareS; split <;> simp
  rw [List.foldl_cons,List.length_cons];omega
theorem spare_len (f : List (List UInt8) → Int) (tr : List (List UInt8)) (h : tr.length ≤ 1000000) : (if f tr < 0 then [] else (spareF f tr).1).length ≤ 1000000:=by
 split
 ·simp
 ·have:=spareL_len f (f tr) tr ([],tr)
  unfold spareF;simp only [List.length_nil] at this;omega
set_option maxHeartbeats 8000000 in
set_option maxRecDepth 100000 in
theorem tricksWorth_walk (A0 : Option Addr) (n c : Nat) (w : World) (hn : n ≤ 9223372036854775807)
  (hz : ∀ k,k < n → ∃ b off z,A0 = some ⟨b,off,none⟩ ∧ b < w.heap.size ∧ w.cell? ⟨b,off + k,none⟩ = some (.int .i64 z) ∧ I64 z) :
  LawCall 5 A0 n c w:=by
 have hstr:=str_make (c:=c) hn hz;clear hz;have hx : Below w.heap.size w (w.alloc (.cells #[.slice A0 n c,.int .i64 0] 25)):=(Below.refl _ _).alloc (Nat.le_refl _) _
 have hz0 : (w.alloc (.cells #[.slice A0 n c,.int .i64 0] 25)).heap.size = w.heap.size + 1:=by simp
 go_enter Tryz.func5,Tryz.ntmps5
 go_wp2_with fail;generalize w.alloc (.cells #[.slice A0 n c,.int .i64 0] 25) = w0 at *;clear hn;refine (mapped2_any w.heap.size 0 w0 hstr (by omega)).mono ?_;clear hstr;rintro e w1 ⟨A,ca,rs,D,cd,ds,st,gl,TR,c2,tr,rfl,hm1,ht1,htl,⟨hcp,hTA⟩,hs1,hg1⟩
 obtain ⟨te,hte⟩ : ∃ te,te = tricksE rs ds st gl tr:=⟨_,rfl⟩
 rw [← hte];have HTE:=Lib.hid hte;clear hte;have hz1:=hg1.size
 have hI : TwI w (w1.alloc (.cells #[.slice A rs.length ca,.slice D ds.length cd,.string ⟨st.toArray⟩,.string ⟨gl.toArray⟩] 29)) w0.heap.size w1.heap.size A ca rs D cd ds st gl TR tr:=⟨hm1.alloc _,ht1.alloc _,Blk.new _ _ _,(hx.grown hg1 (by omega) (fun k hk => by injection hk with hk; omega)).alloc (by omega) _⟩
 replace hs1:=hs1.alloc (.cells #[.slice A rs.length ca,.slice D ds.length cd,.string ⟨st.toArray⟩,.string ⟨gl.toArray⟩] 29);have HTA : Hid (∀ a,TR = some a → a.block < w1.heap.size):=Lib.hid hTA
 have hmb : w.heap.size < w1.heap.size:=by omega
 have hlo : w.heap.size < w0.heap.size:=by omega
 clear hx hg1 hz0 hm1 ht1 hz1 hTA;go_upto_region 3 with (fail);generalize w1.alloc (.cells #[.slice A rs.length ca,.slice D ds.length cd,.string ⟨st.toArray⟩,.string ⟨gl.toArray⟩] 29) = w2 at *;generalize w1.heap.size = mb at *;generalize w0.heap.size = lo at *;have hI0:=hI.alloc (.cells #[.int .i64 0,.int .i64 3,.int .i64 6,.int .i64 12,.int .i64 100,.int .i64 (-1)] 3);have hpk:=pick_any w.heap.size (0 + 2000) w2.heap.size (some ⟨w2.heap.size,0,none⟩) 6 [0,3,6,12,100,-1] (w2.alloc (.cells #[.int .i64 0,.int .i64 3,.int .i64 6,.int .i64 12,.int .i64 100,.int .i64 (-1)] 3)) (hs1.alloc _) (by omega) (row_new _ _ _ _ _ _ (Nat.le_refl _) rfl) hs1.lt (by simp) (by simp);clear hI hs1;go_wp2_with fail;refine hpk.mono ?_;clear hpk;rintro e w3 ⟨most,rfl,hmost,hs3,hg3⟩;have hI:=hI0.grown hg3 hlo hmb
 have hml : -1 ≤ most ∧ most ≤ 100:=by simp at hmost; omega
 clear hI0 hg3 hmost;have hI0:=hI.alloc (.cells #[.string ⟨#[100,48]⟩,.string ⟨#[100,49]⟩,.string ⟨#[100,50]⟩,.string ⟨#[122,122]⟩] 9);have hsm:=some_litM w.heap.size (0 + 2000 + 1) w3.heap.size #[.string ⟨#[100,48]⟩,.string ⟨#[100,49]⟩,.string ⟨#[100,50]⟩,.string ⟨#[122,122]⟩] [[100,48],[100,49],[100,50],[122,122]] (w3.alloc (.cells #[.string ⟨#[100,48]⟩,.string ⟨#[100,49]⟩,.string ⟨#[100,50]⟩,.string ⟨#[122,122]⟩] 9)) (hs3.alloc _) (by omega) (Blk.new _ _ _) rfl hs3.lt (by simp) (by simp);clear hI hs3;go_wp2_with fail;refine hsm.mono ?_;clear hsm;rintro e w4 ⟨dr,rfl,hdm,hs4,hg4⟩;have hI:=hI0.grown hg4 hlo hmb;clear hI0 hg4 hs4 hdm;have HCA : Hid (∀ W,TwI w W lo mb A ca rs D cd ds st gl TR tr → (∀ a,TR = some a → a.block < W.heap.size)):=Lib.hid (fun W h a ha => Nat.lt_trans (HTA.out a ha) h.b.lt);have hWO:=worths_any lo ca cd lo c2 A rs D ds st gl TR tr w4 hI.m hI.t (by omega);rw [← HTE.out] at hWO;unfold mapV at hWO;simp only [encStr] at hWO;go_upto_region 4 with (fail);obtain ⟨a0,a1,a2,a3⟩:=hI.b.fourR;have za:=hI.b.lt;go_wp2_with fail;refine hWO.mono ?_;clear hWO a0 a1 a2 a3 za;intro e W1 hp;obtain ⟨wn,WA,wc,rfl,hwe,hwk,hb⟩:=hp;replace hI:=hI.below hb;have HWE:=Lib.hid hwe;have HWK : Hid (te = 0 → wn = tr.length ∧ Row W1 0 3 WA wn (tr.flatMap (encWo (timeT rs ds st gl) tr))):=Lib.hid (fun h => ⟨(hwk h).1,row_down0 (Row.of_own (hwk h).2)⟩);clear hb hwe hwk;have hLE:=learn_any lo ca cd lo c2 A rs D ds st gl TR tr most W1 hI.m hI.t (by omega) hcp (HCA.out _ hI);unfold mapV at hLE;simp only [encStr] at hLE
 obtain ⟨lE,hlE⟩ : ∃ x,x = learnE rs ds st gl tr most:=⟨_,rfl⟩
 rw [← hlE] at hLE;have HLE : Hid (lE = if te ≠ 0 then te else if most < 0 ∨ 864000000000 < most then 1 else 0):=Lib.hid (by rw [hlE,HTE.out]; rfl);clear hlE;obtain ⟨a0,a1,a2,a3⟩:=hI.b.fourR;have za:=hI.b.lt;go_wp2_with fail;refine hLE.mono ?_;clear hLE a0 a1 a2 a3 za;intro e W2 hp;obtain ⟨ll,LA,lc,li,rfl,hln,hlk,hrl,hb⟩:=hp;replace hI:=hI.below hb;have HB1 : Hid (Below W1.heap.size W1 W2):=Lib.hid hb;have HLN:=Lib.hid hln;have HLK:=Lib.hid hlk;clear hb hln hlk;have hSP:=spare_any lo ca cd lo c2 A rs D ds st gl TR tr W2 hI.m hI.t (by omega);rw [← HTE.out] at hSP;unfold mapV at hSP;simp only [encStr] at hSP;obtain ⟨a0,a1,a2,a3⟩:=hI.b.fourR;have za:=hI.b.lt;go_wp2_with fail;refine hSP.mono ?_;clear hSP a0 a1 a2 a3 za;intro e W3 hp;obtain ⟨sl,SA,sc,rfl,hsn,hsk,hso,hb⟩:=hp;replace hI:=hI.below hb;have HB2 : Hid (Below W1.heap.size W1 W3):=Lib.hid (below_up HB1.out hb);replace hrl:=hrl.below hb;have HSN:=Lib.hid hsn;have HSK:=Lib.hid hsk;have hsr:=row_down0 (Row.of_own hso);clear hb hsn hsk hso;have hSL:=slower_any lo ca cd lo c2 A rs D ds st gl TR tr dr W3 hI.m hI.t (by omega);unfold mapV at hSL;simp only [encStr] at hSL
 obtain ⟨sE,hsE⟩ : ∃ x,x = slowE rs ds st gl tr dr:=⟨_,rfl⟩
 rw [← hsE] at hSL;have HSE : Hid (sE = if te ≠ 0 then te else if dr ∈ ds.map DoorE.key then 0 else 8):=Lib.hid (by rw [hsE,HTE.out]; rfl);clear hsE;obtain ⟨a0,a1,a2,a3⟩:=hI.b.fourR;have za:=hI.b.lt;go_wp2_with fail;refine hSL.mono ?_;clear hSL a0 a1 a2 a3 za;intro e W4 hp;obtain ⟨sv,si,rfl,hvn,hvk,hb⟩:=hp;replace hI:=hI.below hb;have HB3 : Hid (Below W1.heap.size W1 W4):=Lib.hid (below_up HB2.out hb);replace hrl:=hrl.below hb;replace hsr:=hsr.below hb;have HVN:=Lib.hid hvn;have HVK:=Lib.hid hvk;clear hb hvn hvk
 by_cases h0 : te = 0
 ·subst h0
  have HM : Hid (mapE rs ds st gl = 0):=Lib.hid (tricks_right HTE.out.symm);have HR : Hid (Right rs ds st gl):=Lib.hid (right_of HM.out);have HTP : Hid (tr.Pairwise (· < ·)):=Lib.hid (tricks_in HTE.out.symm).2;have ht12 : tr.length ≤ 12:=tr_few HM.out (tricks_in HTE.out.symm);obtain ⟨hwn,hwr⟩:=HWK.out (by first | rfl | trivial);subst hwn;replace hwr:=hwr.below HB3.out;have hFW:=worthsOf_any lo ca cd lo c2 A rs D ds st gl TR tr W4 hI.m HM.out hI.t (by omega);obtain ⟨a0,a1,a2,a3⟩:=hI.b.fourR;have za:=hI.b.lt;go_wp2_with fail;refine hFW.mono ?_;clear hFW a0 a1 a2 a3 za;rintro e V1 ⟨XA,xa,rfl,hxo,hb⟩;replace hI:=hI.below hb;replace hwr:=hwr.below hb;replace hrl:=hrl.below hb;replace hsr:=hsr.below hb;have hxr:=row_down0 (Row.of_own hxo);clear hb hxo;go_wp2_with fail;refine (equalW_any (timeT rs ds st gl) tr WA XA wc xa 0 0 V1 hwr hxr (by omega)).mono ?_;rintro e V2 ⟨rfl,hb⟩;replace hI:=hI.below hb;replace hrl:=hrl.below hb;replace hsr:=hsr.below hb;clear hb hwr hxr;have hFS:=spareOf_any lo ca cd lo c2 A rs D ds st gl TR tr V2 hI.m HM.out hI.t (by omega);obtain ⟨a0,a1,a2,a3⟩:=hI.b.fourR;have za:=hI.b.lt;go_wp2_with fail;refine hFS.mono ?_;clear hFS a0 a1 a2 a3 za;rintro e V3 ⟨sl',XS,xs,rfl,hse,hxr,hb⟩;obtain rfl : sl = sl':=(HSK.out (by first | rfl | trivial)).trans hse.symm
  have hsll : sl.length ≤ 1000000:=by rw [hse]; exact spare_len _ _ (by omega)
  replace hI:=hI.below hb;replace hrl:=hrl.below hb;replace hsr:=hsr.below hb;clear hb hse;go_wp2_with fail;refine (equalS_any SA XS sc xs 0 0 sl sl _ hsr hxr (by omega) (by omega)).mono ?_;rintro e V4 ⟨rfl,q,rfl⟩;rw [decide_eq_true (rfl : sl = sl)];replace hI:=hI.drewN q;replace hrl:=hrl.drewN q;clear hsr hxr;go_upto_region 12 with (fail);generalize World.drewN _ q = W6 at *;have HMB : Hid (∀ W,Below W6.heap.size W6 W → Blk W mb 29 #[.slice A rs.length ca,.slice D ds.length cd,.string ⟨st.toArray⟩,.string ⟨gl.toArray⟩]):=Lib.hid (fun W h => hI.b.below h)
  obtain ⟨din,hdin⟩ : ∃ b,b = decide (dr ∈ ds.map DoorE.key):=⟨_,rfl⟩
  have HKD : Hid (decide (keyI (ds.map DoorE.key) dr < 0) = !din):=Lib.hid (by rw [hdin]; exact keyI_neg _ _);have HDN:=Lib.hid hdin;clear hdin
  have HNF : Hid (∀ W,Calls Tryz.prog 21 #[.bool (!din)] W fun e w' => e = .returned (.int .i64 sE) ∧ W = w'):=Lib.hid (fun W => by
   have h1:=noneTw_any (!din) W
   have h2 : sE = if dr ∈ ds.map DoorE.key then 0 else 8:=by have:=HSE.out; rwa [if_neg (by simp)] at this
   rwa [show (if (!din) = true then (8 : Int) else 0) = sE by rw [h2,HDN.out]; by_cases c : dr ∈ ds.map DoorE.key <;> simp only [c,decide_true,decide_false] <;> rfl] at h1)
  have HSPN : Hid (spanFault most 0 864000000000 = lE):=Lib.hid (by
   have h2 : lE = if most < 0 ∨ 864000000000 < most then 1 else 0:=by have:=HLE.out; rwa [if_neg (by simp)] at this
   unfold spanFault;rw [h2]
   by_cases c : most < 0
   ·rw [if_neg (show ¬ (0 ≤ most ∧ most ≤ 864000000000) by omega),if_pos (.inl c)]
   ·rw [if_pos (show 0 ≤ most ∧ most ≤ 864000000000 by omega),if_neg (by omega)])
  have HL01 : Hid (lE = 0 ∨ lE = 1):=Lib.hid (by rw [← HSPN.out]; unfold spanFault; split <;> simp);have HS08 : Hid (sE = 0 ∨ sE = 8):=Lib.hid (by rw [HSE.out,if_neg (by simp)]; split <;> simp)
  have HDA : Hid (∀ W,Below W6.heap.size W6 W → Calls Tryz.prog 42 #[.agg #[.slice A rs.length ca,.slice D ds.length cd,.string ⟨st.toArray⟩,.string ⟨gl.toArray⟩],.string ⟨dr.toArray⟩] W fun e w' => e = .returned (.int .i64 (keyI (ds.map DoorE.key) dr)) ∧ Below W.heap.size W w'):=Lib.hid (fun W h => by
   have h1:=rDoorAt_any lo ca cd A rs D ds st gl dr W (hI.m.below h);unfold mapV at h1;simp only [encStr] at h1
   exact h1)
  go_cut [19,20] from 136 to 142 (fun u v wx => u = .int .i64 lE ∧ v = .int .i64 sE ∧ Below W6.heap.size W6 wx)
  case first =>
   have hbw : Below W6.heap.size W6 W6.drew:=(Below.refl _ _).drew;go_wp2_with fail;refine wp_region_held_drew (S:=(fun w' => w'.cell? ⟨mb,0,none⟩ = some (.slice A rs.length ca) ∧ w'.cell? ⟨mb,1,none⟩ = some (.slice D ds.length cd) ∧ w'.cell? ⟨mb,2,none⟩ = some (.string ⟨st.toArray⟩) ∧ w'.cell? ⟨mb,3,none⟩ = some (.string ⟨gl.toArray⟩))) (by kernel_rfl) ((HMB.out _ hbw).fourR) (fun hHeld => ?_);generalize W6.drew = wd at hbw hHeld ⊢;(refine QU 0 ?_; (try simp only [Act.put,Q3,Q4,Q5]));(refine QU 2 ?_; (try simp only [Act.put,Q3,Q4,Q5]));(refine QU 3 ?_; (try simp only [Act.put,Q3,Q4,Q5]));refine QR 1 fun K hK => ?_;go_simp;go_at_call 41;refine (span_any most 0 864000000000 wd).mono ?_;rintro e Y1 ⟨rfl,hY⟩;replace hbw : Below W6.heap.size W6 Y1:=hY ▸ hbw;clear hY;rw [HSPN.out];go_wp2_with fail;refine hK.out _ _ ((HMB.out _ hbw).fourR) (fun hHeld => ?_);clear hK K;(try simp only [Act.put,Q3,Q4,Q5]);refine QR 4 fun K hK => ?_;go_simp;go_at_call 42;refine (HDA.out Y1 hbw).mono ?_;rintro e Y4 ⟨rfl,hb⟩;replace hbw:=below_up hbw hb;clear hb;go_wp2_with fail;refine hK.out _ _ ((HMB.out _ hbw).fourR) (fun hHeld => ?_);clear hK K;(try simp only [Act.put,Q3,Q4,Q5]);(refine QU 5 ?_; (try simp only [Act.put,Q3,Q4,Q5]));refine QR 6 fun K hK => ?_;rw [HKD.out];go_simp;go_at_call 21;refine (HNF.out Y4).mono ?_;rintro e Y6 ⟨rfl,hY⟩;replace hbw : Below W6.heap.size W6 Y6:=hY ▸ hbw;clear hY;go_wp2_with fail;refine hK.out _ _ ((HMB.out _ hbw).fourR) (fun hHeld => ?_);clear hK K;(try simp only [Act.put,Q3,Q4,Q5]);(refine QU 7 ?_; (try simp only [Act.put,Q3,Q4,Q5]));(refine QU 8 ?_; (try simp only [Act.put,Q3,Q4,Q5]));refine wpAnyH_done (by kernel_rfl) ?_ _;go_wp2_with fail;go_meet;exact ⟨rfl,rfl,hbw⟩
  case rest =>
   obtain ⟨rfl,rfl,hbw⟩:=hcut;generalize wc = W7 at *;replace hI:=hI.below hbw;replace hrl:=hrl.below hbw;clear hbw HMB HDA HKD HNF;have dl : (lE == lE) = true:=beq_self_eq_true lE;have dsE : (sE == sE) = true:=beq_self_eq_true sE;rcases HL01.out with hl | hl
   ·subst hl
    have hFL:=learnOf_any lo ca cd lo c2 A rs D ds st gl TR tr most W7 hI.m HM.out hI.t ht12;obtain ⟨a0,a1,a2,a3⟩:=hI.b.fourR;have za:=hI.b.lt;go_wp2_with fail;refine hFL.mono ?_;clear hFL a0 a1 a2 a3 za;rintro e V5 ⟨l2,i2,XL,xc,hre,rfl,hxl,hb⟩;obtain ⟨k1,k2,k3⟩:=HLK.out (by first | rfl | trivial)
    have hmo : ∀ l l' : List (List UInt8),(∀ s ∈ l,s ∈ l') → 0 ≤ timeT rs ds st gl l → 0 ≤ timeT rs ds st gl l' ∧ timeT rs ds st gl l' ≤ timeT rs ds st gl l:=fun l l' hs h => timeT_mono HR.out hs h
    have hLL : ll = l2 ∧ li = i2:=by
     cases hli : li with
     | false =>
      rw [hli] at k1;rw [learn_none hmo k1.symm] at hre;injection hre with h1 h2;exact ⟨(k2 hli).trans h1,h2⟩
     | true =>
      rw [learn_same HTP.out (k3 hli)] at hre;injection hre with h1 h2;exact ⟨h1,h2⟩
    obtain ⟨rfl,rfl⟩:=hLL
    have hlll : ll.length ≤ 1000000:=by
     cases hli : li with
     | false => rw [k2 hli]; simp
     | true => have:=(learn_is (k3 hli)).1.length_le; omega
    replace hI:=hI.below hb;replace hrl:=hrl.below hb;clear hb hre k1 k2 k3 hmo;have dli : (li == li) = true:=beq_self_eq_true li;rcases HS08.out with hs | hs
    ·subst hs
     have hFO:=slowerOf_any lo ca cd lo c2 A rs D ds st gl TR tr dr V5 hI.m HM.out hI.t (by omega);obtain ⟨a0,a1,a2,a3⟩:=hI.b.fourR;have za:=hI.b.lt;go_wp2_with fail;refine hFO.mono ?_;clear hFO a0 a1 a2 a3 za;rintro e V6 ⟨rfl,hb⟩;obtain ⟨k4,k5⟩:=HVK.out (by first | rfl | trivial);rw [← k4];replace hI:=hI.below hb;replace hrl:=hrl.below hb;replace hxl:=hxl.below hb;clear hb
     have hvv : (if timeT rs (shutL ds dr) st gl tr < 0 then (0 : Int) else timeT rs (shutL ds dr) st gl tr) - (if timeT rs ds st gl tr < 0 then 0 else timeT rs ds st gl tr) = timeT rs (shutL ds dr) st gl tr - timeT rs ds st gl tr ∨ si = false:=by
      cases hsi : si with
      | false => exact .inr rfl
      | true =>
       rw [hsi] at k4
       have h1 : ¬ timeT rs ds st gl tr < 0 ∧ ¬ timeT rs (shutL ds dr) st gl tr < 0:=by
        have:=k4.symm
        simpa using this
       rw [if_neg h1.1,if_neg h1.2]; exact .inl rfl
     generalize (if timeT rs (shutL ds dr) st gl tr < 0 then (0 : Int) else timeT rs (shutL ds dr) st gl tr) - (if timeT rs ds st gl tr < 0 then 0 else timeT rs ds st gl tr) = dv at *
     cases si with
     | false =>
      have k6 : sv = 0:=by rw [k5]; rfl
      subst k6;clear hvv k4 k5;go_wp2_with fail;refine (equalS_any LA XL lc xc 0 0 ll ll _ hrl hxl (by omega) (by omega)).mono ?_;rintro e WE ⟨rfl,q,rfl⟩;rw [decide_eq_true (rfl : ll = ll)];replace hI:=hI.drewN q;generalize World.drewN _ q = WF at *;go_wp2_with fail;refine (routed_any _).mono ?_;rintro e WZ ⟨rfl,hb⟩;replace hI:=hI.below hb;go_wp2_with fail;go_ret;exact ⟨rfl,hI.x⟩
     | true =>
      have k6 : dv = sv:=by rw [k5]; exact (hvv.resolve_right (by simp))
      subst k6;have dvv : (dv == dv) = true:=beq_self_eq_true dv;clear hvv k4 k5;go_wp2_with fail;refine (equalS_any LA XL lc xc 0 0 ll ll _ hrl hxl (by omega) (by omega)).mono ?_;rintro e WE ⟨rfl,q,rfl⟩;rw [decide_eq_true (rfl : ll = ll)];replace hI:=hI.drewN q;generalize World.drewN _ q = WF at *;go_wp2_with fail;refine (routed_any _).mono ?_;rintro e WZ ⟨rfl,hb⟩;replace hI:=hI.below hb;go_wp2_with fail;go_ret;exact ⟨rfl,hI.x⟩
    ·subst hs
     obtain ⟨e5,e6⟩:=HVN.out (by decide);subst e5 e6;go_wp2_with fail;refine (equalS_any LA XL lc xc 0 0 ll ll _ hrl hxl (by omega) (by omega)).mono ?_;rintro e WE ⟨rfl,q,rfl⟩;rw [decide_eq_true (rfl : ll = ll)];replace hI:=hI.drewN q;generalize World.drewN _ q = WF at *;go_wp2_with fail;refine (routed_any _).mono ?_;rintro e WZ ⟨rfl,hb⟩;replace hI:=hI.below hb;go_wp2_with fail;go_ret;exact ⟨rfl,hI.x⟩
   ·subst hl
    obtain ⟨e2,e3⟩:=(HLN.out (by decide))
    subst e2 e3
    have hlll : ([] : List (List UInt8)).length ≤ 1000000:=by simp
    have dli : (false == false) = true:=rfl;rcases HS08.out with hs | hs
    ·subst hs
     have hFO:=slowerOf_any lo ca cd lo c2 A rs D ds st gl TR tr dr W7 hI.m HM.out hI.t (by omega);obtain ⟨a0,a1,a2,a3⟩:=hI.b.fourR;have za:=hI.b.lt;go_wp2_with fail;refine hFO.mono ?_;clear hFO a0 a1 a2 a3 za;rintro e V6 ⟨rfl,hb⟩;obtain ⟨k4,k5⟩:=HVK.out (by first | rfl | trivial);rw [← k4];replace hI:=hI.below hb;replace hrl:=hrl.below hb;clear hb
     have hvv : (if timeT rs (shutL ds dr) st gl tr < 0 then (0 : Int) else timeT rs (shutL ds dr) st gl tr) - (if timeT rs ds st gl tr < 0 then 0 else timeT rs ds st gl tr) = timeT rs (shutL ds dr) st gl tr - timeT rs ds st gl tr ∨ si = false:=by
      cases hsi : si with
      | false => exact .inr rfl
      | true =>
       rw [hsi] at k4
       have h1 : ¬ timeT rs ds st gl tr < 0 ∧ ¬ timeT rs (shutL ds dr) st gl tr < 0:=by
        have:=k4.symm
        simpa using this
       rw [if_neg h1.1,if_neg h1.2]; exact .inl rfl
     generalize (if timeT rs (shutL ds dr) st gl tr < 0 then (0 : Int) else timeT rs (shutL ds dr) st gl tr) - (if timeT rs ds st gl tr < 0 then 0 else timeT rs ds st gl tr) = dv at *
     cases si with
     | false =>
      have k6 : sv = 0:=by rw [k5]; rfl
      subst k6;clear hvv k4 k5;go_wp2_with fail;refine (equalS_any LA none lc 0 0 0 [] [] _ hrl (Row.none_ _ 0 _ _) (by omega) (by omega)).mono ?_;rintro e WE ⟨rfl,q,rfl⟩;rw [decide_eq_true (rfl : [] = [])];replace hI:=hI.drewN q;generalize World.drewN _ q = WF at *;go_wp2_with fail;refine (routed_any _).mono ?_;rintro e WZ ⟨rfl,hb⟩;replace hI:=hI.below hb;go_wp2_with fail;go_ret;exact ⟨rfl,hI.x⟩
     | true =>
      have k6 : dv = sv:=by rw [k5]; exact (hvv.resolve_right (by simp))
      subst k6;have dvv : (dv == dv) = true:=beq_self_eq_true dv;clear hvv k4 k5;go_wp2_with fail;refine (equalS_any LA none lc 0 0 0 [] [] _ hrl (Row.none_ _ 0 _ _) (by omega) (by omega)).mono ?_;rintro e WE ⟨rfl,q,rfl⟩;rw [decide_eq_true (rfl : [] = [])];replace hI:=hI.drewN q;generalize World.drewN _ q = WF at *;go_wp2_with fail;refine (routed_any _).mono ?_;rintro e WZ ⟨rfl,hb⟩;replace hI:=hI.below hb;go_wp2_with fail;go_ret;exact ⟨rfl,hI.x⟩
    ·subst hs
     obtain ⟨e5,e6⟩:=HVN.out (by decide);subst e5 e6;go_wp2_with fail;refine (equalS_any LA none lc 0 0 0 [] [] _ hrl (Row.none_ _ 0 _ _) (by omega) (by omega)).mono ?_;rintro e WE ⟨rfl,q,rfl⟩;rw [decide_eq_true (rfl : [] = [])];replace hI:=hI.drewN q;generalize World.drewN _ q = WF at *;go_wp2_with fail;refine (routed_any _).mono ?_;rintro e WZ ⟨rfl,hb⟩;replace hI:=hI.below hb;go_wp2_with fail;go_ret;exact ⟨rfl,hI.x⟩
 ·have d0 : (te != 0) = true:=bne_iff_ne.2 h0
  have dq : (te == te) = true:=beq_self_eq_true te
  have hlE : lE = te:=by rw [HLE.out,if_pos h0]
  have hsE : sE = te:=by rw [HSE.out,if_pos h0]
  subst hlE hsE;have e1:=HWE.out h0;obtain ⟨e2,e3⟩:=HLN.out h0;have e4:=HSN.out h0;obtain ⟨e5,e6⟩:=HVN.out h0;subst e1 e2 e3 e4 e5 e6;clear hrl hsr;go_wp2_with fail;refine (routed_any _).mono ?_;rintro e WZ ⟨rfl,hb⟩;replace hI:=hI.below hb;go_wp2_with fail;go_ret;exact ⟨rfl,hI.x⟩
end Go.Proofs.YtjggbpchmbdocaaGreatDoor
