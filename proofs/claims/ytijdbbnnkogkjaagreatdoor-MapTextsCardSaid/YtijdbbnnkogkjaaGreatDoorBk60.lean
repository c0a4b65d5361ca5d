/- Texts of this seat, laid together: Hx Tg Np Ny LawMapTexts. -/
import Derived.Handy
import Derived.Test.YtijdbbnnkogkjaaGreatDoorBk20
import Derived.Test.YtijdbbnnkogkjaaGreatDoorBk05
import Derived.Test.YtijdbbnnkogkjaaGreatDoorBk22
import Derived.Test.YtijdbbnnkogkjaaGreatDoorBk21
import Derived.Test.YtijdbbnnkogkjaaGreatDoorBk45
import Derived.Test.YtijdbbnnkogkjaaGreatDoorBk31
import Derived.Test.YtijdbbnnkogkjaaGreatDoorBk56
import Derived.Test.YtijdbbnnkogkjaaGreatDoorBk23
import Derived.Test.YtijdbbnnkogkjaaGreatDoorBk55
/- Plain laws: what is written of a history. -/
namespace Go.Proofs.YtijdbbnnkogkjaaGreatDoor
set_option linter.unusedVariables false
set_option linter.unusedSimpArgs false
open Go.RowKit Go.Sort

end Go.Proofs.YtijdbbnnkogkjaaGreatDoor
/- Plain laws of texts: numbers as words, words as lines, lines as a text. -/
namespace Go.Proofs.YtijdbbnnkogkjaaGreatDoor
set_option linter.unusedVariables false
set_option linter.unusedSimpArgs false
open Go.RowKit Go.Sort

end Go.Proofs.YtijdbbnnkogkjaaGreatDoor
/- Plain laws of drawn maps: they are right, and their text is short. -/
namespace Go.Proofs.YtijdbbnnkogkjaaGreatDoor
set_option linter.unusedVariables false
set_option linter.unusedSimpArgs false
open Go.RowKit Go.Sort

def thingsS : List (List (List UInt8)):=[[],[[103,117,110]],[[107,101,121]],[[109,97,112]],[[103,117,110],[107,101,121]],[[103,117,110],[109,97,112]],[[107,101,121],[109,97,112]],[[103,117,110],[107,101,121],[109,97,112]]]
theorem things_cases {l : List (List UInt8)} (h : l.Sublist thingsL) : l ∈ thingsS:=by
 unfold thingsL at h
 cases h <;> rename_i h <;> cases h <;> rename_i h <;> cases h <;> rename_i h <;> cases h <;> decide
theorem things_right {l : List (List UInt8)} (h : l.Sublist thingsL) : thingsE l = 0 ∧ (comT l).length ≤ 11:=by
 have h1 : ∀ l ∈ thingsS,thingsE l = 0 ∧ (comT l).length ≤ 11:=by decide
 exact h1 l (things_cases h)
theorem rmsT_G {st gl : List UInt8} {rs : List RoomE} (hr : RoomsG rs) (h1 : st.length ≤ 2) (h2 : gl.length ≤ 2) : ∀ k,k ≤ rs.length → k ≤ 5 → (rmsT st gl rs k).length ≤ 10 + k * 20
 | 0,_,_ => by
  show (hdLn st gl).length ≤ _
  unfold hdLn
  rw [List.length_append,join3_len]
  simp only [mapW,List.length_cons,List.length_nil]
  omega
 | k + 1,hk,h5 => by
  rw [rmsT_next (by omega),List.length_append]
  have h3:=rmsT_G hr h1 h2 k (by omega) (by omega)
  obtain ⟨e1,e2⟩:=hr k (by omega)
  have h4:=(things_right e2).2
  have d1 : ∀ j : Fin 5,(names5.getD j.val []).length ≤ 2:=by decide
  have h6:=d1 ⟨k,by omega⟩
  dsimp only at h6
  have h7 : (rmLn rs[k]).length ≤ 20:=by
   unfold rmLn
   rw [List.length_append,join3_len,e1]
   simp only [roomW,List.length_cons,List.length_nil]
   omega
  omega
theorem itoa_le1 {n : Int} (h : 0 ≤ n ∧ n < 10) : (Lib.itoa n).length ≤ 1:=by
 obtain ⟨u,rfl⟩:=Int.eq_ofNat_of_zero_le h.1
 rw [Lib.itoa_nonneg]
 have:=nDigits_leN 1 u (by omega) (by omega)
 rwa [Lib.decDigits_length]
theorem drsT_G {h0 : List UInt8} {n : Nat} {ds : List DoorE} (hd : DoorsG n ds) : ∀ k,k ≤ ds.length → (drsT h0 ds k).length ≤ h0.length + k * 45
 | 0,_ => by show h0.length ≤ _; omega
 | k + 1,hk => by
  rw [drsT_next (by omega),List.length_append]
  have h3:=drsT_G (h0:=h0) hd k (by omega)
  have g:=hd k (by omega)
  have h4:=(things_right g.needs).2
  have h5:=(things_right g.takes).2
  have h6:=names_b g.src
  have h7:=names_b g.dst
  have d1 : ∀ x ∈ ([1,2,3,3,5,9] : List Int),0 ≤ x ∧ x < 10:=by decide
  have h8:=itoa_le1 (d1 _ g.time)
  have d2 : ∀ s ∈ tricksG,(trT s).length ≤ 4:=by decide
  have h9:=d2 _ g.trick
  have h7 : (drLn ds[k]).length ≤ 45:=by
   unfold drLn
   rw [List.length_append,join8_len,g.key]
   simp only [doorW,List.length_cons,List.length_nil]
   omega
  omega
theorem mapT_G {rs : List RoomE} {ds : List DoorE} {st gl : List UInt8} (hr : RoomsG rs) (hd : DoorsG rs.length ds) (h5 : rs.length ≤ 5) (h9 : ds.length ≤ 9) (hst : st ∈ names5.take rs.length) (hgl : gl ∈ names5.take rs.length) : (mapT rs ds st gl).length ≤ 600:=by
 have a:=rmsT_G hr (names_b hst) (names_b hgl) rs.length (Nat.le_refl _) h5
 have b:=drsT_G (h0:=rmsT st gl rs rs.length) hd ds.length (Nat.le_refl _)
 unfold mapT
 omega
end Go.Proofs.YtijdbbnnkogkjaaGreatDoor
/- The walk of the stream's function that draws a text of a map. -/
namespace Go.Proofs.YtijdbbnnkogkjaaGreatDoor
set_option linter.unusedVariables false
set_option linter.unusedSimpArgs false
open Go.RowKit Go.Sort

def MapStrPost (w : World) (g N : Nat) (e : Ending) (w' : World) : Prop:=∃ r : List UInt8,e = .returned (encStr r) ∧ r.length ≤ 700 ∧ Str w' g N ∧ w.grownBy w' (some g)
set_option maxHeartbeats 2000000 in
set_option maxRecDepth 100000 in
theorem mapString_any (g N B : Nat) (w : World) (hs : Str w g N) (hN : N < 4611686018424000000) (hE : EnvB B w) (hB : B ≤ g) :
  Calls Tryz.prog 21 #[.pointer (some ⟨g,0,none⟩)] w (MapStrPost w g (N + 300)):=by
 have hlt:=hs.lt
 have hE:=Lib.hid hE
 go_enter Tryz.func21,Tryz.ntmps21
 go_wp2_with fail
 refine (rightMapG_any g N _ hs (by omega)).mono ?_
 rintro e w1 ⟨A,ca,rs,D,cd,ds,st,gl,rfl,hmo,hrg,hdg,h2,h5,h1,h9,hst,hgl,hs1,hg1⟩
 have hE:=Lib.hid (hE.out.below ((Below.refl B w).grown hg1 (by omega) (fun k hk => by injection hk with hk; omega)))
 have hmw:=Lib.hid (hmo.toW (by omega) (by omega) hrg.b hdg.b)
 have hln:=mapT_G hrg hdg h5 h9 hst hgl
 have hst2:=names_b hst
 have hgl2:=names_b hgl
 clear hs hmo hrg hdg hst hgl
 have hml:=mapLines_any w.heap.size ca cd A rs D ds st gl w1 hmw.out (by omega) (by omega) hE.out.env
 unfold mapV at hml
 simp only [encStr] at hml
 generalize mapT rs ds st gl = T at *
 go_wp2_with fail
 refine hml.mono ?_
 rintro e w2 ⟨rfl,hb⟩
 clear hml
 have hs2:=hs1.keep hb
 have hgr:=grown_trans' hg1 (grown_of_below hb (some g))
 clear hs1 hg1 hb hE hmw
 go_wp2_with fail
 refine (pick_any g _ _ _ _ [0,0,1,2] _ (hs2.alloc _) (by omega) (row_new _ _ _ _ _ _ (Nat.le_refl _) rfl) hs2.lt (by simp) (by simp)).mono ?_
 rintro e w3 ⟨n,rfl,hn,hs3,hg3⟩
 have hgr:=grown_trans' (grown_alloc hgr (.cells #[.int .i64 0,.int .i64 0,.int .i64 1,.int .i64 2] 3)) hg3
 obtain ⟨n,rfl⟩ : ∃ m : Nat,n = (m : Int):=by
  simp only [List.mem_cons,List.not_mem_nil,or_false] at hn
  rcases hn with rfl | rfl | rfl | rfl
  ·exact ⟨0,rfl⟩
  ·exact ⟨0,rfl⟩
  ·exact ⟨1,rfl⟩
  ·exact ⟨2,rfl⟩
 have hn2 : n ≤ 2:=by
  simp only [List.mem_cons,List.not_mem_nil,or_false] at hn
  omega
 clear hs2 hg3 hn
 go_wp2_with fail
 go_loopw [3,10] (fun s i wr => ∃ (k : Nat) (r : List UInt8),k ≤ n ∧ s = encStr r ∧ i = .int .i64 k ∧ r.length ≤ 600 + k * 8 ∧ Str wr g (N + 241 + 3 * k) ∧ w.grownBy wr (some g)) (fun _ i _ => n - (intOf i).toNat)
 case atStart => exact ⟨0,T,Nat.zero_le _,rfl,rfl,by omega,hs3.more (by omega),hgr⟩
 case round =>
  clear hs3 hgr
  obtain ⟨k,r,hk,rfl,rfl,hr,hsr,hgr⟩:=hrel
  by_cases hlt2 : k < n
  ·go_wp2_with fail
   refine (changed_any g _ r [32,10,48,49,114,100,44,45] _ hsr (by omega) (by omega) (by decide) (by decide) (by decide)).mono ?_
   rintro e w4 ⟨q,rfl,hq,hs4,hg4⟩
   have hgr:=grown_trans' hgr hg4
   have hq7 : q.length ≤ r.length + 8:=hq
   clear hsr hg4 hq
   go_wp2_with fail
   go_roundw
   case rel => exact ⟨k + 1,q,by omega,rfl,by go_num,by omega,hs4.more (by omega),hgr⟩
   case measure => simp [intOf]; omega
  ·go_wp2_with fail
   refine (flip_any g _ 30 _ hsr (by omega) (by omega)).mono ?_
   rintro e w5 ⟨r2,rfl,hs5,hg5⟩
   have hgr5:=grown_trans' hgr hg5
   cases r2
   ·go_wp2_with fail
    go_ret
    exact ⟨r,rfl,by omega,hs5.more (by omega),hgr5⟩
   ·go_wp2_with fail
    go_ret
    exact ⟨[],rfl,by simp,hs5.more (by omega),hgr5⟩
end Go.Proofs.YtijdbbnnkogkjaaGreatDoor
/- For every list of numbers the law MapTexts returns true and leaves the list as it was: its walk. -/
namespace Go.Proofs.YtijdbbnnkogkjaaGreatDoor
set_option linter.unusedVariables false
set_option linter.unusedSimpArgs false
open Go.RowKit Go.Sort

theorem comT_B {l : List (List UInt8)} (hl : l.length ≤ 10) (h : ∀ s ∈ l,s.length ≤ 100) : (comT l).length ≤ 1010:=by
 unfold comT
 by_cases h0 : l = []
 ·rw [if_pos h0]; simp
 ·rw [if_neg h0]
  have h1:=join1_len l 44 h
  have h2 : l.length * 100 ≤ 1000:=by omega
  omega
theorem rmsT_B {st gl : List UInt8} {rs : List RoomE} (hr : ∀ r ∈ rs,RoomB r) (h1 : st.length ≤ 100) (h2 : gl.length ≤ 100) : ∀ k,k ≤ rs.length → (rmsT st gl rs k).length ≤ 210 + k * 1120
 | 0,_ => by
  show (hdLn st gl).length ≤ _
  unfold hdLn
  rw [List.length_append,join3_len]
  simp only [mapW,List.length_cons,List.length_nil]
  omega
 | k + 1,hk => by
  rw [rmsT_next (by omega),List.length_append]
  have h3:=rmsT_B hr h1 h2 k (by omega)
  have h4:=hr _ (List.getElem_mem (show k < rs.length by omega))
  have h5:=comT_B h4.g.1 h4.g.2
  have h6:=h4.k
  have h7 : (rmLn rs[k]).length ≤ 1120:=by
   unfold rmLn
   rw [List.length_append,join3_len]
   simp only [roomW,List.length_cons,List.length_nil]
   omega
  omega
theorem drsT_B {h0 : List UInt8} {ds : List DoorE} (hd : ∀ d ∈ ds,DoorB d) : ∀ k,k ≤ ds.length → (drsT h0 ds k).length ≤ h0.length + k * 2500
 | 0,_ => by show h0.length ≤ _; omega
 | k + 1,hk => by
  rw [drsT_next (by omega),List.length_append]
  have h3:=drsT_B (h0:=h0) hd k (by omega)
  have h4:=hd _ (List.getElem_mem (show k < ds.length by omega))
  have h5:=comT_B h4.n.1 h4.n.2
  have h6:=comT_B h4.x.1 h4.x.2
  have h7:=h4.k
  have h8 : I64 (ds[k]).time:=by have:=h4.t; unfold I64; omega
  have h9:=itoa_le20 h8
  have h10 : (trT (ds[k]).trick).length ≤ 100:=by
   unfold trT
   split
   ·simp
   ·exact h7.2.2.2
  have h11 : (drLn ds[k]).length ≤ 2500:=by
   unfold drLn
   rw [List.length_append,join8_len]
   simp only [doorW,List.length_cons,List.length_nil]
   omega
  omega
theorem mapT_B {rs : List RoomE} {ds : List DoorE} {st gl : List UInt8} (hr : ∀ r ∈ rs,RoomB r) (hd : ∀ d ∈ ds,DoorB d) (h5 : rs.length ≤ 5) (h9 : ds.length ≤ 9) (hst : st.length ≤ 100) (hgl : gl.length ≤ 100) : (mapT rs ds st gl).length ≤ 100000:=by
 have a:=rmsT_B hr hst hgl rs.length (Nat.le_refl _)
 have b:=drsT_B (h0:=rmsT st gl rs rs.length) hd ds.length (Nat.le_refl _)
 unfold mapT
 omega
structure MtI (w W : World) (lo mb N : Nat) (A : Option Addr) (ca : Nat) (rs : List RoomE) (D : Option Addr) (cd : Nat) (ds : List DoorE) (st gl : List UInt8) : Prop where
  m : MapW W lo A rs D ds
  b : Blk W mb 29 #[.slice A rs.length ca, .slice D ds.length cd, .string ⟨st.toArray⟩, .string ⟨gl.toArray⟩]
  s : Str W w.heap.size N
  x : Below w.heap.size w W
theorem MtI.below {w W W' : World} {lo mb N : Nat} {A : Option Addr} {ca : Nat} {rs : List RoomE} {D : Option Addr} {cd : Nat} {ds : List DoorE} {st gl : List UInt8} (h : MtI w W lo mb N A ca rs D cd ds st gl) (hb : Below W.heap.size W W') : MtI w W' lo mb N A ca rs D cd ds st gl :=
 ⟨h.m.below hb,h.b.below hb,h.s.keep hb,below_up h.x hb⟩
set_option maxHeartbeats 8000000 in
set_option maxRecDepth 100000 in
theorem mapT_walk (A0 : Option Addr) (n c : Nat) (w : World) (hn : n ≤ 9223372036854775807)
  (hz : ∀ k,k < n → ∃ b off z,A0 = some ⟨b,off,none⟩ ∧ b < w.heap.size ∧ w.cell? ⟨b,off + k,none⟩ = some (.int .i64 z) ∧ I64 z) (hE : Env w) :
  LawCall 4 A0 n c w:=by
 have hstr:=str_make (c:=c) hn hz
 clear hz
 have hx : Below w.heap.size w (w.alloc (.cells #[.slice A0 n c,.int .i64 0] 25)):=(Below.refl _ _).alloc (Nat.le_refl _) _
 have hz0 : (w.alloc (.cells #[.slice A0 n c,.int .i64 0] 25)).heap.size = w.heap.size + 1:=by simp
 have HEB:=Lib.hid (EnvB.of hE)
 clear hE
 go_enter Tryz.func4,Tryz.ntmps4
 go_wp2_with fail
 generalize w.alloc (.cells #[.slice A0 n c,.int .i64 0] 25) = w0 at *
 clear hn
 refine (mapOf_any w.heap.size 0 w0 hstr (by omega)).mono ?_
 clear hstr
 rintro e w1 ⟨A,ca,rs,D,cd,ds,st,gl,rfl,hmo,hRB,hDB,hr1,hr5,hd1,hd9,hst,hgl,hs1,hg1⟩
 have hz1:=hg1.size
 have hmw:=hmo.toW (by omega) (by omega) hRB hDB
 have hTL:=mapT_B hRB hDB hr5 hd9 hst hgl
 have hI : MtI w (w1.alloc (.cells #[.slice A rs.length ca,.slice D ds.length cd,.string ⟨st.toArray⟩,.string ⟨gl.toArray⟩] 29)) w0.heap.size w1.heap.size (0 + 300) A ca rs D cd ds st gl :=
  ⟨hmw.alloc _,Blk.new _ _ _,hs1.alloc _,(hx.grown hg1 (by omega) (fun k hk => by injection hk with hk; omega)).alloc (by omega) _⟩
 clear hx hmo hmw hRB hDB hs1 hg1
 have hll : w.heap.size < w0.heap.size:=by omega
 have hmm : w.heap.size < w1.heap.size:=by omega
 clear hz0 hz1
 go_upto_region 3 with (fail)
 generalize w1.alloc (.cells #[.slice A rs.length ca,.slice D ds.length cd,.string ⟨st.toArray⟩,.string ⟨gl.toArray⟩] 29) = w2 at *
 generalize w1.heap.size = mb at *
 generalize w0.heap.size = lo at *
 have HT:=mText_any lo ca cd A rs D ds st gl w2 hI.m (by omega) (by omega) (HEB.out _ hI.x)
 obtain ⟨me,hme⟩ : ∃ me,me = mapE rs ds st gl:=⟨_,rfl⟩
 obtain ⟨T,hT⟩ : ∃ T,T = mapT rs ds st gl:=⟨_,rfl⟩
 have HME:=Lib.hid hme
 have HTT:=Lib.hid hT
 rw [← hT] at hTL
 have HV0 : Hid (me = 0 → mtV rs ds st gl = .tuple #[encStr T,.int .i64 0]):=Lib.hid (fun h0 => mtV_ok hme h0 hT (by omega))
 have HV1 : Hid (me ≠ 0 → mtV rs ds st gl = .tuple #[.string ⟨#[]⟩,.int .i64 me]):=Lib.hid (fun h0 => mtV_bad hme h0)
 clear hme hT
 unfold mapV at HT
 simp only [encStr] at HT
 obtain ⟨a0,a1,a2,a3⟩:=hI.b.cells4
 have za:=hI.b.lt
 by_cases h0 : me = 0
 ·rw [HV0.out h0] at HT
  simp only [encStr] at HT
  have HM0 : Hid (mapE rs ds st gl = 0):=Lib.hid (by rw [← HME.out]; exact h0)
  clear HV0 HV1 HME h0
  go_wp2_with fail
  refine HT.mono ?_
  clear HT
  rintro e w3 ⟨rfl,hb⟩
  replace hI:=hI.below hb
  clear hb a0 a1 a2 a3 za
  obtain ⟨a0,a1,a2,a3⟩:=hI.b.cells4
  have za:=hI.b.lt
  have hf:=mapFault_any lo ca cd A rs D ds st gl w3 hI.m
  unfold mapV at hf
  simp only [encStr] at hf
  rw [HM0.out] at hf
  go_wp2_with fail
  refine hf.mono ?_
  clear hf
  rintro e w4 ⟨rfl,hb⟩
  replace hI:=hI.below hb
  clear hb a0 a1 a2 a3 za
  obtain ⟨a0,a1,a2,a3⟩:=hI.b.cells4
  have za:=hI.b.lt
  have hf:=mapLines_any lo ca cd A rs D ds st gl w4 hI.m (by omega) (by omega) (HEB.out _ hI.x)
  unfold mapV at hf
  rw [← HTT.out] at hf
  simp only [encStr] at hf
  go_wp2_with fail
  refine hf.mono ?_
  clear hf
  rintro e w5 ⟨rfl,hb⟩
  replace hI:=hI.below hb
  have hx:=hI.x
  have hs:=hI.s
  clear hb a0 a1 a2 a3 za hI
  have eT : (T == T) = true:=by simp
  go_wp2_with fail
  refine (mapString_any w.heap.size _ w.heap.size _ hs (by omega) (HEB.out.below hx) (Nat.le_refl _)).mono ?_
  rintro e w7 ⟨r,rfl,hr,hs2,hg2⟩
  replace hx:=hx.grown hg2 hx.size (fun k hk => by injection hk with hk; omega)
  clear hs hg2 hs2
  go_wp2_with fail
  refine (mRead_any r _ (by omega) (HEB.out _ hx)).mono ?_
  rintro e w8 ⟨A1,c1,rs1,D1,k1,ds1,st1,gl1,i1,er1,rfl,hv1,hm1,hst1,hgl1,hb⟩
  replace hx:=below_up hx hb
  have hbx1 : Blk (w8.alloc (.cells #[.slice A1 rs1.length c1,.slice D1 ds1.length k1,.string ⟨st1.toArray⟩,.string ⟨gl1.toArray⟩] 29)) w8.heap.size 29 #[.slice A1 rs1.length c1,.slice D1 ds1.length k1,.string ⟨st1.toArray⟩,.string ⟨gl1.toArray⟩]:=Blk.new _ _ _
  replace hm1:=hm1.alloc (.cells #[.slice A1 rs1.length c1,.slice D1 ds1.length k1,.string ⟨st1.toArray⟩,.string ⟨gl1.toArray⟩] 29)
  replace hx:=hx.alloc hx.size (.cells #[.slice A1 rs1.length c1,.slice D1 ds1.length k1,.string ⟨st1.toArray⟩,.string ⟨gl1.toArray⟩] 29)
  clear hb
  go_upto_region 9 with (fail)
  generalize w8.alloc (.cells #[.slice A1 rs1.length c1,.slice D1 ds1.length k1,.string ⟨st1.toArray⟩,.string ⟨gl1.toArray⟩] 29) = w9 at *
  generalize w8.heap.size = m1 at *
  generalize w7.heap.size = l1 at *
  go_wp2_with fail
  refine (mapRead_any r _ (by omega) (HEB.out _ hx)).mono ?_
  rintro e w10 ⟨A2,c2,rs2,D2,k2,ds2,st2,gl2,i2,er2,rfl,hv2,hm2,hst2,hgl2,hb⟩
  obtain ⟨rfl,rfl,e3,e4,rfl,rfl⟩:=same_readM hv1 hv2
  replace hx:=below_up hx hb
  replace hm1:=hm1.below hb
  replace hbx1:=hbx1.below hb
  have hbx2 : Blk (w10.alloc (.cells #[.slice A2 rs2.length c2,.slice D2 ds2.length k2,.string ⟨st2.toArray⟩,.string ⟨gl2.toArray⟩] 29)) w10.heap.size 29 #[.slice A2 rs2.length c2,.slice D2 ds2.length k2,.string ⟨st2.toArray⟩,.string ⟨gl2.toArray⟩]:=Blk.new _ _ _
  replace hbx1:=hbx1.alloc (.cells #[.slice A2 rs2.length c2,.slice D2 ds2.length k2,.string ⟨st2.toArray⟩,.string ⟨gl2.toArray⟩] 29)
  replace hm1:=hm1.alloc (.cells #[.slice A2 rs2.length c2,.slice D2 ds2.length k2,.string ⟨st2.toArray⟩,.string ⟨gl2.toArray⟩] 29)
  replace hm2:=hm2.alloc (.cells #[.slice A2 rs2.length c2,.slice D2 ds2.length k2,.string ⟨st2.toArray⟩,.string ⟨gl2.toArray⟩] 29)
  replace hx:=hx.alloc hx.size (.cells #[.slice A2 rs2.length c2,.slice D2 ds2.length k2,.string ⟨st2.toArray⟩,.string ⟨gl2.toArray⟩] 29)
  clear hb hv1 hv2
  have HSM:=Lib.hid (sameMap_yes A1 A2 D1 D2 c1 c2 k1 k2 l1 w9.heap.size rs1 rs2 ds1 ds2 st2 gl2 _ hm1 hm2 e3 e4)
  clear e3 e4 hm1 hm2
  go_upto_region 10 with (fail)
  generalize w10.alloc (.cells #[.slice A2 rs2.length c2,.slice D2 ds2.length k2,.string ⟨st2.toArray⟩,.string ⟨gl2.toArray⟩] 29) = w11 at *
  generalize w10.heap.size = m2 at *
  obtain ⟨a0,a1,a2,a3⟩:=hbx1.cells4
  obtain ⟨b0,b1,b2,b3⟩:=hbx2.cells4
  have z1:=hbx1.lt
  have z2:=hbx2.lt
  have d8 : (er2 == er2) = true:=by simp
  have d9 : (i2 == i2) = true:=by simp
  clear hbx1 hbx2
  go_wp2_with fail
  refine HSM.out.mono ?_
  clear HSM
  rintro e w12 ⟨rfl,hb⟩
  replace hx:=below_up hx hb
  go_wp2_with fail
  refine (routed_any _).mono ?_
  rintro e w13 ⟨rfl,hb⟩
  go_wp2_with fail
  go_ret
  exact ⟨rfl,below_up hx hb⟩
 ·rw [HV1.out h0] at HT
  have HM0 : Hid (mapE rs ds st gl = me):=Lib.hid HME.out.symm
  have d0 : (me == 0) = false:=by simpa using h0
  have d1 : (me != 0) = true:=by simpa using h0
  have d2 : (me != me) = false:=by simp
  clear HV0 HV1 HME h0
  go_wp2_with fail
  refine HT.mono ?_
  clear HT
  rintro e w3 ⟨rfl,hb⟩
  replace hI:=hI.below hb
  clear hb a0 a1 a2 a3 za
  obtain ⟨a0,a1,a2,a3⟩:=hI.b.cells4
  have za:=hI.b.lt
  have hf:=mapFault_any lo ca cd A rs D ds st gl w3 hI.m
  unfold mapV at hf
  simp only [encStr] at hf
  rw [HM0.out] at hf
  go_wp2_with fail
  refine hf.mono ?_
  clear hf
  rintro e w5 ⟨rfl,hb⟩
  replace hI:=hI.below hb
  have hx:=hI.x
  have hs:=hI.s
  clear hb a0 a1 a2 a3 za hI
  go_wp2_with fail
  refine (mapString_any w.heap.size _ w.heap.size _ hs (by omega) (HEB.out.below hx) (Nat.le_refl _)).mono ?_
  rintro e w7 ⟨r,rfl,hr,hs2,hg2⟩
  replace hx:=hx.grown hg2 hx.size (fun k hk => by injection hk with hk; omega)
  clear hs hg2 hs2
  go_wp2_with fail
  refine (mRead_any r _ (by omega) (HEB.out _ hx)).mono ?_
  rintro e w8 ⟨A1,c1,rs1,D1,k1,ds1,st1,gl1,i1,er1,rfl,hv1,hm1,hst1,hgl1,hb⟩
  replace hx:=below_up hx hb
  have hbx1 : Blk (w8.alloc (.cells #[.slice A1 rs1.length c1,.slice D1 ds1.length k1,.string ⟨st1.toArray⟩,.string ⟨gl1.toArray⟩] 29)) w8.heap.size 29 #[.slice A1 rs1.length c1,.slice D1 ds1.length k1,.string ⟨st1.toArray⟩,.string ⟨gl1.toArray⟩]:=Blk.new _ _ _
  replace hm1:=hm1.alloc (.cells #[.slice A1 rs1.length c1,.slice D1 ds1.length k1,.string ⟨st1.toArray⟩,.string ⟨gl1.toArray⟩] 29)
  replace hx:=hx.alloc hx.size (.cells #[.slice A1 rs1.length c1,.slice D1 ds1.length k1,.string ⟨st1.toArray⟩,.string ⟨gl1.toArray⟩] 29)
  clear hb
  go_upto_region 9 with (fail)
  generalize w8.alloc (.cells #[.slice A1 rs1.length c1,.slice D1 ds1.length k1,.string ⟨st1.toArray⟩,.string ⟨gl1.toArray⟩] 29) = w9 at *
  generalize w8.heap.size = m1 at *
  generalize w7.heap.size = l1 at *
  go_wp2_with fail
  refine (mapRead_any r _ (by omega) (HEB.out _ hx)).mono ?_
  rintro e w10 ⟨A2,c2,rs2,D2,k2,ds2,st2,gl2,i2,er2,rfl,hv2,hm2,hst2,hgl2,hb⟩
  obtain ⟨rfl,rfl,e3,e4,rfl,rfl⟩:=same_readM hv1 hv2
  replace hx:=below_up hx hb
  replace hm1:=hm1.below hb
  replace hbx1:=hbx1.below hb
  have hbx2 : Blk (w10.alloc (.cells #[.slice A2 rs2.length c2,.slice D2 ds2.length k2,.string ⟨st2.toArray⟩,.string ⟨gl2.toArray⟩] 29)) w10.heap.size 29 #[.slice A2 rs2.length c2,.slice D2 ds2.length k2,.string ⟨st2.toArray⟩,.string ⟨gl2.toArray⟩]:=Blk.new _ _ _
  replace hbx1:=hbx1.alloc (.cells #[.slice A2 rs2.length c2,.slice D2 ds2.length k2,.string ⟨st2.toArray⟩,.string ⟨gl2.toArray⟩] 29)
  replace hm1:=hm1.alloc (.cells #[.slice A2 rs2.length c2,.slice D2 ds2.length k2,.string ⟨st2.toArray⟩,.string ⟨gl2.toArray⟩] 29)
  replace hm2:=hm2.alloc (.cells #[.slice A2 rs2.length c2,.slice D2 ds2.length k2,.string ⟨st2.toArray⟩,.string ⟨gl2.toArray⟩] 29)
  replace hx:=hx.alloc hx.size (.cells #[.slice A2 rs2.length c2,.slice D2 ds2.length k2,.string ⟨st2.toArray⟩,.string ⟨gl2.toArray⟩] 29)
  clear hb hv1 hv2
  have HSM:=Lib.hid (sameMap_yes A1 A2 D1 D2 c1 c2 k1 k2 l1 w9.heap.size rs1 rs2 ds1 ds2 st2 gl2 _ hm1 hm2 e3 e4)
  clear e3 e4 hm1 hm2
  go_upto_region 10 with (fail)
  generalize w10.alloc (.cells #[.slice A2 rs2.length c2,.slice D2 ds2.length k2,.string ⟨st2.toArray⟩,.string ⟨gl2.toArray⟩] 29) = w11 at *
  generalize w10.heap.size = m2 at *
  obtain ⟨a0,a1,a2,a3⟩:=hbx1.cells4
  obtain ⟨b0,b1,b2,b3⟩:=hbx2.cells4
  have z1:=hbx1.lt
  have z2:=hbx2.lt
  have d8 : (er2 == er2) = true:=by simp
  have d9 : (i2 == i2) = true:=by simp
  clear hbx1 hbx2
  go_wp2_with fail
  refine HSM.out.mono ?_
  clear HSM
  rintro e w12 ⟨rfl,hb⟩
  replace hx:=below_up hx hb
  go_wp2_with fail
  refine (routed_any _).mono ?_
  rintro e w13 ⟨rfl,hb⟩
  go_wp2_with fail
  go_ret
  exact ⟨rfl,below_up hx hb⟩
end Go.Proofs.YtijdbbnnkogkjaaGreatDoor
