/- Texts of this seat, laid together: Eo. -/
import Derived.Test.YtapjahbflhingaaGreatDoorBu11
import Derived.Test.YtapjahbflhingaaGreatDoorBu12
/- The walk of the stream's function that draws a history: what it hands out, as a function of the numbers. -/
namespace Go.Proofs.YtapjahbflhingaaGreatDoor
set_option linter.unusedVariables false
set_option linter.unusedSimpArgs false
open Go.RowKit Go.Sort
variable {sB : Nat}

theorem range_exx (g k : Nat) (L : List Int) (lo hi : Int) (w : World) (hs : StrE w g sB L k) (hN : k < 4611686018427387904) (h0 : -1000000000000 ≤ lo) (h1 : hi ≤ 1000000000000) (hlh : lo ≤ hi) :
  Calls Tryz.prog 23 #[.pointer (some ⟨g,0,none⟩),.int .i64 lo,.int .i64 hi] w fun e w' => ∃ r : Int,e = .returned (.int .i64 r) ∧ lo ≤ r ∧ r ≤ hi ∧ (StrE w' g sB L (k + 1) ∧ Hid (rg L k lo hi = r)) ∧ w.grownBy w' (some g) :=
 (range_ex g k L lo hi w hs hN h0 h1 hlh).mono fun _ _ ⟨h,hs',hg⟩ => ⟨_,h,(rg_bd L k h0 h1 hlh).1,(rg_bd L k h0 h1 hlh).2,⟨hs',Lib.hid rfl⟩,hg⟩
theorem next_exx (g k : Nat) (L : List Int) (m : Int) (w : World) (hs : StrE w g sB L k) (hN : k < 4611686018427387904) (hm : m ≤ 9223372036854775807) :
  Calls Tryz.prog 40 #[.pointer (some ⟨g,0,none⟩),.int .i64 m] w fun e w' => ∃ r : Int,e = .returned (.int .i64 r) ∧ 0 ≤ r ∧ (1 ≤ m → r < m) ∧ r ≤ 9223372036854775807 ∧ (StrE w' g sB L (k + 1) ∧ Hid (nx L k m = r)) ∧ w.grownBy w' (some g) :=
 (next_ex g k L m w hs hN hm).mono fun _ _ ⟨h,hs',hg⟩ => ⟨_,h,(nx_bd L k m hm).1,(nx_bd L k m hm).2.1,(nx_bd L k m hm).2.2,⟨hs',Lib.hid rfl⟩,hg⟩
theorem flip_exx (g k : Nat) (L : List Int) (m : Int) (w : World) (hs : StrE w g sB L k) (hN : k < 4611686018427387904) (hm : m ≤ 9223372036854775807) :
  Calls Tryz.prog 37 #[.pointer (some ⟨g,0,none⟩),.int .i64 m] w fun e w' => ∃ r : Bool,e = .returned (.bool r) ∧ (StrE w' g sB L (k + 1) ∧ Hid (decide (nx L k m = 0) = r)) ∧ w.grownBy w' (some g) :=
 (flip_ex g k L m w hs hN hm).mono fun _ _ ⟨h,hs',hg⟩ => ⟨_,h,⟨hs',Lib.hid rfl⟩,hg⟩
theorem pick_exx (g k lo : Nat) (L : List Int) (A : Option Addr) (c : Nat) (zs : List Int) (w : World) (hs : StrE w g sB L k) (hN : k < 4611686018427387904) (hr : Row w lo 1 A zs.length (ints zs)) (hlo : g < lo) (hz : 0 < zs.length) (hz' : zs.length ≤ 1000000) :
  Calls Tryz.prog 8 #[.pointer (some ⟨g,0,none⟩),.slice A zs.length c] w fun e w' => ∃ r : Int,e = .returned (.int .i64 r) ∧ r ∈ zs ∧ (StrE w' g sB L (k + 1) ∧ Hid (pk L k zs = r)) ∧ w.grownBy w' (some g) :=
 (pick_ex g k lo L A c zs w hs hN hr hlo hz hz').mono fun _ _ ⟨h,hs',hg⟩ => ⟨_,h,pk_mem L k hz hz',⟨hs',Lib.hid rfl⟩,hg⟩
def sk (L : List Int) (k : Nat) (ss : List (List UInt8)) : List UInt8:=ss.getD (nx L k ss.length).toNat []
theorem some_exx (g k lo : Nat) (L : List Int) (A : Option Addr) (c : Nat) (ss : List (List UInt8)) (w : World) (hs : StrE w g sB L k) (hN : k < 4611686018427387904) (hr : Row w lo 1 A ss.length (strs ss)) (hlo : g < lo) (hz : 0 < ss.length) (hz' : ss.length ≤ 1000000) :
  Calls Tryz.prog 39 #[.pointer (some ⟨g,0,none⟩),.slice A ss.length c] w fun e w' => ∃ r : List UInt8,e = .returned (encStr r) ∧ r ∈ ss ∧ (StrE w' g sB L (k + 1) ∧ Hid (sk L k ss = r)) ∧ w.grownBy w' (some g):=by
 go_enter Tryz.func39,Tryz.ntmps39
 go_wp2_with fail
 refine (next_ex g k L _ _ hs hN (by omega)).mono ?_
 rintro e w' ⟨rfl,hs',hg⟩
 obtain ⟨h2,h3,h4⟩:=nx_bd L k ss.length (by omega)
 have h5:=h3 (by omega)
 have HP : Hid (sk L k ss = ss.getD (nx L k ss.length).toNat []):=Lib.hid rfl
 generalize nx L k ss.length = r at *
 obtain ⟨j,rfl⟩:=Int.eq_ofNat_of_zero_le h2
 have hk : j < ss.length:=by omega
 obtain ⟨b,off,rfl,hlb,hb,hc⟩:=(hr.grown hg hlo).str_at hk
 have HQ : Hid (sk L k ss = ss[j]):=Lib.hid (by rw [HP.out,Int.toNat_natCast,List.getD_eq_getElem?_getD,List.getElem?_eq_getElem hk]; rfl)
 clear h3
 go_wp2_with fail
 go_ret
 exact ⟨_,rfl,List.getElem_mem _,⟨hs',HQ⟩,hg⟩
theorem tried_exx (g k many : Nat) (L : List Int) (w : World) (hs : StrE w g sB L k) (hN : k < 4611686018427000000) (hm : many ≤ 1000) :
  Calls Tryz.prog 36 #[.pointer (some ⟨g,0,none⟩),.int .i64 many] w fun e w' => ∃ (A : Option Addr) (c : Nat) (l : List Int),e = .returned (.slice A l.length c) ∧ w'.ownsRow w.heap.size 3 1 (.slice A l.length c) l.length (ints l) ∧ l.length ≤ many ∧ (∃ k',StrE w' g sB L k' ∧ k' ≤ k + 10 + 2 * many ∧ Hid (trF L k many = (l,k'))) ∧ w.grownBy w' (some g) :=
 (tried_ex g k many L w hs hN hm).mono fun _ _ ⟨A,c,h,ho,hs',hg⟩ => ⟨A,c,_,h,ho,(trF_bd L k hm).1,⟨_,hs',(trF_bd L k hm).2.1,Lib.hid rfl⟩,hg⟩

def hsL (L : List Int) (n K : Nat) : Nat → Int × List Att × Nat
 | 0 => (0,[],K)
 | j + 1 => ((hsL L n K j).1 + pk L (hsL L n K j).2.2 [1,1,1,3],(hsL L n K j).2.1 ++ [((hsL L n K j).1 + pk L (hsL L n K j).2.2 [1,1,1,3],(trF L ((hsL L n K j).2.2 + 1) n).1)],(trF L ((hsL L n K j).2.2 + 1) n).2)
def hsSeg (L : List Int) (ss : List (List UInt8)) (n K : Nat) : List (List UInt8) × Nat :=
 if nx L K 15 = 0 then (ss.set (nx L (K + 1) n).toNat (sk L (K + 2) odd4),K + 3) else (ss,K + 1)
def hsNo (L : List Int) (atts : List Att) (m K : Nat) : List Att × Nat :=
 if m = 0 then (atts,K) else if nx L K 20 = 0 then (atts.set (nx L (K + 1) m).toNat (pk L (K + 2) [(atts.getD (nx L (K + 1) m).toNat (0,[])).1,0,1,1000001],(atts.getD (nx L (K + 1) m).toNat (0,[])).2),K + 3) else (atts,K + 1)
def hsF (L : List Int) (k : Nat) : List (List UInt8) × List Att × Nat :=
 let n:=(rg L k 1 4).toNat
 let st:=hsL L n (k + 2) (rg L (k + 1) 0 7).toNat
 let sg:=hsSeg L (lits.take n) n st.2.2
 let an:=hsNo L st.2.1 st.2.1.length sg.2
 (sg.1,an.1,an.2)
theorem hsF_eq {L : List Int} {k n M : Nat} {no : Int} {atts atts' : List Att} {K K3 K4 : Nat} {ss : List (List UInt8)} (h1 : rg L k 1 4 = (n : Int)) (h2 : rg L (k + 1) 0 7 = (M : Int)) (h3 : hsL L n (k + 2) M = (no,atts,K)) (h4 : hsSeg L (lits.take n) n K = (ss,K3)) (h5 : hsNo L atts atts.length K3 = (atts',K4)) : hsF L k = (ss,atts',K4):=by
 unfold hsF
 simp only [h1,h2,Int.toNat_natCast,h3,h4,h5]
def HistoryE (w : World) (g sB : Nat) (L : List Int) (k : Nat) (e : Ending) (w' : World) : Prop :=
 ∃ (SA TA : Option Addr) (c d : Nat) (segs : List (List UInt8)) (atts : List Att),e = .returned (.agg #[.slice SA segs.length c,.slice TA atts.length d]) ∧ Hist w' w.heap.size SA TA segs atts ∧ segs.length ≤ c ∧ 1 ≤ segs.length ∧ segs.length ≤ 4 ∧ atts.length ≤ 7 ∧ (∀ i (h : i < atts.length),atts[i].2.length ≤ 4) ∧ (∀ s ∈ segs,s.length ≤ 2) ∧ (∃ k',StrE w' g sB L k' ∧ k' ≤ k + 300 ∧ Hid (hsF L k = (segs,atts,k'))) ∧ w.grownBy w' (some g)
theorem HW.cellB {w wr : World} {g hb : Nat} {SA : Option Addr} {sc : Nat} {ss : List (List UInt8)} {n : Nat} {atts : List Att} {A : Option Addr} {m c : Nat} {cs : List Value} (h : HW w wr g hb SA sc ss n atts A m c cs) {j : Nat} (hj : j < m) (hja : j < atts.length) : ∃ ab,A = some ⟨ab,0,none⟩ ∧ ab < wr.heap.size ∧ w.heap.size ≤ ab ∧ wr.cell? ⟨ab,j * 2,none⟩ = some (.int .i64 atts[j].1) ∧ wr.frozen? ⟨ab,j * 2,none⟩ = false:=by
 obtain ⟨ab,e,h1,h2,hcb,hfb⟩:=ownBlk h.own (by omega)
 obtain ⟨B,cB,a,_,_⟩:=h.att.2 j hja
 exact ⟨ab,e,h2,h1,hcb _ _ a,hfb _⟩
set_option maxHeartbeats 8000000 in
set_option maxRecDepth 100000 in
theorem history_ex (g k0 : Nat) (L : List Int) (w : World) (hs : StrE w g sB L k0) (hN : k0 < 4611686018426000000) :
  Calls Tryz.prog 7 #[.pointer (some ⟨g,0,none⟩)] w (HistoryE w g sB L k0):=by
 have hlt:=hs.lt
 go_enter Tryz.func7,Tryz.ntmps7
 go_wp2_with fail
 have hs0:=(hs.alloc (.cells #[.slice none 0 0,.slice none 0 0] 29)).alloc (.cells #[.string ⟨#[97,97]⟩,.string ⟨#[98,98]⟩,.string ⟨#[99,99]⟩,.string ⟨#[100,100]⟩] 9)
 have hb1 : Below w.heap.size w ((w.alloc (.cells #[.slice none 0 0,.slice none 0 0] 29)).alloc (.cells #[.string ⟨#[97,97]⟩,.string ⟨#[98,98]⟩,.string ⟨#[99,99]⟩,.string ⟨#[100,100]⟩] 9)):=((Below.refl _ _).alloc (Nat.le_refl _) _).alloc (by simp) _
 have hres : Blk ((w.alloc (.cells #[.slice none 0 0,.slice none 0 0] 29)).alloc (.cells #[.string ⟨#[97,97]⟩,.string ⟨#[98,98]⟩,.string ⟨#[99,99]⟩,.string ⟨#[100,100]⟩] 9)) w.heap.size 29 #[.slice none 0 0,.slice none 0 0]:=(Blk.new _ _ _).alloc _
 have hlit : Blk ((w.alloc (.cells #[.slice none 0 0,.slice none 0 0] 29)).alloc (.cells #[.string ⟨#[97,97]⟩,.string ⟨#[98,98]⟩,.string ⟨#[99,99]⟩,.string ⟨#[100,100]⟩] 9)) (w.heap.size + 1) 9 #[.string ⟨#[97,97]⟩,.string ⟨#[98,98]⟩,.string ⟨#[99,99]⟩,.string ⟨#[100,100]⟩]:=by
  have:=Blk.new (w.alloc (.cells #[.slice none 0 0,.slice none 0 0] 29)) 9 #[.string ⟨#[97,97]⟩,.string ⟨#[98,98]⟩,.string ⟨#[99,99]⟩,.string ⟨#[100,100]⟩]
  simpa using this
 generalize (w.alloc (.cells #[.slice none 0 0,.slice none 0 0] 29)).alloc (.cells #[.string ⟨#[97,97]⟩,.string ⟨#[98,98]⟩,.string ⟨#[99,99]⟩,.string ⟨#[100,100]⟩] 9) = w0 at *
 refine (range_exx g k0 L _ _ _ hs0 (by omega) (by omega) (by omega) (by omega)).mono ?_
 rintro e w1 ⟨r,rfl,h0,h6,⟨hs1,HRN⟩,hg1⟩
 obtain ⟨n,rfl⟩:=Int.eq_ofNat_of_zero_le (show 0 ≤ r by omega)
 have hn1 : 1 ≤ n:=by omega
 have hn4 : n ≤ 4:=by omega
 have hres1:=hres.stream hg1 hlt
 have hlit1:=hlit.stream hg1 (by omega)
 have hgr1:=grown_trans' (grown_of_below hb1 (some g)) hg1
 have hz1:=hlit1.lt
 clear hs hs0 hres hlit hb1 hg1 h0 h6
 have d4 : (n : Int) ≤ 4:=by omega
 go_wp2_with fail
 have hs2:=hs1.alloc (.cells #[.slice (some ⟨w.heap.size + 1,0,none⟩) n 4,.slice none 0 0] 29)
 have hbox : Blk (w1.alloc (.cells #[.slice (some ⟨w.heap.size + 1,0,none⟩) n 4,.slice none 0 0] 29)) w1.heap.size 29 #[.slice (some ⟨w.heap.size + 1,0,none⟩) n 4,.slice none 0 0]:=Blk.new _ _ _
 have hwS:=HW.start hbox (hres1.alloc _) (hlit1.alloc _) hn4 (grown_alloc hgr1 _) hlt (by omega)
 generalize w1.alloc (.cells #[.slice (some ⟨w.heap.size + 1,0,none⟩) n 4,.slice none 0 0] 29) = w2 at *
 generalize w1.heap.size = hb at *
 clear hbox hres1 hlit1 hgr1 hs1
 have hssl : ∀ s ∈ lits.take n,s.length ≤ 2:=fun s hs => by
  have : ∀ s ∈ lits,s.length ≤ 2:=by decide
  exact this s (List.mem_of_mem_take hs)
 have HLT : Hid (lits.take n = lits.take n):=Lib.hid rfl
 generalize hss9 : lits.take n = ss at *
 have HSS9:=Lib.hid hss9
 clear hss9 HLT
 generalize (some ⟨w.heap.size + 1,0,none⟩ : Option Addr) = SA at *
 have hnsc : n ≤ 4:=hn4
 go_wp2_with fail
 refine (range_exx g _ L _ _ _ hs2 (by omega) (by omega) (by omega) (by omega)).mono ?_
 rintro e w3 ⟨r,rfl,h0,h7,⟨hsq,HRM⟩,hg3⟩
 obtain ⟨M,rfl⟩:=Int.eq_ofNat_of_zero_le h0
 have hw:=hwS.stream hg3
 clear hwS hs2 hg3
 go_wp2_with fail
 go_loopw [4,13] (fun nv i wr => ∃ (k : Nat) (no : Int) (atts : List Att) (A : Option Addr) (c m : Nat) (cs : List Value),k ≤ M ∧ i = .int .i64 k ∧ nv = .int .i64 no ∧ 0 ≤ no ∧ no ≤ 3 * k ∧ m ≤ k ∧ HW w wr g hb SA 4 ss n atts A m c cs ∧ (∃ kk,StrE wr g sB L kk ∧ kk ≤ k0 + 2 + 20 * k ∧ Hid (hsL L n (k0 + 2) k = (no,atts,kk)))) (fun _ i _ => M - (intOf i).toNat)
 case atStart => exact ⟨0,0,[],none,0,0,[],by omega,rfl,rfl,by omega,by omega,by omega,hw,⟨k0 + 2,hsq,by omega,Lib.hid rfl⟩⟩
 case round =>
  clear hw hsq
  obtain ⟨k,no0,atts,A,c,m,cs,hk,rfl,rfl,t0,t1,hmk,hw,kk,hsq,hkk,HK⟩:=hrel
  by_cases hkm : k < M
  ·go_wp2_with fail
   refine (pick_exx g _ _ L _ _ [1,1,1,3] _ (hsq.alloc _) (by omega) (row_new _ _ _ _ _ _ (Nat.le_refl _) rfl) hsq.lt (by simp) (by simp)).mono ?_
   rintro e w4 ⟨r4,rfl,hr4,⟨hs4,HR4⟩,hg4⟩
   have hr5 : 0 ≤ r4 ∧ r4 ≤ 3:=by
    have : ∀ x ∈ ([1,1,1,3] : List Int),0 ≤ x ∧ x ≤ 3:=by decide
    exact this r4 hr4
   have wt : IntKind.i64.wrap (no0 + r4) = no0 + r4:=IntWalk.i64_in _ (by omega)
   have ht0 : 0 ≤ no0 + r4:=by omega
   have ht1 : no0 + r4 ≤ 3 * (k : Int) + 3:=by omega
   have hw:=(hw.alloc _).stream hg4
   have hsq:=hs4
   clear hs4 hg4 hr4 hr5 t0 t1
   go_upto_region 6 with (fail)
   clear wt
   generalize hno9 : no0 + r4 = no at *
   have HNO:=Lib.hid hno9
   clear hno9
   have hw:=hw.drew
   have hsq:=hsq.drew
   refine wp_region_heldK 12 (fun w' => w'.cell? ⟨hb,1,none⟩ = some (.slice A m c)) (fun w' => w'.cell? ⟨hb,0,none⟩ = some (.slice SA n 4)) (by kernel_rfl) (hw.box.two_.1) (hw.box.two_.2) (fun hT hS => ?_)
   (refine wpAnyK_take2 (i:=0) (v:=?_) (by (simp only [List.getElem?_toArray,List.getElem?_cons_zero]; rfl)) (by kernel_rfl) (by kernel_rfl) (by kernel_rfl) (by decide) (by exact fun _ _ _ h => h) (Or.inl ⟨by rfl,?_⟩) (by assumption) (by assumption) ?_; (rotate_left 1; (intro w hSw; (try dsimp only at hSw); go_simp); (try with_reducible rfl)); (try simp only [Act.put,List.setIfInBounds_toArray,List.set_cons_zero,List.set_cons_succ]))
   (refine wpAnyK_take1 (i:=1) (v:=?_) (by (simp only [List.getElem?_toArray,List.getElem?_cons_succ,List.getElem?_cons_zero]; rfl)) (by kernel_rfl) (by kernel_rfl) (by kernel_rfl) (by decide) (by kernel_rfl) (by kernel_rfl) (by exact fun _ _ _ h => h) (Or.inl ⟨by rfl,?_⟩) (by assumption) (by assumption) ?_; (rotate_left 1; (intro w hSw; (try dsimp only at hSw); go_simp); (try with_reducible rfl)); (try simp only [Act.put,List.setIfInBounds_toArray,List.set_cons_zero,List.set_cons_succ]))
   (refine wpAnyK_take2 (i:=2) (v:=?_) (by (simp only [List.getElem?_toArray,List.getElem?_cons_succ,List.getElem?_cons_zero]; rfl)) (by kernel_rfl) (by kernel_rfl) (by kernel_rfl) (by decide) (by exact fun _ _ _ h => h) (Or.inl ⟨by rfl,?_⟩) (by assumption) (by assumption) ?_; (rotate_left 1; (intro w hSw; (try dsimp only at hSw); go_simp); (try with_reducible rfl)); (try simp only [Act.put,List.setIfInBounds_toArray,List.set_cons_zero,List.set_cons_succ]))
   (refine wpAnyK_take2 (i:=3) (v:=?_) (by (simp only [List.getElem?_toArray,List.getElem?_cons_succ,List.getElem?_cons_zero]; rfl)) (by kernel_rfl) (by kernel_rfl) (by kernel_rfl) (by decide) (by exact fun _ _ _ h => h) (Or.inl ⟨by rfl,?_⟩) (by assumption) (by assumption) ?_; (rotate_left 1; (intro w hSw; (try dsimp only at hSw); go_simp); (try with_reducible rfl)); (try simp only [Act.put,List.setIfInBounds_toArray,List.set_cons_zero,List.set_cons_succ]))
   (refine wpAnyK_take2 (i:=4) (v:=?_) (by (simp only [List.getElem?_toArray,List.getElem?_cons_succ,List.getElem?_cons_zero]; rfl)) (by kernel_rfl) (by kernel_rfl) (by kernel_rfl) (by decide) (by exact fun _ _ _ h => h) (Or.inl ⟨by rfl,?_⟩) (by assumption) (by assumption) ?_; (rotate_left 1; (intro w hSw; (try dsimp only at hSw); go_simp); (try with_reducible rfl)); (try simp only [Act.put,List.setIfInBounds_toArray,List.set_cons_zero,List.set_cons_succ]))
   (refine wpAnyK_take2 (i:=5) (v:=?_) (by (simp only [List.getElem?_toArray,List.getElem?_cons_succ,List.getElem?_cons_zero]; rfl)) (by kernel_rfl) (by kernel_rfl) (by kernel_rfl) (by decide) (by exact fun _ _ _ h => h) (Or.inl ⟨by rfl,?_⟩) (by assumption) (by assumption) ?_; (rotate_left 1; (intro w hSw; (try dsimp only at hSw); go_simp); (try with_reducible rfl)); (try simp only [Act.put,List.setIfInBounds_toArray,List.set_cons_zero,List.set_cons_succ]))
   refine wpAnyK_ready (rs:=[6]) (by kernel_rfl) (by simp) ?_
   refine AllReadyK.cons rfl (fun K hK => ?_) AllReadyK.nil
   go_simp
   refine hK.out _ _ (hw.box.two_.1) (hw.box.two_.2) (fun hT hS => ?_)
   clear hK K
   (try simp only [Act.put,List.setIfInBounds_toArray,List.set_cons_zero,List.set_cons_succ])
   refine wpAnyK_ready (rs:=[7]) (by kernel_rfl) (by simp) ?_
   refine AllReadyK.cons rfl (fun K hK => ?_) AllReadyK.nil
   go_simp
   go_at_call 36
   refine (tried_exx g _ n L _ hsq (by omega) (by omega)).mono ?_
   rintro e wt ⟨B,cB,l,rfl,hownB,hlB,⟨kt,hsq,hkt,HTR⟩,hgt⟩
   have hownB:=own_weak hownB hw.size
   have hw:=hw.stream hgt
   go_wp2_with fail
   refine hK.out _ _ (hw.box.two_.1) (hw.box.two_.2) (fun hT hS => ?_)
   clear hK K
   (try simp only [Act.put,List.setIfInBounds_toArray,List.set_cons_zero,List.set_cons_succ])
   (refine wpAnyK_take2 (i:=8) (v:=?_) (by (simp only [List.getElem?_toArray,List.getElem?_cons_succ,List.getElem?_cons_zero]; rfl)) (by kernel_rfl) (by kernel_rfl) (by kernel_rfl) (by decide) (by exact fun _ _ _ h => h) (Or.inl ⟨by rfl,?_⟩) (by assumption) (by assumption) ?_; (rotate_left 1; (intro w hSw; (try dsimp only at hSw); go_simp); (try with_reducible rfl)); (try simp only [Act.put,List.setIfInBounds_toArray,List.set_cons_zero,List.set_cons_succ]))
   refine wpAnyK_ready (rs:=[9]) (by kernel_rfl) (by simp) ?_
   refine AllReadyK.cons rfl (fun K hK => ?_) AllReadyK.nil
   go_simp
   have hby : Blk (wt.alloc (.cells #[.int .i64 no,.slice B l.length cB] 81)) wt.heap.size 81 #[.int .i64 no,.slice B l.length cB]:=Blk.new _ _ _
   have hw:=hw.alloc (.cells #[.int .i64 no,.slice B l.length cB] 81)
   have hownB:=hownB.alloc (.cells #[.int .i64 no,.slice B l.length cB] 81)
   have hsq:=hsq.alloc (.cells #[.int .i64 no,.slice B l.length cB] 81)
   refine hK.out _ _ (hw.box.two_.1) (hw.box.two_.2) (fun hT hS => ?_)
   clear hK K
   (try simp only [Act.put,List.setIfInBounds_toArray,List.set_cons_zero,List.set_cons_succ])
   refine wpAnyK_ready (rs:=[10]) (by kernel_rfl) (by simp) ?_
   refine AllReadyK.cons rfl (fun K hK => ?_) AllReadyK.nil
   refine step_app (lo:=0) (base:=w.heap.size) (n:=m) (xs:=cs) _ rfl _ _ ty_atts rfl hw.own rfl (Row.lit (n:=1) (size:=2) hby (Nat.zero_le _) rfl) rfl rfl (by omega) (by omega) hw.size ?_
   intro A5 c5 w5 hown5 hg5 _
   have hsq:=hsq.app hw.own hg5 hw.gl
   have hbx:=hw.box_app hg5
   refine hK.out _ _ (hbx.two_.1) (hbx.two_.2) (fun hT hS => ?_)
   clear hK K
   (try simp only [Act.put,List.setIfInBounds_toArray,List.set_cons_zero,List.set_cons_succ])
   (refine wpAnyK_take2 (i:=11) (v:=?_) (by (simp only [List.getElem?_toArray,List.getElem?_cons_succ,List.getElem?_cons_zero]; rfl)) (by kernel_rfl) (by kernel_rfl) (by kernel_rfl) (by decide) (by exact fun _ _ _ h => h) (Or.inl ⟨by rfl,?_⟩) (by assumption) (by assumption) ?_; (rotate_left 1; (intro w hSw; (try dsimp only at hSw); go_simp); (try with_reducible rfl)); (try simp only [Act.put,List.setIfInBounds_toArray,List.set_cons_zero,List.set_cons_succ]))
   refine wpAnyK_ready (rs:=[12]) (by kernel_rfl) (by simp) ?_
   refine AllReadyK.consT (by kernel_rfl) rfl (fun K hK => ?_) AllReadyK.nil
   have q0:=hbx.two_.1
   have q1:=hbx.two_.2
   have qf:=hbx.thaw 1
   have qz:=hbx.lt
   go_simp
   clear q0 q1 qf qz
   have hw:=hw.push hg5 hownB (Nat.le_trans hlB hn4) hown5
   have hsq:=hsq.set (p:=⟨hb,1,none⟩) (by have:=hw.hbl; have:=hw.gl; simp; omega) (.slice A5 (m + 1) c5)
   refine hK.out _ _ (hw.box.two_.1) (fun hT => ?_)
   clear hK K
   (try simp only [Act.put,List.setIfInBounds_toArray,List.set_cons_zero,List.set_cons_succ])
   refine wpAnyK_done (by kernel_rfl) ?_ _
   go_wp2_with fail
   go_roundw
   case rel => exact ⟨k + 1,no,atts ++ [(no,l)],A5,c5,m + 1,cs ++ [.int .i64 no,.slice B l.length cB],by omega,by go_num,rfl,ht0,by omega,by omega,hw,⟨kt,hsq,by omega,Lib.hid (by simp only [hsL,HK.out,HR4.out,HTR.out,HNO.out])⟩⟩
   case measure => simp [intOf]; omega
  ·have HKM : Hid (hsL L n (k0 + 2) M = (no0,atts,kk)):=Lib.hid (by rw [← show k = M by omega]; exact HK.out)
   go_wp2_with fail
   refine (flip_exx g _ L _ _ hsq (by omega) (by omega)).mono ?_
   rintro e w5 ⟨b5,rfl,⟨hs5,HB5⟩,hg5⟩
   have hw:=hw.stream hg5
   have hsq:=hs5
   clear hs5 hg5
   have HSL:=Lib.hid hssl
   clear hssl
   go_upto_if 34 with (fail)
   go_cut [4] (fun nv wx => ∃ (S3 : Option Addr) (sc3 : Nat) (ss3 : List (List UInt8)),nv = .int .i64 no0 ∧ HW w wx g hb S3 sc3 ss3 n atts A m c cs ∧ (∃ k3,StrE wx g sB L k3 ∧ k3 ≤ kk + 3 ∧ Hid (hsSeg L ss n kk = (ss3,k3))) ∧ n ≤ sc3 ∧ Hid (∀ s ∈ ss3,s.length ≤ 2))
   case first =>
    cases b5
    ·go_wp2_with fail
     go_meet
     exact ⟨SA,4,ss,rfl,hw,⟨_,hsq,by omega,Lib.hid (by unfold hsSeg; rw [if_neg (of_decide_eq_false HB5.out)])⟩,hnsc,HSL⟩
    ·obtain ⟨q0,q1⟩:=hw.box.two_
     have qz:=hw.box.lt
     have hcl:=cloneS_any SA 4 _ ss w5 (by have:=Row.of_own hw.seg; rw [hw.len] at this; exact this) (by have:=hw.len; omega)
     rw [← hw.len] at hcl
     go_wp2_with fail
     refine hcl.mono ?_
     clear hcl q0 q1 qz
     rintro e w6 ⟨S2,c7,rfl,hown6,hb6⟩
     have hown6:=own_weak hown6 hw.size
     have hw:=hw.below hb6
     have hsq:=hsq.keep hb6
     obtain ⟨q0,q1⟩:=hw.box.two_
     have qf:=hw.box.thaw 0
     have qz:=hw.box.lt
     go_upto_region 10 with (fail)
     have hw:=hw.segs hown6
     have hsq:=hsq.set (p:=⟨hb,0,none⟩) (by have:=hw.hbl; simp; omega) (.slice S2 n c7)
     have hnsc : n ≤ c7:=by
      rcases hown6.2 with ⟨h1,h2⟩ | ⟨_,_,_,h1,_,_,h2,_⟩
      ·omega
      ·injection h1 with _ _ h1; omega
     obtain ⟨sb,rfl,_,_,_,_⟩:=ownBlk hown6 (by omega)
     clear hown6 q0 q1 qf qz hb6
     generalize w6.setCell ⟨hb,0,none⟩ (.slice (some ⟨sb,0,none⟩) n c7) = w8 at *
     have hw:=hw.drew
     have hsq:=hsq.drew
     refine wp_region_held_drew (S:=(fun w' => w'.cell? ⟨hb,0,none⟩ = some (.slice (some ⟨sb,0,none⟩) n c7))) (by kernel_rfl) (hw.box.two_.1) (fun hHeld => ?_)
     (refine wpAnyH_take (i:=0) (v:=?_) (by (simp only [List.getElem?_toArray,List.getElem?_cons_zero]; rfl)) (by kernel_rfl) (by kernel_rfl) (by kernel_rfl) (by exact fun _ _ _ h => h) (Or.inl ⟨by rfl,?_⟩) (by assumption) ?_; (rotate_left 1; (intro w hSw; (try dsimp only at hSw); go_simp); (try with_reducible rfl)); (try simp only [Act.put,List.setIfInBounds_toArray,List.set_cons_zero,List.set_cons_succ]))
     (refine wpAnyH_take (i:=1) (v:=?_) (by (simp only [List.getElem?_toArray,List.getElem?_cons_succ,List.getElem?_cons_zero]; rfl)) (by kernel_rfl) (by kernel_rfl) (by kernel_rfl) (by exact fun _ _ _ h => h) (Or.inl ⟨by rfl,?_⟩) (by assumption) ?_; (rotate_left 1; (intro w hSw; (try dsimp only at hSw); go_simp); (try with_reducible rfl)); (try simp only [Act.put,List.setIfInBounds_toArray,List.set_cons_zero,List.set_cons_succ]))
     (refine wpAnyH_take (i:=2) (v:=?_) (by (simp only [List.getElem?_toArray,List.getElem?_cons_succ,List.getElem?_cons_zero]; rfl)) (by kernel_rfl) (by kernel_rfl) (by kernel_rfl) (by exact fun _ _ _ h => h) (Or.inl ⟨by rfl,?_⟩) (by assumption) ?_; (rotate_left 1; (intro w hSw; (try dsimp only at hSw); go_simp); (try with_reducible rfl)); (try simp only [Act.put,List.setIfInBounds_toArray,List.set_cons_zero,List.set_cons_succ]))
     (refine wpAnyH_take (i:=3) (v:=?_) (by (simp only [List.getElem?_toArray,List.getElem?_cons_succ,List.getElem?_cons_zero]; rfl)) (by kernel_rfl) (by kernel_rfl) (by kernel_rfl) (by exact fun _ _ _ h => h) (Or.inl ⟨by rfl,?_⟩) (by assumption) ?_; (rotate_left 1; (intro w hSw; (try dsimp only at hSw); go_simp); (try with_reducible rfl)); (try simp only [Act.put,List.setIfInBounds_toArray,List.set_cons_zero,List.set_cons_succ]))
     (refine wpAnyH_take (i:=4) (v:=?_) (by (simp only [List.getElem?_toArray,List.getElem?_cons_succ,List.getElem?_cons_zero]; rfl)) (by kernel_rfl) (by kernel_rfl) (by kernel_rfl) (by exact fun _ _ _ h => h) (Or.inl ⟨by rfl,?_⟩) (by assumption) ?_; (rotate_left 1; (intro w hSw; (try dsimp only at hSw); go_simp); (try with_reducible rfl)); (try simp only [Act.put,List.setIfInBounds_toArray,List.set_cons_zero,List.set_cons_succ]))
     (refine wpAnyH_take (i:=7) (v:=?_) (by (simp only [List.getElem?_toArray,List.getElem?_cons_succ,List.getElem?_cons_zero]; rfl)) (by kernel_rfl) (by kernel_rfl) (by kernel_rfl) (by exact fun _ _ _ h => h) (Or.inl ⟨by rfl,?_⟩) (by assumption) ?_; (rotate_left 1; (intro w hSw; (try dsimp only at hSw); go_simp); (try with_reducible rfl)); (try simp only [Act.put,List.setIfInBounds_toArray,List.set_cons_zero,List.set_cons_succ]))
     refine wpAnyH_ready (rs:=[5,8]) (by kernel_rfl) (by simp) ?_
     refine AllReadyH.cons rfl (fun K hK => ?_) (AllReadyH.cons rfl (fun K hK => ?_) AllReadyH.nil)
     case refine_1 =>
      go_simp
      refine hK.out _ _ (hw.box.two_.1) (fun hHeld => ?_)
      clear hK K
      (try simp only [Act.put,List.setIfInBounds_toArray,List.set_cons_zero,List.set_cons_succ])
      refine wpAnyH_ready (rs:=[6,8]) (by kernel_rfl) (by simp) ?_
      refine AllReadyH.cons rfl (fun K hK => ?_) (AllReadyH.cons rfl (fun K hK => ?_) AllReadyH.nil)
      case refine_1 =>
       go_simp
       go_at_call 40
       refine (next_exx g _ L _ _ hsq (by omega) (by omega)).mono ?_
       rintro e wn ⟨r9,rfl,h90,h91,h92,⟨hsq,HN9⟩,hgn⟩
       have h93:=h91 (by omega)
       obtain ⟨j,rfl⟩:=Int.eq_ofNat_of_zero_le h90
       have hj : j < n:=by omega
       clear h91 h92 h93 h90
       have hw:=hw.stream hgn
       go_wp2_with fail
       refine hK.out _ _ (hw.box.two_.1) (fun hHeld => ?_)
       clear hK K
       (try simp only [Act.put,List.setIfInBounds_toArray,List.set_cons_zero,List.set_cons_succ])
       refine wpAnyH_ready (rs:=[8]) (by kernel_rfl) (by simp) ?_
       refine AllReadyH.cons rfl (fun K hK => ?_) AllReadyH.nil
       go_simp
       have hg8 : g < wn.heap.size:=hsq.lt
       have hl8 : Row (wn.alloc (.cells #[.string ⟨#[97,97]⟩,.string ⟨#[]⟩,.string ⟨#[122,122]⟩,.string ⟨#[65]⟩] 9)) wn.heap.size 1 (some ⟨wn.heap.size,0,none⟩) 4 (strs odd4):=row_new _ #[.string ⟨#[97,97]⟩,.string ⟨#[]⟩,.string ⟨#[122,122]⟩,.string ⟨#[65]⟩] _ _ 1 4 (Nat.le_refl _) rfl
       have hw:=hw.alloc (.cells #[.string ⟨#[97,97]⟩,.string ⟨#[]⟩,.string ⟨#[122,122]⟩,.string ⟨#[65]⟩] 9)
       have hsq:=hsq.alloc (.cells #[.string ⟨#[97,97]⟩,.string ⟨#[]⟩,.string ⟨#[122,122]⟩,.string ⟨#[65]⟩] 9)
       refine hK.out _ _ (hw.box.two_.1) (fun hHeld => ?_)
       clear hK K
       (try simp only [Act.put,List.setIfInBounds_toArray,List.set_cons_zero,List.set_cons_succ])
       refine wpAnyH_ready (rs:=[9]) (by kernel_rfl) (by simp) ?_
       refine AllReadyH.cons rfl (fun K hK => ?_) AllReadyH.nil
       go_simp
       go_at_call 39
       refine (some_exx g _ _ L _ _ odd4 _ hsq (by omega) hl8 hg8 (by decide) (by decide)).mono ?_
       rintro e ws ⟨z,rfl,hz,⟨hsq,HSK⟩,hgs⟩
       have hw:=hw.stream hgs
       go_wp2_with fail
       refine hK.out _ _ (hw.box.two_.1) (fun hHeld => ?_)
       clear hK K
       (try simp only [Act.put,List.setIfInBounds_toArray,List.set_cons_zero,List.set_cons_succ])
       (refine wpAnyH_take (i:=10) (v:=?_) (by (simp only [List.getElem?_toArray,List.getElem?_cons_succ,List.getElem?_cons_zero]; rfl)) (by kernel_rfl) (by kernel_rfl) (by kernel_rfl) (by exact fun _ _ _ h => h) (Or.inl ⟨by rfl,?_⟩) (by assumption) ?_; (rotate_left 1; (intro w hSw; (try dsimp only at hSw); go_simp); (try with_reducible rfl)); (try simp only [Act.put,List.setIfInBounds_toArray,List.set_cons_zero,List.set_cons_succ]))
       refine wpAnyH_ready (rs:=[11]) (by kernel_rfl) (by simp) ?_
       refine AllReadyH.cons rfl (fun K hK => ?_) AllReadyH.nil
       obtain ⟨sb',esb,hsbl,hsb2,⟨u9,cu⟩,fu⟩:=hw.cellS hj
       have esb2 : sb = sb':=congrArg Addr.block (Option.some.inj esb)
       subst esb2
       go_simp
       clear cu fu
       have hw:=hw.seg1 j z
       have hsq:=hsq.set (p:=⟨sb,j,none⟩) (by simp; omega) (encStr z)
       refine hK.out _ _ (hw.box.two_.1) (fun hHeld => ?_)
       clear hK K
       (try simp only [Act.put,List.setIfInBounds_toArray,List.set_cons_zero,List.set_cons_succ])
       refine wpAnyH_done (by kernel_rfl) ?_ _
       have HSL : Hid (∀ s ∈ ss.set j z,s.length ≤ 2):=Lib.hid (fun s hs => by
        rcases List.mem_or_eq_of_mem_set hs with h | h
        ·exact HSL.out s h
        ·have : ∀ s ∈ odd4,s.length ≤ 2:=by decide
         rw [h]; exact this z hz)
       generalize ws.setCell ⟨sb,j,none⟩ (encStr z) = wz at *
       have HSG : Hid (hsSeg L ss n kk = (ss.set j z,kk + 3)):=Lib.hid (by unfold hsSeg; rw [if_pos (of_decide_eq_true HB5.out),HN9.out,HSK.out]; rfl)
       have HSS8:=HSS9
       clear HSS9
       generalize hs39 : ss.set j z = ss3 at *
       go_wp2_with fail
       go_meet
       exact ⟨_,c7,ss3,rfl,hw,⟨_,hsq,by omega,HSG⟩,hnsc,HSL⟩
      case refine_2 =>
       go_simp
       have hg8 : g < w8.drew.heap.size:=hsq.lt
       have hl8 : Row (w8.drew.alloc (.cells #[.string ⟨#[97,97]⟩,.string ⟨#[]⟩,.string ⟨#[122,122]⟩,.string ⟨#[65]⟩] 9)) w8.drew.heap.size 1 (some ⟨w8.drew.heap.size,0,none⟩) 4 (strs odd4):=row_new _ #[.string ⟨#[97,97]⟩,.string ⟨#[]⟩,.string ⟨#[122,122]⟩,.string ⟨#[65]⟩] _ _ 1 4 (Nat.le_refl _) rfl
       have hw:=hw.alloc (.cells #[.string ⟨#[97,97]⟩,.string ⟨#[]⟩,.string ⟨#[122,122]⟩,.string ⟨#[65]⟩] 9)
       have hsq:=hsq.alloc (.cells #[.string ⟨#[97,97]⟩,.string ⟨#[]⟩,.string ⟨#[122,122]⟩,.string ⟨#[65]⟩] 9)
       refine hK.out _ _ (hw.box.two_.1) (fun hHeld => ?_)
       clear hK K
       (try simp only [Act.put,List.setIfInBounds_toArray,List.set_cons_zero,List.set_cons_succ])
       refine wpAnyH_ready (rs:=[6]) (by kernel_rfl) (by simp) ?_
       refine AllReadyH.cons rfl (fun K hK => ?_) AllReadyH.nil
       go_simp
       go_at_call 40
       refine (next_exx g _ L _ _ hsq (by omega) (by omega)).mono ?_
       rintro e wn ⟨r9,rfl,h90,h91,h92,⟨hsq,HN9⟩,hgn⟩
       have h93:=h91 (by omega)
       obtain ⟨j,rfl⟩:=Int.eq_ofNat_of_zero_le h90
       have hj : j < n:=by omega
       clear h91 h92 h93 h90
       have hw:=hw.stream hgn
       have hl8:=hl8.grown hgn hg8
       go_wp2_with fail
       refine hK.out _ _ (hw.box.two_.1) (fun hHeld => ?_)
       clear hK K
       (try simp only [Act.put,List.setIfInBounds_toArray,List.set_cons_zero,List.set_cons_succ])
       refine wpAnyH_ready (rs:=[9]) (by kernel_rfl) (by simp) ?_
       refine AllReadyH.cons rfl (fun K hK => ?_) AllReadyH.nil
       go_simp
       go_at_call 39
       refine (some_exx g _ _ L _ _ odd4 _ hsq (by omega) hl8 hg8 (by decide) (by decide)).mono ?_
       rintro e ws ⟨z,rfl,hz,⟨hsq,HSK⟩,hgs⟩
       have hw:=hw.stream hgs
       go_wp2_with fail
       refine hK.out _ _ (hw.box.two_.1) (fun hHeld => ?_)
       clear hK K
       (try simp only [Act.put,List.setIfInBounds_toArray,List.set_cons_zero,List.set_cons_succ])
       (refine wpAnyH_take (i:=10) (v:=?_) (by (simp only [List.getElem?_toArray,List.getElem?_cons_succ,List.getElem?_cons_zero]; rfl)) (by kernel_rfl) (by kernel_rfl) (by kernel_rfl) (by exact fun _ _ _ h => h) (Or.inl ⟨by rfl,?_⟩) (by assumption) ?_; (rotate_left 1; (intro w hSw; (try dsimp only at hSw); go_simp); (try with_reducible rfl)); (try simp only [Act.put,List.setIfInBounds_toArray,List.set_cons_zero,List.set_cons_succ]))
       refine wpAnyH_ready (rs:=[11]) (by kernel_rfl) (by simp) ?_
       refine AllReadyH.cons rfl (fun K hK => ?_) AllReadyH.nil
       obtain ⟨sb',esb,hsbl,hsb2,⟨u9,cu⟩,fu⟩:=hw.cellS hj
       have esb2 : sb = sb':=congrArg Addr.block (Option.some.inj esb)
       subst esb2
       go_simp
       clear cu fu
       have hw:=hw.seg1 j z
       have hsq:=hsq.set (p:=⟨sb,j,none⟩) (by simp; omega) (encStr z)
       refine hK.out _ _ (hw.box.two_.1) (fun hHeld => ?_)
       clear hK K
       (try simp only [Act.put,List.setIfInBounds_toArray,List.set_cons_zero,List.set_cons_succ])
       refine wpAnyH_done (by kernel_rfl) ?_ _
       have HSL : Hid (∀ s ∈ ss.set j z,s.length ≤ 2):=Lib.hid (fun s hs => by
        rcases List.mem_or_eq_of_mem_set hs with h | h
        ·exact HSL.out s h
        ·have : ∀ s ∈ odd4,s.length ≤ 2:=by decide
         rw [h]; exact this z hz)
       generalize ws.setCell ⟨sb,j,none⟩ (encStr z) = wz at *
       have HSG : Hid (hsSeg L ss n kk = (ss.set j z,kk + 3)):=Lib.hid (by unfold hsSeg; rw [if_pos (of_decide_eq_true HB5.out),HN9.out,HSK.out]; rfl)
       have HSS8:=HSS9
       clear HSS9
       generalize hs39 : ss.set j z = ss3 at *
       go_wp2_with fail
       go_meet
       exact ⟨_,c7,ss3,rfl,hw,⟨_,hsq,by omega,HSG⟩,hnsc,HSL⟩
     case refine_2 =>
      go_simp
      have hg8 : g < w8.drew.heap.size:=hsq.lt
      have hl8 : Row (w8.drew.alloc (.cells #[.string ⟨#[97,97]⟩,.string ⟨#[]⟩,.string ⟨#[122,122]⟩,.string ⟨#[65]⟩] 9)) w8.drew.heap.size 1 (some ⟨w8.drew.heap.size,0,none⟩) 4 (strs odd4):=row_new _ #[.string ⟨#[97,97]⟩,.string ⟨#[]⟩,.string ⟨#[122,122]⟩,.string ⟨#[65]⟩] _ _ 1 4 (Nat.le_refl _) rfl
      have hw:=hw.alloc (.cells #[.string ⟨#[97,97]⟩,.string ⟨#[]⟩,.string ⟨#[122,122]⟩,.string ⟨#[65]⟩] 9)
      have hsq:=hsq.alloc (.cells #[.string ⟨#[97,97]⟩,.string ⟨#[]⟩,.string ⟨#[122,122]⟩,.string ⟨#[65]⟩] 9)
      refine hK.out _ _ (hw.box.two_.1) (fun hHeld => ?_)
      clear hK K
      (try simp only [Act.put,List.setIfInBounds_toArray,List.set_cons_zero,List.set_cons_succ])
      refine wpAnyH_ready (rs:=[5]) (by kernel_rfl) (by simp) ?_
      refine AllReadyH.cons rfl (fun K hK => ?_) AllReadyH.nil
      go_simp
      refine hK.out _ _ (hw.box.two_.1) (fun hHeld => ?_)
      clear hK K
      (try simp only [Act.put,List.setIfInBounds_toArray,List.set_cons_zero,List.set_cons_succ])
      refine wpAnyH_ready (rs:=[6]) (by kernel_rfl) (by simp) ?_
      refine AllReadyH.cons rfl (fun K hK => ?_) AllReadyH.nil
      go_simp
      go_at_call 40
      refine (next_exx g _ L _ _ hsq (by omega) (by omega)).mono ?_
      rintro e wn ⟨r9,rfl,h90,h91,h92,⟨hsq,HN9⟩,hgn⟩
      have h93:=h91 (by omega)
      obtain ⟨j,rfl⟩:=Int.eq_ofNat_of_zero_le h90
      have hj : j < n:=by omega
      clear h91 h92 h93 h90
      have hw:=hw.stream hgn
      have hl8:=hl8.grown hgn hg8
      go_wp2_with fail
      refine hK.out _ _ (hw.box.two_.1) (fun hHeld => ?_)
      clear hK K
      (try simp only [Act.put,List.setIfInBounds_toArray,List.set_cons_zero,List.set_cons_succ])
      refine wpAnyH_ready (rs:=[9]) (by kernel_rfl) (by simp) ?_
      refine AllReadyH.cons rfl (fun K hK => ?_) AllReadyH.nil
      go_simp
      go_at_call 39
      refine (some_exx g _ _ L _ _ odd4 _ hsq (by omega) hl8 hg8 (by decide) (by decide)).mono ?_
      rintro e ws ⟨z,rfl,hz,⟨hsq,HSK⟩,hgs⟩
      have hw:=hw.stream hgs
      go_wp2_with fail
      refine hK.out _ _ (hw.box.two_.1) (fun hHeld => ?_)
      clear hK K
      (try simp only [Act.put,List.setIfInBounds_toArray,List.set_cons_zero,List.set_cons_succ])
      (refine wpAnyH_take (i:=10) (v:=?_) (by (simp only [List.getElem?_toArray,List.getElem?_cons_succ,List.getElem?_cons_zero]; rfl)) (by kernel_rfl) (by kernel_rfl) (by kernel_rfl) (by exact fun _ _ _ h => h) (Or.inl ⟨by rfl,?_⟩) (by assumption) ?_; (rotate_left 1; (intro w hSw; (try dsimp only at hSw); go_simp); (try with_reducible rfl)); (try simp only [Act.put,List.setIfInBounds_toArray,List.set_cons_zero,List.set_cons_succ]))
      refine wpAnyH_ready (rs:=[11]) (by kernel_rfl) (by simp) ?_
      refine AllReadyH.cons rfl (fun K hK => ?_) AllReadyH.nil
      obtain ⟨sb',esb,hsbl,hsb2,⟨u9,cu⟩,fu⟩:=hw.cellS hj
      have esb2 : sb = sb':=congrArg Addr.block (Option.some.inj esb)
      subst esb2
      go_simp
      clear cu fu
      have hw:=hw.seg1 j z
      have hsq:=hsq.set (p:=⟨sb,j,none⟩) (by simp; omega) (encStr z)
      refine hK.out _ _ (hw.box.two_.1) (fun hHeld => ?_)
      clear hK K
      (try simp only [Act.put,List.setIfInBounds_toArray,List.set_cons_zero,List.set_cons_succ])
      refine wpAnyH_done (by kernel_rfl) ?_ _
      have HSL : Hid (∀ s ∈ ss.set j z,s.length ≤ 2):=Lib.hid (fun s hs => by
       rcases List.mem_or_eq_of_mem_set hs with h | h
       ·exact HSL.out s h
       ·have : ∀ s ∈ odd4,s.length ≤ 2:=by decide
        rw [h]; exact this z hz)
      generalize ws.setCell ⟨sb,j,none⟩ (encStr z) = wz at *
      have HSG : Hid (hsSeg L ss n kk = (ss.set j z,kk + 3)):=Lib.hid (by unfold hsSeg; rw [if_pos (of_decide_eq_true HB5.out),HN9.out,HSK.out]; rfl)
      have HSS8:=HSS9
      clear HSS9
      generalize hs39 : ss.set j z = ss3 at *
      go_wp2_with fail
      go_meet
      exact ⟨_,c7,ss3,rfl,hw,⟨_,hsq,by omega,HSG⟩,hnsc,HSL⟩
   case rest =>
    obtain ⟨S3,sc3,ss3,rfl,hw,⟨k3,hsq,hk3,HSG⟩,hnsc,HSL⟩:=hcut
    have hssl:=HSL.out
    obtain ⟨wf0,hwf0⟩ : ∃ W,W = wc:=⟨_,rfl⟩
    subst hwf0
    obtain ⟨q0,q1⟩:=hw.box.two_
    have qz:=hw.box.lt
    by_cases hm0 : 0 < m
    ·have dm : decide (0 < m) = true:=by simpa using hm0
     go_wp2_with fail
     refine (flip_exx g _ L _ _ hsq (by omega) (by omega)).mono ?_
     rintro e wf ⟨bf,rfl,⟨hsf,HBF⟩,hgf⟩
     have hw:=hw.stream hgf
     have hsq:=hsf
     clear q0 q1 qz hsf hgf
     cases bf
     ·skip
      obtain ⟨q0,q1⟩:=hw.box.two_
      have qz:=hw.box.lt
      obtain ⟨r0,r1⟩:=hw.res.two_
      have rz:=hw.res.lt
      have rf0:=hw.res.thaw 0
      have rf1:=hw.res.thaw 1
      have hle:=hw.len
      have hme:=hw.men
      subst hle
      subst hme
      have HW9:=Lib.hid hw
      have HS9:=Lib.hid hsq
      have hm9 : atts.length ≤ 7:=by omega
      clear hw hsq
      go_wp2_with fail
      have ht:=HW9.out.told (.slice S3 ss3.length sc3) (.slice A atts.length c)
      obtain ⟨z0,z1,z2⟩:=HW9.out.res.two2 (.slice S3 ss3.length sc3) (.slice A atts.length c)
      refine bodyPost_ret (v:=.agg #[.slice S3 ss3.length sc3,.slice A atts.length c]) (by simp [results,Tryz.results7,go_sem,z0,z1,z2]) rfl ?_
      exact ⟨S3,A,sc3,c,ss3,atts,rfl,ht.1,hnsc,by omega,by omega,by omega,HW9.out.lens,hssl,⟨_,((HS9.out.set (p:=⟨w.heap.size,0,none⟩) hlt _).set (p:=⟨w.heap.size,1,none⟩) hlt _),by omega,Lib.hid (hsF_eq HRN.out HRM.out HKM.out (by rw [HSS9.out]; exact HSG.out) (by unfold hsNo; rw [if_neg (by omega),if_neg (of_decide_eq_false HBF.out)]))⟩,ht.2⟩
     ·obtain ⟨ab,rfl,_,hab2,_,_⟩:=hw.cellA hm0
      go_upto_region 12 with (fail)
      have hw:=hw.drew
      have hsq:=hsq.drew
      refine wp_region_held_drew (S:=(fun w' => w'.cell? ⟨hb,1,none⟩ = some (.slice (some ⟨ab,0,none⟩) m c))) (by kernel_rfl) (hw.box.two_.2) (fun hHeld => ?_)
      (refine wpAnyH_take (i:=0) (v:=?_) (by (simp only [List.getElem?_toArray,List.getElem?_cons_zero]; rfl)) (by kernel_rfl) (by kernel_rfl) (by kernel_rfl) (by exact fun _ _ _ h => h) (Or.inl ⟨by rfl,?_⟩) (by assumption) ?_; (rotate_left 1; (intro w hSw; (try dsimp only at hSw); go_simp); (try with_reducible rfl)); (try simp only [Act.put,List.setIfInBounds_toArray,List.set_cons_zero,List.set_cons_succ]))
      (refine wpAnyH_take (i:=1) (v:=?_) (by (simp only [List.getElem?_toArray,List.getElem?_cons_succ,List.getElem?_cons_zero]; rfl)) (by kernel_rfl) (by kernel_rfl) (by kernel_rfl) (by exact fun _ _ _ h => h) (Or.inl ⟨by rfl,?_⟩) (by assumption) ?_; (rotate_left 1; (intro w hSw; (try dsimp only at hSw); go_simp); (try with_reducible rfl)); (try simp only [Act.put,List.setIfInBounds_toArray,List.set_cons_zero,List.set_cons_succ]))
      (refine wpAnyH_take (i:=2) (v:=?_) (by (simp only [List.getElem?_toArray,List.getElem?_cons_succ,List.getElem?_cons_zero]; rfl)) (by kernel_rfl) (by kernel_rfl) (by kernel_rfl) (by exact fun _ _ _ h => h) (Or.inl ⟨by rfl,?_⟩) (by assumption) ?_; (rotate_left 1; (intro w hSw; (try dsimp only at hSw); go_simp); (try with_reducible rfl)); (try simp only [Act.put,List.setIfInBounds_toArray,List.set_cons_zero,List.set_cons_succ]))
      (refine wpAnyH_take (i:=3) (v:=?_) (by (simp only [List.getElem?_toArray,List.getElem?_cons_succ,List.getElem?_cons_zero]; rfl)) (by kernel_rfl) (by kernel_rfl) (by kernel_rfl) (by exact fun _ _ _ h => h) (Or.inl ⟨by rfl,?_⟩) (by assumption) ?_; (rotate_left 1; (intro w hSw; (try dsimp only at hSw); go_simp); (try with_reducible rfl)); (try simp only [Act.put,List.setIfInBounds_toArray,List.set_cons_zero,List.set_cons_succ]))
      (refine wpAnyH_take (i:=4) (v:=?_) (by (simp only [List.getElem?_toArray,List.getElem?_cons_succ,List.getElem?_cons_zero]; rfl)) (by kernel_rfl) (by kernel_rfl) (by kernel_rfl) (by exact fun _ _ _ h => h) (Or.inl ⟨by rfl,?_⟩) (by assumption) ?_; (rotate_left 1; (intro w hSw; (try dsimp only at hSw); go_simp); (try with_reducible rfl)); (try simp only [Act.put,List.setIfInBounds_toArray,List.set_cons_zero,List.set_cons_succ]))
      refine wpAnyH_ready (rs:=[5]) (by kernel_rfl) (by simp) ?_
      refine AllReadyH.cons rfl (fun K hK => ?_) AllReadyH.nil
      go_simp
      refine hK.out _ _ (hw.box.two_.2) (fun hHeld => ?_)
      clear hK K
      (try simp only [Act.put,List.setIfInBounds_toArray,List.set_cons_zero,List.set_cons_succ])
      refine wpAnyH_ready (rs:=[6]) (by kernel_rfl) (by simp) ?_
      refine AllReadyH.cons rfl (fun K hK => ?_) AllReadyH.nil
      go_simp
      go_at_call 40
      refine (next_exx g _ L _ _ hsq (by omega) (by omega)).mono ?_
      rintro e wn ⟨r9,rfl,h90,h91,h92,⟨hsq,HN9⟩,hgn⟩
      have h93:=h91 (by omega)
      obtain ⟨j,rfl⟩:=Int.eq_ofNat_of_zero_le h90
      have hj : j < m:=by omega
      clear h91 h92 h93 h90
      have hw:=hw.stream hgn
      go_wp2_with fail
      refine hK.out _ _ (hw.box.two_.2) (fun hHeld => ?_)
      clear hK K
      (try simp only [Act.put,List.setIfInBounds_toArray,List.set_cons_zero,List.set_cons_succ])
      (refine wpAnyH_take (i:=7) (v:=?_) (by (simp only [List.getElem?_toArray,List.getElem?_cons_succ,List.getElem?_cons_zero]; rfl)) (by kernel_rfl) (by kernel_rfl) (by kernel_rfl) (by exact fun _ _ _ h => h) (Or.inl ⟨by rfl,?_⟩) (by assumption) ?_; (rotate_left 1; (intro w hSw; (try dsimp only at hSw); go_simp); (try with_reducible rfl)); (try simp only [Act.put,List.setIfInBounds_toArray,List.set_cons_zero,List.set_cons_succ]))
      (refine wpAnyH_take (i:=8) (v:=?_) (by (simp only [List.getElem?_toArray,List.getElem?_cons_succ,List.getElem?_cons_zero]; rfl)) (by kernel_rfl) (by kernel_rfl) (by kernel_rfl) (by exact fun _ _ _ h => h) (Or.inl ⟨by rfl,?_⟩) (by assumption) ?_; (rotate_left 1; (intro w hSw; (try dsimp only at hSw); go_simp); (try with_reducible rfl)); (try simp only [Act.put,List.setIfInBounds_toArray,List.set_cons_zero,List.set_cons_succ]))
      refine wpAnyH_done (by kernel_rfl) ?_ _
      have hja0 : j < atts.length:=by have:=hw.men; omega
      obtain ⟨ab',eab,hab,_,cx,fx⟩:=hw.cellB hj hja0
      obtain ⟨x,hx9⟩ : ∃ x,x = atts[j].1:=⟨_,rfl⟩
      rw [← hx9] at cx
      have HX9:=Lib.hid hx9
      clear hx9
      have eab2 : ab = ab':=congrArg Addr.block (Option.some.inj eab)
      subst eab2
      clear eab
      go_wp2_with fail
      refine (pick_exx g _ _ L _ _ [x,0,1,1000001] _ (hsq.alloc _) (by omega) (row_new _ _ _ _ _ _ (Nat.le_refl _) rfl) hsq.lt (by simp) (by simp)).mono ?_
      rintro e wp ⟨rp,rfl,-,⟨hsp,HPK⟩,hgp⟩
      have hw:=(hw.alloc _).stream hgp
      have hsq:=hsp
      clear cx fx hab hsp hgp
      obtain ⟨ab',eab,hab,_,⟨x2,cx⟩,fx⟩:=hw.cellA hj
      have eab2 : ab = ab':=congrArg Addr.block (Option.some.inj eab)
      subst eab2
      clear eab
      go_upto_region 14 with (fail)
      have hja : j < atts.length:=by have:=hw.men; omega
      have hw:=hw.no1 hja rp
      have hsq:=hsq.set (p:=⟨ab,j * 2,none⟩) (by simp; omega) (.int .i64 rp)
      generalize wp.setCell ⟨ab,j * 2,none⟩ (.int .i64 rp) = wq at *
      have HNN : Hid (hsNo L atts atts.length k3 = (atts.set j (rp,atts[j].2),k3 + 3)):=Lib.hid (by
       have e1 : atts.getD j (0,[]) = atts[j]:=by rw [List.getD_eq_getElem?_getD,List.getElem?_eq_getElem hja]; rfl
       have e2 : m = atts.length:=by have:=hw.men; simpa using this
       unfold hsNo
       rw [if_neg (by omega),if_pos (of_decide_eq_true HBF.out),← e2,HN9.out,Int.toNat_natCast,e1,← HX9.out,HPK.out])
      generalize atts.set j (rp,atts[j].2) = atts at *
      generalize cs.set (j * 2) (.int .i64 rp) = cs at *
      clear cx fx hab
      obtain ⟨q0,q1⟩:=hw.box.two_
      have qz:=hw.box.lt
      obtain ⟨r0,r1⟩:=hw.res.two_
      have rz:=hw.res.lt
      have rf0:=hw.res.thaw 0
      have rf1:=hw.res.thaw 1
      have hle:=hw.len
      have hme:=hw.men
      subst hle
      subst hme
      have HW9:=Lib.hid hw
      have HS9:=Lib.hid hsq
      have hm9 : atts.length ≤ 7:=by omega
      clear hw hsq
      go_wp2_with fail
      have ht:=HW9.out.told (.slice S3 ss3.length sc3) (.slice (some ⟨ab,0,none⟩) atts.length c)
      obtain ⟨z0,z1,z2⟩:=HW9.out.res.two2 (.slice S3 ss3.length sc3) (.slice (some ⟨ab,0,none⟩) atts.length c)
      refine bodyPost_ret (v:=.agg #[.slice S3 ss3.length sc3,.slice (some ⟨ab,0,none⟩) atts.length c]) (by simp [results,Tryz.results7,go_sem,z0,z1,z2]) rfl ?_
      exact ⟨S3,(some ⟨ab,0,none⟩),sc3,c,ss3,atts,rfl,ht.1,hnsc,by omega,by omega,by omega,HW9.out.lens,hssl,⟨_,((HS9.out.set (p:=⟨w.heap.size,0,none⟩) hlt _).set (p:=⟨w.heap.size,1,none⟩) hlt _),by omega,Lib.hid (hsF_eq HRN.out HRM.out HKM.out (by rw [HSS9.out]; exact HSG.out) HNN.out)⟩,ht.2⟩
    ·have dm : decide (0 < m) = false:=by simpa using hm0
     obtain ⟨q0,q1⟩:=hw.box.two_
     have qz:=hw.box.lt
     obtain ⟨r0,r1⟩:=hw.res.two_
     have rz:=hw.res.lt
     have rf0:=hw.res.thaw 0
     have rf1:=hw.res.thaw 1
     have hle:=hw.len
     have hme:=hw.men
     subst hle
     subst hme
     have HW9:=Lib.hid hw
     have HS9:=Lib.hid hsq
     have hm9 : atts.length ≤ 7:=by omega
     clear hw hsq
     go_wp2_with fail
     have ht:=HW9.out.told (.slice S3 ss3.length sc3) (.slice A atts.length c)
     obtain ⟨z0,z1,z2⟩:=HW9.out.res.two2 (.slice S3 ss3.length sc3) (.slice A atts.length c)
     refine bodyPost_ret (v:=.agg #[.slice S3 ss3.length sc3,.slice A atts.length c]) (by simp [results,Tryz.results7,go_sem,z0,z1,z2]) rfl ?_
     exact ⟨S3,A,sc3,c,ss3,atts,rfl,ht.1,hnsc,by omega,by omega,by omega,HW9.out.lens,hssl,⟨_,((HS9.out.set (p:=⟨w.heap.size,0,none⟩) hlt _).set (p:=⟨w.heap.size,1,none⟩) hlt _),by omega,Lib.hid (hsF_eq HRN.out HRM.out HKM.out (by rw [HSS9.out]; exact HSG.out) (by unfold hsNo; rw [if_pos (by omega)]))⟩,ht.2⟩
end Go.Proofs.YtapjahbflhingaaGreatDoor
