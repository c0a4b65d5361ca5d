/- Texts of this seat, laid together: Iv Is. -/
import Derived.Lib.Hide
import Derived.Handy
import Derived.Test.YtggnccafmadacaaGreatDoorBi01
import Derived.Test.YtggnccafmadacaaGreatDoorBi00
import Derived.Test.YtggnccafmadacaaGreatDoorBi24
import Derived.Test.YtggnccafmadacaaGreatDoorBi18
import Derived.Test.YtggnccafmadacaaGreatDoorBi35
/- The walk of the stream's function that draws a right input. -/
namespace Go.Proofs.YtggnccafmadacaaGreatDoor
set_option linter.unusedVariables false
set_option linter.unusedSimpArgs false
open Go.RowKit

def RPiecesPost (w : World) (g N : Nat) (e : Ending) (w' : World) : Prop :=
 ∃ (A : Option Addr) (c : Nat) (ps : List (Int × Int)),e = .returned (.slice A ps.length c) ∧ w'.ownsRow w.heap.size 51 2 (.slice A ps.length c) ps.length (prs ps) ∧ ps.length ≤ 8 ∧ (∀ p ∈ ps,0 ≤ p.1 ∧ p.1 ≤ 63 ∧ 1 ≤ p.2 ∧ p.2 ≤ 20) ∧ Str w' g N ∧ w.grownBy w' (some g)
theorem pick_held {r : Int} (h : r ∈ [0,1,2,2,16,17,18,18,(34 : Int)]) : 0 ≤ r ∧ r ≤ 63:=by
 simp only [List.mem_cons,List.not_mem_nil,or_false] at h
 omega
theorem pick_frames {r : Int} (h : r ∈ [1,1,2,3,7,(20 : Int)]) : 1 ≤ r ∧ r ≤ 20:=by
 simp only [List.mem_cons,List.not_mem_nil,or_false] at h
 omega
theorem rp_right {ps : List (Int × Int)} (hl : ps.length ≤ 8) (h : ∀ p ∈ ps,0 ≤ p.1 ∧ p.1 ≤ 63 ∧ 1 ≤ p.2 ∧ p.2 ≤ 20) : inFault ps = 0:=by
 have h1:=psum_le ps 20 (by omega) (fun p hp => (h p hp).2.2.2)
 rw [inFault_good ps (by omega) (fun p hp => (vld_iff p).2 (by have:=h p hp; omega)),if_neg (by omega)]
set_option maxHeartbeats 1000000 in
theorem rightPieces_any (g N : Nat) (w : World) (hs : Str w g N) (hN : N < 4611686018427387000) :
  Calls Tryz.prog 41 #[.pointer (some ⟨g,0,none⟩)] w (RPiecesPost w g (N + 40)):=by
 have hlt:=hs.lt
 go_enter Tryz.func41,Tryz.ntmps41
 go_wp2_with fail
 refine (range_any g N _ _ _ hs (by omega) (by omega) (by omega) (by omega)).mono ?_
 rintro e w1 ⟨r,rfl,h0,h6,hs1,hg1⟩
 obtain ⟨m,rfl⟩:=Int.eq_ofNat_of_zero_le h0
 go_wp2_with fail
 go_loopw [3,6] (fun v i wr => ∃ (k : Nat) (A : Option Addr) (c : Nat) (ps : List (Int × Int)),k ≤ m ∧ i = .int .i64 k ∧ v = .slice A ps.length c ∧ wr.ownsRow w.heap.size 51 2 (.slice A ps.length c) ps.length (prs ps) ∧ ps.length ≤ k ∧ Hid (∀ p ∈ ps,0 ≤ p.1 ∧ p.1 ≤ 63 ∧ 1 ≤ p.2 ∧ p.2 ≤ 20) ∧ Str wr g (N + 1 + 2 * k) ∧ w.grownBy wr (some g)) (fun _ i _ => m - (intOf i).toNat)
 case atStart => exact ⟨0,none,0,[],by omega,rfl,rfl,World.ownsRow_nil _ _ _ _,by simp,Lib.hid (by simp),hs1,hg1⟩
 case round =>
  obtain ⟨k,A,c,ps,hk,rfl,rfl,hown,hpk,hall,hsr,hgr⟩:=hrel
  by_cases hkm : k < m
  ·go_wp2_with fail
   refine (pick_any g _ _ _ _ [0,1,2,2,16,17,18,18,34] _ (hsr.alloc _) (by omega) (row_new _ _ _ _ _ _ (Nat.le_refl _) rfl) hsr.lt (by simp) (by simp)).mono ?_
   rintro e w3 ⟨r3,rfl,hr3,hs3,hg3⟩
   have hq3:=pick_held hr3
   clear hr3
   go_wp2_with fail
   refine (pick_any g _ _ _ _ [1,1,2,3,7,20] _ (hs3.alloc _) (by omega) (row_new _ _ _ _ _ _ (Nat.le_refl _) rfl) hs3.lt (by simp) (by simp)).mono ?_
   rintro e w4 ⟨r4,rfl,hr4,hs4,hg4⟩
   have hq4:=pick_frames hr4
   have HQ : Hid (∀ p ∈ ps ++ [(r3,r4)],0 ≤ p.1 ∧ p.1 ≤ 63 ∧ 1 ≤ p.2 ∧ p.2 ≤ 20):=Lib.hid (fun p hp => by
    rcases List.mem_append.1 hp with h | h
    ·exact hall.out p h
    ·simp at h; subst h; exact ⟨hq3.1,hq3.2,hq4.1,hq4.2⟩)
   have hgr4:=grown_trans' (grown_alloc (grown_trans' (grown_alloc hgr _) hg3) _) hg4
   have hown4:=own_grown (own_grown hown (grown_trans' (World.grownBy_alloc _ _ _) hg3) hlt) (grown_trans' (World.grownBy_alloc _ _ _) hg4) hlt
   have z4:=hgr4.size
   clear hr4 hq3 hq4
   go_wp2_with (at_builtin; refine wpList_app _ _ rfl _ _ ty_prs rfl (hown4.alloc _) rfl (row_new _ _ _ w.heap.size 2 1 z4 rfl) rfl rfl (by omega) (by omega) (by simp; omega) ?_)
   intro A5 c5 w5 hown5 hg5 _
   go_wp2_with fail
   go_roundw
   case rel => exact ⟨k + 1,A5,c5,ps ++ [(r3,r4)],by omega,by go_num,by simp,by simpa [prs] using hown5,by simp; omega,HQ,((hs4.alloc _).app (hown4.alloc _) hg5 hlt).more (by omega),grown_app (grown_alloc hgr4 _) (hown4.alloc _) hg5 (Nat.le_refl _)⟩
   case measure => simp [intOf]; omega
  ·go_wp2_with fail
   refine bodyPost_ret (results_tmp rfl _ _ _) rfl ?_
   exact ⟨A,c,ps,rfl,hown,by omega,hall.out,hsr.more (by omega),hgr⟩
end Go.Proofs.YtggnccafmadacaaGreatDoor
/- The walk of the stream's function that draws a text of an input. -/
namespace Go.Proofs.YtggnccafmadacaaGreatDoor
set_option linter.unusedVariables false
set_option linter.unusedSimpArgs false
open Go.RowKit Go.Sort

theorem tidyT_len {ps : List (Int × Int)} (h : inFault ps = 0) : (inT (tidyR ps) (tidyR ps).length).length ≤ 135000:=by
 obtain ⟨q1,-,-⟩:=tidy_right h
 have h1:=inT_len (right_piece q1) (tidyR ps).length (Nat.le_refl _)
 have h2:=(inFault_ok q1).1
 omega
set_option maxHeartbeats 2000000 in
set_option maxRecDepth 100000 in
theorem inputString_any (g N B : Nat) (w : World) (hs : Str w g N) (hN : N < 4611686018424000000) (hE : EnvB B w) (hB : B ≤ g) :
  Calls Tryz.prog 21 #[.pointer (some ⟨g,0,none⟩)] w (StringPost w g (N + 100)):=by
 have hlt:=hs.lt
 have hE:=Lib.hid hE
 go_enter Tryz.func21,Tryz.ntmps21
 go_wp2_with fail
 refine (rightPieces_any g N _ hs (by omega)).mono ?_
 rintro e w1 ⟨A,c,ps,rfl,hown,hl,hall,hs1,hg1⟩
 have hE:=Lib.hid (hE.out.below ((Below.refl B w).grown hg1 (by omega) (fun k hk => by injection hk with hk; omega)))
 have hrt:=rp_right hl hall
 have hln:=tidyT_len hrt
 have HR:=Lib.hid hrt
 clear hs hall hrt
 go_wp2_with fail
 refine (inputLines_any A c _ ps _ (Row.of_own hown) HR.out hE.out.env).mono ?_
 rintro e w2 ⟨rfl,hb⟩
 have hs2:=hs1.keep hb
 have hgr:=grown_trans' hg1 (grown_of_below hb (some g))
 clear hown hs1 hg1 hb hE HR
 generalize inT (tidyR ps) (tidyR ps).length = T at *
 go_wp2_with fail
 refine (pick_any g _ _ _ _ [0,0,1,2] _ (hs2.alloc _) (by omega) (row_new _ _ _ _ _ _ (Nat.le_refl _) rfl) hs2.lt (by simp) (by simp)).mono ?_
 rintro e w3 ⟨n,rfl,hn,hs3,hg3⟩
 have hgr:=grown_trans' (grown_alloc hgr (.cells #[.int .i64 0,.int .i64 0,.int .i64 1,.int .i64 2] 3)) hg3
 obtain ⟨n,rfl⟩ : ∃ m : Nat,n = (m : Int):=by
  simp only [List.mem_cons,List.not_mem_nil,or_false] at hn
  rcases hn with rfl | rfl | rfl | rfl
  ·exact ⟨0,rfl⟩
  ·exact ⟨0,rfl⟩
  ·exact ⟨1,rfl⟩
  ·exact ⟨2,rfl⟩
 have hn2 : n ≤ 2:=by
  simp only [List.mem_cons,List.not_mem_nil,or_false] at hn
  omega
 clear hs2 hg3 hn
 go_wp2_with fail
 go_loopw [3,10] (fun s i wr => ∃ (k : Nat) (r : List UInt8),k ≤ n ∧ s = encStr r ∧ i = .int .i64 k ∧ r.length ≤ 135000 + k * 8 ∧ Str wr g (N + 41 + 3 * k) ∧ w.grownBy wr (some g)) (fun _ i _ => n - (intOf i).toNat)
 case atStart => exact ⟨0,T,Nat.zero_le _,rfl,rfl,by omega,hs3.more (by omega),hgr⟩
 case round =>
  clear hs3 hgr
  obtain ⟨k,r,hk,rfl,rfl,hr,hsr,hgr⟩:=hrel
  by_cases hlt2 : k < n
  ·go_wp2_with fail
   refine (changed_any g _ r [32,10,48,49,108,114,97,45] _ hsr (by omega) (by omega) (by decide) (by decide) (by decide)).mono ?_
   rintro e w4 ⟨q,rfl,hq,hs4,hg4⟩
   have hgr:=grown_trans' hgr hg4
   have hq7 : q.length ≤ r.length + 8:=hq
   clear hsr hg4 hq
   go_wp2_with fail
   go_roundw
   case rel => exact ⟨k + 1,q,by omega,rfl,by go_num,by omega,hs4.more (by omega),hgr⟩
   case measure => simp [intOf]; omega
  ·go_wp2_with fail
   go_ret
   exact ⟨r,rfl,by omega,hsr.more (by omega),hgr⟩
end Go.Proofs.YtggnccafmadacaaGreatDoor
