/- Texts of this seat, laid together: Iv. -/
import Derived.Lib.Hide
import Derived.Handy
import Derived.Test.YtkchacgkjdeiaaaGreatDoorBf03
import Derived.Test.YtkchacgkjdeiaaaGreatDoorBf00
/- The walk of the stream's function that draws a right input. -/
namespace Go.Proofs.YtkchacgkjdeiaaaGreatDoor
set_option linter.unusedVariables false
set_option linter.unusedSimpArgs false
open Go.RowKit

def RPiecesPost (w : World) (g N : Nat) (e : Ending) (w' : World) : Prop :=
 ∃ (A : Option Addr) (c : Nat) (ps : List (Int × Int)),e = .returned (.slice A ps.length c) ∧ w'.ownsRow w.heap.size 39 2 (.slice A ps.length c) ps.length (prs ps) ∧ ps.length ≤ 8 ∧ (∀ p ∈ ps,0 ≤ p.1 ∧ p.1 ≤ 63 ∧ 1 ≤ p.2 ∧ p.2 ≤ 20) ∧ Str w' g N ∧ w.grownBy w' (some g)
theorem pick_held {r : Int} (h : r ∈ [0,1,2,2,16,17,18,18,(34 : Int)]) : 0 ≤ r ∧ r ≤ 63:=by
 simp only [List.mem_cons,List.not_mem_nil,or_false] at h;omega
theorem pick_frames {r : Int} (h : r ∈ [1,1,2,3,7,(20 : Int)]) : 1 ≤ r ∧ r ≤ 20:=by
 simp only [List.mem_cons,List.not_mem_nil,or_false] at h;omega
theorem rp_right {ps : List (Int × Int)} (hl : ps.length ≤ 8) (h : ∀ p ∈ ps,0 ≤ p.1 ∧ p.1 ≤ 63 ∧ 1 ≤ p.2 ∧ p.2 ≤ 20) : inFault ps = 0:=by
 have h1:=psum_le ps 20 (by omega) (fun p hp => (h p hp).2.2.2);rw [inFault_good ps (by omega) (fun p hp => (vld_iff p).2 (by have:=h p hp; omega)),if_neg (by omega)]
set_option maxHeartbeats 1000000 in
theorem rightPieces_any (g N : Nat) (w : World) (hs : Str w g N) (hN : N < 4611686018427387000) :
  Calls Tryz.prog 6 #[.pointer (some ⟨g,0,none⟩)] w (RPiecesPost w g (N + 40)):=by
 have hlt:=hs.lt
 go_enter Tryz.func6,Tryz.ntmps6
 go_wp2_with fail;refine (range_any g N _ _ _ hs (by omega) (by omega) (by omega) (by omega)).mono ?_;rintro e w1 ⟨r,rfl,h0,h6,hs1,hg1⟩;obtain ⟨m,rfl⟩:=Int.eq_ofNat_of_zero_le h0;go_wp2_with fail
 go_loopw [3,6] (fun v i wr => ∃ (k : Nat) (A : Option Addr) (c : Nat) (ps : List (Int × Int)),k ≤ m ∧ i = .int .i64 k ∧ v = .slice A ps.length c ∧ wr.ownsRow w.heap.size 39 2 (.slice A ps.length c) ps.length (prs ps) ∧ ps.length ≤ k ∧ Hid (∀ p ∈ ps,0 ≤ p.1 ∧ p.1 ≤ 63 ∧ 1 ≤ p.2 ∧ p.2 ≤ 20) ∧ Str wr g (N + 1 + 2 * k) ∧ w.grownBy wr (some g)) (fun _ i _ => m - (intOf i).toNat)
 case atStart => exact ⟨0,none,0,[],by omega,rfl,rfl,World.ownsRow_nil _ _ _ _,by simp,Lib.hid (by simp),hs1,hg1⟩
 case round =>
  obtain ⟨k,A,c,ps,hk,rfl,rfl,hown,hpk,hall,hsr,hgr⟩:=hrel
  by_cases hkm : k < m
  ·go_wp2_with fail
   refine (pick_any g _ _ _ _ [0,1,2,2,16,17,18,18,34] _ (hsr.alloc _) (by omega) (row_new _ _ _ _ _ _ (Nat.le_refl _) rfl) hsr.lt (by simp) (by simp)).mono ?_;rintro e w3 ⟨r3,rfl,hr3,hs3,hg3⟩;have hq3:=pick_held hr3;clear hr3;go_wp2_with fail;refine (pick_any g _ _ _ _ [1,1,2,3,7,20] _ (hs3.alloc _) (by omega) (row_new _ _ _ _ _ _ (Nat.le_refl _) rfl) hs3.lt (by simp) (by simp)).mono ?_;rintro e w4 ⟨r4,rfl,hr4,hs4,hg4⟩;have hq4:=pick_frames hr4
   have HQ : Hid (∀ p ∈ ps ++ [(r3,r4)],0 ≤ p.1 ∧ p.1 ≤ 63 ∧ 1 ≤ p.2 ∧ p.2 ≤ 20):=Lib.hid (fun p hp => by
    rcases List.mem_append.1 hp with h | h
    ·exact hall.out p h
    ·simp at h; subst h; exact ⟨hq3.1,hq3.2,hq4.1,hq4.2⟩)
   have hgr4:=grown_trans' (grown_alloc (grown_trans' (grown_alloc hgr _) hg3) _) hg4;have hown4:=own_grown (own_grown hown (grown_trans' (World.grownBy_alloc _ _ _) hg3) hlt) (grown_trans' (World.grownBy_alloc _ _ _) hg4) hlt;have z4:=hgr4.size;clear hr4 hq3 hq4
   go_wp2_with (at_builtin; refine wpList_app _ _ rfl _ _ ty_prs rfl (hown4.alloc _) rfl (row_new _ _ _ w.heap.size 2 1 z4 rfl) rfl rfl (by omega) (by omega) (by simp; omega) ?_)
   intro A5 c5 w5 hown5 hg5 _;go_wp2_with fail;go_roundw
   case rel => exact ⟨k + 1,A5,c5,ps ++ [(r3,r4)],by omega,by go_num,by simp,by simpa [prs] using hown5,by simp; omega,HQ,((hs4.alloc _).app (hown4.alloc _) hg5 hlt).more (by omega),grown_app (grown_alloc hgr4 _) (hown4.alloc _) hg5 (Nat.le_refl _)⟩
   case measure => simp [intOf]; omega
  ·go_wp2_with fail
   refine bodyPost_ret (results_tmp rfl _ _ _) rfl ?_;exact ⟨A,c,ps,rfl,hown,by omega,hall.out,hsr.more (by omega),hgr⟩
end Go.Proofs.YtkchacgkjdeiaaaGreatDoor
