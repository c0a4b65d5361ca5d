/- Texts of this seat, laid together: VoY VpE VpF VoZ. -/
import Derived.Shelf.SlSortCmp.NoneTotal
import Derived.Handy
import Derived.Test.YtgeaeockmadhcaaGreatDoorBp31
import Derived.Test.YtgeaeockmadhcaaGreatDoorBp19
import Derived.Test.YtgeaeockmadhcaaGreatDoorBp32
import Derived.Test.YtgeaeockmadhcaaGreatDoorBp07
import Derived.Test.YtgeaeockmadhcaaGreatDoorBp08
import Derived.Test.YtgeaeockmadhcaaGreatDoorBp17
/- The walk of evidence.Merge. -/
namespace Go.Proofs.YtgeaeockmadhcaaGreatDoor
set_option linter.unusedVariables false
set_option linter.unusedSimpArgs false
open Go.RowKit Go.Sort

structure TwoR (w : World) (lo lo' : Nat) (A B : Option Addr) (us vs : List VoteE) : Prop where
  a : Row w lo 4 A us.length (us.flatMap encV)
  b : Row w lo' 4 B vs.length (vs.flatMap encV)
  as_ : ∀ v ∈ us, v.run.length ≤ 1000000 ∧ v.who.length ≤ 1000000
  bs_ : ∀ v ∈ vs, v.run.length ≤ 1000000 ∧ v.who.length ≤ 1000000
theorem TwoR.below {w w' : World} {lo lo' : Nat} {A B : Option Addr} {us vs : List VoteE} (h : TwoR w lo lo' A B us vs) (hb : Below w.heap.size w w') : TwoR w' lo lo' A B us vs:=⟨h.a.below hb,h.b.below hb,h.as_,h.bs_⟩
theorem TwoR.alloc {w : World} {lo lo' : Nat} {A B : Option Addr} {us vs : List VoteE} (h : TwoR w lo lo' A B us vs) (o : Obj) : TwoR (w.alloc o) lo lo' A B us vs:=h.below ((Below.refl _ _).alloc (Nat.le_refl _) _)
def MrgP (w : World) (us vs : List VoteE) (e : Ending) (w' : World) : Prop:=Below w.heap.size w w' ∧
 (firstE [votesE us,votesE vs] ≠ 0 → e = .returned (.tuple #[.slice none 0 0,.int .i64 (firstE [votesE us,votesE vs])])) ∧
 (firstE [votesE us,votesE vs] = 0 → ¬ Agree us vs → e = .returned (.tuple #[.slice none 0 0,.int .i64 13])) ∧
 (firstE [votesE us,votesE vs] = 0 → Agree us vs → ∃ (R : Option Addr) (rc : Nat) (M : List VoteE),M.Perm (us ++ vs) ∧ M.Pairwise leV ∧ e = .returned (.tuple #[.slice R (compL M).length rc,.int .i64 0]) ∧ w'.ownsRow w.heap.size 37 4 (.slice R (compL M).length rc) (compL M).length ((compL M).flatMap encV))
theorem compL_len {α : Type} [DecidableEq α] : ∀ l : List α,(compL l).length ≤ l.length
 | [] => Nat.le_refl _
 | [_] => Nat.le_refl _
 | x :: y :: l => by
  have ih:=compL_len (y :: l)
  rw [compL_cc]
  split
  ·exact Nat.le_trans ih (by simp)
  ·simpa using ih
theorem own_lowerV {w : World} {base base' : Nat} {e : TypeId} {size : Nat} {v : Value} {n : Nat} {xs : List Value} (h : w.ownsRow base e size v n xs) (hb : base' ≤ base) : w.ownsRow base' e size v n xs:=by
 obtain ⟨h1,h2⟩:=h
 refine ⟨h1,?_⟩
 rcases h2 with h | ⟨g,cap,cur,h3,h4,h5⟩
 ·exact .inl h
 ·exact .inr ⟨g,cap,cur,h3,Nat.le_trans hb h4,h5⟩
theorem two_zero {x y : Int} (h : firstE [x,y] = 0) : x = 0 ∧ y = 0:=by
 unfold firstE at h
 by_cases hx : x = 0
 ·subst hx; simp [firstE] at h; exact ⟨rfl,Decidable.byContradiction fun h2 => h2 (h h2)⟩
 ·simp [hx] at h
set_option maxHeartbeats 8000000 in
set_option maxRecDepth 100000 in
theorem merge_any (lo lo' c d : Nat) (A B : Option Addr) (us vs : List VoteE) (w : World) (hR : TwoR w lo lo' A B us vs) (hl : us.length + vs.length < 40) :
  Calls Tryz.prog 17 #[.slice A us.length c,.slice B vs.length d] w (MrgP w us vs):=by
 obtain ⟨ue,hue⟩ : ∃ ue,ue = votesE us:=⟨_,rfl⟩
 obtain ⟨ve,hve⟩ : ∃ ve,ve = votesE vs:=⟨_,rfl⟩
 have hul : us.length ≤ 1000000:=by omega
 have hvl : vs.length ≤ 1000000:=by omega
 have HL : Hid (us.length + vs.length < 40):=Lib.hid hl
 have HFE : Hid (firstE [votesE us,votesE vs] = firstE [ue,ve]):=Lib.hid (by rw [hue,hve])
 have HUV : Hid (firstE [ue,ve] = 0 → us.Pairwise ltV ∧ vs.Pairwise ltV):=Lib.hid (fun h => by
  obtain ⟨h1,h2⟩:=two_zero h
  exact ⟨((votesE_iff us).1 (by rw [← hue,h1])).2.2,((votesE_iff vs).1 (by rw [← hve,h2])).2.2⟩)
 have HUE:=Lib.hid hue
 have HVE:=Lib.hid hve
 have hx : Below w.heap.size w w:=Below.refl _ _
 clear hl hue hve
 go_enter Tryz.func17,Tryz.ntmps17
 go_wp2_with fail
 refine (checkVotes_any lo c A us _ hR.a hul hR.as_).mono ?_
 rintro e w1 ⟨rfl,hb⟩
 rw [← HUE.out]
 replace hR:=hR.below hb
 replace hx:=below_up hx hb
 clear hb
 go_wp2_with fail
 refine (checkVotes_any lo' d B vs _ hR.b hvl hR.bs_).mono ?_
 rintro e w2 ⟨rfl,hb⟩
 rw [← HVE.out]
 replace hR:=hR.below hb
 replace hx:=below_up hx hb
 clear hb
 go_wp2_with fail
 refine (first_any _ 2 0 [ue,ve] _ (by first | exact row_new' _ (by first | rfl | simp) (by first | omega | (simp; omega)) rfl | exact row_newN _ _ (by first | rfl | simp) (by first | omega | (simp; omega)) rfl | exact row_newD _ (by first | rfl | simp) (by first | omega | (simp; omega)) rfl) (by simp)).mono ?_
 rintro e w3 ⟨rfl,rfl⟩
 replace hR:=hR.alloc (.cells #[.int .i64 ue,.int .i64 ve] 43)
 replace hx:=hx.alloc hx.size (.cells #[.int .i64 ue,.int .i64 ve] 43)
 obtain ⟨fe,hfe⟩ : ∃ fe,fe = firstE [ue,ve]:=⟨_,rfl⟩
 rw [← hfe] at HFE HUV ⊢
 clear hfe
 generalize w2.alloc (.cells #[.int .i64 ue,.int .i64 ve] 43) = w3 at *
 by_cases h0 : fe = 0
 ·subst h0
  have HSO:=Lib.hid (HUV.out rfl)
  go_wp2_with fail
  generalize hwx : w3.alloc (.cells #[.slice A us.length c,.slice B vs.length d] 26) = w4
  have hx4 : Below w.heap.size w w4:=by rw [← hwx]; exact hx.alloc hx.size _
  have hR4 : TwoR w4 lo lo' A B us vs:=by rw [← hwx]; exact hR.alloc _
  have hrw : Row w4 0 1 (some ⟨w3.heap.size,0,none⟩) 2 [.slice A us.length c,.slice B vs.length d]:=by rw [← hwx]; exact row_new w3 #[.slice A us.length c,.slice B vs.length d] 26 0 1 2 (Nat.zero_le _) rfl
  clear hwx hx hR
  refine (concatV_any (some ⟨w3.heap.size,0,none⟩) A B 2 c d 0 lo lo' us vs w4 hrw hR4.a hR4.b HL.out).mono ?_
  rintro e w5 ⟨R,rc,rfl,ho,hb⟩
  have hbs : w.heap.size ≤ w4.heap.size:=hx4.size
  replace hx4:=below_up hx4 hb
  have HUL : Hid ((us ++ vs).length < 40):=Lib.hid (by rw [List.length_append]; exact HL.out)
  generalize hz : us ++ vs = Z at ho HUL ⊢
  have HZ:=Lib.hid hz
  clear hb hR4 hrw hz
  go_wp2_with fail
  have hsr:=sortStableV_any R rc w4.heap.size Z w5 ho HUL.out
  unfold FnV at hsr
  refine hsr.mono ?_
  clear hsr
  rintro e w6 ⟨rfl,M,hp,hs,ho6,hg6⟩
  replace hx4:=below_app ho hx4 hg6 hbs hx4.size
  have HM : Hid (M.Perm (us ++ vs) ∧ M.Pairwise leV):=Lib.hid ⟨by rw [HZ.out]; exact hp,hs⟩
  have hlen : Z.length = M.length:=hp.length_eq.symm
  have hml : M.length < 40:=by have:=HUL.out; omega
  clear hp hs hg6 ho HUL
  rw [hlen]
  clear hlen
  go_wp2_with fail
  refine (compactV_any R rc w4.heap.size M w6 ho6 (by omega)).mono ?_
  rintro e w7 ⟨rfl,ho7,hg7⟩
  replace hx4:=below_app ho6 hx4 hg7 hbs hx4.size
  obtain ⟨C,hCM⟩ : ∃ C,C = compL M:=⟨_,rfl⟩
  rw [← hCM] at ho7 ⊢
  have HAG : Hid (Agree us vs → ∀ i,∀ h : i + 1 < C.length,¬ sameKey (C[i]'(by omega)) C[i + 1]):=Lib.hid (by subst hCM; exact agree_adj HSO.out.1 HSO.out.2 HM.out.1 HM.out.2)
  have HCF : Hid (¬ Agree us vs → ∃ i,∃ h : i + 1 < C.length,sameKey (C[i]'(by omega)) C[i + 1]):=Lib.hid (by subst hCM; exact conflict_adj HM.out.1 HM.out.2)
  have HML:=Lib.hid (show C.length ≤ M.length by rw [hCM]; exact compL_len M)
  have HGD : Hid (∀ W,Below w.heap.size w W → W.ownsRow w.heap.size 37 4 (.slice R C.length rc) C.length (C.flatMap encV) → Agree us vs → MrgP w us vs (.returned (.tuple #[.slice R C.length rc,.int .i64 0])) W):=Lib.hid (fun W hW hO ha => by
   unfold MrgP
   rw [HFE.out]
   subst hCM
   exact ⟨hW,fun h => absurd rfl h,fun _ h => absurd ha h,fun _ _ => ⟨R,rc,M,HM.out.1,HM.out.2,rfl,hO⟩⟩)
  have HBD : Hid (∀ W,Below w.heap.size w W → ¬ Agree us vs → MrgP w us vs (.returned (.tuple #[.slice none 0 0,.int .i64 13])) W):=Lib.hid (fun W hW ha => by
   unfold MrgP
   rw [HFE.out]
   exact ⟨hW,fun h => absurd rfl h,fun _ _ => rfl,fun _ h => absurd h ha⟩)
  have HO7 : Hid (w7.ownsRow w.heap.size 37 4 (.slice R C.length rc) C.length (C.flatMap encV)):=Lib.hid (own_lowerV ho7 hbs)
  have hcl : C.length ≤ 39:=by have:=HML.out; omega
  clear ho6 ho7 hg7 hbs hml HM HML hCM
  obtain ⟨nn,hnn⟩ : ∃ nn,nn = C.length:=⟨_,rfl⟩
  have HNN:=Lib.hid hnn
  rw [← hnn] at hcl ⊢
  clear hnn
  go_wp2_with fail
  go_loopw [8] (fun x wr => ∃ k : Nat,x = .int .i64 k ∧ 1 ≤ k ∧ (k ≤ nn ∨ k = 1) ∧ Hid (∀ i,∀ h : i + 1 < C.length,i + 1 < k → ¬ sameKey (C[i]'(by omega)) C[i + 1]) ∧ Hid (wr.ownsRow w.heap.size 37 4 (.slice R C.length rc) C.length (C.flatMap encV)) ∧ Below w.heap.size w wr) (fun x _ => nn - (intOf x).toNat)
  case atStart => exact ⟨1,rfl,Nat.le_refl _,.inr rfl,Lib.hid (fun i h h2 => by omega),HO7,hx4⟩
  case round =>
   clear HO7 hx4
   obtain ⟨k,rfl,hk1,hk2,HD,HO,hxw⟩:=hrel
   by_cases hlt : k < nn
   ·obtain ⟨b,hA,hbb,hbz,-,-⟩:=ownBlk HO.out (by have:=HNN.out; omega)
    subst hA
    obtain ⟨k0,hk0⟩ : ∃ k0,k = k0 + 1:=⟨k - 1,by omega⟩
    have wk : IntKind.i64.wrap ((k : Int) - 1) = (k0 : Int):=by rw [IntWalk.i64_in _ ⟨by omega,by omega⟩]; omega
    have hk0n : k0 < nn:=by omega
    obtain ⟨y,hy⟩ : ∃ x,C[k]? = some x:=⟨C[k]'(by have:=HNN.out; omega),List.getElem?_eq_getElem _⟩
    obtain ⟨x,hx0⟩ : ∃ y,C[k0]? = some y:=⟨C[k0]'(by have:=HNN.out; omega),List.getElem?_eq_getElem _⟩
    have HEQ : Hid (sameKey x y → ∃ i,∃ h : i + 1 < C.length,sameKey (C[i]'(by omega)) C[i + 1]):=Lib.hid (fun hs => by
     obtain ⟨h1,e1⟩:=List.getElem?_eq_some_iff.1 hx0
     obtain ⟨h2,e2⟩:=List.getElem?_eq_some_iff.1 hy
     subst hk0
     exact ⟨k0,h2,by rw [e1,e2]; exact hs⟩)
    have HNE : Hid (¬ sameKey x y → ∀ i,∀ h : i + 1 < C.length,i + 1 < k + 1 → ¬ sameKey (C[i]'(by omega)) C[i + 1]):=Lib.hid (fun hs i h h2 => by
     rcases Nat.lt_or_ge (i + 1) k with h3 | h3
     ·exact HD.out i h h3
     ·have hik : i = k0:=by omega
      subst hik hk0
      obtain ⟨h1,e1⟩:=List.getElem?_eq_some_iff.1 hx0
      obtain ⟨h4,e2⟩:=List.getElem?_eq_some_iff.1 hy
      rw [e1,e2]
      exact hs)
    obtain ⟨cc,hcc⟩ : ∃ cc,cc = rc:=⟨_,rfl⟩
    have HC : Hid (SrtC wr wr w.heap.size b cc C.length C):=Lib.hid ⟨by rw [hcc]; exact HO.out,World.grownBy.refl _ _,rfl⟩
    have HOK : Hid (∀ W,Below wr.heap.size wr W → W.ownsRow w.heap.size 37 4 (.slice (some ⟨b,0,none⟩) C.length rc) C.length (C.flatMap encV)):=Lib.hid (fun W hW => own_keep HO.out hW)
    have hbb2:=(HC.out.atS hx0).1
    clear HD HO hbb hbz hcc hk0
    have hx:=hx0
    clear hx0
    obtain ⟨r,hr⟩ : ∃ r,r = cmpV x y:=⟨_,rfl⟩
    have HSC : Hid (∀ W,Below wr.heap.size wr W → (fun w' => (w'.cell? ⟨b,k0 * 4,none⟩ = some (.string ⟨x.run.toArray⟩) ∧ w'.cell? ⟨b,k0 * 4 + 1,none⟩ = some (.string ⟨x.who.toArray⟩) ∧ w'.cell? ⟨b,k0 * 4 + 2,none⟩ = some (.int .i64 x.at_) ∧ w'.cell? ⟨b,k0 * 4 + 3,none⟩ = some (.int .i64 x.kind)) ∧ w'.cell? ⟨b,k * 4,none⟩ = some (.string ⟨y.run.toArray⟩) ∧ w'.cell? ⟨b,k * 4 + 1,none⟩ = some (.string ⟨y.who.toArray⟩) ∧ w'.cell? ⟨b,k * 4 + 2,none⟩ = some (.int .i64 y.at_) ∧ w'.cell? ⟨b,k * 4 + 3,none⟩ = some (.int .i64 y.kind)) W):=Lib.hid (fun W hW => (HC.out.keep hW).two hx hy)
    have HRV : Hid (∀ W,Calls Tryz.prog 49 #[.agg #[.string ⟨x.run.toArray⟩,.string ⟨x.who.toArray⟩,.int .i64 x.at_,.int .i64 x.kind],.agg #[.string ⟨y.run.toArray⟩,.string ⟨y.who.toArray⟩,.int .i64 y.at_,.int .i64 y.kind]] W fun e w' => e = .returned (.int .i64 r) ∧ Below W.heap.size W w'):=Lib.hid (fun W => by rw [hr]; exact byVote_any _ _ _ _ _ _ _ _ W)
    have HKP : Hid (∀ W,Below wr.heap.size wr W → SrtC wr W w.heap.size b cc C.length C):=Lib.hid (fun W hW => HC.out.keep hW)
    have HR:=Lib.hid hr
    have hbz : Below wr.heap.size wr wr.drew:=below_drewN' (Below.refl _ _) 1
    have hsc:=HSC.out _ hbz
    try simp only at hsc
    clear hr HC hx hy
    go_wp2_with fail
    refine wp_region_held_drew (S:=(fun w' => (w'.cell? ⟨b,k0 * 4,none⟩ = some (.string ⟨x.run.toArray⟩) ∧ w'.cell? ⟨b,k0 * 4 + 1,none⟩ = some (.string ⟨x.who.toArray⟩) ∧ w'.cell? ⟨b,k0 * 4 + 2,none⟩ = some (.int .i64 x.at_) ∧ w'.cell? ⟨b,k0 * 4 + 3,none⟩ = some (.int .i64 x.kind)) ∧ w'.cell? ⟨b,k * 4,none⟩ = some (.string ⟨y.run.toArray⟩) ∧ w'.cell? ⟨b,k * 4 + 1,none⟩ = some (.string ⟨y.who.toArray⟩) ∧ w'.cell? ⟨b,k * 4 + 2,none⟩ = some (.int .i64 y.at_) ∧ w'.cell? ⟨b,k * 4 + 3,none⟩ = some (.int .i64 y.kind))) (by kernel_rfl) (hsc) (fun hHeld => ?_)
    (refine wpAnyH_take (i:=0) (v:=?_) (by (simp only [Q0,Q2]; rfl)) (by kernel_rfl) (by kernel_rfl) (by kernel_rfl) (by exact fun _ _ _ h => h) (Or.inl ⟨by rfl,?_⟩) (by assumption) ?_; (rotate_left 1; (intro w hSw; (try dsimp only at hSw); go_simp); (try with_reducible rfl)); (try simp only [Act.put,Q3,Q4,Q5]))
    (refine wpAnyH_take (i:=1) (v:=?_) (by (simp only [Q0,Q1,Q2]; rfl)) (by kernel_rfl) (by kernel_rfl) (by kernel_rfl) (by exact fun _ _ _ h => h) (Or.inl ⟨by rfl,?_⟩) (by assumption) ?_; (rotate_left 1; (intro w hSw; (try dsimp only at hSw); go_simp); (try with_reducible rfl)); (try simp only [Act.put,Q3,Q4,Q5]))
    (refine wpAnyH_take (i:=2) (v:=?_) (by (simp only [Q0,Q1,Q2]; rfl)) (by kernel_rfl) (by kernel_rfl) (by kernel_rfl) (by exact fun _ _ _ h => h) (Or.inl ⟨by rfl,?_⟩) (by assumption) ?_; (rotate_left 1; (intro w hSw; (try dsimp only at hSw); go_simp); (try with_reducible rfl)); (try simp only [Act.put,Q3,Q4,Q5]))
    (refine wpAnyH_take (i:=3) (v:=?_) (by (simp only [Q0,Q1,Q2]; rfl)) (by kernel_rfl) (by kernel_rfl) (by kernel_rfl) (by exact fun _ _ _ h => h) (Or.inl ⟨by rfl,?_⟩) (by assumption) ?_; (rotate_left 1; (intro w hSw; (try dsimp only at hSw); go_simp); (try with_reducible rfl)); (try simp only [Act.put,Q3,Q4,Q5]))
    (refine wpAnyH_take (i:=4) (v:=?_) (by (simp only [Q0,Q1,Q2]; rfl)) (by kernel_rfl) (by kernel_rfl) (by kernel_rfl) (by exact fun _ _ _ h => h) (Or.inl ⟨by rfl,?_⟩) (by assumption) ?_; (rotate_left 1; (intro w hSw; (try dsimp only at hSw); go_simp); (try with_reducible rfl)); (try simp only [Act.put,Q3,Q4,Q5]))
    (refine wpAnyH_take (i:=5) (v:=?_) (by (simp only [Q0,Q1,Q2]; rfl)) (by kernel_rfl) (by kernel_rfl) (by kernel_rfl) (by exact fun _ _ _ h => h) (Or.inl ⟨by rfl,?_⟩) (by assumption) ?_; (rotate_left 1; (intro w hSw; (try dsimp only at hSw); go_simp); (try with_reducible rfl)); (try simp only [Act.put,Q3,Q4,Q5]))
    (refine wpAnyH_take (i:=6) (v:=?_) (by (simp only [Q0,Q1,Q2]; rfl)) (by kernel_rfl) (by kernel_rfl) (by kernel_rfl) (by exact fun _ _ _ h => h) (Or.inl ⟨by rfl,?_⟩) (by assumption) ?_; (rotate_left 1; (intro w hSw; (try dsimp only at hSw); go_simp); (try with_reducible rfl)); (try simp only [Act.put,Q3,Q4,Q5]))
    (refine wpAnyH_take (i:=7) (v:=?_) (by (simp only [Q0,Q1,Q2]; rfl)) (by kernel_rfl) (by kernel_rfl) (by kernel_rfl) (by exact fun _ _ _ h => h) (Or.inl ⟨by rfl,?_⟩) (by assumption) ?_; (rotate_left 1; (intro w hSw; (try dsimp only at hSw); go_simp); (try with_reducible rfl)); (try simp only [Act.put,Q3,Q4,Q5]))
    (refine wpAnyH_take (i:=8) (v:=?_) (by (simp only [Q0,Q1,Q2]; rfl)) (by kernel_rfl) (by kernel_rfl) (by kernel_rfl) (by exact fun _ _ _ h => h) (Or.inl ⟨by rfl,?_⟩) (by assumption) ?_; (rotate_left 1; (intro w hSw; (try dsimp only at hSw); go_simp); (try with_reducible rfl)); (try simp only [Act.put,Q3,Q4,Q5]))
    refine wpAnyH_ready (rs:=[9]) (by kernel_rfl) (by simp) ?_
    refine AllReadyH.cons rfl (fun K hK => ?_) AllReadyH.nil
    go_simp
    go_at_call 49
    refine (HRV.out _).mono ?_
    rintro e9 wa ⟨rfl,hba⟩
    replace hbz:=below_up hbz hba
    have hsc:=HSC.out _ hbz
    try simp only at hsc
    clear hba
    go_wp2_with fail
    refine hK.out _ _ (hsc) (fun hHeld => ?_)
    clear hK K
    (try simp only [Act.put,Q3,Q4,Q5])
    (refine wpAnyH_take (i:=10) (v:=?_) (by (simp only [Q0,Q1,Q2]; rfl)) (by kernel_rfl) (by kernel_rfl) (by kernel_rfl) (by exact fun _ _ _ h => h) (Or.inl ⟨by rfl,?_⟩) (by assumption) ?_; (rotate_left 1; (intro w hSw; (try dsimp only at hSw); go_simp); (try with_reducible rfl)); (try simp only [Act.put,Q3,Q4,Q5]))
    refine wpAnyH_done (by kernel_rfl) ?_ _
    replace hxw:=below_up hxw hbz
    have HO2:=Lib.hid (HOK.out _ hbz)
    by_cases hr0 : r = 0
    ·have hsk : sameKey x y:=(cmpV_eq x y).1 (by rw [← HR.out]; exact hr0)
     have HE:=Lib.hid (HBD.out _ hxw (fun ha => by
      obtain ⟨i,h,hs⟩:=HEQ.out hsk
      exact HAG.out ha i h hs))
     clear hsk HKP HRV HSC HR hbz hsc hHeld HEQ HNE HOK
     subst hr0
     go_wp2_with fail
     go_returns
     exact HE.out
    ·have hsk : ¬ sameKey x y:=fun h => hr0 (by rw [HR.out]; exact (cmpV_eq x y).2 h)
     have HD2:=Lib.hid (HNE.out hsk)
     have hrb : (r == 0) = false:=beq_eq_false_iff_ne.2 hr0
     clear hsk HKP HRV HSC HR hbz hsc hHeld HEQ HNE HOK hr0 wk
     go_wp2_with fail
     go_roundw
     case rel => exact ⟨k + 1,by go_num,by omega,.inl hlt,HD2,HO2,hxw⟩
     case measure => simp [intOf]; omega
   ·have hag : Agree us vs:=Classical.byContradiction fun hna => by
     obtain ⟨i,h,hs⟩:=HCF.out hna
     exact HD.out i h (by have:=HNN.out; omega) hs
    have HE:=Lib.hid (HGD.out _ hxw HO.out hag)
    rw [← HNN.out] at HE
    clear HD HO hag
    have hnl : ¬ (500 : Int) < (nn : Int):=by omega
    go_wp2_with fail
    go_returns
    exact HE.out
 ·have HE : Hid (∀ W,Below w.heap.size w W → MrgP w us vs (.returned (.tuple #[.slice none 0 0,.int .i64 fe])) W):=Lib.hid (fun W hW => by
   unfold MrgP
   rw [HFE.out]
   exact ⟨hW,fun _ => rfl,fun h => absurd h h0,fun h => absurd h h0⟩)
  go_wp2_with fail
  go_returns
  exact HE.out _ hx
end Go.Proofs.YtgeaeockmadhcaaGreatDoor
/- The walk of VotesMerged, the reference's merging. -/
namespace Go.Proofs.YtgeaeockmadhcaaGreatDoor
set_option linter.unusedVariables false
set_option linter.unusedSimpArgs false
open Go.RowKit Go.Sort Go.Shelf Go.Lib

theorem gro_of_below {w w' : World} (h : Below w.heap.size w w') (hd : w.drawn ≤ w'.drawn) : ∃ q os,w' = Sort.grow (w.drewN q) os:=by
 refine ⟨w'.drawn - w.drawn,w'.heap.extract w.heap.size w'.heap.size,?_⟩
 have hh : w.heap ++ w'.heap.extract w.heap.size w'.heap.size = w'.heap:=by
  have hs:=h.size
  apply Array.ext_getElem?
  intro k
  rcases Nat.lt_or_ge k w.heap.size with hk | hk
  ·rw [Array.getElem?_append_left hk,h.block k hk]
  ·rw [Array.getElem?_append_right hk,Array.getElem?_extract]
   split
   ·congr 1; omega
   ·rw [Array.getElem?_eq_none (by omega)]
 have h1:=h.os
 have h2:=h.tape
 have h3:=h.output
 have h4 : w.drawn + (w'.drawn - w.drawn) = w'.drawn:=by omega
 unfold Sort.grow World.drewN
 cases w; cases w'
 simp only at *
 subst h1 h2 h3
 rw [h4,hh]
theorem sortKD_own {α : Type} [Inhabited α] {P : Program} {ρ : Ren} (L : SlLaysF0.n6 P ρ) (k : Nat) (hk0 : 0 < k) (aE : ∀ w,(isAgg (ρ.t 24)).run P w = .ok true w) (zE : ∀ w,(Go.sizeOf (ρ.t 24)).run P w = .ok k w) (enc : α → List Value) (hk : ∀ x,(enc x).length = k) (h1 : ∀ x,∀ v ∈ enc x,v.oneCell' = true)
  (cf : α → α → Int) (hO : SWO (ltOf cf)) (g : Nat) (cb : Array Value) (eg : ∀ args w,(callFunc g args).run P w = .ok (.enter g args) w)
  (hcmp : ∀ (x y : α) (w : World),Calls P g (#[.agg (enc x).toArray,.agg (enc y).toArray] ++ cb) w fun e w' => e = .returned (.int .i64 (cf x y)) ∧ ∃ q os,w' = grow (w.drewN q) os)
  (A : Option Addr) (c base : Nat) (e : TypeId) (zs : List α) (w : World) (ho : w.ownsRow base e k (.slice A zs.length c) zs.length (zs.flatMap enc)) (hl : zs.length ≤ 1000000000) :
  Calls P (ρ.f 6) #[.slice A zs.length c,.func (.func g) #[] cb] w fun e' w' => e' = .returned (.tuple #[]) ∧ ∃ ys : List α,ys.Perm zs ∧ ys.Pairwise (fun x y => ¬ cf y x < 0) ∧ w'.ownsRow base e k (.slice A ys.length c) ys.length (ys.flatMap enc) ∧ w.grownBy w' (Value.slice A zs.length c).ownBlock:=by
 by_cases hz : zs = []
 ·subst hz
  refine (AnyF.slices_SortFunc_none (P:=P) (ρ:=ρ) { L with } A c _ w).mono ?_
  rintro e' w' ⟨rfl,rfl⟩
  exact ⟨rfl,[],List.Perm.refl _,List.Pairwise.nil,ho,World.grownBy.refl _ _⟩
 ·have hpos : 0 < zs.length:=List.length_pos_iff.2 hz
  rcases ho.2 with ⟨h0,hn⟩ | ⟨g',cap,cur,hv,hg,hh,hcap,hm,hcs,ht⟩
  ·omega
  ·injection hv with e1 e2 e3
   subst e1 e3
   have hfl:=flat_len enc k hk zs
   rw [← hfl] at ht
   have hH : HoldsK enc k w g' 0 zs.toArray:=by
    unfold HoldsK
    rw [flatK_list enc k hk]
    exact holdsV hh ht
   refine (AnyQ.slices_SortFunc (P:=P) (ρ:=ρ) L k aE zE enc hk h1 cf hO g cb g' 0 c zs.toArray w eg ?_ hH (Array.getElem?_eq_some_iff.1 hh).1 (by simp; omega)).mono ?_
   ·intro m os dk _ x y
    refine (hcmp x y _).mono ?_
    rintro e' w' ⟨rfl,q,os',rfl⟩
    exact ⟨rfl,q,os',rfl⟩
   ·rintro e' w' ⟨rfl,d',n,os,hP,hS,rfl⟩
    obtain ⟨hsz,_,hperm⟩:=hP
    have e1 : d'.extract 0 zs.toArray.size = d':=by rw [← hsz]; exact Array.extract_size
    rw [e1,Array.extract_size] at hperm
    have hpl : d'.toList.length = zs.length:=by simpa using hperm.length_eq
    have hf2:=flat_len enc k hk d'.toList
    have hd : d' = d'.toList.toArray:=by simp
    refine ⟨rfl,d'.toList,hperm,?_,?_,?_⟩
    ·rw [List.pairwise_iff_getElem]
     intro i j hi hj hij
     have hi' : i < d'.size:=by simpa using hi
     have hj' : j < d'.size:=by simpa using hj
     have:=hS i j (Nat.zero_le _) hij (by rw [← hsz]; exact hj')
     rw [getElem!_pos d' j hj',getElem!_pos d' i hi'] at this
     simpa [ltOf] using this
    ·unfold sortWorldK putRowK
     rw [hd,flatK_list enc k hk]
     have hmul : d'.toList.length * k ≤ c * k:=Nat.mul_le_mul_right k (by omega)
     refine ⟨by simpa using hf2,.inr ⟨g',c,_,rfl,hg,heap_sortedV _ hh,by simpa using (by omega : d'.toList.length ≤ c),hm,by simpa [putCells] using hcs,?_⟩⟩
     have:=take_putCellsV cur (d'.toList.flatMap enc) (by rw [hf2,hcs]; exact hmul)
     rw [hf2] at this
     simpa using this
    ·unfold sortWorldK putRowK
     exact grownBy_sortedV _
theorem votesO : SWO (ltOf cmpV):=⟨fun x => by unfold ltOf; simp only [decide_eq_false_iff_not]; rw [cmpV_lt]; exact ltV_irr x,fun x y z h1 h2 => by unfold ltOf at *; simp only [decide_eq_true_eq] at *; rw [cmpV_lt] at *; exact ltV_trans h1 h2,fun x y z h1 h2 => by unfold ltOf at *; simp only [decide_eq_false_iff_not] at *; rw [cmpV_lt] at *; exact leV_trans z y x h2 h1⟩
theorem sortRV_any (A : Option Addr) (c base : Nat) (zs : List VoteE) (w : World) (ho : w.ownsRow base 37 4 (.slice A zs.length c) zs.length (zs.flatMap encV)) (hl : zs.length ≤ 1000000000) :
  Calls Tryz.prog 58 #[.slice A zs.length c,.func (.func 41) #[] #[]] w fun e' w' => e' = .returned (.tuple #[]) ∧ ∃ ys : List VoteE,ys.Perm zs ∧ ys.Pairwise leV ∧ w'.ownsRow base 37 4 (.slice A ys.length c) ys.length (ys.flatMap encV) ∧ w.grownBy w' (Value.slice A zs.length c).ownBlock:=by
 have h:=sortKD_own (α:=VoteE) Tryz.sortVote 4 (by omega) Tryz.isAgg37 Tryz.sizeOf37 encV encV_len (fun x v hv => by simp [encV] at hv; rcases hv with rfl | rfl | rfl | rfl <;> rfl) cmpV votesO 41 #[] (enters_of Tryz.func41 (by kernel_rfl) rfl)
  (fun x y w => (rbyVoteD_any x.run x.who y.run y.who x.at_ x.kind y.at_ y.kind w).mono (fun e w' h => ⟨h.1,gro_of_below h.2.1 h.2.2⟩)) A c base 37 zs w ho hl
 change Calls Tryz.prog 58 _ _ _ at h
 refine h.mono ?_
 rintro e w' ⟨rfl,ys,hp,hs,hown,hg⟩
 exact ⟨rfl,ys,hp,hs.imp (fun {x y} hxy => by rw [cmpV_lt] at hxy; exact hxy),hown,hg⟩
theorem keyC_any (o v : VoteE) (g : Nat) (w : World) (hg : Blk w g 37 #[.string ⟨v.run.toArray⟩,.string ⟨v.who.toArray⟩,.int .i64 v.at_,.int .i64 v.kind]) :
  Calls Tryz.prog 57 #[.agg #[.string ⟨o.run.toArray⟩,.string ⟨o.who.toArray⟩,.int .i64 o.at_,.int .i64 o.kind],.pointer (some ⟨g,0,none⟩)] w fun e w' => e = .returned (.bool (cmpV o v == 0)) ∧ Below w.heap.size w w':=by
 have hgl:=hg.lt
 have hal : Below w.heap.size w (w.alloc (.cells #[.string ⟨o.run.toArray⟩,.string ⟨o.who.toArray⟩,.int .i64 o.at_,.int .i64 o.kind] 37)):=(Below.refl _ _).alloc (Nat.le_refl _) _
 have hob : Blk (w.alloc (.cells #[.string ⟨o.run.toArray⟩,.string ⟨o.who.toArray⟩,.int .i64 o.at_,.int .i64 o.kind] 37)) w.heap.size 37 #[.string ⟨o.run.toArray⟩,.string ⟨o.who.toArray⟩,.int .i64 o.at_,.int .i64 o.kind]:=Blk.new _ _ _
 replace hg:=hg.below hal
 obtain ⟨r,hr⟩ : ∃ r,r = cmpV o v:=⟨_,rfl⟩
 have HC : Hid (∀ W,Calls Tryz.prog 41 #[.agg #[.string ⟨o.run.toArray⟩,.string ⟨o.who.toArray⟩,.int .i64 o.at_,.int .i64 o.kind],.agg #[.string ⟨v.run.toArray⟩,.string ⟨v.who.toArray⟩,.int .i64 v.at_,.int .i64 v.kind]] W fun e w' => e = .returned (.int .i64 r) ∧ Below W.heap.size W w'):=Lib.hid (fun W => by rw [hr]; exact rbyVote_any _ _ _ _ _ _ _ _ W)
 rw [← hr]
 clear hr
 go_enter Tryz.func57,Tryz.ntmps57
 go_upto_region 1 with (fail)
 generalize w.alloc (.cells #[.string ⟨o.run.toArray⟩,.string ⟨o.who.toArray⟩,.int .i64 o.at_,.int .i64 o.kind] 37) = w2 at *
 generalize hge : w.heap.size = ob at *
 have HGE:=Lib.hid hge
 clear hge
 obtain ⟨v0,v1,v2,v3⟩ : _ ∧ _ ∧ _ ∧ _:=⟨hg.cell 0,hg.cell 1,hg.cell 2,hg.cell 3⟩
 obtain ⟨o0,o1,o2,o3⟩ : _ ∧ _ ∧ _ ∧ _:=⟨hob.cell 0,hob.cell 1,hob.cell 2,hob.cell 3⟩
 simp only [Q0,Q2,Q1] at v0 v1 v2 v3 o0 o1 o2 o3
 have vl:=hg.lt
 have ol:=hob.lt
 clear hg hob hgl
 go_wp2_with fail
 refine (HC.out _).mono ?_
 rintro e w3 ⟨rfl,hb⟩
 have hb9:=hal.trans (hb.mono (by have:=hal.size; omega))
 clear HC hb hal v0 v1 v2 v3 o0 o1 o2 o3 vl ol
 go_wp2_with fail
 go_ret
 exact ⟨ret_bool' rfl,by rw [HGE.out]; exact hb9⟩
def IdxM (vs : List VoteE) (v : VoteE) (e : Ending) : Prop:=(∃ k : Nat,∃ h : k < vs.length,e = .returned (.int .i64 k) ∧ sameKey vs[k] v) ∨ (e = .returned (.int .i64 (-1)) ∧ ∀ o ∈ vs,¬ sameKey o v)
set_option maxHeartbeats 1000000 in
theorem idxM_any (A : Option Addr) (c g lo : Nat) (vs : List VoteE) (v : VoteE) (w : World) (hr : Row w lo 4 A vs.length (vs.flatMap encV)) (hg : Blk w g 37 #[.string ⟨v.run.toArray⟩,.string ⟨v.who.toArray⟩,.int .i64 v.at_,.int .i64 v.kind]) (hl : vs.length ≤ 1000000) :
  Calls Tryz.prog 56 #[.slice A vs.length c,.func (.func 57) #[] #[.pointer (some ⟨g,0,none⟩)]] w fun e w' => IdxM vs v e ∧ Below w.heap.size w w':=by
 go_enter Tryz.func56,Tryz.ntmps56
 go_wp2_with fail
 go_loopw [8] (fun i wr => ∃ k : Nat,k ≤ vs.length ∧ i = .int .i64 k ∧ Hid (∀ j (hj : j < vs.length),j < k → ¬ sameKey vs[j] v) ∧ Below w.heap.size w wr) (fun i _ => vs.length - (intOf i).toNat)
 case atStart => exact ⟨0,Nat.zero_le _,rfl,Lib.hid (fun _ _ h => absurd h (Nat.not_lt_zero _)),Below.refl _ _⟩
 case round =>
  obtain ⟨k,hk,rfl,HA,hbw⟩:=hrel
  by_cases hlt : k < vs.length
  ·obtain ⟨b,off,rfl,hbs,-,hcl⟩:=votes_at (hr.below hbw) (by omega)
   obtain ⟨c0,c1,c2,c3⟩:=hcl k hlt
   have hgw:=hg.below hbw
   obtain ⟨r,hr0⟩ : ∃ r,r = cmpV vs[k] v:=⟨_,rfl⟩
   have HCL:=Lib.hid (fun (W : World) (h : Blk W g 37 #[.string ⟨v.run.toArray⟩,.string ⟨v.who.toArray⟩,.int .i64 v.at_,.int .i64 v.kind]) => keyC_any vs[k] v g W h)
   rw [← hr0] at HCL
   have HFD : Hid (r = 0 → IdxM vs v (.returned (.int .i64 k))):=Lib.hid (fun h => .inl ⟨k,hlt,rfl,(cmpV_eq _ _).1 (by rw [← hr0,h])⟩)
   have HNX : Hid (r ≠ 0 → ∀ j (hj : j < vs.length),j < k + 1 → ¬ sameKey vs[j] v):=Lib.hid (fun hne j hj hjk => by
    rcases Nat.lt_or_ge j k with h | h
    ·exact HA.out j hj h
    ·have : j = k:=by omega
     subst this
     exact fun hs => hne (by rw [hr0]; exact (cmpV_eq _ _).2 hs))
   clear hcl hr0
   generalize vs[k] = o at *
   by_cases h0 : r = 0
   ·have HE:=Lib.hid (HFD.out h0)
    subst h0
    clear HFD HNX
    go_wp2_with fail
    refine (HCL.out _ hgw).mono ?_
    rintro e w2 ⟨rfl,hb2⟩
    have hb9:=below_up hbw hb2
    clear hb2 hgw c0 c1 c2 c3
    go_wp2_with fail
    go_ret
    exact ⟨HE.out,hb9⟩
   ·have HB:=Lib.hid (HNX.out h0)
    have d0 : (r == 0) = false:=beq_eq_false_iff_ne.2 h0
    clear HFD HNX h0
    go_wp2_with fail
    refine (HCL.out _ hgw).mono ?_
    rintro e w2 ⟨rfl,hb2⟩
    have hb9:=below_up hbw hb2
    clear hb2 hgw c0 c1 c2 c3
    go_wp2_with fail
    go_roundw
    case rel => exact ⟨k + 1,by omega,by go_num,HB,hb9⟩
    case measure => simp [intOf]; omega
  ·have HE : Hid (IdxM vs v (.returned (.int .i64 (-1)))):=Lib.hid (.inr ⟨rfl,fun o ho => by
    obtain ⟨j,hj,rfl⟩:=List.mem_iff_getElem.1 ho
    exact HA.out j hj (by omega)⟩)
   go_wp2_with fail
   go_ret
   exact ⟨HE.out,hbw⟩
end Go.Proofs.YtgeaeockmadhcaaGreatDoor
/- The walk of VotesMerged, whole. -/
namespace Go.Proofs.YtgeaeockmadhcaaGreatDoor
set_option linter.unusedVariables false
set_option linter.unusedSimpArgs false
open Go.RowKit Go.Sort

theorem newIn_snoc (us vs : List VoteE) (v : VoteE) : newIn us (vs ++ [v]) = newIn us vs ++ if us.any (fun o => decide (sameKey o v)) then [] else [v]:=by
 unfold newIn
 rw [List.filter_append]
 cases h : us.any (fun o => decide (sameKey o v)) <;> simp [h]
theorem newIn_old {us vs : List VoteE} {v : VoteE} {k : Nat} {h : k < us.length} (hk : sameKey us[k] v) : newIn us (vs ++ [v]) = newIn us vs:=by
 have : us.any (fun o => decide (sameKey o v)) = true:=List.any_eq_true.2 ⟨us[k],List.getElem_mem h,by simpa using hk⟩
 rw [newIn_snoc,this]; simp
theorem newIn_new {us vs : List VoteE} {v : VoteE} (hk : ∀ o ∈ us,¬ sameKey o v) : newIn us (vs ++ [v]) = newIn us vs ++ [v]:=by
 have : us.any (fun o => decide (sameKey o v)) = false:=by
  rw [Bool.eq_false_iff]
  intro h
  obtain ⟨o,ho,h⟩:=List.any_eq_true.1 h
  exact hk o ho (by simpa using h)
 rw [newIn_snoc,this]; simp
theorem newIn_le (us vs : List VoteE) : (newIn us vs).length ≤ vs.length:=List.length_filter_le _ _
def MgdP (w : World) (us vs : List VoteE) (e : Ending) (w' : World) : Prop:=Below w.heap.size w w' ∧
 (¬ Agree us vs → e = .returned (.tuple #[.slice none 0 0,.int .i64 13])) ∧
 (Agree us vs → ∃ (R : Option Addr) (rc : Nat) (L : List VoteE),L.Perm (us ++ newIn us vs) ∧ L.Pairwise leV ∧ e = .returned (.tuple #[.slice R L.length rc,.int .i64 0]) ∧ w'.ownsRow w.heap.size 37 4 (.slice R L.length rc) L.length (L.flatMap encV))
set_option maxHeartbeats 8000000 in
set_option maxRecDepth 100000 in
theorem votesMerged_any (lo lo' c d : Nat) (A B : Option Addr) (us vs : List VoteE) (w : World) (hR : TwoR w lo lo' A B us vs) (hl : us.length + vs.length < 40) (hu : us.Pairwise ltV) :
  Calls Tryz.prog 19 #[.slice A us.length c,.slice B vs.length d] w (MgdP w us vs):=by
 have HR:=Lib.hid hR
 have HU:=Lib.hid hu
 have hul : us.length ≤ 1000000:=by omega
 clear hu
 go_enter Tryz.func19,Tryz.ntmps19
 go_wp2_with fail
 refine (cloneV_any A c lo us w hR.a hul).mono ?_
 rintro e w1 ⟨R0,rc0,rfl,ho,hb⟩
 clear hR
 go_wp2_with fail
 go_loopw [6,14] (fun o i wr => ∃ (k : Nat) (R : Option Addr) (rc : Nat) (ws : List VoteE),k ≤ vs.length ∧ i = .int .i64 k ∧ o = .slice R ws.length rc ∧ Hid (ws = us ++ newIn us (vs.take k)) ∧ Hid (∀ y ∈ vs.take k,∀ x ∈ us,sameKey x y → x = y) ∧ wr.ownsRow w.heap.size 37 4 (.slice R ws.length rc) ws.length (ws.flatMap encV) ∧ Below w.heap.size w wr) (fun _ i _ => vs.length - (intOf i).toNat)
 case atStart => exact ⟨0,R0,rc0,us,Nat.zero_le _,rfl,rfl,Lib.hid (by simp [newIn]),Lib.hid (fun y hy => by simp at hy),ho,hb⟩
 case round =>
  clear ho hb
  obtain ⟨k,R,rc,ws,hk,rfl,rfl,HWS,HNC,ho,hbw⟩:=hrel
  have hwl : ws.length ≤ 100:=by have h1:=newIn_le us (vs.take k); rw [HWS.out,List.length_append]; rw [List.length_take] at h1; omega
  by_cases hlt : k < vs.length
  ·obtain ⟨b,off,rfl,hbs,-,hcell⟩:=votes_at (HR.out.below hbw).b (by omega)
   obtain ⟨y0,y1,y2,y3⟩:=hcell k hlt
   have hvt : vs.take (k + 1) = vs.take k ++ [vs[k]]:=by rw [List.take_add_one,List.getElem?_eq_getElem hlt]; rfl
   have HOLD : Hid (∀ j (h : j < us.length),sameKey us[j] vs[k] → us[j] = vs[k] → ws = us ++ newIn us (vs.take (k + 1)) ∧ ∀ y ∈ vs.take (k + 1),∀ x ∈ us,sameKey x y → x = y):=Lib.hid (fun j h hs he => by
    rw [hvt]
    refine ⟨by rw [newIn_old hs]; exact HWS.out,fun y hy x hx hxy => ?_⟩
    rcases List.mem_append.1 hy with hy | hy
    ·exact HNC.out y hy x hx hxy
    ·simp at hy
     subst hy
     have h2 : sameKey x us[j]:=⟨hxy.1.trans hs.1.symm,hxy.2.1.trans hs.2.1.symm,hxy.2.2.trans hs.2.2.symm⟩
     rw [one_key HU.out hx (List.getElem_mem h) h2,he])
   have HNEW : Hid ((∀ o ∈ us,¬ sameKey o vs[k]) → ws ++ [vs[k]] = us ++ newIn us (vs.take (k + 1)) ∧ ∀ y ∈ vs.take (k + 1),∀ x ∈ us,sameKey x y → x = y):=Lib.hid (fun hn => by
    rw [hvt]
    refine ⟨by rw [newIn_new hn,← List.append_assoc,← HWS.out],fun y hy x hx hxy => ?_⟩
    rcases List.mem_append.1 hy with hy | hy
    ·exact HNC.out y hy x hx hxy
    ·simp at hy
     subst hy
     exact absurd hxy (hn x hx))
   have HBAD : Hid (∀ j (h : j < us.length),sameKey us[j] vs[k] → us[j] ≠ vs[k] → ¬ Agree us vs):=Lib.hid (fun j h hs hne ha => hne (ha _ (List.getElem_mem h) _ (List.getElem_mem hlt) hs))
   clear hcell hvt
   generalize vs[k] = v at *
   have hal : Below wr.heap.size wr (wr.alloc (.cells #[.string ⟨v.run.toArray⟩,.string ⟨v.who.toArray⟩,.int .i64 v.at_,.int .i64 v.kind] 37)):=(Below.refl _ _).alloc (Nat.le_refl _) _
   have hvb : Blk (wr.alloc (.cells #[.string ⟨v.run.toArray⟩,.string ⟨v.who.toArray⟩,.int .i64 v.at_,.int .i64 v.kind] 37)) wr.heap.size 37 #[.string ⟨v.run.toArray⟩,.string ⟨v.who.toArray⟩,.int .i64 v.at_,.int .i64 v.kind]:=Blk.new _ _ _
   replace ho:=own_keep ho hal
   replace hbw:=below_up hbw hal
   clear hal
   go_upto_region 5 with (fail)
   clear y0 y1 y2 y3 hbs
   generalize wr.alloc (.cells #[.string ⟨v.run.toArray⟩,.string ⟨v.who.toArray⟩,.int .i64 v.at_,.int .i64 v.kind] 37) = w4 at *
   generalize wr.heap.size = vb at *
   go_wp2_with fail
   refine (idxM_any A c vb lo us v w4 (HR.out.below hbw).a hvb hul).mono ?_
   rintro e w5 ⟨hE,hb⟩
   replace ho:=own_keep ho hb
   replace hbw:=below_up hbw hb
   replace hvb:=hvb.below hb
   clear hb
   rcases hE with ⟨j,hj,rfl,hsk⟩ | ⟨rfl,hno⟩
   ·have hj0 : ¬ (j : Int) < 0:=by omega
    obtain ⟨b2,off2,hA,hbs2,-,hcell2⟩:=votes_at (HR.out.below hbw).a (by omega)
    subst hA
    obtain ⟨x0,x1,x2,x3⟩:=hcell2 j hj
    obtain ⟨v0,v1,v2,v3⟩ : _ ∧ _ ∧ _ ∧ _:=⟨hvb.cell 0,hvb.cell 1,hvb.cell 2,hvb.cell 3⟩
    simp only [Q0,Q2,Q1] at v0 v1 v2 v3
    have vl:=hvb.lt
    have HO2:=Lib.hid (HOLD.out j hj hsk)
    have HB2:=Lib.hid (HBAD.out j hj hsk)
    have hjl : (j : Int) < (us.length : Int):=by omega
    clear hcell2 HOLD HBAD HNEW hsk
    generalize us[j] = x at *
    by_cases he : x = v
    ·obtain ⟨hws2,hnc2⟩:=HO2.out he
     have HWS2:=Lib.hid hws2
     have HNC2:=Lib.hid hnc2
     have HOW:=Lib.hid (fun q : Nat => own_keep ho (below_drewN' (Below.refl _ _) q))
     have HBW:=Lib.hid (fun q : Nat => below_drewN' hbw q)
     clear HO2 HB2 hws2 hnc2 HWS HNC ho hbw hvb
     subst he
     go_wp2_with fail
     go_quiet (fail)
     go_wp2_with fail
     go_roundw
     case rel => exact ⟨k + 1,R,rc,ws,hlt,by go_num,rfl,HWS2,HNC2,HOW.out _,HBW.out _⟩
     case measure => simp [intOf]; omega
    ·have hna:=HB2.out he
     have HE : Hid (∀ W,Below w.heap.size w W → MgdP w us vs (.returned (.tuple #[.slice none 0 0,.int .i64 13])) W):=Lib.hid (fun W hW => ⟨hW,fun _ => rfl,fun h => absurd h hna⟩)
     have HBW:=Lib.hid (fun q : Nat => below_drewN' hbw q)
     have hdf:=differV he
     clear HO2 HB2 hna HWS HNC ho hbw hvb he
     rcases hdf with h1 | ⟨h1,h2⟩ | ⟨h1,h2,h3⟩ | ⟨h1,h2,h3,h4⟩ <;>
     ·go_wp2_with fail
      go_quiet (fail)
      go_wp2_with fail
      go_returns
      exact HE.out _ (HBW.out _)
   ·obtain ⟨hws2,hnc2⟩:=HNEW.out hno
    have HWS2:=Lib.hid hws2
    have HNC2:=Lib.hid hnc2
    obtain ⟨v0,v1,v2,v3⟩ : _ ∧ _ ∧ _ ∧ _:=⟨hvb.cell 0,hvb.cell 1,hvb.cell 2,hvb.cell 3⟩
    simp only [Q0,Q2,Q1] at v0 v1 v2 v3
    have vl:=hvb.lt
    clear HOLD HBAD HNEW hno hws2 hnc2 HWS HNC
    have hbsz:=hbw.size
    have ho2:=ho.alloc (.cells #[.string ⟨v.run.toArray⟩,.string ⟨v.who.toArray⟩,.int .i64 v.at_,.int .i64 v.kind] 37)
    replace hbw:=hbw.alloc hbw.size (.cells #[.string ⟨v.run.toArray⟩,.string ⟨v.who.toArray⟩,.int .i64 v.at_,.int .i64 v.kind] 37)
    clear ho
    go_wp2_with (at_builtin; go_must (refine wpList_app (lo:=w.heap.size) (base:=w.heap.size) (n:=ws.length) (xs:=ws.flatMap encV) _ _ rfl _ _ ty_votes rfl (by repeat (first | exact ho2 | refine World.ownsRow.alloc ?_ _ | refine own_drewN ?_ _ | refine World.ownsRow.drew ?_)) rfl (by first | exact row_new' _ (by first | rfl | simp) (by first | omega | (simp; omega)) rfl | exact row_newN _ _ (by first | rfl | simp) (by first | omega | (simp; omega)) rfl | exact row_newD _ (by first | rfl | simp) (by first | omega | (simp; omega)) rfl) rfl rfl (by first | omega | decide) (by first | omega | decide) (by first | omega | (simp; omega)) ?_))
    intro A5 c5 w7 ho5 hg5 _
    have hb5:=below_app ho2 hbw hg5 (Nat.le_refl _) hbw.size
    have HO5 : Hid (w7.ownsRow w.heap.size 37 4 (.slice A5 (ws ++ [v]).length c5) (ws ++ [v]).length ((ws ++ [v]).flatMap encV)):=Lib.hid (by simpa [encV,encStr] using ho5)
    clear ho5 hg5 ho2 hbw hvb v0 v1 v2 v3 vl
    go_wp2_with fail
    go_roundw
    case rel => exact ⟨k + 1,A5,c5,ws ++ [v],hlt,by go_num,by simp,HWS2,HNC2,HO5.out,hb5⟩
    case measure => simp [intOf]; omega
  ·have hws : ws = us ++ newIn us vs:=by have:=HWS.out; rwa [List.take_of_length_le (by omega)] at this
   have hag : Agree us vs:=fun x hx y hy hk => HNC.out y (by rw [List.take_of_length_le (by omega)]; exact hy) x hx hk
   have HAW : Hid (Agree us vs ∧ ws = us ++ newIn us vs):=Lib.hid ⟨hag,hws⟩
   have hnl : ¬ (500 : Int) < (ws.length : Int):=by omega
   have hbsz:=hbw.size
   clear hws hag HWS HNC
   go_wp2_with fail
   refine (sortRV_any R rc w.heap.size ws wr ho (by omega)).mono ?_
   rintro e w5 ⟨rfl,L,hp,hs,ho5,hg5⟩
   have hb5:=below_app ho hbw hg5 (Nat.le_refl _) hbw.size
   have hlen : ws.length = L.length:=hp.length_eq.symm
   have HE : Hid (MgdP w us vs (.returned (.tuple #[.slice R L.length rc,.int .i64 0])) w5):=Lib.hid ⟨hb5,fun h => absurd HAW.out.1 h,fun _ => ⟨R,rc,L,by rw [← HAW.out.2]; exact hp,hs,rfl,ho5⟩⟩
   clear ho5 hg5 hb5 hp hs ho hbw
   rw [hlen]
   clear hlen
   go_wp2_with fail
   go_returns
   exact HE.out
end Go.Proofs.YtgeaeockmadhcaaGreatDoor
/- The walks of WeightAt and of slices.DeleteFunc over votes by VotesAreOne's closure. -/
namespace Go.Proofs.YtgeaeockmadhcaaGreatDoor
set_option linter.unusedVariables false
set_option linter.unusedSimpArgs false
open Go.RowKit

set_option maxHeartbeats 2000000 in
theorem rweight_any (lo c : Nat) (A : Option Addr) (js : List JudgeE) (who : List UInt8) (t : Int) (w : World) (hA : Row w lo 4 A js.length (js.flatMap encJ)) (hl : js.length ≤ 1000000) :
  Calls Tryz.prog 36 #[.slice A js.length c,.string ⟨who.toArray⟩,.int .i64 t] w fun e w' => e = .returned (.int .i64 (weightF js who t)) ∧ Below w.heap.size w w':=by
 have HA:=Lib.hid hA
 clear hA
 go_enter Tryz.func36,Tryz.ntmps36
 go_wp2_with fail
 go_loopw [11] (fun i wr => ∃ k : Nat,k ≤ js.length ∧ i = .int .i64 k ∧ Hid (∀ i (h : i < js.length),i < k → inJ who t js[i] = false) ∧ Below w.heap.size w wr) (fun i _ => js.length - (intOf i).toNat)
 case atStart => exact ⟨0,Nat.zero_le _,rfl,Lib.hid (fun i h hi => by omega),Below.refl _ _⟩
 case round =>
  obtain ⟨k,hk,rfl,HZ,hbw⟩:=hrel
  have hsz:=hbw.size
  by_cases hkn : k < js.length
  ·obtain ⟨b,off,rfl,hbs,-,hcell⟩:=judges_at (HA.out.below hbw) (by omega)
   obtain ⟨y0,y1,y2,y3⟩:=hcell k hkn
   have HHIT:=Lib.hid (fun h => weightF_hit (t:=t) (who:=who) hkn HZ.out h)
   have HNX:=Lib.hid (fun h => all_nextJ (t:=t) (who:=who) HZ.out hkn h)
   clear hcell
   generalize js[k] = j at *
   by_cases h1 : j.who = who
   ·have d1 : (j.who == who) = true:=by simpa using h1
    by_cases h2 : j.frm ≤ t
    ·have d2 : decide (j.frm ≤ t) = true:=decide_eq_true h2
     by_cases h3 : t < j.to_
     ·have d3 : decide (t < j.to_) = true:=decide_eq_true h3
      have HV:=Lib.hid (HHIT.out (by unfold inJ; rw [d1,d2,d3]; rfl))
      clear h1 h2 h3
      go_wp2_with fail
      go_ret
      exact ⟨ret_int' HV.out.symm,(by repeat (first | exact hbw | refine Below.alloc ?_ (by first | omega | (simp; omega) | simp) _ | refine below_drewN' ?_ _ | refine Below.drew ?_))⟩
     ·have d3 : decide (t < j.to_) = false:=decide_eq_false h3
      have HN:=Lib.hid (HNX.out (by unfold inJ; rw [d1,d2,d3]; rfl))
      clear h1 h2 h3
      go_wp2_with fail
      go_roundw
      case rel => exact ⟨k + 1,by omega,by go_num,HN,(by repeat (first | exact hbw | refine Below.alloc ?_ (by first | omega | (simp; omega) | simp) _ | refine below_drewN' ?_ _ | refine Below.drew ?_))⟩
      case measure => simp [intOf]; omega
    ·have d2 : decide (j.frm ≤ t) = false:=decide_eq_false h2
     have HN:=Lib.hid (HNX.out (by unfold inJ; rw [d1,d2]; rfl))
     clear h1 h2
     go_wp2_with fail
     go_roundw
     case rel => exact ⟨k + 1,by omega,by go_num,HN,(by repeat (first | exact hbw | refine Below.alloc ?_ (by first | omega | (simp; omega) | simp) _ | refine below_drewN' ?_ _ | refine Below.drew ?_))⟩
     case measure => simp [intOf]; omega
   ·have d1 : (j.who == who) = false:=by simpa using h1
    have HN:=Lib.hid (HNX.out (by unfold inJ; rw [d1]; rfl))
    clear h1
    go_wp2_with fail
    go_roundw
    case rel => exact ⟨k + 1,by omega,by go_num,HN,(by repeat (first | exact hbw | refine Below.alloc ?_ (by first | omega | (simp; omega) | simp) _ | refine below_drewN' ?_ _ | refine Below.drew ?_))⟩
    case measure => simp [intOf]; omega
  ·have HV:=Lib.hid (weightF_none (t:=t) (who:=who) (fun i h => HZ.out i h (by omega)))
   go_wp2_with fail
   go_ret
   exact ⟨ret_int' HV.out.symm,hbw⟩
structure JwC (W : World) (g : Nat) (J : Option Addr) (jc : Nat) (js : List JudgeE) : Prop where
  box : Blk W g 28 #[.slice J js.length jc]
  row : Row W 0 4 J js.length (js.flatMap encJ)
  jl : js.length ≤ 1000000
theorem JwC.below {w w' : World} {g jc : Nat} {J : Option Addr} {js : List JudgeE} (h : JwC w g J jc js) (hb : Below w.heap.size w w') : JwC w' g J jc js:=⟨h.box.below hb,h.row.below hb,h.jl⟩
theorem JwC.alloc {w : World} {g jc : Nat} {J : Option Addr} {js : List JudgeE} (h : JwC w g J jc js) (o : Obj) : JwC (w.alloc o) g J jc js:=h.below ((Below.refl _ _).alloc (Nat.le_refl _) _)
theorem JwC.past {w : World} {g jc : Nat} {J : Option Addr} {js : List JudgeE} (h : JwC w g J jc js) (b i : Nat) (u : Value) (hne : g ≠ b) (ha : ∀ a,J = some a → a.block ≠ b) : JwC (w.setCell ⟨b,i,none⟩ u) g J jc js :=
 ⟨h.box.past b i u hne,⟨h.row.1,fun hn => by
  obtain ⟨b2,off,e,hl,hb,hc⟩:=h.row.2 hn
  have hb2 : b2 ≠ b:=ha _ e
  exact ⟨b2,off,e,hl,by simpa [World.setCell] using hb,fun j v hj => (World.cell?_setCell_other w _ _ _ (by intro e; injection e with e1; exact hb2 e1.symm)).trans (hc j v hj)⟩⟩,h.jl⟩
structure DelZ (w W : World) (base b c g n : Nat) (J : Option Addr) (jc : Nat) (js : List JudgeE) (us : List VoteE) : Prop where
  own : W.ownsRow base 37 4 (.slice (some ⟨b, 0, none⟩) n c) n (us.flatMap encV)
  gr : w.grownBy W (some b)
  cl : JwC W g J jc js
  apart : ∀ a, J = some a → a.block ≠ b
  ne : g ≠ b
  len : us.length = n
section
variable {w W W' : World} {base b c g n : Nat} {J : Option Addr} {jc : Nat} {js : List JudgeE} {us : List VoteE}
theorem DelZ.keep (h : DelZ w W base b c g n J jc js us) (hb : Below W.heap.size W W') : DelZ w W' base b c g n J jc js us:=⟨own_keep h.own hb,grown_trans' h.gr (grown_of_below hb _),h.cl.below hb,h.apart,h.ne,h.len⟩
theorem DelZ.put (h : DelZ w W base b c g n J jc js us) {m : Nat} (hm : m < n) (v : VoteE) : DelZ w ((((W.setCell ⟨b,m * 4,none⟩ (.string ⟨v.run.toArray⟩)).setCell ⟨b,m * 4 + 1,none⟩ (.string ⟨v.who.toArray⟩)).setCell ⟨b,m * 4 + 2,none⟩ (.int .i64 v.at_)).setCell ⟨b,m * 4 + 3,none⟩ (.int .i64 v.kind)) base b c g n J jc js (us.set m v):=by
 have h1:=(((((h.own.stored (m * 4) (.string ⟨v.run.toArray⟩)).1).stored (m * 4 + 1) (.string ⟨v.who.toArray⟩)).1.stored (m * 4 + 2) (.int .i64 v.at_)).1.stored (m * 4 + 3) (.int .i64 v.kind)).1
 rw [flat_put4 us m (by rw [h.len]; exact hm) v] at h1
 exact ⟨h1,grown_set (grown_set (grown_set (grown_set h.gr _ _) _ _) _ _) _ _,(((h.cl.past b _ _ h.ne h.apart).past b _ _ h.ne h.apart).past b _ _ h.ne h.apart).past b _ _ h.ne h.apart,h.apart,h.ne,by rw [List.length_set]; exact h.len⟩
theorem DelZ.at (h : DelZ w W base b c g n J jc js us) {k : Nat} (hk : k < us.length) : b < W.heap.size ∧ (W.cell? ⟨b,k * 4,none⟩ = some (.string ⟨us[k].run.toArray⟩) ∧ W.cell? ⟨b,k * 4 + 1,none⟩ = some (.string ⟨us[k].who.toArray⟩) ∧ W.cell? ⟨b,k * 4 + 2,none⟩ = some (.int .i64 us[k].at_) ∧ W.cell? ⟨b,k * 4 + 3,none⟩ = some (.int .i64 us[k].kind)) ∧ W.frozen? ⟨b,k * 4,none⟩ = false ∧ W.frozen? ⟨b,k * 4 + 1,none⟩ = false ∧ W.frozen? ⟨b,k * 4 + 2,none⟩ = false ∧ W.frozen? ⟨b,k * 4 + 3,none⟩ = false:=by
 have h2:=h.len
 subst h2
 obtain ⟨b',off,e,h1,-,h2⟩:=votes_at (Row.of_own h.own) (by omega)
 injection e with e; injection e with e1 e2
 subst e1 e2
 obtain ⟨b'',e,-,-,-,h4⟩:=ownBlk h.own (by omega)
 injection e with e; injection e with e1 e2
 subst e1
 have h3:=h2 k hk
 rw [Nat.zero_add] at h3
 exact ⟨h1,h3,h4 _,h4 _,h4 _,h4 _⟩
end
structure StrZ (vs us : List VoteE) (pz : VoteE → Bool) (m k : Nat) : Prop where
  lt : m < k
  le : k ≤ vs.length
  len : us.length = vs.length
  low : us.take m = (vs.take k).filter pz
  high : us.drop k = vs.drop k
theorem StrZ.at {vs us : List VoteE} {pz : VoteE → Bool} {m k : Nat} (h : StrZ vs us pz m k) (hk : k < vs.length) : us[k]'(by rw [h.len]; exact hk) = vs[k]:=by
 have h1:=congrArg (·[0]?) h.high
 simp only [List.getElem?_drop,Nat.add_zero] at h1
 rw [List.getElem?_eq_getElem (by rw [h.len]; exact hk),List.getElem?_eq_getElem hk] at h1
 injection h1
theorem StrZ.skip {vs us : List VoteE} {pz : VoteE → Bool} {m k : Nat} (h : StrZ vs us pz m k) (hk : k < vs.length) (hr : pz vs[k] = false) : StrZ vs us pz m (k + 1):=by
 refine ⟨by have:=h.lt; omega,hk,h.len,?_,?_⟩
 ·rw [h.low,List.take_add_one,List.getElem?_eq_getElem hk,List.filter_append]
  simp [hr]
 ·rw [← List.drop_drop,← List.drop_drop,h.high]
theorem StrZ.keep {vs us : List VoteE} {pz : VoteE → Bool} {m k : Nat} (h : StrZ vs us pz m k) (hk : k < vs.length) (hr : pz vs[k] = true) : StrZ vs (us.set m vs[k]) pz (m + 1) (k + 1):=by
 have hlt:=h.lt
 refine ⟨by omega,hk,by rw [List.length_set,h.len],?_,?_⟩
 ·have hm : m < (us.set m vs[k]).length:=by rw [List.length_set,h.len]; omega
  rw [List.take_add_one,List.getElem?_eq_getElem hm,List.getElem_set_self,List.take_set_of_le (Nat.le_refl _),h.low,List.take_add_one,List.getElem?_eq_getElem hk,List.filter_append]
  simp [hr]
 ·rw [List.drop_set_of_lt (by omega),← List.drop_drop,← List.drop_drop,h.high]
end Go.Proofs.YtgeaeockmadhcaaGreatDoor
