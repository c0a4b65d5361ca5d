/- Texts of this seat, laid together: VoY VoZ. -/
import Derived.Test.YtgeaeockmadhcaaGreatDoorBo31
import Derived.Test.YtgeaeockmadhcaaGreatDoorBo19
import Derived.Test.YtgeaeockmadhcaaGreatDoorBo32
import Derived.Test.YtgeaeockmadhcaaGreatDoorBo17
/- The walk of evidence.Merge. -/
namespace Go.Proofs.YtgeaeockmadhcaaGreatDoor
set_option linter.unusedVariables false
set_option linter.unusedSimpArgs false
open Go.RowKit Go.Sort

structure TwoR (w : World) (lo lo' : Nat) (A B : Option Addr) (us vs : List VoteE) : Prop where
  a : Row w lo 4 A us.length (us.flatMap encV)
  b : Row w lo' 4 B vs.length (vs.flatMap encV)
  as_ : ∀ v ∈ us, v.run.length ≤ 1000000 ∧ v.who.length ≤ 1000000
  bs_ : ∀ v ∈ vs, v.run.length ≤ 1000000 ∧ v.who.length ≤ 1000000
theorem TwoR.below {w w' : World} {lo lo' : Nat} {A B : Option Addr} {us vs : List VoteE} (h : TwoR w lo lo' A B us vs) (hb : Below w.heap.size w w') : TwoR w' lo lo' A B us vs:=⟨h.a.below hb,h.b.below hb,h.as_,h.bs_⟩
theorem TwoR.alloc {w : World} {lo lo' : Nat} {A B : Option Addr} {us vs : List VoteE} (h : TwoR w lo lo' A B us vs) (o : Obj) : TwoR (w.alloc o) lo lo' A B us vs:=h.below ((Below.refl _ _).alloc (Nat.le_refl _) _)
def MrgP (w : World) (us vs : List VoteE) (e : Ending) (w' : World) : Prop:=Below w.heap.size w w' ∧
 (firstE [votesE us,votesE vs] ≠ 0 → e = .returned (.tuple #[.slice none 0 0,.int .i64 (firstE [votesE us,votesE vs])])) ∧
 (firstE [votesE us,votesE vs] = 0 → ¬ Agree us vs → e = .returned (.tuple #[.slice none 0 0,.int .i64 13])) ∧
 (firstE [votesE us,votesE vs] = 0 → Agree us vs → ∃ (R : Option Addr) (rc : Nat) (M : List VoteE),M.Perm (us ++ vs) ∧ M.Pairwise leV ∧ e = .returned (.tuple #[.slice R (compL M).length rc,.int .i64 0]) ∧ w'.ownsRow w.heap.size 37 4 (.slice R (compL M).length rc) (compL M).length ((compL M).flatMap encV))
theorem compL_len {α : Type} [DecidableEq α] : ∀ l : List α,(compL l).length ≤ l.length
 | [] => Nat.le_refl _
 | [_] => Nat.le_refl _
 | x :: y :: l => by
  have ih:=compL_len (y :: l)
  rw [compL_cc]
  split
  ·exact Nat.le_trans ih (by simp)
  ·simpa using ih
theorem own_lowerV {w : World} {base base' : Nat} {e : TypeId} {size : Nat} {v : Value} {n : Nat} {xs : List Value} (h : w.ownsRow base e size v n xs) (hb : base' ≤ base) : w.ownsRow base' e size v n xs:=by
 obtain ⟨h1,h2⟩:=h
 refine ⟨h1,?_⟩
 rcases h2 with h | ⟨g,cap,cur,h3,h4,h5⟩
 ·exact .inl h
 ·exact .inr ⟨g,cap,cur,h3,Nat.le_trans hb h4,h5⟩
theorem two_zero {x y : Int} (h : firstE [x,y] = 0) : x = 0 ∧ y = 0:=by
 unfold firstE at h
 by_cases hx : x = 0
 ·subst hx; simp [firstE] at h; exact ⟨rfl,Decidable.byContradiction fun h2 => h2 (h h2)⟩
 ·simp [hx] at h
set_option maxHeartbeats 8000000 in
set_option maxRecDepth 100000 in
theorem merge_any (lo lo' c d : Nat) (A B : Option Addr) (us vs : List VoteE) (w : World) (hR : TwoR w lo lo' A B us vs) (hl : us.length + vs.length < 40) :
  Calls Tryz.prog 17 #[.slice A us.length c,.slice B vs.length d] w (MrgP w us vs):=by
 obtain ⟨ue,hue⟩ : ∃ ue,ue = votesE us:=⟨_,rfl⟩
 obtain ⟨ve,hve⟩ : ∃ ve,ve = votesE vs:=⟨_,rfl⟩
 have hul : us.length ≤ 1000000:=by omega
 have hvl : vs.length ≤ 1000000:=by omega
 have HL : Hid (us.length + vs.length < 40):=Lib.hid hl
 have HFE : Hid (firstE [votesE us,votesE vs] = firstE [ue,ve]):=Lib.hid (by rw [hue,hve])
 have HUV : Hid (firstE [ue,ve] = 0 → us.Pairwise ltV ∧ vs.Pairwise ltV):=Lib.hid (fun h => by
  obtain ⟨h1,h2⟩:=two_zero h
  exact ⟨((votesE_iff us).1 (by rw [← hue,h1])).2.2,((votesE_iff vs).1 (by rw [← hve,h2])).2.2⟩)
 have HUE:=Lib.hid hue
 have HVE:=Lib.hid hve
 have hx : Below w.heap.size w w:=Below.refl _ _
 clear hl hue hve
 go_enter Tryz.func17,Tryz.ntmps17
 go_wp2_with fail
 refine (checkVotes_any lo c A us _ hR.a hul hR.as_).mono ?_
 rintro e w1 ⟨rfl,hb⟩
 rw [← HUE.out]
 replace hR:=hR.below hb
 replace hx:=below_up hx hb
 clear hb
 go_wp2_with fail
 refine (checkVotes_any lo' d B vs _ hR.b hvl hR.bs_).mono ?_
 rintro e w2 ⟨rfl,hb⟩
 rw [← HVE.out]
 replace hR:=hR.below hb
 replace hx:=below_up hx hb
 clear hb
 go_wp2_with fail
 refine (first_any _ 2 0 [ue,ve] _ (by first | exact row_new' _ (by first | rfl | simp) (by first | omega | (simp; omega)) rfl | exact row_newN _ _ (by first | rfl | simp) (by first | omega | (simp; omega)) rfl | exact row_newD _ (by first | rfl | simp) (by first | omega | (simp; omega)) rfl) (by simp)).mono ?_
 rintro e w3 ⟨rfl,rfl⟩
 replace hR:=hR.alloc (.cells #[.int .i64 ue,.int .i64 ve] 43)
 replace hx:=hx.alloc hx.size (.cells #[.int .i64 ue,.int .i64 ve] 43)
 obtain ⟨fe,hfe⟩ : ∃ fe,fe = firstE [ue,ve]:=⟨_,rfl⟩
 rw [← hfe] at HFE HUV ⊢
 clear hfe
 generalize w2.alloc (.cells #[.int .i64 ue,.int .i64 ve] 43) = w3 at *
 by_cases h0 : fe = 0
 ·subst h0
  have HSO:=Lib.hid (HUV.out rfl)
  go_wp2_with fail
  generalize hwx : w3.alloc (.cells #[.slice A us.length c,.slice B vs.length d] 26) = w4
  have hx4 : Below w.heap.size w w4:=by rw [← hwx]; exact hx.alloc hx.size _
  have hR4 : TwoR w4 lo lo' A B us vs:=by rw [← hwx]; exact hR.alloc _
  have hrw : Row w4 0 1 (some ⟨w3.heap.size,0,none⟩) 2 [.slice A us.length c,.slice B vs.length d]:=by rw [← hwx]; exact row_new w3 #[.slice A us.length c,.slice B vs.length d] 26 0 1 2 (Nat.zero_le _) rfl
  clear hwx hx hR
  refine (concatV_any (some ⟨w3.heap.size,0,none⟩) A B 2 c d 0 lo lo' us vs w4 hrw hR4.a hR4.b HL.out).mono ?_
  rintro e w5 ⟨R,rc,rfl,ho,hb⟩
  have hbs : w.heap.size ≤ w4.heap.size:=hx4.size
  replace hx4:=below_up hx4 hb
  have HUL : Hid ((us ++ vs).length < 40):=Lib.hid (by rw [List.length_append]; exact HL.out)
  generalize hz : us ++ vs = Z at ho HUL ⊢
  have HZ:=Lib.hid hz
  clear hb hR4 hrw hz
  go_wp2_with fail
  have hsr:=sortStableV_any R rc w4.heap.size Z w5 ho HUL.out
  unfold FnV at hsr
  refine hsr.mono ?_
  clear hsr
  rintro e w6 ⟨rfl,M,hp,hs,ho6,hg6⟩
  replace hx4:=below_app ho hx4 hg6 hbs hx4.size
  have HM : Hid (M.Perm (us ++ vs) ∧ M.Pairwise leV):=Lib.hid ⟨by rw [HZ.out]; exact hp,hs⟩
  have hlen : Z.length = M.length:=hp.length_eq.symm
  have hml : M.length < 40:=by have:=HUL.out; omega
  clear hp hs hg6 ho HUL
  rw [hlen]
  clear hlen
  go_wp2_with fail
  refine (compactV_any R rc w4.heap.size M w6 ho6 (by omega)).mono ?_
  rintro e w7 ⟨rfl,ho7,hg7⟩
  replace hx4:=below_app ho6 hx4 hg7 hbs hx4.size
  obtain ⟨C,hCM⟩ : ∃ C,C = compL M:=⟨_,rfl⟩
  rw [← hCM] at ho7 ⊢
  have HAG : Hid (Agree us vs → ∀ i,∀ h : i + 1 < C.length,¬ sameKey (C[i]'(by omega)) C[i + 1]):=Lib.hid (by subst hCM; exact agree_adj HSO.out.1 HSO.out.2 HM.out.1 HM.out.2)
  have HCF : Hid (¬ Agree us vs → ∃ i,∃ h : i + 1 < C.length,sameKey (C[i]'(by omega)) C[i + 1]):=Lib.hid (by subst hCM; exact conflict_adj HM.out.1 HM.out.2)
  have HML:=Lib.hid (show C.length ≤ M.length by rw [hCM]; exact compL_len M)
  have HGD : Hid (∀ W,Below w.heap.size w W → W.ownsRow w.heap.size 37 4 (.slice R C.length rc) C.length (C.flatMap encV) → Agree us vs → MrgP w us vs (.returned (.tuple #[.slice R C.length rc,.int .i64 0])) W):=Lib.hid (fun W hW hO ha => by
   unfold MrgP
   rw [HFE.out]
   subst hCM
   exact ⟨hW,fun h => absurd rfl h,fun _ h => absurd ha h,fun _ _ => ⟨R,rc,M,HM.out.1,HM.out.2,rfl,hO⟩⟩)
  have HBD : Hid (∀ W,Below w.heap.size w W → ¬ Agree us vs → MrgP w us vs (.returned (.tuple #[.slice none 0 0,.int .i64 13])) W):=Lib.hid (fun W hW ha => by
   unfold MrgP
   rw [HFE.out]
   exact ⟨hW,fun h => absurd rfl h,fun _ _ => rfl,fun _ h => absurd h ha⟩)
  have HO7 : Hid (w7.ownsRow w.heap.size 37 4 (.slice R C.length rc) C.length (C.flatMap encV)):=Lib.hid (own_lowerV ho7 hbs)
  have hcl : C.length ≤ 39:=by have:=HML.out; omega
  clear ho6 ho7 hg7 hbs hml HM HML hCM
  obtain ⟨nn,hnn⟩ : ∃ nn,nn = C.length:=⟨_,rfl⟩
  have HNN:=Lib.hid hnn
  rw [← hnn] at hcl ⊢
  clear hnn
  go_wp2_with fail
  go_loopw [8] (fun x wr => ∃ k : Nat,x = .int .i64 k ∧ 1 ≤ k ∧ (k ≤ nn ∨ k = 1) ∧ Hid (∀ i,∀ h : i + 1 < C.length,i + 1 < k → ¬ sameKey (C[i]'(by omega)) C[i + 1]) ∧ Hid (wr.ownsRow w.heap.size 37 4 (.slice R C.length rc) C.length (C.flatMap encV)) ∧ Below w.heap.size w wr) (fun x _ => nn - (intOf x).toNat)
  case atStart => exact ⟨1,rfl,Nat.le_refl _,.inr rfl,Lib.hid (fun i h h2 => by omega),HO7,hx4⟩
  case round =>
   clear HO7 hx4
   obtain ⟨k,rfl,hk1,hk2,HD,HO,hxw⟩:=hrel
   by_cases hlt : k < nn
   ·obtain ⟨b,hA,hbb,hbz,-,-⟩:=ownBlk HO.out (by have:=HNN.out; omega)
    subst hA
    obtain ⟨k0,hk0⟩ : ∃ k0,k = k0 + 1:=⟨k - 1,by omega⟩
    have wk : IntKind.i64.wrap ((k : Int) - 1) = (k0 : Int):=by rw [IntWalk.i64_in _ ⟨by omega,by omega⟩]; omega
    have hk0n : k0 < nn:=by omega
    obtain ⟨y,hy⟩ : ∃ x,C[k]? = some x:=⟨C[k]'(by have:=HNN.out; omega),List.getElem?_eq_getElem _⟩
    obtain ⟨x,hx0⟩ : ∃ y,C[k0]? = some y:=⟨C[k0]'(by have:=HNN.out; omega),List.getElem?_eq_getElem _⟩
    have HEQ : Hid (sameKey x y → ∃ i,∃ h : i + 1 < C.length,sameKey (C[i]'(by omega)) C[i + 1]):=Lib.hid (fun hs => by
     obtain ⟨h1,e1⟩:=List.getElem?_eq_some_iff.1 hx0
     obtain ⟨h2,e2⟩:=List.getElem?_eq_some_iff.1 hy
     subst hk0
     exact ⟨k0,h2,by rw [e1,e2]; exact hs⟩)
    have HNE : Hid (¬ sameKey x y → ∀ i,∀ h : i + 1 < C.length,i + 1 < k + 1 → ¬ sameKey (C[i]'(by omega)) C[i + 1]):=Lib.hid (fun hs i h h2 => by
     rcases Nat.lt_or_ge (i + 1) k with h3 | h3
     ·exact HD.out i h h3
     ·have hik : i = k0:=by omega
      subst hik hk0
      obtain ⟨h1,e1⟩:=List.getElem?_eq_some_iff.1 hx0
      obtain ⟨h4,e2⟩:=List.getElem?_eq_some_iff.1 hy
      rw [e1,e2]
      exact hs)
    obtain ⟨cc,hcc⟩ : ∃ cc,cc = rc:=⟨_,rfl⟩
    have HC : Hid (SrtC wr wr w.heap.size b cc C.length C):=Lib.hid ⟨by rw [hcc]; exact HO.out,World.grownBy.refl _ _,rfl⟩
    have HOK : Hid (∀ W,Below wr.heap.size wr W → W.ownsRow w.heap.size 37 4 (.slice (some ⟨b,0,none⟩) C.length rc) C.length (C.flatMap encV)):=Lib.hid (fun W hW => own_keep HO.out hW)
    have hbb2:=(HC.out.atS hx0).1
    clear HD HO hbb hbz hcc hk0
    have hx:=hx0
    clear hx0
    obtain ⟨r,hr⟩ : ∃ r,r = cmpV x y:=⟨_,rfl⟩
    have HSC : Hid (∀ W,Below wr.heap.size wr W → (fun w' => (w'.cell? ⟨b,k0 * 4,none⟩ = some (.string ⟨x.run.toArray⟩) ∧ w'.cell? ⟨b,k0 * 4 + 1,none⟩ = some (.string ⟨x.who.toArray⟩) ∧ w'.cell? ⟨b,k0 * 4 + 2,none⟩ = some (.int .i64 x.at_) ∧ w'.cell? ⟨b,k0 * 4 + 3,none⟩ = some (.int .i64 x.kind)) ∧ w'.cell? ⟨b,k * 4,none⟩ = some (.string ⟨y.run.toArray⟩) ∧ w'.cell? ⟨b,k * 4 + 1,none⟩ = some (.string ⟨y.who.toArray⟩) ∧ w'.cell? ⟨b,k * 4 + 2,none⟩ = some (.int .i64 y.at_) ∧ w'.cell? ⟨b,k * 4 + 3,none⟩ = some (.int .i64 y.kind)) W):=Lib.hid (fun W hW => (HC.out.keep hW).two hx hy)
    have HRV : Hid (∀ W,Calls Tryz.prog 49 #[.agg #[.string ⟨x.run.toArray⟩,.string ⟨x.who.toArray⟩,.int .i64 x.at_,.int .i64 x.kind],.agg #[.string ⟨y.run.toArray⟩,.string ⟨y.who.toArray⟩,.int .i64 y.at_,.int .i64 y.kind]] W fun e w' => e = .returned (.int .i64 r) ∧ Below W.heap.size W w'):=Lib.hid (fun W => by rw [hr]; exact byVote_any _ _ _ _ _ _ _ _ W)
    have HKP : Hid (∀ W,Below wr.heap.size wr W → SrtC wr W w.heap.size b cc C.length C):=Lib.hid (fun W hW => HC.out.keep hW)
    have HR:=Lib.hid hr
    have hbz : Below wr.heap.size wr wr.drew:=below_drewN' (Below.refl _ _) 1
    have hsc:=HSC.out _ hbz
    try simp only at hsc
    clear hr HC hx hy
    go_wp2_with fail
    refine wp_region_held_drew (S:=(fun w' => (w'.cell? ⟨b,k0 * 4,none⟩ = some (.string ⟨x.run.toArray⟩) ∧ w'.cell? ⟨b,k0 * 4 + 1,none⟩ = some (.string ⟨x.who.toArray⟩) ∧ w'.cell? ⟨b,k0 * 4 + 2,none⟩ = some (.int .i64 x.at_) ∧ w'.cell? ⟨b,k0 * 4 + 3,none⟩ = some (.int .i64 x.kind)) ∧ w'.cell? ⟨b,k * 4,none⟩ = some (.string ⟨y.run.toArray⟩) ∧ w'.cell? ⟨b,k * 4 + 1,none⟩ = some (.string ⟨y.who.toArray⟩) ∧ w'.cell? ⟨b,k * 4 + 2,none⟩ = some (.int .i64 y.at_) ∧ w'.cell? ⟨b,k * 4 + 3,none⟩ = some (.int .i64 y.kind))) (by kernel_rfl) (hsc) (fun hHeld => ?_)
    (refine wpAnyH_take (i:=0) (v:=?_) (by (simp only [Q0,Q2]; rfl)) (by kernel_rfl) (by kernel_rfl) (by kernel_rfl) (by exact fun _ _ _ h => h) (Or.inl ⟨by rfl,?_⟩) (by assumption) ?_; (rotate_left 1; (intro w hSw; (try dsimp only at hSw); go_simp); (try with_reducible rfl)); (try simp only [Act.put,Q3,Q4,Q5]))
    (refine wpAnyH_take (i:=1) (v:=?_) (by (simp only [Q0,Q1,Q2]; rfl)) (by kernel_rfl) (by kernel_rfl) (by kernel_rfl) (by exact fun _ _ _ h => h) (Or.inl ⟨by rfl,?_⟩) (by assumption) ?_; (rotate_left 1; (intro w hSw; (try dsimp only at hSw); go_simp); (try with_reducible rfl)); (try simp only [Act.put,Q3,Q4,Q5]))
    (refine wpAnyH_take (i:=2) (v:=?_) (by (simp only [Q0,Q1,Q2]; rfl)) (by kernel_rfl) (by kernel_rfl) (by kernel_rfl) (by exact fun _ _ _ h => h) (Or.inl ⟨by rfl,?_⟩) (by assumption) ?_; (rotate_left 1; (intro w hSw; (try dsimp only at hSw); go_simp); (try with_reducible rfl)); (try simp only [Act.put,Q3,Q4,Q5]))
    (refine wpAnyH_take (i:=3) (v:=?_) (by (simp only [Q0,Q1,Q2]; rfl)) (by kernel_rfl) (by kernel_rfl) (by kernel_rfl) (by exact fun _ _ _ h => h) (Or.inl ⟨by rfl,?_⟩) (by assumption) ?_; (rotate_left 1; (intro w hSw; (try dsimp only at hSw); go_simp); (try with_reducible rfl)); (try simp only [Act.put,Q3,Q4,Q5]))
    (refine wpAnyH_take (i:=4) (v:=?_) (by (simp only [Q0,Q1,Q2]; rfl)) (by kernel_rfl) (by kernel_rfl) (by kernel_rfl) (by exact fun _ _ _ h => h) (Or.inl ⟨by rfl,?_⟩) (by assumption) ?_; (rotate_left 1; (intro w hSw; (try dsimp only at hSw); go_simp); (try with_reducible rfl)); (try simp only [Act.put,Q3,Q4,Q5]))
    (refine wpAnyH_take (i:=5) (v:=?_) (by (simp only [Q0,Q1,Q2]; rfl)) (by kernel_rfl) (by kernel_rfl) (by kernel_rfl) (by exact fun _ _ _ h => h) (Or.inl ⟨by rfl,?_⟩) (by assumption) ?_; (rotate_left 1; (intro w hSw; (try dsimp only at hSw); go_simp); (try with_reducible rfl)); (try simp only [Act.put,Q3,Q4,Q5]))
    (refine wpAnyH_take (i:=6) (v:=?_) (by (simp only [Q0,Q1,Q2]; rfl)) (by kernel_rfl) (by kernel_rfl) (by kernel_rfl) (by exact fun _ _ _ h => h) (Or.inl ⟨by rfl,?_⟩) (by assumption) ?_; (rotate_left 1; (intro w hSw; (try dsimp only at hSw); go_simp); (try with_reducible rfl)); (try simp only [Act.put,Q3,Q4,Q5]))
    (refine wpAnyH_take (i:=7) (v:=?_) (by (simp only [Q0,Q1,Q2]; rfl)) (by kernel_rfl) (by kernel_rfl) (by kernel_rfl) (by exact fun _ _ _ h => h) (Or.inl ⟨by rfl,?_⟩) (by assumption) ?_; (rotate_left 1; (intro w hSw; (try dsimp only at hSw); go_simp); (try with_reducible rfl)); (try simp only [Act.put,Q3,Q4,Q5]))
    (refine wpAnyH_take (i:=8) (v:=?_) (by (simp only [Q0,Q1,Q2]; rfl)) (by kernel_rfl) (by kernel_rfl) (by kernel_rfl) (by exact fun _ _ _ h => h) (Or.inl ⟨by rfl,?_⟩) (by assumption) ?_; (rotate_left 1; (intro w hSw; (try dsimp only at hSw); go_simp); (try with_reducible rfl)); (try simp only [Act.put,Q3,Q4,Q5]))
    refine wpAnyH_ready (rs:=[9]) (by kernel_rfl) (by simp) ?_
    refine AllReadyH.cons rfl (fun K hK => ?_) AllReadyH.nil
    go_simp
    go_at_call 49
    refine (HRV.out _).mono ?_
    rintro e9 wa ⟨rfl,hba⟩
    replace hbz:=below_up hbz hba
    have hsc:=HSC.out _ hbz
    try simp only at hsc
    clear hba
    go_wp2_with fail
    refine hK.out _ _ (hsc) (fun hHeld => ?_)
    clear hK K
    (try simp only [Act.put,Q3,Q4,Q5])
    (refine wpAnyH_take (i:=10) (v:=?_) (by (simp only [Q0,Q1,Q2]; rfl)) (by kernel_rfl) (by kernel_rfl) (by kernel_rfl) (by exact fun _ _ _ h => h) (Or.inl ⟨by rfl,?_⟩) (by assumption) ?_; (rotate_left 1; (intro w hSw; (try dsimp only at hSw); go_simp); (try with_reducible rfl)); (try simp only [Act.put,Q3,Q4,Q5]))
    refine wpAnyH_done (by kernel_rfl) ?_ _
    replace hxw:=below_up hxw hbz
    have HO2:=Lib.hid (HOK.out _ hbz)
    by_cases hr0 : r = 0
    ·have hsk : sameKey x y:=(cmpV_eq x y).1 (by rw [← HR.out]; exact hr0)
     have HE:=Lib.hid (HBD.out _ hxw (fun ha => by
      obtain ⟨i,h,hs⟩:=HEQ.out hsk
      exact HAG.out ha i h hs))
     clear hsk HKP HRV HSC HR hbz hsc hHeld HEQ HNE HOK
     subst hr0
     go_wp2_with fail
     go_returns
     exact HE.out
    ·have hsk : ¬ sameKey x y:=fun h => hr0 (by rw [HR.out]; exact (cmpV_eq x y).2 h)
     have HD2:=Lib.hid (HNE.out hsk)
     have hrb : (r == 0) = false:=beq_eq_false_iff_ne.2 hr0
     clear hsk HKP HRV HSC HR hbz hsc hHeld HEQ HNE HOK hr0 wk
     go_wp2_with fail
     go_roundw
     case rel => exact ⟨k + 1,by go_num,by omega,.inl hlt,HD2,HO2,hxw⟩
     case measure => simp [intOf]; omega
   ·have hag : Agree us vs:=Classical.byContradiction fun hna => by
     obtain ⟨i,h,hs⟩:=HCF.out hna
     exact HD.out i h (by have:=HNN.out; omega) hs
    have HE:=Lib.hid (HGD.out _ hxw HO.out hag)
    rw [← HNN.out] at HE
    clear HD HO hag
    have hnl : ¬ (500 : Int) < (nn : Int):=by omega
    go_wp2_with fail
    go_returns
    exact HE.out
 ·have HE : Hid (∀ W,Below w.heap.size w W → MrgP w us vs (.returned (.tuple #[.slice none 0 0,.int .i64 fe])) W):=Lib.hid (fun W hW => by
   unfold MrgP
   rw [HFE.out]
   exact ⟨hW,fun _ => rfl,fun h => absurd h h0,fun h => absurd h h0⟩)
  go_wp2_with fail
  go_returns
  exact HE.out _ hx
end Go.Proofs.YtgeaeockmadhcaaGreatDoor
/- The walks of WeightAt and of slices.DeleteFunc over votes by VotesAreOne's closure. -/
namespace Go.Proofs.YtgeaeockmadhcaaGreatDoor
set_option linter.unusedVariables false
set_option linter.unusedSimpArgs false
open Go.RowKit

set_option maxHeartbeats 2000000 in
theorem rweight_any (lo c : Nat) (A : Option Addr) (js : List JudgeE) (who : List UInt8) (t : Int) (w : World) (hA : Row w lo 4 A js.length (js.flatMap encJ)) (hl : js.length ≤ 1000000) :
  Calls Tryz.prog 36 #[.slice A js.length c,.string ⟨who.toArray⟩,.int .i64 t] w fun e w' => e = .returned (.int .i64 (weightF js who t)) ∧ Below w.heap.size w w':=by
 have HA:=Lib.hid hA
 clear hA
 go_enter Tryz.func36,Tryz.ntmps36
 go_wp2_with fail
 go_loopw [11] (fun i wr => ∃ k : Nat,k ≤ js.length ∧ i = .int .i64 k ∧ Hid (∀ i (h : i < js.length),i < k → inJ who t js[i] = false) ∧ Below w.heap.size w wr) (fun i _ => js.length - (intOf i).toNat)
 case atStart => exact ⟨0,Nat.zero_le _,rfl,Lib.hid (fun i h hi => by omega),Below.refl _ _⟩
 case round =>
  obtain ⟨k,hk,rfl,HZ,hbw⟩:=hrel
  have hsz:=hbw.size
  by_cases hkn : k < js.length
  ·obtain ⟨b,off,rfl,hbs,-,hcell⟩:=judges_at (HA.out.below hbw) (by omega)
   obtain ⟨y0,y1,y2,y3⟩:=hcell k hkn
   have HHIT:=Lib.hid (fun h => weightF_hit (t:=t) (who:=who) hkn HZ.out h)
   have HNX:=Lib.hid (fun h => all_nextJ (t:=t) (who:=who) HZ.out hkn h)
   clear hcell
   generalize js[k] = j at *
   by_cases h1 : j.who = who
   ·have d1 : (j.who == who) = true:=by simpa using h1
    by_cases h2 : j.frm ≤ t
    ·have d2 : decide (j.frm ≤ t) = true:=decide_eq_true h2
     by_cases h3 : t < j.to_
     ·have d3 : decide (t < j.to_) = true:=decide_eq_true h3
      have HV:=Lib.hid (HHIT.out (by unfold inJ; rw [d1,d2,d3]; rfl))
      clear h1 h2 h3
      go_wp2_with fail
      go_ret
      exact ⟨ret_int' HV.out.symm,(by repeat (first | exact hbw | refine Below.alloc ?_ (by first | omega | (simp; omega) | simp) _ | refine below_drewN' ?_ _ | refine Below.drew ?_))⟩
     ·have d3 : decide (t < j.to_) = false:=decide_eq_false h3
      have HN:=Lib.hid (HNX.out (by unfold inJ; rw [d1,d2,d3]; rfl))
      clear h1 h2 h3
      go_wp2_with fail
      go_roundw
      case rel => exact ⟨k + 1,by omega,by go_num,HN,(by repeat (first | exact hbw | refine Below.alloc ?_ (by first | omega | (simp; omega) | simp) _ | refine below_drewN' ?_ _ | refine Below.drew ?_))⟩
      case measure => simp [intOf]; omega
    ·have d2 : decide (j.frm ≤ t) = false:=decide_eq_false h2
     have HN:=Lib.hid (HNX.out (by unfold inJ; rw [d1,d2]; rfl))
     clear h1 h2
     go_wp2_with fail
     go_roundw
     case rel => exact ⟨k + 1,by omega,by go_num,HN,(by repeat (first | exact hbw | refine Below.alloc ?_ (by first | omega | (simp; omega) | simp) _ | refine below_drewN' ?_ _ | refine Below.drew ?_))⟩
     case measure => simp [intOf]; omega
   ·have d1 : (j.who == who) = false:=by simpa using h1
    have HN:=Lib.hid (HNX.out (by unfold inJ; rw [d1]; rfl))
    clear h1
    go_wp2_with fail
    go_roundw
    case rel => exact ⟨k + 1,by omega,by go_num,HN,(by repeat (first | exact hbw | refine Below.alloc ?_ (by first | omega | (simp; omega) | simp) _ | refine below_drewN' ?_ _ | refine Below.drew ?_))⟩
    case measure => simp [intOf]; omega
  ·have HV:=Lib.hid (weightF_none (t:=t) (who:=who) (fun i h => HZ.out i h (by omega)))
   go_wp2_with fail
   go_ret
   exact ⟨ret_int' HV.out.symm,hbw⟩
structure JwC (W : World) (g : Nat) (J : Option Addr) (jc : Nat) (js : List JudgeE) : Prop where
  box : Blk W g 28 #[.slice J js.length jc]
  row : Row W 0 4 J js.length (js.flatMap encJ)
  jl : js.length ≤ 1000000
theorem JwC.below {w w' : World} {g jc : Nat} {J : Option Addr} {js : List JudgeE} (h : JwC w g J jc js) (hb : Below w.heap.size w w') : JwC w' g J jc js:=⟨h.box.below hb,h.row.below hb,h.jl⟩
theorem JwC.alloc {w : World} {g jc : Nat} {J : Option Addr} {js : List JudgeE} (h : JwC w g J jc js) (o : Obj) : JwC (w.alloc o) g J jc js:=h.below ((Below.refl _ _).alloc (Nat.le_refl _) _)
theorem JwC.past {w : World} {g jc : Nat} {J : Option Addr} {js : List JudgeE} (h : JwC w g J jc js) (b i : Nat) (u : Value) (hne : g ≠ b) (ha : ∀ a,J = some a → a.block ≠ b) : JwC (w.setCell ⟨b,i,none⟩ u) g J jc js :=
 ⟨h.box.past b i u hne,⟨h.row.1,fun hn => by
  obtain ⟨b2,off,e,hl,hb,hc⟩:=h.row.2 hn
  have hb2 : b2 ≠ b:=ha _ e
  exact ⟨b2,off,e,hl,by simpa [World.setCell] using hb,fun j v hj => (World.cell?_setCell_other w _ _ _ (by intro e; injection e with e1; exact hb2 e1.symm)).trans (hc j v hj)⟩⟩,h.jl⟩
def kB (js : List JudgeE) (v : VoteE) : Bool:=!(weightF js v.who v.at_ == 0)
theorem wgtC_any (v : VoteE) (g : Nat) (J : Option Addr) (jc : Nat) (js : List JudgeE) (w : World) (hg : JwC w g J jc js) :
  Calls Tryz.prog 35 #[.agg #[.string ⟨v.run.toArray⟩,.string ⟨v.who.toArray⟩,.int .i64 v.at_,.int .i64 v.kind],.pointer (some ⟨g,0,none⟩)] w fun e w' => e = .returned (.bool (!kB js v)) ∧ Below w.heap.size w w':=by
 have hb2:=(hg.alloc (.cells #[.string ⟨v.run.toArray⟩,.string ⟨v.who.toArray⟩,.int .i64 v.at_,.int .i64 v.kind] 37))
 have c0 : w.cell? ⟨g,0,none⟩ = some (.slice J js.length jc):=by simpa using hg.box.cell 0
 have zg:=hg.box.lt
 have hjl:=hg.jl
 have HR : Hid ((!kB js v) = (weightF js v.who v.at_ == 0)):=Lib.hid (by unfold kB; simp)
 have HB2:=Lib.hid hb2
 clear hg hb2
 go_enter Tryz.func35,Tryz.ntmps35
 go_wp2_with fail
 refine (rweight_any 0 jc J js v.who v.at_ _ HB2.out.row hjl).mono ?_
 rintro e w1 ⟨rfl,hb⟩
 have hb9:=below_up ((Below.refl _ _).alloc (Nat.le_refl _) (.cells #[.string ⟨v.run.toArray⟩,.string ⟨v.who.toArray⟩,.int .i64 v.at_,.int .i64 v.kind] 37)) hb
 obtain ⟨r,hr⟩ : ∃ r,r = weightF js v.who v.at_:=⟨_,rfl⟩
 rw [← hr] at HR ⊢
 clear hr hb HB2
 go_wp2_with fail
 go_ret
 exact ⟨ret_bool' (by rw [HR.out]),hb9⟩
def IdxZ (vs : List VoteE) (pz : VoteE → Bool) (e : Ending) : Prop:=(∃ k : Nat,∃ h : k < vs.length,e = .returned (.int .i64 k) ∧ pz vs[k] = false ∧ ∀ j (hj : j < vs.length),j < k → pz vs[j] = true) ∨ (e = .returned (.int .i64 (-1)) ∧ ∀ v ∈ vs,pz v = true)
set_option maxHeartbeats 1000000 in
theorem idxZ_any (A : Option Addr) (c g lo : Nat) (J : Option Addr) (jc : Nat) (js : List JudgeE) (vs : List VoteE) (w : World) (hr : Row w lo 4 A vs.length (vs.flatMap encV)) (hg : JwC w g J jc js) (hl : vs.length ≤ 1000000) :
  Calls Tryz.prog 56 #[.slice A vs.length c,.func (.func 35) #[] #[.pointer (some ⟨g,0,none⟩)]] w fun e w' => IdxZ vs (kB js) e ∧ Below w.heap.size w w':=by
 go_enter Tryz.func56,Tryz.ntmps56
 go_wp2_with fail
 go_loopw [8] (fun i wr => ∃ k : Nat,k ≤ vs.length ∧ i = .int .i64 k ∧ Hid (∀ j (hj : j < vs.length),j < k → kB js vs[j] = true) ∧ Below w.heap.size w wr) (fun i _ => vs.length - (intOf i).toNat)
 case atStart => exact ⟨0,Nat.zero_le _,rfl,Lib.hid (fun _ _ h => absurd h (Nat.not_lt_zero _)),Below.refl _ _⟩
 case round =>
  obtain ⟨k,hk,rfl,HA,hbw⟩:=hrel
  by_cases hlt : k < vs.length
  ·obtain ⟨b,off,rfl,hbs,-,hcl⟩:=votes_at (hr.below hbw) (by omega)
   obtain ⟨c0,c1,c2,c3⟩:=hcl k hlt
   have hgw:=hg.below hbw
   have HCL:=Lib.hid (fun (W : World) (h : JwC W g J jc js) => wgtC_any vs[k] g J jc js W h)
   clear hcl
   by_cases hrl : kB js vs[k] = true
   ·have HB : Hid (∀ j (hj : j < vs.length),j < k + 1 → kB js vs[j] = true):=Lib.hid (fun j hj hjk => by
     rcases Nat.lt_or_ge j k with h | h
     ·exact HA.out j hj h
     ·have : j = k:=by omega
      subst this; exact hrl)
    have HRL:=Lib.hid hrl
    clear hrl
    generalize vs[k] = v at *
    go_wp2_with fail
    refine (HCL.out _ hgw).mono ?_
    rintro e w2 ⟨rfl,hb2⟩
    rw [HRL.out]
    have hb9:=below_up hbw hb2
    clear hb2 hgw c0 c1 c2 c3
    go_wp2_with fail
    go_roundw
    case rel => exact ⟨k + 1,by omega,by go_num,HB,hb9⟩
    case measure => simp [intOf]; omega
   ·have hrf : kB js vs[k] = false:=by simpa using hrl
    have HE : Hid (IdxZ vs (kB js) (.returned (.int .i64 k))):=Lib.hid (.inl ⟨k,hlt,rfl,hrf,HA.out⟩)
    have HRL:=Lib.hid hrf
    clear hrl hrf
    generalize vs[k] = v at *
    go_wp2_with fail
    refine (HCL.out _ hgw).mono ?_
    rintro e w2 ⟨rfl,hb2⟩
    rw [HRL.out]
    have hb9:=below_up hbw hb2
    clear hb2 hgw c0 c1 c2 c3
    go_wp2_with fail
    go_ret
    exact ⟨HE.out,hb9⟩
  ·have HE : Hid (IdxZ vs (kB js) (.returned (.int .i64 (-1)))):=Lib.hid (.inr ⟨rfl,fun v hv => by
    obtain ⟨j,hj,rfl⟩:=List.mem_iff_getElem.1 hv
    exact HA.out j hj (by omega)⟩)
   go_wp2_with fail
   go_ret
   exact ⟨HE.out,hbw⟩
structure DelZ (w W : World) (base b c g n : Nat) (J : Option Addr) (jc : Nat) (js : List JudgeE) (us : List VoteE) : Prop where
  own : W.ownsRow base 37 4 (.slice (some ⟨b, 0, none⟩) n c) n (us.flatMap encV)
  gr : w.grownBy W (some b)
  cl : JwC W g J jc js
  apart : ∀ a, J = some a → a.block ≠ b
  ne : g ≠ b
  len : us.length = n
section
variable {w W W' : World} {base b c g n : Nat} {J : Option Addr} {jc : Nat} {js : List JudgeE} {us : List VoteE}
theorem DelZ.keep (h : DelZ w W base b c g n J jc js us) (hb : Below W.heap.size W W') : DelZ w W' base b c g n J jc js us:=⟨own_keep h.own hb,grown_trans' h.gr (grown_of_below hb _),h.cl.below hb,h.apart,h.ne,h.len⟩
theorem DelZ.put (h : DelZ w W base b c g n J jc js us) {m : Nat} (hm : m < n) (v : VoteE) : DelZ w ((((W.setCell ⟨b,m * 4,none⟩ (.string ⟨v.run.toArray⟩)).setCell ⟨b,m * 4 + 1,none⟩ (.string ⟨v.who.toArray⟩)).setCell ⟨b,m * 4 + 2,none⟩ (.int .i64 v.at_)).setCell ⟨b,m * 4 + 3,none⟩ (.int .i64 v.kind)) base b c g n J jc js (us.set m v):=by
 have h1:=(((((h.own.stored (m * 4) (.string ⟨v.run.toArray⟩)).1).stored (m * 4 + 1) (.string ⟨v.who.toArray⟩)).1.stored (m * 4 + 2) (.int .i64 v.at_)).1.stored (m * 4 + 3) (.int .i64 v.kind)).1
 rw [flat_put4 us m (by rw [h.len]; exact hm) v] at h1
 exact ⟨h1,grown_set (grown_set (grown_set (grown_set h.gr _ _) _ _) _ _) _ _,(((h.cl.past b _ _ h.ne h.apart).past b _ _ h.ne h.apart).past b _ _ h.ne h.apart).past b _ _ h.ne h.apart,h.apart,h.ne,by rw [List.length_set]; exact h.len⟩
theorem DelZ.at (h : DelZ w W base b c g n J jc js us) {k : Nat} (hk : k < us.length) : b < W.heap.size ∧ (W.cell? ⟨b,k * 4,none⟩ = some (.string ⟨us[k].run.toArray⟩) ∧ W.cell? ⟨b,k * 4 + 1,none⟩ = some (.string ⟨us[k].who.toArray⟩) ∧ W.cell? ⟨b,k * 4 + 2,none⟩ = some (.int .i64 us[k].at_) ∧ W.cell? ⟨b,k * 4 + 3,none⟩ = some (.int .i64 us[k].kind)) ∧ W.frozen? ⟨b,k * 4,none⟩ = false ∧ W.frozen? ⟨b,k * 4 + 1,none⟩ = false ∧ W.frozen? ⟨b,k * 4 + 2,none⟩ = false ∧ W.frozen? ⟨b,k * 4 + 3,none⟩ = false:=by
 have h2:=h.len
 subst h2
 obtain ⟨b',off,e,h1,-,h2⟩:=votes_at (Row.of_own h.own) (by omega)
 injection e with e; injection e with e1 e2
 subst e1 e2
 obtain ⟨b'',e,-,-,-,h4⟩:=ownBlk h.own (by omega)
 injection e with e; injection e with e1 e2
 subst e1
 have h3:=h2 k hk
 rw [Nat.zero_add] at h3
 exact ⟨h1,h3,h4 _,h4 _,h4 _,h4 _⟩
end
def DelZP (w : World) (base : Nat) (A : Option Addr) (c : Nat) (vs : List VoteE) (pz : VoteE → Bool) (e : Ending) (w' : World) : Prop:=e = .returned (.slice A (vs.filter pz).length c) ∧ w'.ownsRow base 37 4 (.slice A (vs.filter pz).length c) (vs.filter pz).length ((vs.filter pz).flatMap encV) ∧ w.grownBy w' (Value.slice A vs.length c).ownBlock
structure StrZ (vs us : List VoteE) (pz : VoteE → Bool) (m k : Nat) : Prop where
  lt : m < k
  le : k ≤ vs.length
  len : us.length = vs.length
  low : us.take m = (vs.take k).filter pz
  high : us.drop k = vs.drop k
theorem StrZ.at {vs us : List VoteE} {pz : VoteE → Bool} {m k : Nat} (h : StrZ vs us pz m k) (hk : k < vs.length) : us[k]'(by rw [h.len]; exact hk) = vs[k]:=by
 have h1:=congrArg (·[0]?) h.high
 simp only [List.getElem?_drop,Nat.add_zero] at h1
 rw [List.getElem?_eq_getElem (by rw [h.len]; exact hk),List.getElem?_eq_getElem hk] at h1
 injection h1
theorem StrZ.skip {vs us : List VoteE} {pz : VoteE → Bool} {m k : Nat} (h : StrZ vs us pz m k) (hk : k < vs.length) (hr : pz vs[k] = false) : StrZ vs us pz m (k + 1):=by
 refine ⟨by have:=h.lt; omega,hk,h.len,?_,?_⟩
 ·rw [h.low,List.take_add_one,List.getElem?_eq_getElem hk,List.filter_append]
  simp [hr]
 ·rw [← List.drop_drop,← List.drop_drop,h.high]
theorem StrZ.keep {vs us : List VoteE} {pz : VoteE → Bool} {m k : Nat} (h : StrZ vs us pz m k) (hk : k < vs.length) (hr : pz vs[k] = true) : StrZ vs (us.set m vs[k]) pz (m + 1) (k + 1):=by
 have hlt:=h.lt
 refine ⟨by omega,hk,by rw [List.length_set,h.len],?_,?_⟩
 ·have hm : m < (us.set m vs[k]).length:=by rw [List.length_set,h.len]; omega
  rw [List.take_add_one,List.getElem?_eq_getElem hm,List.getElem_set_self,List.take_set_of_le (Nat.le_refl _),h.low,List.take_add_one,List.getElem?_eq_getElem hk,List.filter_append]
  simp [hr]
 ·rw [List.drop_set_of_lt (by omega),← List.drop_drop,← List.drop_drop,h.high]
set_option maxHeartbeats 2000000 in
theorem deleteZ_any (A : Option Addr) (c g base : Nat) (J : Option Addr) (jc : Nat) (js : List JudgeE) (vs : List VoteE) (w : World) (ho : w.ownsRow base 37 4 (.slice A vs.length c) vs.length (vs.flatMap encV)) (hg : JwC w g J jc js) (hgb : g < base) (hjb : ∀ a,J = some a → a.block < base) (hl : vs.length ≤ 1000000) :
  Calls Tryz.prog 34 #[.slice A vs.length c,.func (.func 35) #[] #[.pointer (some ⟨g,0,none⟩)]] w (DelZP w base A c vs (kB js)):=by
 have hrow:=Row.of_own ho
 have HO:=Lib.hid ho
 clear ho
 go_enter Tryz.func34,Tryz.ntmps34
 go_wp2_with fail
 refine (idxZ_any A c g _ J jc js vs w hrow hg hl).mono ?_
 rintro e w1 ⟨hE,hb1⟩
 rcases hE with ⟨k0,hk0,rfl,hdel,hkeep⟩ | ⟨rfl,hall⟩
 ·obtain ⟨b,hA,hbb,hbz,-,-⟩:=ownBlk HO.out (by omega)
  subst hA
  have hcap:=own_capV HO.out
  obtain ⟨n,hn⟩ : ∃ n,vs.length = n:=⟨_,rfl⟩
  have HN:=Lib.hid hn
  have HC : Hid (DelZ w w1 base b c g n J jc js vs):=Lib.hid (by
   have ho:=HO.out
   rw [hn] at ho
   exact ⟨own_keep ho hb1,grown_of_below hb1 _,hg.below hb1,fun a ha => by have:=hjb a ha; omega,by omega,hn⟩)
  have HI : Hid (StrZ vs vs (kB js) k0 (k0 + 1)):=Lib.hid ⟨by omega,by omega,rfl,by
   have hkk : ∀ v ∈ vs.take k0,kB js v = true:=fun v hv => by
    obtain ⟨j,hj,rfl⟩:=List.mem_iff_getElem.1 hv
    rw [List.length_take] at hj
    rw [List.getElem_take]
    exact hkeep j (by omega) (by omega)
   rw [List.take_add_one,List.getElem?_eq_getElem hk0,List.filter_append,List.filter_eq_self.2 hkk]
   simp [hdel],rfl⟩
  have hl2 : n ≤ 1000000:=by omega
  have hk02 : k0 < n:=by omega
  rw [hn] at hcap
  have hne1 : ((k0 : Int) == -1) = false:=beq_eq_false_iff_ne.2 (by omega)
  have HGD : Hid (∀ a,J = some a → a.block < base):=Lib.hid hjb
  rw [hn]
  clear hdel hkeep hg hrow hb1 hn hl hgb hjb hbb hbz hk0
  go_wp2_with fail
  go_loopw [5,6,7] (fun i j _ wr => ∃ (m k : Nat) (us : List VoteE),i = .int .i64 m ∧ j = .int .i64 k ∧ m < k ∧ k ≤ n ∧ Hid (StrZ vs us (kB js) m k) ∧ Hid (DelZ w wr base b c g n J jc js us)) (fun _ j _ _ => n - (intOf j).toNat)
  case atStart => exact ⟨k0,k0 + 1,vs,rfl,by go_num,by omega,by omega,HI,HC⟩
  case round =>
   clear HC HI
   obtain ⟨m,k,us,rfl,rfl,hmk,hkn,HI,HC⟩:=hrel
   have hlu:=HC.out.len
   by_cases hkl : k < n
   ·have HIA : Hid (∃ v : VoteE,vs[k]? = some v ∧ us[k]? = some v):=Lib.hid (by
     have h1:=HI.out.at (by rw [HN.out]; exact hkl)
     refine ⟨vs[k]'(by rw [HN.out]; exact hkl),List.getElem?_eq_getElem _,?_⟩
     rw [List.getElem?_eq_getElem (by omega),h1])
    obtain ⟨v,hv1,hv2⟩:=HIA.out
    obtain ⟨hkv,hv3⟩:=List.getElem?_eq_some_iff.1 hv1
    obtain ⟨hku,hv4⟩:=List.getElem?_eq_some_iff.1 hv2
    obtain ⟨hbz,⟨c0,c1,c2,c3⟩,-⟩:=HC.out.at hku
    rw [hv4] at c0 c1 c2 c3
    have hcl:=(HC.out.cl).alloc (.cells #[.string ⟨v.run.toArray⟩,.string ⟨v.who.toArray⟩,.int .i64 v.at_,.int .i64 v.kind] 37)
    have HD:=Lib.hid (HC.out.keep ((Below.refl _ _).alloc (Nat.le_refl _) (.cells #[.string ⟨v.run.toArray⟩,.string ⟨v.who.toArray⟩,.int .i64 v.at_,.int .i64 v.kind] 37)))
    have HV:=Lib.hid hv3
    have HKV:=Lib.hid hkv
    clear HIA hv1 hv2 hv3 hv4 HC hku
    have hbx : Blk (wr.alloc (.cells #[.string ⟨v.run.toArray⟩,.string ⟨v.who.toArray⟩,.int .i64 v.at_,.int .i64 v.kind] 37)) wr.heap.size 37 #[.string ⟨v.run.toArray⟩,.string ⟨v.who.toArray⟩,.int .i64 v.at_,.int .i64 v.kind]:=Blk.new _ _ _
    go_wp2_with fail
    refine (wgtC_any v g J jc js _ hcl).mono ?_
    rintro e w2 ⟨rfl,hb2⟩
    have hC2:=HD.out.keep hb2
    have hbx2:=hbx.below hb2
    clear HD hb2 hcl hbx
    cases hrl : kB js v
    ·have HI2:=Lib.hid (HI.out.skip HKV.out (by rw [HV.out]; exact hrl))
     have HC2:=Lib.hid hC2
     clear hrl hC2 HI hbx2 c0 c1 c2 c3 hbz
     go_wp2_with fail
     go_roundw
     case rel => exact ⟨m,k + 1,us,rfl,by go_num,by omega,by omega,HI2,HC2⟩
     case measure => simp [intOf]; omega
    ·have HI2:=Lib.hid (HI.out.keep HKV.out (by rw [HV.out]; exact hrl))
     have hmu : m < us.length:=by omega
     obtain ⟨hbz2,⟨d0,d1,d2,d3⟩,f0,f1,f2,f3⟩:=hC2.at hmu
     obtain ⟨x0,x1,x2,x3⟩ : _ ∧ _ ∧ _ ∧ _:=⟨hbx2.cell 0,hbx2.cell 1,hbx2.cell 2,hbx2.cell 3⟩
     simp only [Q0,Q2,Q1] at x0 x1 x2 x3
     have xl:=hbx2.lt
     have HC2:=Lib.hid (hC2.put (show m < n by omega) v)
     rw [HV.out] at HI2
     clear hrl hC2 HI hbx2 c0 c1 c2 c3 hbz
     generalize us[m] = um at *
     go_wp2_with fail
     go_roundw
     case rel => exact ⟨m + 1,k + 1,us.set m v,by go_num,by go_num,by omega,by omega,HI2,HC2⟩
     case measure => simp [intOf]; omega
   ·have hkk : k = n:=by omega
    subst hkk
    obtain ⟨L,hclr⟩:=run_clear4 wr 26 37 #[.string ⟨#[]⟩,.string ⟨#[]⟩,.int .i64 0,.int .i64 0] Tryz.underlying26 (fun w => Tryz.zeroValue37 w) rfl (fun i hi => by match i,hi with
     | 0,_ => rfl
     | 1,_ => rfl
     | 2,_ => rfl
     | 3,_ => rfl) b (m * 4) (k - m) (c - m) (by omega) (fun j hj => by
      obtain ⟨b',e,-,-,h3,-⟩:=ownBlk HC.out.own (by omega)
      injection e with e; injection e with e1 e2
      subst e1
      have hlen : (us.flatMap encV).length = us.length * 4:=flat_len4 encV 4 encV_len us
      have hjj : m * 4 + j < (us.flatMap encV).length:=by rw [hlen]; omega
      rw [h3 _ _ (List.getElem?_eq_getElem hjj)]; rfl) (fun j hj => by
      obtain ⟨b',e,-,-,-,h4⟩:=ownBlk HC.out.own (by omega)
      injection e with e; injection e with e1 e2
      subst e1
      exact h4 _)
    have hus : us.take m = vs.filter (kB js):=by
     rw [HI.out.low,List.take_of_length_le (by rw [HN.out]; exact Nat.le_refl _)]
    have hml : (vs.filter (kB js)).length = m:=by
     rw [← hus,List.length_take]; omega
    have HF : Hid ((wr.setCells b (m * 4) L).ownsRow base 37 4 (.slice (some ⟨b,0,none⟩) (vs.filter (kB js)).length c) (vs.filter (kB js)).length ((vs.filter (kB js)).flatMap encV)):=Lib.hid (by
     have h1:=own_take HC.out.own (show m ≤ k by omega)
     rw [flat_takeV,hus] at h1
     rw [hml]
     exact own_beyond L (m * 4) wr (by rw [flat_len4 encV 4 encV_len,hml]; exact Nat.le_refl _) h1)
    have HG:=Lib.hid (grown_sets L (m * 4) wr HC.out.gr)
    have HML:=Lib.hid hml
    clear hus hml HC HI
    go_wp2_with fail
    go_ret
    exact ⟨by rw [HML.out] <;> rfl,HF.out,HG.out⟩
 ·have hfil : vs.filter (kB js) = vs:=List.filter_eq_self.2 hall
  have HF : Hid (w1.ownsRow base 37 4 (.slice A (vs.filter (kB js)).length c) (vs.filter (kB js)).length ((vs.filter (kB js)).flatMap encV)):=Lib.hid (by rw [hfil]; exact own_keep HO.out hb1)
  have HG:=Lib.hid (grown_of_below hb1 (Value.slice A vs.length c).ownBlock)
  have HL : Hid ((vs.filter (kB js)).length = vs.length):=Lib.hid (by rw [hfil])
  clear hfil hb1 hg hrow hjb
  go_wp2_with fail
  go_ret
  exact ⟨by rw [HL.out] <;> rfl,HF.out,HG.out⟩
end Go.Proofs.YtgeaeockmadhcaaGreatDoor
