/- Texts of this seat, laid together: Hx Tg Np Nq Ny LawMapsComeBack. -/
import Derived.Handy
import Derived.Test.YtijdbbnnkogkjaaGreatDoorBn20
import Derived.Test.YtijdbbnnkogkjaaGreatDoorBn05
import Derived.Test.YtijdbbnnkogkjaaGreatDoorBn22
import Derived.Test.YtijdbbnnkogkjaaGreatDoorBn21
import Derived.Test.YtijdbbnnkogkjaaGreatDoorBn45
import Derived.Test.YtijdbbnnkogkjaaGreatDoorBn31
import Derived.Test.YtijdbbnnkogkjaaGreatDoorBn55
import Derived.Test.YtijdbbnnkogkjaaGreatDoorBn56
import Derived.Test.YtijdbbnnkogkjaaGreatDoorBn23
import Derived.Test.YtijdbbnnkogkjaaGreatDoorBn72
/- Plain laws: what is written of a history. -/
namespace Go.Proofs.YtijdbbnnkogkjaaGreatDoor
set_option linter.unusedVariables false
set_option linter.unusedSimpArgs false
open Go.RowKit Go.Sort

theorem nDigits_le : ∀ (k u : Nat),u < 10 ^ k → 1 ≤ k → Lib.nDigits u ≤ k
 | 0,_,_,h => by omega
 | k + 1,u,hu,_ => by
  by_cases hu10 : u < 10
  ·rw [Lib.nDigits_small hu10]; omega
  ·rw [Lib.nDigits_big hu10]
   have : u / 10 < 10 ^ k:=by rw [Nat.pow_succ] at hu; omega
   cases k with
   | zero => simp at this; omega
   | succ k => have:=nDigits_le (k + 1) (u / 10) this (by omega); omega
end Go.Proofs.YtijdbbnnkogkjaaGreatDoor
/- Plain laws of texts: numbers as words, words as lines, lines as a text. -/
namespace Go.Proofs.YtijdbbnnkogkjaaGreatDoor
set_option linter.unusedVariables false
set_option linter.unusedSimpArgs false
open Go.RowKit Go.Sort

theorem decDigits_unsign (u : Nat) : unsign (Lib.decDigits u) = Lib.decDigits u:=by
 have h:=(decDigits_digs u).1
 cases hd : Lib.decDigits u with
 | nil => exact absurd hd (decDigits_ne u)
 | cons b r =>
  rw [hd] at h
  refine unsign_pos b r ?_
  rintro rfl
  have:=(List.all_eq_true.1 h) 45 (by simp)
  revert this; decide
theorem valS_dec (u : Nat) : valS (Lib.decDigits u) = u:=by
 have h:=(decDigits_digs u)
 have hu:=decDigits_unsign u
 have hh : (Lib.decDigits u).head? ≠ some 45:=by
  cases hd : Lib.decDigits u with
  | nil => simp
  | cons b r =>
   rw [hd] at h
   intro e
   have : b = 45:=by simpa using e
   subst this
   have:=(List.all_eq_true.1 h.1) 45 (by simp)
   revert this; decide
 unfold valS
 rw [if_neg hh,hu,h.2]
theorem numB_dec (u m : Nat) (h : u < 10 ^ m) (hm : 1 ≤ m) : numB (Lib.decDigits u) m = true:=by
 have hd:=(decDigits_digs u).1
 have hu:=decDigits_unsign u
 have hl : (Lib.decDigits u).length ≤ m:=by rw [Lib.decDigits_length]; exact nDigits_le m u h hm
 have hp : 1 ≤ (Lib.decDigits u).length:=by rw [Lib.decDigits_length]; exact Lib.nDigits_pos u
 have key:=itoa_valS (Lib.decDigits u) (by rw [hu]; exact hd) (by rw [hu]; exact decDigits_ne u)
 rw [valS_dec,Lib.itoa_nonneg,decide_eq_true rfl] at key
 unfold numB
 rw [← key,hu,hd,decide_eq_true hl,decide_eq_true hp]; rfl
theorem numB_itoaN (n : Int) (h0 : 0 ≤ n) (h1 : n < 1000000000) : numB (Lib.itoa n) 9 = true ∧ numV (Lib.itoa n) 9 = n := by
  obtain ⟨u, rfl⟩ := Int.eq_ofNat_of_zero_le h0
  rw [Lib.itoa_nonneg]
  have hb := numB_dec u 9 (by have : (10 : Nat) ^ 9 = 1000000000 := by decide
                              omega) (by decide)
  refine ⟨hb, ?_⟩
  unfold numV
  rw [hb, if_pos rfl, valS_dec]
theorem itoa_numV {s : List UInt8} {m : Nat} (h : numB s m = true) : Lib.itoa (numV s m) = s:=by
 have h':=h
 unfold numB at h
 simp only [Bool.and_eq_true,decide_eq_true_eq] at h
 have hn : unsign s ≠ []:=by intro e; rw [e] at h; simp at h
 have e:=itoa_valS s h.1.1.1 hn
 rw [h.2] at e
 unfold numV
 rw [h',if_pos rfl]
 exact of_decide_eq_true e
theorem dec_bytes (u : Nat) : ∀ b ∈ Lib.decDigits u,48 ≤ b.toNat ∧ b.toNat ≤ 57:=by
 intro b hb
 have:=(List.all_eq_true.1 (decDigits_digs u).1) b hb
 simpa using this
theorem itoa_free (n : Int) (h0 : 0 ≤ n) : (10 : UInt8) ∉ Lib.itoa n ∧ (32 : UInt8) ∉ Lib.itoa n ∧ Lib.itoa n ≠ []:=by
 obtain ⟨u,rfl⟩:=Int.eq_ofNat_of_zero_le h0
 rw [Lib.itoa_nonneg]
 refine ⟨fun h => ?_,fun h => ?_,decDigits_ne u⟩
 ·have:=dec_bytes u 10 h; revert this; decide
 ·have:=dec_bytes u 32 h; revert this; decide
theorem joinTail_free {c : UInt8} (hc : c ≠ 32) : ∀ {ws : List (List UInt8)},(∀ x ∈ ws,c ∉ x) → c ∉ Lib.joinTail [32] ws
 | [],_ => by simp [Lib.joinTail]
 | x :: ws,h => by
  have ih:=joinTail_free hc (ws:=ws) (fun y hy => h y (by simp [hy]))
  have e : Lib.joinTail [32] (x :: ws) = 32 :: (x ++ Lib.joinTail [32] ws):=by simp [Lib.joinTail]
  rw [e]
  intro hm
  rcases List.mem_cons.1 hm with hm | hm
  ·exact hc hm
  ·rcases List.mem_append.1 hm with hm | hm
   ·exact h x (by simp) hm
   ·exact ih hm
theorem join_cut (c : UInt8) (l : List UInt8) : ∃ x ws,cutAt c l = x :: ws ∧ l = x ++ Lib.joinTail [c] ws:=by
 induction l with
 | nil => exact ⟨[],[],rfl,rfl⟩
 | cons b l ih =>
  obtain ⟨x,ws,e1,e2⟩:=ih
  unfold cutAt
  by_cases h : b = c
  ·subst h
   rw [if_pos rfl,e1]
   exact ⟨[],x :: ws,rfl,by
    have : Lib.joinTail [b] (x :: ws) = b :: (x ++ Lib.joinTail [b] ws):=by simp [Lib.joinTail]
    rw [this,← e2]; rfl⟩
  ·rw [if_neg h,e1]
   exact ⟨b :: x,ws,rfl,by rw [List.cons_append,← e2]⟩
theorem text_lines (t : List UInt8) (h : endsB t = true) : t = (linesL t).flatMap (· ++ [10]):=by
 induction hk : t.length using Nat.strongRecOn generalizing t with
 | _ n ih =>
  by_cases h0 : t = []
  ·subst h0; rfl
  ·rcases split_first 10 t with hn | ⟨a,r,rfl,hn⟩
   ·rw [(lines_last t hn h0).2] at h; cases h
   ·obtain ⟨e1,e2⟩:=lines_cons a r hn
    rw [e1,List.flatMap_cons,← ih r.length (by subst hk; simp; omega) r (by rw [← e2]; exact h) rfl]
    simp
theorem lines_text : ∀ (ls : List (List UInt8)),(∀ x ∈ ls,(10 : UInt8) ∉ x) → linesL (ls.flatMap (· ++ [10])) = ls ∧ endsB (ls.flatMap (· ++ [10])) = true
 | [],_ => ⟨rfl,rfl⟩
 | x :: ls,h => by
  obtain ⟨i1,i2⟩:=lines_text ls (fun y hy => h y (by simp [hy]))
  have e : (x :: ls).flatMap (· ++ [10]) = x ++ 10 :: ls.flatMap (· ++ [10]):=by simp
  obtain ⟨e1,e2⟩:=lines_cons x (ls.flatMap (· ++ [10])) (h x (by simp))
  rw [e,e1,e2,i1,i2]; exact ⟨rfl,rfl⟩
end Go.Proofs.YtijdbbnnkogkjaaGreatDoor
/- Plain laws of drawn maps: they are right, and their text is short. -/
namespace Go.Proofs.YtijdbbnnkogkjaaGreatDoor
set_option linter.unusedVariables false
set_option linter.unusedSimpArgs false
open Go.RowKit Go.Sort

def thingsS : List (List (List UInt8)):=[[],[[103,117,110]],[[107,101,121]],[[109,97,112]],[[103,117,110],[107,101,121]],[[103,117,110],[109,97,112]],[[107,101,121],[109,97,112]],[[103,117,110],[107,101,121],[109,97,112]]]
theorem things_cases {l : List (List UInt8)} (h : l.Sublist thingsL) : l ∈ thingsS:=by
 unfold thingsL at h
 cases h <;> rename_i h <;> cases h <;> rename_i h <;> cases h <;> rename_i h <;> cases h <;> decide
theorem things_right {l : List (List UInt8)} (h : l.Sublist thingsL) : thingsE l = 0 ∧ (comT l).length ≤ 11:=by
 have h1 : ∀ l ∈ thingsS,thingsE l = 0 ∧ (comT l).length ≤ 11:=by decide
 exact h1 l (things_cases h)
theorem names_mem {n : Nat} {s : List UInt8} (h : s ∈ names5.take n) : ∃ k,k < n ∧ k < 5 ∧ s = names5.getD k []:=by
 obtain ⟨k,hk,e⟩:=List.mem_iff_getElem.1 h
 have hk' : k < n ∧ k < 5:=by simp [names5] at hk; omega
 refine ⟨k,hk'.1,hk'.2,?_⟩
 rw [List.getElem_take] at e
 rw [← e,List.getD_eq_getElem?_getD,List.getElem?_eq_getElem (show k < names5.length from hk'.2)]; rfl
theorem hasR_names {rs : List RoomE} (h : RoomsG rs) {s : List UInt8} (hs : s ∈ names5.take rs.length) : hasR rs s = true:=by
 obtain ⟨k,hk,_,e⟩:=names_mem hs
 unfold hasR
 rw [List.any_eq_true]
 exact ⟨rs[k],List.getElem_mem _,by rw [(h k hk).1,e]; simp⟩
theorem roomAt_G {rs : List RoomE} (h : RoomsG rs) (h5 : rs.length ≤ 5) {k : Nat} (hk : k < rs.length) : roomAt rs k = 0:=by
 have g : ∀ j (hj : j < rs.length),(rs.getD j default).key = names5.getD j [] ∧ (rs.getD j default).gives.Sublist thingsL:=fun j hj => by
  rw [List.getD_eq_getElem?_getD,List.getElem?_eq_getElem hj]; exact h j hj
 have d1 : ∀ j : Fin 5,keyB (names5.getD j.val []) = true:=by decide
 have d2 : ∀ j : Fin 5,0 < j.val → names5.getD (j.val - 1) [] < names5.getD j.val []:=by decide
 have e1:=d1 ⟨k,by omega⟩
 have e2:=d2 ⟨k,by omega⟩
 dsimp only at e1 e2
 unfold roomAt
 rw [(g k hk).1,e1]
 by_cases h0 : 0 < k
 ·rw [(g (k - 1) (by omega)).1,if_neg (by simp),if_neg (fun h => h.2 (e2 h0)),(things_right (g k hk).2).1]
 ·rw [if_neg (by simp),if_neg (fun h => h0 h.1),(things_right (g k hk).2).1]
theorem doorAt_G {rs : List RoomE} {ds : List DoorE} (hr : RoomsG rs) (h : DoorsG rs.length ds) (h9 : ds.length ≤ 9) {k : Nat} (hk : k < ds.length) : doorAt rs ds k = 0:=by
 have g : ∀ j (hj : j < ds.length),DoorG rs.length j (ds.getD j default):=fun j hj => by
  rw [List.getD_eq_getElem?_getD,List.getElem?_eq_getElem hj]; exact h j hj
 have d1 : ∀ j : Fin 9,keyB [100,UInt8.ofNat (48 + j.val)] = true:=by decide
 have d2 : ∀ j : Fin 9,0 < j.val → ([100,UInt8.ofNat (48 + (j.val - 1))] : List UInt8) < [100,UInt8.ofNat (48 + j.val)]:=by decide
 have d3 : ∀ x ∈ ([1,2,3,3,5,9] : List Int),¬ (x < 1 ∨ 864000000 < x):=by decide
 have d4 : ∀ s ∈ tricksG,¬ (s ≠ [] ∧ (!keyB s) = true):=by decide
 have e1:=d1 ⟨k,by omega⟩
 have e2:=d2 ⟨k,by omega⟩
 dsimp only at e1 e2
 have gk:=g k hk
 have e6 : firstE [thingsE (ds.getD k default).needs,thingsE (ds.getD k default).takes] = 0:=by
  rw [(things_right gk.needs).1,(things_right gk.takes).1]; rfl
 have e7 : ¬ (0 < k ∧ ¬ ((ds.getD (k - 1) default).key < (ds.getD k default).key)):=fun hh => by
  have:=e2 hh.1
  rw [gk.key,(g (k - 1) (by omega)).key] at hh
  exact hh.2 this
 unfold doorAt
 rw [if_neg (by rw [gk.key,e1]; simp),if_neg e7,if_neg (by rw [hasR_names hr gk.src,hasR_names hr gk.dst]; simp),if_neg (d3 _ gk.time),if_neg (by rw [e6]; simp),if_neg (d4 _ gk.trick)]
theorem once_short {l T : List (List UInt8)} (hT : T.Pairwise (· < ·)) (h : ∀ x ∈ l,x ∈ T) : (onceT l).length ≤ T.length:=by
 rw [once_filter hT h]; exact List.length_filter_le _ _
theorem mapE_G {rs : List RoomE} {ds : List DoorE} {st gl : List UInt8} (hr : RoomsG rs) (hd : DoorsG rs.length ds) (h5 : rs.length ≤ 5) (h9 : ds.length ≤ 9) (hst : st ∈ names5.take rs.length) (hgl : gl ∈ names5.take rs.length) : mapE rs ds st gl = 0:=by
 have e1 : roomsE rs = 0:=by unfold roomsE; rw [if_neg (by omega)]; exact scanF_none (fun j hj => roomAt_G hr h5 hj)
 have e2 : doorsE rs ds = 0:=by unfold doorsE; rw [if_neg (by omega)]; exact scanF_none (fun j hj => doorAt_G hr hd h9 hj)
 have e3 : (onceT (allT rs ds)).length ≤ 3:=once_short (T:=thingsL) (by decide) (fun x hx => by
  unfold allT at hx
  rw [List.mem_append,List.mem_flatMap,List.mem_flatMap] at hx
  rcases hx with ⟨r,hr',hx⟩ | ⟨d,hd',hx⟩
  ·obtain ⟨k,hk,rfl⟩:=List.mem_iff_getElem.1 hr'
   exact (hr k hk).2.subset hx
  ·obtain ⟨k,hk,rfl⟩:=List.mem_iff_getElem.1 hd'
   rcases List.mem_append.1 hx with h | h
   ·exact (hd k hk).needs.subset h
   ·exact (hd k hk).takes.subset h)
 have e4 : (onceT (allK ds)).length ≤ 3:=once_short (T:=[[99,108,105,112],[106,117,109,112],[119,97,114,112]]) (by decide) (fun x hx => by
  unfold allK at hx
  obtain ⟨d,hd',rfl⟩:=List.mem_map.1 hx
  obtain ⟨hd',hn⟩:=List.mem_filter.1 hd'
  obtain ⟨k,hk,rfl⟩:=List.mem_iff_getElem.1 hd'
  have h6 : ∀ s ∈ tricksG,s ≠ [] → s ∈ ([[99,108,105,112],[106,117,109,112],[119,97,114,112]] : List (List UInt8)):=by decide
  exact h6 _ (hd k hk).trick (by simpa using hn))
 unfold mapE
 rw [if_neg (by rw [e1]; simp),if_neg (by rw [e2]; simp),if_neg (by rw [hasR_names hr hst,hasR_names hr hgl]; simp),if_neg (by omega)]
theorem rmsT_G {st gl : List UInt8} {rs : List RoomE} (hr : RoomsG rs) (h1 : st.length ≤ 2) (h2 : gl.length ≤ 2) : ∀ k,k ≤ rs.length → k ≤ 5 → (rmsT st gl rs k).length ≤ 10 + k * 20
 | 0,_,_ => by
  show (hdLn st gl).length ≤ _
  unfold hdLn
  rw [List.length_append,join3_len]
  simp only [mapW,List.length_cons,List.length_nil]
  omega
 | k + 1,hk,h5 => by
  rw [rmsT_next (by omega),List.length_append]
  have h3:=rmsT_G hr h1 h2 k (by omega) (by omega)
  obtain ⟨e1,e2⟩:=hr k (by omega)
  have h4:=(things_right e2).2
  have d1 : ∀ j : Fin 5,(names5.getD j.val []).length ≤ 2:=by decide
  have h6:=d1 ⟨k,by omega⟩
  dsimp only at h6
  have h7 : (rmLn rs[k]).length ≤ 20:=by
   unfold rmLn
   rw [List.length_append,join3_len,e1]
   simp only [roomW,List.length_cons,List.length_nil]
   omega
  omega
theorem itoa_le1 {n : Int} (h : 0 ≤ n ∧ n < 10) : (Lib.itoa n).length ≤ 1:=by
 obtain ⟨u,rfl⟩:=Int.eq_ofNat_of_zero_le h.1
 rw [Lib.itoa_nonneg]
 have:=nDigits_leN 1 u (by omega) (by omega)
 rwa [Lib.decDigits_length]
theorem drsT_G {h0 : List UInt8} {n : Nat} {ds : List DoorE} (hd : DoorsG n ds) : ∀ k,k ≤ ds.length → (drsT h0 ds k).length ≤ h0.length + k * 45
 | 0,_ => by show h0.length ≤ _; omega
 | k + 1,hk => by
  rw [drsT_next (by omega),List.length_append]
  have h3:=drsT_G (h0:=h0) hd k (by omega)
  have g:=hd k (by omega)
  have h4:=(things_right g.needs).2
  have h5:=(things_right g.takes).2
  have h6:=names_b g.src
  have h7:=names_b g.dst
  have d1 : ∀ x ∈ ([1,2,3,3,5,9] : List Int),0 ≤ x ∧ x < 10:=by decide
  have h8:=itoa_le1 (d1 _ g.time)
  have d2 : ∀ s ∈ tricksG,(trT s).length ≤ 4:=by decide
  have h9:=d2 _ g.trick
  have h7 : (drLn ds[k]).length ≤ 45:=by
   unfold drLn
   rw [List.length_append,join8_len,g.key]
   simp only [doorW,List.length_cons,List.length_nil]
   omega
  omega
theorem mapT_G {rs : List RoomE} {ds : List DoorE} {st gl : List UInt8} (hr : RoomsG rs) (hd : DoorsG rs.length ds) (h5 : rs.length ≤ 5) (h9 : ds.length ≤ 9) (hst : st ∈ names5.take rs.length) (hgl : gl ∈ names5.take rs.length) : (mapT rs ds st gl).length ≤ 600:=by
 have a:=rmsT_G hr (names_b hst) (names_b hgl) rs.length (Nat.le_refl _) h5
 have b:=drsT_G (h0:=rmsT st gl rs rs.length) hd ds.length (Nat.le_refl _)
 unfold mapT
 omega
end Go.Proofs.YtijdbbnnkogkjaaGreatDoor
/- Plain laws: a map that is written is read again; what is read is written so. -/
namespace Go.Proofs.YtijdbbnnkogkjaaGreatDoor
set_option linter.unusedVariables false
set_option linter.unusedSimpArgs false
open Go.RowKit Go.Sort

theorem rmsT_flat (st gl : List UInt8) (rs : List RoomE) : ∀ k,k ≤ rs.length → rmsT st gl rs k = hdLn st gl ++ (rs.take k).flatMap rmLn
 | 0,_ => by simp [rmsT]
 | k + 1,hk => by
  rw [rmsT_next (by omega),rmsT_flat st gl rs k (by omega),List.take_succ_eq_append_getElem hk,List.flatMap_append,List.append_assoc]
  simp
theorem drsT_flat (h0 : List UInt8) (ds : List DoorE) : ∀ k,k ≤ ds.length → drsT h0 ds k = h0 ++ (ds.take k).flatMap drLn
 | 0,_ => by simp [drsT]
 | k + 1,hk => by
  rw [drsT_next (by omega),drsT_flat h0 ds k (by omega),List.take_succ_eq_append_getElem hk,List.flatMap_append,List.append_assoc]
  simp
theorem mapT_flat (rs : List RoomE) (ds : List DoorE) (st gl : List UInt8) : mapT rs ds st gl = hdLn st gl ++ rs.flatMap rmLn ++ ds.flatMap drLn:=by
 unfold mapT
 rw [drsT_flat _ _ _ (Nat.le_refl _),rmsT_flat _ _ _ _ (Nat.le_refl _),List.take_length,List.take_length]
def hdL (st gl : List UInt8) : List UInt8:=Lib.join [mapW,st,gl] [32]
def rmL (r : RoomE) : List UInt8:=Lib.join [roomW,r.key,comT r.gives] [32]
def drL (d : DoorE) : List UInt8:=Lib.join [doorW,d.key,d.src,d.dst,Lib.itoa d.time,comT d.needs,comT d.takes,trT d.trick] [32]
theorem mapT_lines (rs : List RoomE) (ds : List DoorE) (st gl : List UInt8) : mapT rs ds st gl = (hdL st gl :: (rs.map rmL ++ ds.map drL)).flatMap (· ++ [10]):=by
 rw [mapT_flat,List.flatMap_cons,List.flatMap_append,List.flatMap_map,List.flatMap_map,← List.append_assoc]
 rfl
def WFree (x : List UInt8) : Prop:=(10 : UInt8) ∉ x ∧ (32 : UInt8) ∉ x ∧ x ≠ []
instance (x : List UInt8) : Decidable (WFree x) := inferInstanceAs (Decidable (_ ∧ _ ∧ _))
structure RoomT (r : RoomE) : Prop where
  key : WFree r.key
  com : WFree (comT r.gives)
  ok : uncB (comT r.gives) = true
  back : uncL (comT r.gives) = r.gives
structure DoorT (d : DoorE) : Prop where
  key : WFree d.key
  src : WFree d.src
  dst : WFree d.dst
  time : 0 ≤ d.time ∧ d.time < 1000000000
  n : WFree (comT d.needs) ∧ uncB (comT d.needs) = true ∧ uncL (comT d.needs) = d.needs
  x : WFree (comT d.takes) ∧ uncB (comT d.takes) = true ∧ uncL (comT d.takes) = d.takes
  trick : WFree (trT d.trick) ∧ (if trT d.trick = [45] then [] else trT d.trick) = d.trick
theorem join_words {x : List UInt8} {ws : List (List UInt8)} (h : ∀ y ∈ x :: ws,WFree y) : cutAt 32 (Lib.join (x :: ws) [32]) = x :: ws ∧ (10 : UInt8) ∉ Lib.join (x :: ws) [32]:=by
 rw [Lib.join_cons]
 refine ⟨cutAt_join 32 x ws (fun y hy => (h y hy).2.1),fun hm => ?_⟩
 rcases List.mem_append.1 hm with hm | hm
 ·exact (h x (by simp)).1 hm
 ·exact joinTail_free (by decide) (fun y hy => (h y (by simp [hy])).1) hm
theorem full_words {ws : List (List UInt8)} (h : ∀ y ∈ ws,WFree y) : fullW ws = true:=by
 rw [fullW,List.all_eq_true]
 intro x hx
 have:=(h x hx).2.2
 cases x with | nil => exact absurd rfl this | cons a b => rfl
theorem rm_words {r : RoomE} (h : RoomT r) : ∀ y ∈ [roomW,r.key,comT r.gives],WFree y:=by
 intro y hy
 simp only [List.mem_cons,List.not_mem_nil,or_false] at hy
 rcases hy with rfl | rfl | rfl
 ·decide
 ·exact h.key
 ·exact h.com
theorem itoa_word {n : Int} (h0 : 0 ≤ n) : WFree (Lib.itoa n):=itoa_free n h0
theorem dr_words {d : DoorE} (h : DoorT d) : ∀ y ∈ [doorW,d.key,d.src,d.dst,Lib.itoa d.time,comT d.needs,comT d.takes,trT d.trick],WFree y:=by
 intro y hy
 simp only [List.mem_cons,List.not_mem_nil,or_false] at hy
 rcases hy with rfl | rfl | rfl | rfl | rfl | rfl | rfl | rfl
 ·decide
 ·exact h.key
 ·exact h.src
 ·exact h.dst
 ·exact itoa_word h.time.1
 ·exact h.n.1
 ·exact h.x.1
 ·exact h.trick.1
theorem map_comes {rs : List RoomE} {ds : List DoorE} {st gl : List UInt8} (h0 : mapE rs ds st gl = 0) (hl : (mapT rs ds st gl).length ≤ 200000) (hr : ∀ r ∈ rs,RoomT r) (hd : ∀ d ∈ ds,DoorT d) (hst : WFree st) (hgl : WFree gl) :
  readM (mapT rs ds st gl) = (⟨st,gl,rs.map RoomE.er,ds.map DoorE.er⟩,0,0):=by
 have wh : ∀ y ∈ [mapW,st,gl],WFree y:=by
  intro y hy
  simp only [List.mem_cons,List.not_mem_nil,or_false] at hy
  rcases hy with rfl | rfl | rfl
  ·decide
  ·exact hst
  ·exact hgl
 have hfree : ∀ x ∈ hdL st gl :: (rs.map rmL ++ ds.map drL),(10 : UInt8) ∉ x:=by
  intro x hx
  rcases List.mem_cons.1 hx with rfl | hx
  ·exact (join_words wh).2
  ·rcases List.mem_append.1 hx with hx | hx
   ·obtain ⟨r,hr',rfl⟩:=List.mem_map.1 hx
    exact (join_words (rm_words (hr r hr'))).2
   ·obtain ⟨d,hd',rfl⟩:=List.mem_map.1 hx
    exact (join_words (dr_words (hd d hd'))).2
 obtain ⟨L1,L2⟩:=lines_text _ hfree
 rw [← mapT_lines] at L1 L2
 generalize ht : mapT rs ds st gl = t at *
 have hn : (linesL t).length = 1 + rs.length + ds.length:=by rw [L1]; simp; omega
 have hne : t ≠ []:=by intro e; rw [e,linesL_nil] at hn; simp at hn; omega
 have w0 : lwM t 0 = [mapW,st,gl]:=by
  unfold lwM
  rw [L1]
  exact (join_words wh).1
 have wr : ∀ j (hj : j < rs.length),lwM t (1 + j) = [roomW,rs[j].key,comT rs[j].gives]:=by
  intro j hj
  unfold lwM
  rw [L1]
  have e : (hdL st gl :: (rs.map rmL ++ ds.map drL)).getD (1 + j) [] = rmL rs[j]:=by
   rw [Nat.add_comm,List.getD_cons_succ,List.getD_eq_getElem?_getD,List.getElem?_append_left (by simpa using hj)]
   simp [hj]
  rw [e]
  exact (join_words (rm_words (hr _ (List.getElem_mem hj)))).1
 have wd : ∀ j (hj : j < ds.length),lwM t (1 + rs.length + j) = [doorW,ds[j].key,ds[j].src,ds[j].dst,Lib.itoa ds[j].time,comT ds[j].needs,comT ds[j].takes,trT ds[j].trick]:=by
  intro j hj
  unfold lwM
  rw [L1]
  have e : (hdL st gl :: (rs.map rmL ++ ds.map drL)).getD (1 + rs.length + j) [] = drL ds[j]:=by
   rw [show 1 + rs.length + j = (rs.length + j) + 1 by omega,List.getD_cons_succ,List.getD_eq_getElem?_getD,List.getElem?_append_right (by simp)]
   simp [hj]
  rw [e]
  exact (join_words (dr_words (hd _ (List.getElem_mem hj)))).1
 have m1 : mpR t 1 = ⟨st,gl,[],[]⟩:=by
  show stepM (lwM t 0) (mpR t 0) = _
  rw [w0]; rfl
 have mr : ∀ j,j ≤ rs.length → mpR t (1 + j) = ⟨st,gl,(rs.take j).map RoomE.er,[]⟩:=by
  intro j
  induction j with
  | zero => intro _; exact m1
  | succ j ih =>
   intro hj
   have hj' : j < rs.length:=by omega
   show stepM (lwM t (1 + j)) (mpR t (1 + j)) = _
   have hb:=(hr _ (List.getElem_mem hj')).back
   rw [ih (by omega),wr j hj',List.take_succ_eq_append_getElem hj',List.map_append]
   unfold stepM
   rw [if_neg (by simp [roomW,mapW]),if_pos (by simp)]
   simp only [rmOf,List.getD_cons_succ,List.getD_cons_zero,hb,List.map_cons,List.map_nil,RoomE.er]
 have md : ∀ j,j ≤ ds.length → mpR t (1 + rs.length + j) = ⟨st,gl,rs.map RoomE.er,(ds.take j).map DoorE.er⟩:=by
  intro j
  induction j with
  | zero => intro _; have:=mr rs.length (Nat.le_refl _); rw [List.take_length] at this; simpa using this
  | succ j ih =>
   intro hj
   have hj' : j < ds.length:=by omega
   show stepM (lwM t (1 + rs.length + j)) (mpR t (1 + rs.length + j)) = _
   have hh:=hd _ (List.getElem_mem hj')
   rw [ih (by omega),wd j hj',List.take_succ_eq_append_getElem hj',List.map_append]
   unfold stepM
   rw [if_neg (by simp [doorW,mapW]),if_neg (by simp [doorW,roomW])]
   simp only [drOf,List.getD_cons_succ,List.getD_cons_zero,hh.n.2.2,hh.x.2.2,hh.trick.2,(numB_itoaN _ hh.time.1 hh.time.2).2,List.map_cons,List.map_nil,DoorE.er]
 have ok : ∀ k,k < (linesL t).length → okM t k = true:=by
  intro k hk
  by_cases hk0 : k = 0
  ·subst hk0
   unfold okM
   rw [w0,full_words wh]
   simp [mapB]
  ·by_cases hkr : k < 1 + rs.length
   ·obtain ⟨j,rfl⟩ : ∃ j,k = 1 + j:=⟨k - 1,by omega⟩
    have hj : j < rs.length:=by omega
    have hh:=hr _ (List.getElem_mem hj)
    unfold okM
    rw [wr j hj,full_words (rm_words hh),mr j (by omega)]
    simp [mapB,roomB,roomW,mapW,hh.ok]
   ·obtain ⟨j,rfl⟩ : ∃ j,k = 1 + rs.length + j:=⟨k - 1 - rs.length,by omega⟩
    have hj : j < ds.length:=by omega
    have hh:=hd _ (List.getElem_mem hj)
    unfold okM
    rw [wd j hj,full_words (dr_words hh),md j (by omega)]
    simp [mapB,roomB,doorB,doorW,roomW,mapW,hh.n.2.1,hh.x.2.1,(numB_itoaN _ hh.time.1 hh.time.2).1]
 have hs : stopL t (okM t) = none:=stopL_none (fun k hk => by unfold badL; rw [L2,ok k hk]; rfl)
 have e:=md ds.length (Nat.le_refl _)
 rw [← hn,List.take_length] at e
 exact readM_ok (by omega) hs hne (by rw [e]) (by rw [e]) (by rw [e]) (by rw [e]) h0
theorem comT_uncL {s : List UInt8} (h : uncB s = true) : comT (uncL s) = s:=by
 unfold uncL comT
 by_cases hs : s = [45]
 ·rw [if_pos hs,if_pos rfl,hs]
 ·rw [if_neg hs,if_neg (cutAt_ne 44 s)]
  obtain ⟨x,ws,e1,e2⟩:=join_cut 44 s
  rw [e1,Lib.join_cons]; exact e2.symm
theorem mapText_comes {t : List UInt8} {M : MpS} {i : Int} (h : readM t = (M,i,0)) : mapE M.rs M.ds M.st M.gl = 0 ∧ mapT M.rs M.ds M.st M.gl = t ∧ t.length ≤ 200000:=by
 by_cases hb : 200000 < t.length
 ·unfold readM at h; rw [if_pos hb] at h; injection h with _ h; injection h with _ h; cases h
 cases hs : stopL t (okM t) with
 | some i => rw [readM_stop hb hs] at h; injection h with _ h; injection h with _ h; cases h
 | none =>
  by_cases hn : t = []
  ·rw [readM_nil hn] at h; injection h with _ h; injection h with _ h; cases h
  by_cases h0 : mapE (mpR t (linesL t).length).rs (mpR t (linesL t).length).ds (mpR t (linesL t).length).st (mpR t (linesL t).length).gl = 0
  ·have hM : M = mpR t (linesL t).length:=by
    unfold readM at h
    rw [if_neg hb,hs,if_neg hn,if_neg (fun hh => hh h0)] at h
    injection h with h1 _
    exact h1.symm
   subst hM
   refine ⟨h0,?_,by omega⟩
   have hbad : ∀ k,k < (linesL t).length → badL t (okM t) k = false:=by
    intro k hk
    have:=List.find?_eq_none.1 hs k (List.mem_range.2 hk)
    simpa using this
   have hlp : 0 < (linesL t).length:=List.length_pos_iff.2 (linesL_ne hn)
   have hok : ∀ k,k < (linesL t).length → okM t k = true:=by
    intro k hk
    have:=hbad k hk
    unfold badL at this
    rw [Bool.or_eq_false_iff] at this
    simpa using this.2
   have hends : endsB t = true:=by
    have:=hbad ((linesL t).length - 1) (by omega)
    unfold badL at this
    rw [Bool.or_eq_false_iff,decide_eq_true (by omega)] at this
    simpa using this.1
   have line : ∀ k (hk : k < (linesL t).length),∃ x ws,lwM t k = x :: ws ∧ (linesL t)[k] = Lib.join (x :: ws) [32]:=by
    intro k hk
    obtain ⟨x,ws,e1,e2⟩:=join_cut 32 (linesL t)[k]
    exact ⟨x,ws,by rw [lwM_at hk,e1],by rw [Lib.join_cons]; exact e2⟩
   have key : ∀ k,k + 1 ≤ (linesL t).length → mapT (mpR t (k + 1)).rs (mpR t (k + 1)).ds (mpR t (k + 1)).st (mpR t (k + 1)).gl = ((linesL t).take (k + 1)).flatMap (· ++ [10]):=by
    intro k
    induction k with
    | zero =>
     intro hk
     have ho:=hok 0 hk
     obtain ⟨x,ws,e1,e2⟩:=line 0 hk
     unfold okM at ho
     show mapT (stepM (lwM t 0) MpS.no).rs (stepM (lwM t 0) MpS.no).ds (stepM (lwM t 0) MpS.no).st (stepM (lwM t 0) MpS.no).gl = _
     rw [List.take_succ_eq_append_getElem hk,e2]
     rw [e1] at ho ⊢
     simp only [Bool.and_eq_true,beq_iff_eq,decide_eq_decide,iff_true] at ho
     obtain ⟨⟨-,ho1⟩,ho2⟩:=ho
     have hx : (x :: ws).getD 0 [] = mapW:=ho1
     have hx' : x = mapW:=hx
     have hl3 : (x :: ws).length = 3:=by
      simp only [mapB,roomB,doorB,hx,Bool.or_eq_true,Bool.and_eq_true,decide_eq_true_eq] at ho2
      rcases ho2 with (h | h) | h
      ·exact h.2
      ·exact absurd h.1.1.1 (by decide)
      ·exact absurd h.1.1 (by decide)
     obtain ⟨a,b,rfl⟩ : ∃ a b,ws = [a,b]:=by
      match ws,hl3 with
      | [a,b],_ => exact ⟨a,b,rfl⟩
     subst hx'
     unfold stepM
     rw [if_pos hx,mapT_flat]
     simp [MpS.no,hdLn]
    | succ k ih =>
     intro hk
     have ho:=hok (k + 1) hk
     have ihk:=ih (by omega)
     obtain ⟨x,ws,e1,e2⟩:=line (k + 1) hk
     unfold okM at ho
     rw [List.take_succ_eq_append_getElem hk,List.flatMap_append,← ihk,e2]
     show mapT (stepM (lwM t (k + 1)) (mpR t (k + 1))).rs (stepM (lwM t (k + 1)) (mpR t (k + 1))).ds (stepM (lwM t (k + 1)) (mpR t (k + 1))).st (stepM (lwM t (k + 1)) (mpR t (k + 1))).gl = _
     rw [e1] at ho ⊢
     generalize mpR t (k + 1) = m at *
     simp only [Bool.and_eq_true,Bool.or_eq_true,beq_iff_eq,decide_eq_decide] at ho
     obtain ⟨⟨hfull,ho1⟩,ho2⟩:=ho
     have hnm : ¬ (x :: ws).getD 0 [] = mapW:=fun e => by have:=ho1.1 e; omega
     rcases ho2 with (h | h) | h
     ·unfold mapB at h
      rw [Bool.and_eq_true,decide_eq_true_eq] at h
      exact absurd h.1 hnm
     ·obtain ⟨h1,h2⟩:=h
      unfold roomB at h1
      simp only [Bool.and_eq_true,decide_eq_true_eq] at h1
      obtain ⟨⟨h3,h4⟩,h5⟩:=h1
      have h5' : m.ds = []:=List.length_eq_zero_iff.1 h5
      obtain ⟨a,b,rfl⟩ : ∃ a b,ws = [a,b]:=by
       match ws,h4 with
       | [a,b],_ => exact ⟨a,b,rfl⟩
      have hx : x = roomW:=h3
      subst hx
      unfold stepM
      rw [if_neg hnm,if_pos h3,mapT_flat,mapT_flat]
      have h6:=comT_uncL h2
      simp only [List.getD_cons_succ,List.getD_cons_zero] at h6
      simp only [h5',rmOf,rmLn,List.getD_cons_succ,List.getD_cons_zero,h6,List.flatMap_append,List.flatMap_cons,List.flatMap_nil,List.append_nil,List.append_assoc]
     ·obtain ⟨h1,h2⟩:=h
      unfold doorB at h1
      simp only [Bool.and_eq_true,decide_eq_true_eq] at h1 h2
      obtain ⟨h3,h4⟩:=h1
      obtain ⟨⟨h5,h6⟩,h7⟩:=h2
      obtain ⟨a,b,c,d,e,f,g,rfl⟩ : ∃ a b c d e f g,ws = [a,b,c,d,e,f,g]:=by
       match ws,h4 with
       | [a,b,c,d,e,f,g],_ => exact ⟨a,b,c,d,e,f,g,rfl⟩
      have hx : x = doorW:=h3
      subst hx
      have hnr : ¬ (doorW :: [a,b,c,d,e,f,g]).getD 0 [] = roomW:=fun e => absurd (show doorW = roomW from e) (by decide)
      unfold stepM
      rw [if_neg hnm,if_neg hnr,mapT_flat,mapT_flat]
      have h8:=comT_uncL h6
      have h9:=comT_uncL h7
      have h10:=itoa_numV h5
      simp only [List.getD_cons_succ,List.getD_cons_zero] at h8 h9 h10
      have hg : g ≠ []:=by
       have:=List.all_eq_true.1 hfull g (by simp)
       intro e'; rw [e'] at this; simp at this
      have h11 : trT (if g = [45] then [] else g) = g:=by
       by_cases hq : g = [45]
       ·rw [if_pos hq,hq]; rfl
       ·rw [if_neg hq]; unfold trT; rw [if_neg hg]
      simp only [drOf,drLn,List.getD_cons_succ,List.getD_cons_zero,h8,h9,h10,h11,List.flatMap_append,List.flatMap_cons,List.flatMap_nil,List.append_nil,List.append_assoc]
   have:=key ((linesL t).length - 1) (by omega)
   rw [show (linesL t).length - 1 + 1 = (linesL t).length by omega,List.take_length] at this
   rw [this]
   exact (text_lines t hends).symm
  ·unfold readM at h
   rw [if_neg hb,hs,if_neg hn,if_pos h0] at h
   injection h with _ h; injection h with _ h
   exact absurd h h0
theorem things_words {l : List (List UInt8)} (h : l.Sublist thingsL) : WFree (comT l) ∧ uncB (comT l) = true ∧ uncL (comT l) = l:=by
 have h1 : ∀ l ∈ thingsS,WFree (comT l) ∧ uncB (comT l) = true ∧ uncL (comT l) = l:=by decide
 exact h1 l (things_cases h)
theorem names_word {n : Nat} {s : List UInt8} (h : s ∈ names5.take n) : WFree s:=by
 have h1 : ∀ s ∈ names5,WFree s:=by decide
 exact h1 s (List.mem_of_mem_take h)
theorem RoomsG.t {rs : List RoomE} (h : RoomsG rs) (h5 : rs.length ≤ 5) : ∀ r ∈ rs,RoomT r:=fun r hr => by
 obtain ⟨k,hk,rfl⟩:=List.mem_iff_getElem.1 hr
 obtain ⟨h1,h2⟩:=h k hk
 have d1 : ∀ j : Fin 5,WFree (names5.getD j.val []):=by decide
 obtain ⟨a,b,c⟩:=things_words h2
 exact ⟨by rw [h1]; exact d1 ⟨k,by omega⟩,a,b,c⟩
theorem DoorsG.t {n : Nat} {ds : List DoorE} (h : DoorsG n ds) (h9 : ds.length ≤ 9) : ∀ d ∈ ds,DoorT d:=fun d hd => by
 obtain ⟨k,hk,rfl⟩:=List.mem_iff_getElem.1 hd
 have hg:=h k hk
 have d1 : ∀ j : Fin 9,WFree [100,UInt8.ofNat (48 + j.val)]:=by decide
 have d2 : ∀ x ∈ ([1,2,3,3,5,9] : List Int),0 ≤ x ∧ x < 1000000000:=by decide
 have d3 : ∀ s ∈ tricksG,WFree (trT s) ∧ (if trT s = [45] then [] else trT s) = s:=by decide
 exact ⟨by rw [hg.key]; exact d1 ⟨k,by omega⟩,names_word hg.src,names_word hg.dst,d2 _ hg.time,things_words hg.needs,things_words hg.takes,d3 _ hg.trick⟩
end Go.Proofs.YtijdbbnnkogkjaaGreatDoor
/- The walk of the stream's function that draws a text of a map. -/
namespace Go.Proofs.YtijdbbnnkogkjaaGreatDoor
set_option linter.unusedVariables false
set_option linter.unusedSimpArgs false
open Go.RowKit Go.Sort

def MapStrPost (w : World) (g N : Nat) (e : Ending) (w' : World) : Prop:=∃ r : List UInt8,e = .returned (encStr r) ∧ r.length ≤ 700 ∧ Str w' g N ∧ w.grownBy w' (some g)
set_option maxHeartbeats 2000000 in
set_option maxRecDepth 100000 in
theorem mapString_any (g N B : Nat) (w : World) (hs : Str w g N) (hN : N < 4611686018424000000) (hE : EnvB B w) (hB : B ≤ g) :
  Calls Tryz.prog 21 #[.pointer (some ⟨g,0,none⟩)] w (MapStrPost w g (N + 300)):=by
 have hlt:=hs.lt
 have hE:=Lib.hid hE
 go_enter Tryz.func21,Tryz.ntmps21
 go_wp2_with fail
 refine (rightMapG_any g N _ hs (by omega)).mono ?_
 rintro e w1 ⟨A,ca,rs,D,cd,ds,st,gl,rfl,hmo,hrg,hdg,h2,h5,h1,h9,hst,hgl,hs1,hg1⟩
 have hE:=Lib.hid (hE.out.below ((Below.refl B w).grown hg1 (by omega) (fun k hk => by injection hk with hk; omega)))
 have hmw:=Lib.hid (hmo.toW (by omega) (by omega) hrg.b hdg.b)
 have hln:=mapT_G hrg hdg h5 h9 hst hgl
 have hst2:=names_b hst
 have hgl2:=names_b hgl
 clear hs hmo hrg hdg hst hgl
 have hml:=mapLines_any w.heap.size ca cd A rs D ds st gl w1 hmw.out (by omega) (by omega) hE.out.env
 unfold mapV at hml
 simp only [encStr] at hml
 generalize mapT rs ds st gl = T at *
 go_wp2_with fail
 refine hml.mono ?_
 rintro e w2 ⟨rfl,hb⟩
 clear hml
 have hs2:=hs1.keep hb
 have hgr:=grown_trans' hg1 (grown_of_below hb (some g))
 clear hs1 hg1 hb hE hmw
 go_wp2_with fail
 refine (pick_any g _ _ _ _ [0,0,1,2] _ (hs2.alloc _) (by omega) (row_new _ _ _ _ _ _ (Nat.le_refl _) rfl) hs2.lt (by simp) (by simp)).mono ?_
 rintro e w3 ⟨n,rfl,hn,hs3,hg3⟩
 have hgr:=grown_trans' (grown_alloc hgr (.cells #[.int .i64 0,.int .i64 0,.int .i64 1,.int .i64 2] 3)) hg3
 obtain ⟨n,rfl⟩ : ∃ m : Nat,n = (m : Int):=by
  simp only [List.mem_cons,List.not_mem_nil,or_false] at hn
  rcases hn with rfl | rfl | rfl | rfl
  ·exact ⟨0,rfl⟩
  ·exact ⟨0,rfl⟩
  ·exact ⟨1,rfl⟩
  ·exact ⟨2,rfl⟩
 have hn2 : n ≤ 2:=by
  simp only [List.mem_cons,List.not_mem_nil,or_false] at hn
  omega
 clear hs2 hg3 hn
 go_wp2_with fail
 go_loopw [3,10] (fun s i wr => ∃ (k : Nat) (r : List UInt8),k ≤ n ∧ s = encStr r ∧ i = .int .i64 k ∧ r.length ≤ 600 + k * 8 ∧ Str wr g (N + 241 + 3 * k) ∧ w.grownBy wr (some g)) (fun _ i _ => n - (intOf i).toNat)
 case atStart => exact ⟨0,T,Nat.zero_le _,rfl,rfl,by omega,hs3.more (by omega),hgr⟩
 case round =>
  clear hs3 hgr
  obtain ⟨k,r,hk,rfl,rfl,hr,hsr,hgr⟩:=hrel
  by_cases hlt2 : k < n
  ·go_wp2_with fail
   refine (changed_any g _ r [32,10,48,49,114,100,44,45] _ hsr (by omega) (by omega) (by decide) (by decide) (by decide)).mono ?_
   rintro e w4 ⟨q,rfl,hq,hs4,hg4⟩
   have hgr:=grown_trans' hgr hg4
   have hq7 : q.length ≤ r.length + 8:=hq
   clear hsr hg4 hq
   go_wp2_with fail
   go_roundw
   case rel => exact ⟨k + 1,q,by omega,rfl,by go_num,by omega,hs4.more (by omega),hgr⟩
   case measure => simp [intOf]; omega
  ·go_wp2_with fail
   refine (flip_any g _ 30 _ hsr (by omega) (by omega)).mono ?_
   rintro e w5 ⟨r2,rfl,hs5,hg5⟩
   have hgr5:=grown_trans' hgr hg5
   cases r2
   ·go_wp2_with fail
    go_ret
    exact ⟨r,rfl,by omega,hs5.more (by omega),hgr5⟩
   ·go_wp2_with fail
    go_ret
    exact ⟨[],rfl,by simp,hs5.more (by omega),hgr5⟩
end Go.Proofs.YtijdbbnnkogkjaaGreatDoor
/- For every list of numbers the law MapsComeBack returns true and leaves the list as it was: its walk. -/
namespace Go.Proofs.YtijdbbnnkogkjaaGreatDoor
set_option linter.unusedVariables false
set_option linter.unusedSimpArgs false
open Go.RowKit Go.Sort

set_option maxHeartbeats 8000000 in
set_option maxRecDepth 100000 in
theorem mapback_walk (A0 : Option Addr) (n c : Nat) (w : World) (hn : n ≤ 9223372036854775807)
  (hz : ∀ k,k < n → ∃ b off z,A0 = some ⟨b,off,none⟩ ∧ b < w.heap.size ∧ w.cell? ⟨b,off + k,none⟩ = some (.int .i64 z) ∧ I64 z) (hE : Env w) :
  LawCall 5 A0 n c w:=by
 have hstr:=str_make (c:=c) hn hz
 clear hz
 have hx : Below w.heap.size w (w.alloc (.cells #[.slice A0 n c,.int .i64 0] 25)):=(Below.refl _ _).alloc (Nat.le_refl _) _
 have hz0 : (w.alloc (.cells #[.slice A0 n c,.int .i64 0] 25)).heap.size = w.heap.size + 1:=by simp
 have HEB:=Lib.hid (EnvB.of hE)
 clear hE
 go_enter Tryz.func5,Tryz.ntmps5
 go_wp2_with fail
 generalize w.alloc (.cells #[.slice A0 n c,.int .i64 0] 25) = w0 at *
 clear hn
 refine (rightMapG_any w.heap.size 0 w0 hstr (by omega)).mono ?_
 clear hstr
 rintro e w1 ⟨A,ca,rs,D,cd,ds,st,gl,rfl,hmo,hrg,hdg,hr2,hr5,hd1,hd9,hst,hgl,hs1,hg1⟩
 have hz1:=hg1.size
 have HM0:=Lib.hid (mapE_G hrg hdg hr5 hd9 hst hgl)
 have hTL:=mapT_G hrg hdg hr5 hd9 hst hgl
 have HCM:=Lib.hid (map_comes HM0.out (by omega) (hrg.t hr5) (hdg.t hd9) (names_word hst) (names_word hgl))
 have hmw:=hmo.toW (by omega) (by omega) hrg.b hdg.b
 have hst2:=names_b hst
 have hgl2:=names_b hgl
 have hx:=(hx.grown hg1 (by omega) (fun k hk => by injection hk with hk; omega)).alloc (by omega) (.cells #[.slice A rs.length ca,.slice D ds.length cd,.string ⟨st.toArray⟩,.string ⟨gl.toArray⟩] 29)
 have hbx0 : Blk (w1.alloc (.cells #[.slice A rs.length ca,.slice D ds.length cd,.string ⟨st.toArray⟩,.string ⟨gl.toArray⟩] 29)) w1.heap.size 29 #[.slice A rs.length ca,.slice D ds.length cd,.string ⟨st.toArray⟩,.string ⟨gl.toArray⟩]:=Blk.new _ _ _
 replace hmw:=hmw.alloc (.cells #[.slice A rs.length ca,.slice D ds.length cd,.string ⟨st.toArray⟩,.string ⟨gl.toArray⟩] 29)
 have hs:=hs1.alloc (.cells #[.slice A rs.length ca,.slice D ds.length cd,.string ⟨st.toArray⟩,.string ⟨gl.toArray⟩] 29)
 clear hmo hrg hdg hs1 hg1 hst hgl hz0 hz1
 go_upto_region 3 with (fail)
 generalize w1.alloc (.cells #[.slice A rs.length ca,.slice D ds.length cd,.string ⟨st.toArray⟩,.string ⟨gl.toArray⟩] 29) = w2 at *
 generalize w1.heap.size = mb at *
 generalize w0.heap.size = lo at *
 have HT:=mText_any lo ca cd A rs D ds st gl w2 hmw (by omega) (by omega) (HEB.out _ hx)
 rw [mtV_ok rfl HM0.out rfl (by omega)] at HT
 unfold mapV at HT
 generalize mapT rs ds st gl = T at *
 simp only [encStr] at HT
 obtain ⟨a0,a1,a2,a3⟩:=hbx0.cells4
 have za:=hbx0.lt
 clear HM0
 go_wp2_with fail
 refine HT.mono ?_
 clear HT
 rintro e w3 ⟨rfl,hb⟩
 replace hx:=below_up hx hb
 replace hs:=hs.keep hb
 replace hmw:=hmw.below hb
 replace hbx0:=hbx0.below hb
 clear hb a0 a1 a2 a3 za
 go_wp2_with fail
 refine (mRead_any T _ (by omega) (HEB.out _ hx)).mono ?_
 rintro e w4 ⟨A1,c1,rs1,D1,k1,ds1,st1,gl1,i1,er1,rfl,hv1,hm1,hst1,hgl1,hb⟩
 obtain ⟨rfl,rfl,e3,e4,rfl,rfl⟩:=same_readM hv1 HCM.out
 replace hx:=below_up hx hb
 replace hs:=hs.keep hb
 replace hmw:=hmw.below hb
 replace hbx0:=hbx0.below hb
 clear hb hv1 HCM
 have hbx1 : Blk (w4.alloc (.cells #[.slice A1 rs1.length c1,.slice D1 ds1.length k1,.string ⟨st.toArray⟩,.string ⟨gl.toArray⟩] 29)) w4.heap.size 29 #[.slice A1 rs1.length c1,.slice D1 ds1.length k1,.string ⟨st.toArray⟩,.string ⟨gl.toArray⟩]:=Blk.new _ _ _
 replace hm1:=hm1.alloc (.cells #[.slice A1 rs1.length c1,.slice D1 ds1.length k1,.string ⟨st.toArray⟩,.string ⟨gl.toArray⟩] 29)
 replace hx:=hx.alloc hx.size (.cells #[.slice A1 rs1.length c1,.slice D1 ds1.length k1,.string ⟨st.toArray⟩,.string ⟨gl.toArray⟩] 29)
 replace hs:=hs.alloc (.cells #[.slice A1 rs1.length c1,.slice D1 ds1.length k1,.string ⟨st.toArray⟩,.string ⟨gl.toArray⟩] 29)
 replace hmw:=hmw.alloc (.cells #[.slice A1 rs1.length c1,.slice D1 ds1.length k1,.string ⟨st.toArray⟩,.string ⟨gl.toArray⟩] 29)
 replace hbx0:=hbx0.alloc (.cells #[.slice A1 rs1.length c1,.slice D1 ds1.length k1,.string ⟨st.toArray⟩,.string ⟨gl.toArray⟩] 29)
 have HSM:=Lib.hid (sameMap_yes A1 A D1 D c1 ca k1 cd w3.heap.size lo rs1 rs ds1 ds st gl _ hm1 hmw e3 e4)
 clear e3 e4 hm1 hmw
 go_upto_region 5 with (fail)
 generalize w4.alloc (.cells #[.slice A1 rs1.length c1,.slice D1 ds1.length k1,.string ⟨st.toArray⟩,.string ⟨gl.toArray⟩] 29) = w5 at *
 generalize w4.heap.size = m1 at *
 obtain ⟨a0,a1,a2,a3⟩:=hbx0.cells4
 obtain ⟨b0,b1,b2,b3⟩:=hbx1.cells4
 have z1:=hbx0.lt
 have z2:=hbx1.lt
 clear hbx0 hbx1
 go_wp2_with fail
 refine HSM.out.mono ?_
 clear HSM
 rintro e w6 ⟨rfl,hb⟩
 replace hx:=below_up hx hb
 replace hs:=hs.keep hb
 clear hb a0 a1 a2 a3 b0 b1 b2 b3 z1 z2
 go_wp2_with fail
 refine (mapString_any w.heap.size _ w.heap.size _ hs (by omega) (HEB.out.below hx) (Nat.le_refl _)).mono ?_
 rintro e w7 ⟨r,rfl,hr,hs2,hg2⟩
 replace hx:=hx.grown hg2 hx.size (fun k hk => by injection hk with hk; omega)
 clear hs hg2 hs2
 go_wp2_with fail
 refine (mRead_any r _ (by omega) (HEB.out _ hx)).mono ?_
 rintro e w8 ⟨A2,c2,rs2,D2,k2,ds2,st2,gl2,i2,er2,rfl,hv2,hm2,hst2,hgl2,hb⟩
 replace hx:=below_up hx hb
 clear hb
 have hbx2 : Blk (w8.alloc (.cells #[.slice A2 rs2.length c2,.slice D2 ds2.length k2,.string ⟨st2.toArray⟩,.string ⟨gl2.toArray⟩] 29)) w8.heap.size 29 #[.slice A2 rs2.length c2,.slice D2 ds2.length k2,.string ⟨st2.toArray⟩,.string ⟨gl2.toArray⟩]:=Blk.new _ _ _
 replace hm2:=hm2.alloc (.cells #[.slice A2 rs2.length c2,.slice D2 ds2.length k2,.string ⟨st2.toArray⟩,.string ⟨gl2.toArray⟩] 29)
 replace hx:=hx.alloc hx.size (.cells #[.slice A2 rs2.length c2,.slice D2 ds2.length k2,.string ⟨st2.toArray⟩,.string ⟨gl2.toArray⟩] 29)
 by_cases he : er2 = 0
 ·subst he
  obtain ⟨g1,g2,g3⟩:=mapText_comes hv2
  dsimp only at g1 g2
  have hMT : mapT (rs2.map RoomE.er) (ds2.map DoorE.er) st2 gl2 = mapT rs2 ds2 st2 gl2:=by
   rw [mapT_flat,mapT_flat,List.flatMap_map,List.flatMap_map]; rfl
  rw [hMT] at g2
  rw [mapE_er] at g1
  clear hv2 hMT
  go_upto_region 9 with (fail)
  generalize w8.alloc (.cells #[.slice A2 rs2.length c2,.slice D2 ds2.length k2,.string ⟨st2.toArray⟩,.string ⟨gl2.toArray⟩] 29) = w9 at *
  generalize w8.heap.size = m2 at *
  have HT:=mText_any w7.heap.size c2 k2 A2 rs2 D2 ds2 st2 gl2 w9 hm2 (by omega) (by omega) (HEB.out _ hx)
  rw [mtV_ok rfl g1 rfl (by rw [g2]; omega),g2] at HT
  unfold mapV at HT
  simp only [encStr] at HT
  obtain ⟨a0,a1,a2,a3⟩:=hbx2.cells4
  have za:=hbx2.lt
  have eq : (r == r) = true:=by simp
  clear g1 g2 hbx2 hm2
  go_wp2_with fail
  refine HT.mono ?_
  clear HT
  rintro e w10 ⟨rfl,hb⟩
  replace hx:=below_up hx hb
  clear hb a0 a1 a2 a3 za
  go_wp2_with fail
  refine (ready_any _).mono ?_
  rintro e w11 ⟨rfl,hb⟩
  go_wp2_with fail
  go_ret
  exact ⟨rfl,below_up hx hb⟩
 ·have dn : (er2 == 0) = false:=by simpa using he
  clear he hv2 hbx2 hm2
  go_wp2_with fail
  refine (ready_any _).mono ?_
  rintro e w11 ⟨rfl,hb⟩
  go_wp2_with fail
  go_ret
  exact ⟨rfl,below_up hx hb⟩
end Go.Proofs.YtijdbbnnkogkjaaGreatDoor
