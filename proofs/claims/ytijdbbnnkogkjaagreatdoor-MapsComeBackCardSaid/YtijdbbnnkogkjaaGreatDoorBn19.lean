/- Texts of this seat, laid together: Nt. -/
import Derived.Handy
import Derived.Lib.Join
import Derived.Test.YtijdbbnnkogkjaaGreatDoorBn15
import Derived.Test.YtijdbbnnkogkjaaGreatDoorBn17
import Derived.Test.YtijdbbnnkogkjaaGreatDoorBn18
import Derived.Test.YtijdbbnnkogkjaaGreatDoorBn12
/- Maps as text: their lines; strings.Join of rows; base.Commas, splitref1.commas; the closure that writes a line. -/
namespace Go.Proofs.YtijdbbnnkogkjaaGreatDoor
set_option linter.unusedVariables false
set_option linter.unusedSimpArgs false
open Go.RowKit Go.Sort

def mapW : List UInt8:=[109,97,112]
def roomW : List UInt8:=[114,111,111,109]
def doorW : List UInt8:=[100,111,111,114]
def comT (l : List (List UInt8)) : List UInt8:=if l = [] then [45] else Lib.join l [44]
def trT (s : List UInt8) : List UInt8:=if s = [] then [45] else s
def rmLn (r : RoomE) : List UInt8:=Lib.join [roomW,r.key,comT r.gives] [32] ++ [10]
def drLn (d : DoorE) : List UInt8:=Lib.join [doorW,d.key,d.src,d.dst,Lib.itoa d.time,comT d.needs,comT d.takes,trT d.trick] [32] ++ [10]
def hdLn (st gl : List UInt8) : List UInt8:=Lib.join [mapW,st,gl] [32] ++ [10]
def rmsT (st gl : List UInt8) (rs : List RoomE) : Nat → List UInt8
 | 0 => hdLn st gl
 | k + 1 => rmsT st gl rs k ++ rmLn (rs.getD k default)
def drsT (h : List UInt8) (ds : List DoorE) : Nat → List UInt8
 | 0 => h
 | k + 1 => drsT h ds k ++ drLn (ds.getD k default)
def mapT (rs : List RoomE) (ds : List DoorE) (st gl : List UInt8) : List UInt8:=drsT (rmsT st gl rs rs.length) ds ds.length
theorem rmsT_next {st gl : List UInt8} {rs : List RoomE} {k : Nat} (h : k < rs.length) : rmsT st gl rs (k + 1) = rmsT st gl rs k ++ rmLn rs[k]:=by
 show rmsT st gl rs k ++ rmLn (rs.getD k default) = _
 rw [List.getD_eq_getElem?_getD,List.getElem?_eq_getElem h]; rfl
theorem drsT_next {h0 : List UInt8} {ds : List DoorE} {k : Nat} (h : k < ds.length) : drsT h0 ds (k + 1) = drsT h0 ds k ++ drLn ds[k]:=by
 show drsT h0 ds k ++ drLn (ds.getD k default) = _
 rw [List.getD_eq_getElem?_getD,List.getElem?_eq_getElem h]; rfl
theorem lens_le (l : List (List UInt8)) {M : Nat} (h : ∀ s ∈ l,s.length ≤ M) : Lib.lens l ≤ l.length * M:=by
 induction l with
 | nil => simp [Lib.lens]
 | cons x l ih =>
  have h1:=h x (by simp)
  have h2:=ih (fun s hs => h s (by simp [hs]))
  simp only [Lib.lens,List.map_cons,List.sum_cons,List.length_cons] at h2 ⊢
  rw [Nat.add_mul]
  omega
theorem join1_len (l : List (List UInt8)) (c : UInt8) {M : Nat} (h : ∀ s ∈ l,s.length ≤ M) : (Lib.join l [c]).length ≤ l.length * M + l.length:=by
 cases l with
 | nil => simp [Lib.join_nil]
 | cons x l =>
  have:=lens_le (x :: l) h
  rw [Lib.join_length]
  simp only [List.length_cons,List.length_nil] at this ⊢
  omega
theorem comT_len {l : List (List UInt8)} (hl : l.length ≤ 1000) (h : ∀ s ∈ l,s.length ≤ 1000000) : (comT l).length ≤ 1000001000:=by
 unfold comT
 by_cases h0 : l = []
 ·rw [if_pos h0]; simp
 ·rw [if_neg h0]
  have:=join1_len l 44 h
  omega
theorem trT_len {s : List UInt8} (h : s.length ≤ 1000000) : (trT s).length ≤ 1000000:=by
 unfold trT
 by_cases h0 : s = []
 ·rw [if_pos h0]; simp
 ·rw [if_neg h0]; exact h
theorem join3_len (a b c : List UInt8) : (Lib.join [a,b,c] [32]).length = a.length + b.length + c.length + 2:=by
 rw [Lib.join_length]; simp [Lib.lens]; omega
theorem join8_len (a b c d e f g h : List UInt8) : (Lib.join [a,b,c,d,e,f,g,h] [32]).length = a.length + b.length + c.length + d.length + e.length + f.length + g.length + h.length + 7:=by
 rw [Lib.join_length]; simp [Lib.lens]; omega
theorem nDigits_leN : ∀ (k u : Nat),u < 10 ^ k → 1 ≤ k → Lib.nDigits u ≤ k
 | 0,_,_,h => by omega
 | k + 1,u,hu,_ => by
  by_cases hu10 : u < 10
  ·rw [Lib.nDigits_small hu10]; omega
  ·rw [Lib.nDigits_big hu10]
   have : u / 10 < 10 ^ k:=by rw [Nat.pow_succ] at hu; omega
   cases k with
   | zero => simp at this; omega
   | succ k => have:=nDigits_leN (k + 1) (u / 10) this (by omega); omega
theorem itoa_le20 {n : Int} (h : I64 n) : (Lib.itoa n).length ≤ 20:=by
 have hp : (10 : Nat) ^ 19 = 10000000000000000000:=by decide
 obtain ⟨h0,h1⟩:=h
 unfold Lib.itoa
 split
 ·have:=nDigits_leN 19 n.natAbs (by rw [hp]; omega) (by decide)
  rw [List.length_cons,Lib.decDigits_length]; omega
 ·have:=nDigits_leN 19 n.toNat (by rw [hp]; omega) (by decide)
  rw [Lib.decDigits_length]; omega
theorem rmLn_len {rs : List RoomE} {ds : List DoorE} (h : MapS rs ds) {k : Nat} (hk : k < rs.length) : (rmLn rs[k]).length ≤ 1002001000:=by
 unfold rmLn
 have h1:=h.rk rs[k] (List.getElem_mem _)
 have h2:=h.rg rs[k] (List.getElem_mem _)
 have h3:=comT_len h2.1 h2.2
 rw [List.length_append,join3_len]
 simp only [roomW,List.length_cons,List.length_nil]
 omega
theorem drLn_len {rs : List RoomE} {ds : List DoorE} (h : MapS rs ds) {k : Nat} (hk : k < ds.length) : (drLn ds[k]).length ≤ 2005003000:=by
 unfold drLn
 have h1:=h.dk ds[k] (List.getElem_mem _)
 have h2:=h.dn ds[k] (List.getElem_mem _)
 have h3:=h.dx ds[k] (List.getElem_mem _)
 have h4:=comT_len h2.1 h2.2
 have h5:=comT_len h3.1 h3.2
 have h7:=itoa_le20 (h.dt ds[k] (List.getElem_mem _))
 have h8:=trT_len h1.2.2.2
 rw [List.length_append,join8_len]
 simp only [doorW,List.length_cons,List.length_nil]
 omega
theorem rmsT_len {rs : List RoomE} {ds : List DoorE} {st gl : List UInt8} (h : MapS rs ds) (h1 : st.length ≤ 1000000) (h2 : gl.length ≤ 1000000) : ∀ k,k ≤ rs.length → (rmsT st gl rs k).length ≤ 2000010 + k * 1002001000
 | 0,_ => by
  show (hdLn st gl).length ≤ _
  unfold hdLn
  rw [List.length_append,join3_len]
  simp only [mapW,List.length_cons,List.length_nil]
  omega
 | k + 1,hk => by
  rw [rmsT_next (by omega),List.length_append]
  have:=rmsT_len h h1 h2 k (by omega)
  have:=rmLn_len h (k:=k) (by omega)
  omega
theorem drsT_len {rs : List RoomE} {ds : List DoorE} {h0 : List UInt8} (h : MapS rs ds) : ∀ k,k ≤ ds.length → (drsT h0 ds k).length ≤ h0.length + k * 2005003000
 | 0,_ => by show h0.length ≤ _; omega
 | k + 1,hk => by
  rw [drsT_next (by omega),List.length_append]
  have:=drsT_len (h0:=h0) h k (by omega)
  have:=drLn_len h (k:=k) (by omega)
  omega
theorem joinS_any {w : World} {lo : Nat} {A : Option Addr} (c : Nat) (x : UInt8) {l : List (List UInt8)} (hr : Row w lo 1 A l.length (strs l)) (hn : 1 ≤ l.length) (hl : l.length ≤ 1000000) (hc : l.length ≤ c) (hj : (Lib.join l [x]).length ≤ 140737488355328) :
  Calls Tryz.prog 63 #[.slice A l.length c,.string ⟨#[x]⟩] w fun e w' => e = .returned (encStr (Lib.join l [x])) ∧ Below w.heap.size w w':=by
 obtain ⟨b,off,rfl,_,hb,hcell⟩:=hr.2 (by omega)
 have hm : (l.map fun s => (⟨s.toArray⟩ : ByteArray)).map (·.data.toList) = l:=by
  rw [List.map_map]; exact List.map_id' l
 have h:=Tryz.strings_Join b off c (l.map fun s => ⟨s.toArray⟩) ⟨#[x]⟩ w (fun j y hy => by
   rw [List.getElem?_map] at hy
   cases hs : l[j]? with
   | none => rw [hs] at hy; cases hy
   | some s =>
    rw [hs] at hy
    have : y = ⟨s.toArray⟩:=by simpa using hy.symm
    subst this
    exact hcell j _ (by simp [strs,hs])) hb (by simp; omega) (by simpa using hc) (by rw [hm]; exact hj)
 rw [hm,List.length_map] at h
 exact h
set_option maxHeartbeats 2000000 in
set_option maxRecDepth 100000 in
theorem commas_any (A : Option Addr) (c lo : Nat) (l : List (List UInt8)) (w : World) (hr : Row w lo 1 A l.length (strs l)) (hl : l.length ≤ 1000) (hc : l.length ≤ c) (h : ∀ s ∈ l,s.length ≤ 1000000) :
  Calls Tryz.prog 64 #[.slice A l.length c] w fun e w' => e = .returned (encStr (comT l)) ∧ Below w.heap.size w w':=by
 have hj:=join1_len l 44 h
 by_cases h0 : l = []
 ·subst h0
  go_enter Tryz.func64,Tryz.ntmps64
  go_wp2_with fail
  go_ret
  exact ⟨rfl,Below.refl _ _⟩
 ·have hn : 1 ≤ l.length:=by cases l with
   | nil => exact absurd rfl h0
   | cons x l => simp
  have d0 : ((l.length : Int) == 0) = false:=beq_eq_false_iff_ne.2 (by omega)
  have HV : Hid (comT l = Lib.join l [44]):=Lib.hid (if_neg h0)
  have hjj:=joinS_any c 44 hr hn (by omega) hc (by omega)
  rw [HV.out]
  clear h0 h hr
  go_enter Tryz.func64,Tryz.ntmps64
  go_wp2_with fail
  refine hjj.mono ?_
  rintro e w1 ⟨rfl,hb⟩
  clear hjj
  go_wp2_with fail
  go_ret
  exact ⟨rfl,hb⟩
set_option maxHeartbeats 2000000 in
set_option maxRecDepth 100000 in
theorem rcommas_any (A : Option Addr) (c lo : Nat) (l : List (List UInt8)) (w : World) (hr : Row w lo 1 A l.length (strs l)) (hl : l.length ≤ 1000) (hc : l.length ≤ c) (h : ∀ s ∈ l,s.length ≤ 1000000) :
  Calls Tryz.prog 68 #[.slice A l.length c] w fun e w' => e = .returned (encStr (comT l)) ∧ Below w.heap.size w w':=by
 have hj:=join1_len l 44 h
 by_cases h0 : l = []
 ·subst h0
  go_enter Tryz.func68,Tryz.ntmps68
  go_wp2_with fail
  go_ret
  exact ⟨rfl,Below.refl _ _⟩
 ·have hn : 1 ≤ l.length:=by cases l with
   | nil => exact absurd rfl h0
   | cons x l => simp
  have d0 : ((l.length : Int) == 0) = false:=beq_eq_false_iff_ne.2 (by omega)
  have HV : Hid (comT l = Lib.join l [44]):=Lib.hid (if_neg h0)
  have hjj:=joinS_any c 44 hr hn (by omega) hc (by omega)
  rw [HV.out]
  clear h0 h hr
  go_enter Tryz.func68,Tryz.ntmps68
  go_wp2_with fail
  refine hjj.mono ?_
  rintro e w1 ⟨rfl,hb⟩
  clear hjj
  go_wp2_with fail
  go_ret
  exact ⟨rfl,hb⟩
theorem Wrote.after {b : Nat} {w w1 w2 : World} (hb : Below w.heap.size w w1) (h : Wrote b w1 w2) : Wrote b w w2 :=
 ⟨h.os.trans hb.os,h.tape.trans hb.tape,h.output.trans hb.output,Nat.le_trans hb.size h.size,fun k hk hkb ht => by
  have e : w1.heap[k]? = w.heap[k]?:=hb.block k hk
  rw [h.block k (Nat.lt_of_lt_of_le hk hb.size) hkb (fun cs f => by rw [e]; exact ht cs f),e]⟩
set_option maxHeartbeats 2000000 in
set_option maxRecDepth 100000 in
theorem line_any (B b lo c : Nat) (A : Option Addr) (t : List UInt8) (ws : List (List UInt8)) (w : World) (hB : Bld w B b t) (hBw : B ≤ w.heap.size) (hr : Row w lo 1 A ws.length (strs ws)) (hn : 1 ≤ ws.length) (hl : ws.length ≤ 1000000) (hc : ws.length ≤ c) (hlen : t.length + (Lib.join ws [32]).length + 1 ≤ 140737488355328) :
  Calls Tryz.prog 61 #[.slice A ws.length c,.pointer (some ⟨b,0,none⟩)] w fun e w' => e = .returned (.tuple #[]) ∧ Bld w' B b (t ++ (Lib.join ws [32] ++ [10])) ∧ Below B w w' ∧ Wrote b w w':=by
 have hjj:=joinS_any c 32 hr hn hl hc (by omega)
 obtain ⟨x,hx⟩ : ∃ x,x = Lib.join ws [32]:=⟨_,rfl⟩
 rw [← hx] at hjj hlen ⊢
 clear hx hr hl hc
 go_enter Tryz.func61,Tryz.ntmps61
 go_wp2_with fail
 refine hjj.mono ?_
 clear hjj
 rintro e w1 ⟨rfl,hb⟩
 have hB1:=hB.below hb
 have hb1 : Below B w w1:=hb.mono hBw
 have c1 : ¬ (9223372036854775807 < x.length + 1):=by omega
 go_wp2_with fail
 have hw:=write_any B b t (x ++ [10]) w1 hB1 (by simp; omega) (by have:=hb.size; omega)
 have hxx : encStr (x ++ [10]) = .string (⟨x.toArray⟩ ++ ⟨#[10]⟩):=by
  unfold encStr
  congr 1 <;> first | done | (apply ByteArray.ext; simp)
 rw [hxx] at hw
 refine hw.mono ?_
 rintro e w2 ⟨rfl,hB2,hb2,hw2⟩
 go_wp2_with fail
 go_end0
 exact ⟨rfl,hB2,hb1.trans hb2,hw2.after hb⟩
end Go.Proofs.YtijdbbnnkogkjaaGreatDoor
