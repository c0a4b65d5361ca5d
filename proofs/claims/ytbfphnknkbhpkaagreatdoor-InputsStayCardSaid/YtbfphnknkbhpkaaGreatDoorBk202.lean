/- Texts of this seat, laid together: Rep InpB InpC InpD InpE InpF InpG InpH InpI InX Blk GmN RepF EvA. -/
import Derived.Laws.CopyOwn
import Derived.StillTailTactics
import Derived.Maps.RangeWalk
import Derived.Shelf.Bits.Mul64
import Derived.Test.YtbfphnknkbhpkaaGreatDoorBk201
import Derived.Test.YtbfphnknkbhpkaaGreatDoorBk200
/- The walk of slices.Repeat at one element: a row of n equal numbers, by doubling copies. -/
namespace Go.Proofs.YtbfphnknkbhpkaaGreatDoor
set_option linter.unusedVariables false
set_option linter.unusedSimpArgs false
open Go.RowKit

set_option maxHeartbeats 1000000 in
theorem mul64_one (n : Nat) (hn : n ≤ 1000000000) (w : World) :
  Calls Tryz.prog 107 #[.int .u64 1,.int .u64 n] w fun e w' => e = .returned (.tuple #[.int .u64 0,.int .u64 n]) ∧ w = w':=by
 have h1 : bits .and .u64 (n : Int) 4294967295 = (n : Int):=by rw [Go.Proofs.Mul64.maskN n (by omega)]; omega
 have h2 : bits .and .u64 1 4294967295 = 1:=by decide
 have h3 : (n : Int) / 4294967296 = 0:=by omega
 have h4 : bits .and .u64 0 4294967295 = 0:=by decide
 go_enter Tryz.func107,Tryz.ntmps107
 go_wp2
 go_ret2
 exact ⟨rfl,rfl⟩

set_option maxHeartbeats 1000000 in
theorem mul_one' (n : Nat) (hn : n ≤ 1000000000) (w : World) :
  Calls Tryz.prog 64 #[.int .u64 1,.int .u64 n] w fun e w' => e = .returned (.tuple #[.int .u64 0,.int .u64 n]) ∧ w = w':=by
 go_enter Tryz.func64,Tryz.ntmps64
 go_wp2_with fail
 refine (mul64_one n hn _).mono ?_
 rintro e w' ⟨rfl,rfl⟩
 go_wp2_with fail
 go_ret2
 exact ⟨rfl,rfl⟩

theorem splice_rep (u : Value) (n k m : Nat) (z : Value) (_ : k + m ≤ n) : splice (List.replicate k u ++ List.replicate (n - k) z) k (List.replicate m u) = List.replicate (k + m) u ++ List.replicate (n - (k + m)) z:=by
 unfold splice
 rw [List.take_left' (by simp),List.length_replicate,List.drop_append,List.drop_replicate,List.drop_replicate,List.length_replicate]
 have e1 : k - (k + m) = 0:=by omega
 have e2 : k + m - k = m:=by omega
 have e3 : n - k - m = n - (k + m):=by omega
 rw [e1,e2,e3,List.replicate_zero,List.nil_append,← List.append_assoc,List.replicate_append_replicate]

theorem own_whole {w : World} {base : Nat} {e : TypeId} {g n : Nat} {xs : List Value} (h : w.ownsRow base e 1 (.slice (some ⟨g,0,none⟩) n n) n xs) : w.heap[g]? = some (.cells xs.toArray e (0,0)):=by
 rcases h.2 with ⟨h0,_⟩ | ⟨g',cap,cur,hv,hg,hh,hcap,hm,hcs,ht⟩
 ·cases h0
 ·injection hv with h1 _ h3
  injection h1 with h1
  injection h1 with h1
  subst h1 h3
  rw [hh]
  rw [List.take_of_length_le (by simp [hcs])] at ht
  subst ht
  simp
theorem own_of_whole {w : World} {base : Nat} {e : TypeId} {g n : Nat} {xs : List Value} (h : w.heap[g]? = some (.cells xs.toArray e (0,0))) (hx : xs.length = n) (hb : base ≤ g) (hm : n ≤ 9223372036854775807) : w.ownsRow base e 1 (.slice (some ⟨g,0,none⟩) n n) n xs :=
 ⟨by simp [hx],.inr ⟨g,n,xs.toArray,rfl,hb,h,Nat.le_refl _,by simp only [maxLen]; omega,by simp [hx],by rw [List.take_of_length_le (by simp [hx])]⟩⟩

theorem sz_int : (Tryz.prog.info? 3).map (·.size) = some 1:=by kernel_rfl
def repRow (h : Int) (n k : Nat) : List Value:=List.replicate k (Value.int .i64 h) ++ List.replicate (n - k) (Value.int .i64 0)
def reps (h : Int) (m : Nat) : List Value:=List.replicate m (Value.int .i64 h)
theorem reps_len (h : Int) (m : Nat) : (reps h m).length = m:=by simp [reps]
theorem reps_one (h : Int) (m : Nat) : ∀ v ∈ reps h m,v.oneCell' = true:=fun v hv => by rw [List.eq_of_mem_replicate hv]; rfl
theorem repRow_len (h : Int) (n k : Nat) (hk : k ≤ n) : (repRow h n k).length = n:=by simp [repRow]; omega
theorem splice_row (h : Int) (n k m : Nat) (hk : k + m ≤ n) : splice (repRow h n k) k (reps h m) = repRow h n (k + m):=splice_rep _ n k m _ hk
theorem repRow_at (h : Int) (n k j : Nat) (v : Value) (m : Nat) (hm : m ≤ k) (hv : (reps h m)[j]? = some v) : (repRow h n k)[j]? = some v:=by
 have hj : j < m:=by simpa [reps] using (List.getElem?_eq_some_iff.1 hv).1
 have h1 : v = .int .i64 h:=by simpa [reps,List.getElem?_replicate,hj] using hv.symm
 subst h1
 simp [repRow,List.getElem?_append,show j < k by omega]
theorem rep_src {w : World} {g : Nat} {e : TypeId} (h : Int) (n k j : Nat) (v : Value) (m : Nat) (hm : m ≤ k) (hr : w.heap[g]? = some (.cells (repRow h n k).toArray e (0,0))) (hv : (reps h m)[j]? = some v) : w.cell? ((⟨g,0,none⟩ : Addr).add j) = some v :=
 World.news_of_block hr j v (by simpa using repRow_at h n k j v m hm hv)
theorem repRow_full (h : Int) (n : Nat) : repRow h n n = List.replicate n (Value.int .i64 h):=by simp [repRow]
theorem repRow_none (h : Int) (n : Nat) : repRow h n 0 = List.replicate n (Value.int .i64 0):=by simp [repRow]

set_option maxRecDepth 100000 in
set_option maxHeartbeats 400000 in
theorem repeat_any (A : Option Addr) (c lo : Nat) (h : Int) (n : Nat) (w : World) (hr : Row w lo 1 A 1 [.int .i64 h]) (hn : n ≤ 1000000000) :
  Calls Tryz.prog 120 #[.slice A 1 c,.int .i64 n] w fun e w' => ∃ A' c',e = .returned (.slice A' n c') ∧ w'.ownsRow w.heap.size 3 1 (.slice A' n c') n (List.replicate n (.int .i64 h)) ∧ Below w.heap.size w w':=by
 obtain ⟨und,⟨i0,z0,hi0,hz0,hz1,hz2,hz3⟩,_⟩:=ty_ints
 have hz0' : z0 = .int .i64 0:=by
  have : (Tryz.prog.info? 3).map (fun i => i.zero) = some (some (.int .i64 0)):=by kernel_rfl
  rw [hi0] at this
  simp [hz0] at this
  exact this
 subst hz0'
 have hd0 : decide ((n : Int) < 0) = false:=by simp
 have hd1 : decide ((9223372036854775807 : Int) < (n : Int)) = false:=by simp; omega
 go_enter Tryz.func120,Tryz.ntmps120
 go_wp2_with fail
 refine (mul_one' n hn _).mono ?_
 rintro e w' ⟨rfl,rfl⟩
 go_wp2_with (first | (at_make; go_must (refine wpList_make_full _ rfl _ _ 22 rfl w.heap.size 3 i0 _ 1 und hi0 hz0 hz1 .i64 .i64 _ _ n rfl rfl rfl rfl (by rw [hz2]; omega) (by simp only [maxLen]; omega) (Nat.le_refl _) ?_)))
 intro w1 hown1 hg1
 rw [toList_madeCells_one] at hown1
 rw [← repRow_none h n] at hown1
 have HR0:=Lib.hid (own_whole hown1)
 have hb1 : Below w.heap.size w w1:=below_of_grown hg1 (Nat.le_refl _) (fun k hk => by cases hk)
 have hr1:=hr.below hb1
 have hl0:=repRow_len h n 0 (by omega)
 clear hown1
 go_wp2_with (refine wpList_copy_splice rfl (.tmp 31) (.tmp 32) 22 22 rfl 3 und sz_int _ _ _ _ _ _ rfl rfl w.heap.size 0 (repRow h n 0) 3 HR0.out (reps h (min 1 n)) (by rw [reps_len]) ?_ (by rw [reps_len]; omega) (reps_one _ _) w.heap.size w hb1 (Nat.le_refl _) ?_)
 ·intro _
  obtain ⟨b,off,rfl,_,hbs,hc⟩:=hr1.2 (by omega)
  refine ⟨⟨b,off,none⟩,rfl,fun j v hv => ?_⟩
  have hj : j < min 1 n:=by simpa [reps] using (List.getElem?_eq_some_iff.1 hv).1
  have hj0 : j = 0:=by omega
  subst hj0
  have : v = .int .i64 h:=by simpa [reps,List.getElem?_replicate,hj] using hv.symm
  rw [this]
  exact hc 0 _ rfl
 ·intro w2 HR1 hb2
  have HR2 : Hid (w2.heap[w.heap.size]? = some (.cells (repRow h n (min 1 n)).toArray 3 (0,0))):=by
   have h1:=HR1.out
   rw [splice_row h n 0 (min 1 n) (by omega),Nat.zero_add] at h1
   exact Lib.hid h1
  have HL : Hid ((reps h (min 1 n)).length = min 1 n):=Lib.hid (reps_len _ _)
  clear HR1 HR0 hl0
  go_wp2_with fail
  go_loopw [8] (fun i wr => ∃ k : Nat,k ≤ n ∧ (n ≤ k ∨ 0 < k) ∧ i = .int .i64 k ∧ Hid (wr.heap[w.heap.size]? = some (.cells (repRow h n k).toArray 3 (0,0))) ∧ Below w.heap.size w wr) (fun i _ => n - (intOf i).toNat)
  case atStart => exact ⟨min 1 n,by omega,by omega,by first | (rw [HL.out]; done) | rfl,HR2,hb2⟩
  case round =>
   obtain ⟨k,hk,hk0,rfl,HR,hbw⟩:=hrel
   by_cases hlt : k < n
   ·have hk1 : 0 < k:=by omega
    clear hk0
    have hl1:=repRow_len h n k hk
    have HL1:=Lib.hid hl1
    clear hl1
    have hnk : ¬ n = k:=by omega
    have hw1 : IntKind.i64.wrap ((k : Int) + ((reps h (min k (n - k))).length : Int)) = (k : Int) + ((reps h (min k (n - k))).length : Int):=by rw [reps_len]; exact IntWalk.i64_in _ ⟨by omega,by omega⟩
    go_wp2_with fail
    go_region_law (refine step_copy_splice rfl (.tmp 41) (.tmp 44) 22 22 rfl 3 und sz_int (some ⟨w.heap.size,k,none⟩) (some ⟨w.heap.size,0,none⟩) (n - k) (n - k) k n (by simp [Act.eval,Act.put,hnk]) (by simp [Act.eval,Act.put]) w.heap.size k (repRow h n k) 3 HR.out (reps h (min k (n - k))) (by rw [reps_len]) (fun _ => ⟨rfl,_,rfl,fun j v hv => rep_src h n k j v (min k (n - k)) (by omega) HR.out hv⟩) (by rw [reps_len,HL1.out]; omega) (reps_one _ _) w.heap.size w hbw.drew (Nat.le_refl _) ?_; intro w3 HR3 hb3)
    have HR4 : Hid (w3.heap[w.heap.size]? = some (.cells (repRow h n (k + min k (n - k))).toArray 3 (0,0))):=by
     have h1:=HR3.out
     rw [splice_row h n k (min k (n - k)) (by omega)] at h1
     exact Lib.hid h1
    clear HR3
    go_wp2_with fail
    go_frame
    clear hw1
    go_roundw
    case rel =>
     refine ⟨_,_,_,_,_,_,_,_,_,_,_,_,_,_,?_,rfl⟩
     exact ⟨k + min k (n - k),by omega,by omega,by simp [reps_len],HR4,hb3⟩
    case measure => simp [intOf,reps_len]; omega
   ·have hkn : k = n:=by omega
    subst hkn
    go_wp2_with fail
    go_ret
    refine ⟨_,_,rfl,?_,hbw⟩
    rw [← repRow_full]
    exact own_of_whole HR.out (repRow_len _ _ _ (Nat.le_refl _)) (Nat.le_refl _) (by omega)
end Go.Proofs.YtbfphnknkbhpkaaGreatDoor
/- The walks of what folds and unfolds an input: frames, pieces, what is held in a frame. -/
namespace Go.Proofs.YtbfphnknkbhpkaaGreatDoor
set_option linter.unusedVariables false
set_option linter.unusedSimpArgs false
open Go.RowKit

theorem foldM_pos (l : List Int) : ∀ p ∈ foldM l,0 ≤ p.2:=by
 suffices H : ∀ out : List (Int × Int),(∀ p ∈ out,0 ≤ p.2) → ∀ p ∈ l.foldl (fun o h => fadd o h 1) out,0 ≤ p.2 from H [] (by simp)
 induction l with
 | nil => intro out ho; simpa using ho
 | cons p ps ih =>
  intro out ho
  rw [List.foldl_cons]
  exact ih _ (fadd_mem (by omega) ho)
theorem foldM_psum (l : List Int) : psum (foldM l) = l.length:=by
 suffices H : ∀ out : List (Int × Int),psum (l.foldl (fun o h => fadd o h 1) out) = psum out + l.length from by have:=H []; rw [psum_nil,Int.zero_add] at this; exact this
 induction l with
 | nil => intro out; simp
 | cons p ps ih =>
  intro out
  rw [List.foldl_cons,ih,fadd_psum]
  simp
  omega

end Go.Proofs.YtbfphnknkbhpkaaGreatDoor
/- The walks of Tidy, Frames, HeldAt and their references, and of slices' Index, Contains and Equal. -/
namespace Go.Proofs.YtbfphnknkbhpkaaGreatDoor
set_option linter.unusedVariables false
set_option linter.unusedSimpArgs false
open Go.RowKit

theorem ret2_is {a b c d : Value} (h1 : a = c) (h2 : b = d) : Ending.returned (.tuple #[a,b]) = .returned (.tuple #[c,d]):=by rw [h1,h2]

set_option maxHeartbeats 400000 in
theorem index_any (A : Option Addr) (c lo : Nat) (zs : List Int) (x : Int) (w : World) (hr : Row w lo 1 A zs.length (ints zs)) (hl : zs.length ≤ 1000000000) :
  Calls Tryz.prog 123 #[.slice A zs.length c,.int .i64 x] w fun e w' => ∃ r : Int,e = .returned (.int .i64 r) ∧ (r < 0 ↔ x ∉ zs) ∧ w = w':=by
 go_enter Tryz.func123,Tryz.ntmps123
 go_wp2_with fail
 go_loop [8] (fun i => ∃ k : Nat,k ≤ zs.length ∧ i = .int .i64 k ∧ Hid (∀ y ∈ zs.take k,y ≠ x)) (fun i => zs.length - (intOf i).toNat)
 case atStart => exact ⟨0,Nat.zero_le _,rfl,Lib.hid (by simp)⟩
 case round =>
  obtain ⟨k,hk,rfl,hno⟩:=hrel
  by_cases hlt : k < zs.length
  ·obtain ⟨b,off,rfl,_,hbs,c0⟩:=hr.int_at hlt
   by_cases he : x = zs[k]
   ·have he' : (x == zs[k]) = true:=by simpa using he
    have hm : Hid (x ∈ zs):=Lib.hid (by rw [he]; exact List.getElem_mem _)
    clear he
    go_wp2_with fail
    go_ret
    exact ⟨_,rfl,⟨fun h => absurd h (by omega),fun h => absurd hm.out h⟩,rfl⟩
   ·have he' : (x == zs[k]) = false:=by simpa using he
    have hn : Hid (∀ y ∈ zs.take (k + 1),y ≠ x):=Lib.hid (by
     intro y hy
     rw [List.take_succ_eq_append_getElem hlt] at hy
     rcases List.mem_append.1 hy with h1 | h1
     ·exact hno.out y h1
     ·simp at h1; subst h1; exact fun h => he h.symm)
    clear he
    go_wp2_with fail
    go_round
    case rel => exact ⟨k + 1,by omega,by go_num,hn⟩
    case measure => simp [intOf]; omega
  ·have hm : Hid (x ∉ zs):=Lib.hid (by
    have:=hno.out
    rw [List.take_of_length_le (by omega)] at this
    exact fun h => this x h rfl)
   go_wp2_with fail
   go_ret
   exact ⟨-1,rfl,⟨fun _ => hm.out,fun _ => by omega⟩,rfl⟩

set_option maxHeartbeats 400000 in
theorem contains_any (A : Option Addr) (c lo : Nat) (zs : List Int) (x : Int) (w : World) (hr : Row w lo 1 A zs.length (ints zs)) (hl : zs.length ≤ 1000000000) :
  Calls Tryz.prog 79 #[.slice A zs.length c,.int .i64 x] w fun e w' => e = .returned (.bool (decide (x ∈ zs))) ∧ w = w':=by
 go_enter Tryz.func79,Tryz.ntmps79
 go_wp2_with fail
 refine (index_any _ _ _ zs x _ hr hl).mono ?_
 rintro e w' ⟨r,rfl,hx,rfl⟩
 have HX:=Lib.hid hx
 clear hx
 go_wp2_with fail
 go_ret
 refine ⟨ret_bool' ?_,rfl⟩
 have h:=HX.out
 by_cases h1 : x ∈ zs
 ·have : 0 ≤ r:=by
   rcases Int.lt_or_le r 0 with h2 | h2
   ·exact absurd h1 (h.1 h2)
   ·exact h2
  simp [h1,this]
 ·have:=h.2 h1
  simp [h1]; omega

def btns : List Int:=[1,2,4,8,16,32]
def btnFault (b : Int) : Int:=if b ∈ btns then 0 else 4

set_option maxHeartbeats 400000 in
theorem buttons_any (w : World) : Calls Tryz.prog 80 #[] w fun e w' => ∃ A c,e = .returned (.slice A btns.length c) ∧ Row w' w.heap.size 1 A btns.length (ints btns) ∧ Below w.heap.size w w':=by
 go_enter Tryz.func80,Tryz.ntmps80
 go_wp2_with fail
 go_ret
 exact ⟨_,_,rfl,row_new w _ _ _ _ _ (Nat.le_refl _) rfl,(Below.refl _ _).alloc (Nat.le_refl _) _⟩
set_option maxHeartbeats 400000 in
theorem framesF_any (A : Option Addr) (c lo : Nat) (ps : List (Int × Int)) (w : World) (hr : Row w lo 2 A ps.length (prs ps)) (hl : ps.length ≤ 1000000000) :
  Calls Tryz.prog 7 #[.slice A ps.length c] w fun e w' => e = .returned (.tuple #[.int .i64 (framesR ps),.int .i64 (inFault ps)]) ∧ Below w.heap.size w w':=by
 go_enter Tryz.func7,Tryz.ntmps7
 go_wp2_with fail
 refine (checkInput_any _ _ _ ps _ hr hl).mono ?_
 rintro e w1 ⟨rfl,hb1⟩
 by_cases h0 : inFault ps = 0
 ·obtain ⟨h1,h2,h3⟩:=inFault_ok h0
  have h0' : (inFault ps != 0) = false:=by simpa using h0
  have HF:=Lib.hid (unf_len ps fun p hp => by have:=h2 p hp; omega)
  have H0:=Lib.hid h0
  clear h0
  go_wp2_with fail
  refine (frames_any _ _ _ ps _ (hr.below hb1) hl (fun p hp => by have:=h2 p hp; omega) (by omega)).mono ?_
  rintro e w2 ⟨rfl,hb2⟩
  clear h2
  go_wp2_with fail
  go_ret2
  exact ⟨ret2_is (by rw [framesR_ok H0.out,HF.out]; rfl) (by rw [H0.out]; rfl),below_up hb1 hb2⟩
 ·have h0' : (inFault ps != 0) = true:=by simpa using h0
  have H0:=Lib.hid h0
  clear h0
  go_wp2_with fail
  go_ret2
  exact ⟨ret2_is (by rw [framesR_bad H0.out]; rfl) rfl,hb1⟩
end Go.Proofs.YtbfphnknkbhpkaaGreatDoor
/- The walks of HeldAt, spread, holds, Presses and their references, and of slices.Equal over pieces. -/
namespace Go.Proofs.YtbfphnknkbhpkaaGreatDoor
set_option linter.unusedVariables false
set_option linter.unusedSimpArgs false
open Go.RowKit

theorem span_ok {f lo hi : Int} (h : lo ≤ f ∧ f ≤ hi) : spanFault f lo hi = 0:=by simp [spanFault,h]
theorem span_bad {f lo hi : Int} (h : ¬ (lo ≤ f ∧ f ≤ hi)) : spanFault f lo hi = 1:=by simp only [spanFault,h,if_false]

def Blk (w : World) (g : Nat) (t : TypeId) (cs : Array Value) : Prop:=w.heap[g]? = some (.cells cs t (0,0))
theorem Blk.lt {w : World} {g : Nat} {t : TypeId} {cs : Array Value} (h : Blk w g t cs) : g < w.heap.size:=(Array.getElem?_eq_some_iff.1 h).1
theorem Blk.cell {w : World} {g : Nat} {t : TypeId} {cs : Array Value} (h : Blk w g t cs) (i : Nat) : w.cell? ⟨g,i,none⟩ = cs[i]?:=cell_of_row w g i cs t (0,0) h
theorem Blk.new (w : World) (t : TypeId) (cs : Array Value) : Blk (w.alloc (.cells cs t)) w.heap.size t cs:=heap_alloc_new w _
theorem Blk.alloc {w : World} {g : Nat} {t : TypeId} {cs : Array Value} (h : Blk w g t cs) (o : Obj) : Blk (w.alloc o) g t cs:=(Below.heap_alloc w o g h.lt).trans h
theorem Blk.drewN {w : World} {g : Nat} {t : TypeId} {cs : Array Value} (h : Blk w g t cs) (q : Nat) : Blk (w.drewN q) g t cs:=h
theorem Blk.drew {w : World} {g : Nat} {t : TypeId} {cs : Array Value} (h : Blk w g t cs) : Blk w.drew g t cs:=h
theorem Blk.below {w w' : World} {g : Nat} {t : TypeId} {cs : Array Value} (h : Blk w g t cs) (hb : Below w.heap.size w w') : Blk w' g t cs:=(hb.block g h.lt).trans h
theorem Blk.app {w1 w2 : World} {g base n size : Nat} {t e : TypeId} {cs : Array Value} {v : Value} {xs : List Value} (hown : w1.ownsRow base e size v n xs) (h : Blk w1 g t cs) (hg : w1.grownBy w2 v.ownBlock) (hne : e ≠ t) : Blk w2 g t cs:=by
 refine (hg.block g h.lt ?_).trans h
 rcases hown.2 with ⟨rfl,_⟩ | ⟨g',cap,cur,rfl,_,hh,_⟩
 ·simp [Value.ownBlock]
 ·intro he
  have : g = g':=by simpa [Value.ownBlock] using he
  subst this
  unfold Blk at h
  rw [hh] at h
  injection h with h
  injection h with _ h1
  exact hne h1

def u8s (xs : List Int) : List Value:=xs.map (Value.int .u8)
theorem u8s_all (zs : List Int) : (u8s zs).all (·.oneCell') = true:=List.all_eq_true.2 (ints_oneCell .u8 zs)
theorem u8s_app (a b : List Int) : u8s (a ++ b) = u8s a ++ u8s b:=by simp [u8s]
theorem Row.u8_at {w : World} {lo : Nat} {A : Option Addr} {zs : List Int} (h : Row w lo 1 A zs.length (u8s zs)) {k : Nat} (hk : k < zs.length) :
  ∃ b off,A = some ⟨b,off,none⟩ ∧ lo ≤ b ∧ b < w.heap.size ∧ w.cell? ⟨b,off + k,none⟩ = some (.int .u8 zs[k]):=by
 obtain ⟨b,off,e,hl,hb,hc⟩:=h.2 (by omega)
 exact ⟨b,off,e,hl,hb,hc k _ (by simp [u8s,hk])⟩
theorem ty_u8s : SliceTy Tryz.prog 87 5 1 1:=.mk' Tryz.underlying87 (z:=.int .u8 0) (by kernel_rfl) rfl (by decide)

set_option maxHeartbeats 1000000 in
theorem spread_any (A : Option Addr) (c lo : Nat) (ps : List (Int × Int)) (w : World) (hr : Row w lo 2 A ps.length (prs ps)) (hl : ps.length ≤ 1000000000) (hb : ∀ p ∈ ps,0 ≤ p.2) (hv : ∀ p ∈ ps,0 ≤ p.1 ∧ p.1 ≤ 255) (hs : psum ps ≤ 1000000000) :
  Calls Tryz.prog 41 #[.slice A ps.length c] w fun e w' => ∃ A' c',e = .returned (.slice A' (unf ps).length c') ∧ w'.ownsRow w.heap.size 5 1 (.slice A' (unf ps).length c') (unf ps).length (u8s (unf ps)) ∧ Below w.heap.size w w':=by
 obtain ⟨und,⟨i0,z0,hi0,hz0,hz1,hz2,hz3⟩,_⟩:=ty_u8s
 have hs0:=psum_nonneg ps hb
 obtain ⟨m,hm⟩:=Int.eq_ofNat_of_zero_le hs0
 go_enter Tryz.func41,Tryz.ntmps41
 go_wp2_with fail
 refine (frames_any _ _ _ ps _ hr hl hb (by omega)).mono ?_
 rintro e w1 ⟨rfl,hb1⟩
 rw [hm]
 have hmm : m ≤ 1000000000:=by omega
 have HB:=Lib.hid hb
 have HV:=Lib.hid hv
 clear hm hs0 hb hv
 go_wp2_with (at_make; go_must (refine wpList_make_own _ rfl _ _ 87 rfl w.heap.size 5 i0 _ 1 und hi0 hz0 hz1 .i64 .i64 _ m rfl rfl rfl (by rw [hz2]; omega) (by simp only [maxLen]; omega) hb1.size ?_))
 intro w2 hown2 hg2
 have hb2 : Below w.heap.size w w2:=hb1.grown hg2 hb1.size (fun k hk => by cases hk)
 clear hg2
 go_wp2_with fail
 go_loopw [3,11] (fun v i wr => ∃ (k : Nat) (A' : Option Addr) (c' : Nat),k ≤ ps.length ∧ i = .int .i64 k ∧ v = .slice A' (unf (ps.take k)).length c' ∧ wr.ownsRow w.heap.size 5 1 (.slice A' (unf (ps.take k)).length c') (unf (ps.take k)).length (u8s (unf (ps.take k))) ∧ Below w.heap.size w wr) (fun _ i _ => ps.length - (intOf i).toNat)
 case atStart => exact ⟨0,_,_,Nat.zero_le _,rfl,rfl,hown2,hb2⟩
 case round =>
  obtain ⟨k,A',c',hk,rfl,rfl,hown,hbw⟩:=hrel
  by_cases hlt : k < ps.length
  ·obtain ⟨b,off,rfl,_,hbs,c0,c1⟩:=(hr.below hbw).pr_at hlt
   have HT:=Lib.hid (unf_take ps k hlt)
   have hb0:=HB.out ps[k] (List.getElem_mem _)
   obtain ⟨hv0,hv1⟩:=HV.out ps[k] (List.getElem_mem _)
   obtain ⟨n,hn⟩:=Int.eq_ofNat_of_zero_le hb0
   have hu:=unf_len (ps.take k) (fun p hp => HB.out p (List.mem_of_mem_take hp))
   have hps2:=psum_take_le ps (k + 1) HB.out
   have hps:=psum_take_le ps k HB.out
   rw [psum_take ps k hlt,hn] at hps2
   rw [hn] at c1
   rw [← hu] at hps hps2
   clear hu
   have HT2 : Hid (unf (ps.take (k + 1)) = unf (ps.take k) ++ List.replicate n ps[k].1):=Lib.hid (by rw [HT.out,hn]; rfl)
   clear HT hn hb0
   generalize unf (ps.take k) = o at *
   generalize ps[k].1 = x at *
   have hz:=hbw.size
   go_wp2_with fail
   obtain ⟨wo,rfl⟩ : ∃ wo : World,wo = wr:=⟨_,rfl⟩
   go_loopw [3,17] (fun v i wr => ∃ (j : Nat) (A2 : Option Addr) (c2 : Nat),j ≤ n ∧ i = .int .i64 j ∧ v = .slice A2 (o ++ List.replicate j x).length c2 ∧ wr.ownsRow w.heap.size 5 1 (.slice A2 (o ++ List.replicate j x).length c2) (o ++ List.replicate j x).length (u8s (o ++ List.replicate j x)) ∧ Blk wr wo.heap.size 39 #[.int .i64 x,.int .i64 n] ∧ Below w.heap.size w wr) (fun _ i _ => n - (intOf i).toNat)
   case atStart => exact ⟨0,A',c',Nat.zero_le _,by first | rfl | simp,by simp,by simpa using (by repeat (first | exact hown | refine World.ownsRow.alloc ?_ _ | refine own_drewN ?_ _ | refine World.ownsRow.drew ?_)),Blk.new _ _ _,(by repeat (first | exact hbw | refine Below.alloc ?_ (by first | omega | (simp; omega)) _ | refine below_drewN' ?_ _ | refine Below.drew ?_))⟩
   case round =>
    obtain ⟨j,A2,c2,hj,rfl,rfl,hown3,hblk,hbw3⟩:=hrel
    have hcell:=hblk.cell 0
    have HJ : Hid (o ++ List.replicate (j + 1) x = (o ++ List.replicate j x) ++ [x]):=Lib.hid (by rw [List.replicate_succ',List.append_assoc])
    have hlj : (o ++ List.replicate j x).length ≤ 1000000000:=by simp; omega
    have hz3:=hbw3.size
    by_cases hjn : j < n
    ·generalize o ++ List.replicate j x = q at *
     go_wp2_with (at_builtin; go_must (refine wpList_app (lo:=w.heap.size) (base:=w.heap.size) (n:=q.length) (xs:=u8s q) _ _ rfl _ _ ty_u8s rfl (by repeat (first | exact hown3 | refine World.ownsRow.alloc ?_ _ | refine own_drewN ?_ _ | refine World.ownsRow.drew ?_)) rfl (by first | exact row_new' _ (by first | rfl | simp) (by first | omega | (simp; omega)) rfl | exact row_newN _ _ (by first | rfl | simp) (by first | omega | (simp; omega)) rfl | exact row_newD _ (by first | rfl | simp) (by first | omega | (simp; omega)) rfl) rfl rfl (by first | omega | decide) (by first | omega | decide) (by first | omega | (simp; omega)) ?_))
     intro A5 c5 w5 hown5 hg5 _
     go_wp2_with fail
     go_roundw
     case rel => exact ⟨j + 1,A5,c5,by omega,by go_num,by rw [HJ.out]; simp,by rw [HJ.out,u8s_app,List.length_append]; exact hown5,Blk.app (hown3.alloc _) (hblk.alloc _) hg5 (by decide),below_app hown3 (by repeat (first | exact hbw3 | refine Below.alloc ?_ (by first | omega | (simp; omega)) _ | refine below_drewN' ?_ _ | refine Below.drew ?_)) hg5 (Nat.le_refl _) (by simp; omega)⟩
     case measure => simp [intOf]; omega
    ·have HE : Hid (unf (ps.take (k + 1)) = o ++ List.replicate j x):=Lib.hid (by rw [HT2.out,show j = n by omega])
     clear HJ HT2
     generalize o ++ List.replicate j x = q at *
     go_wp2_with fail
     go_roundw
     case rel => exact ⟨k + 1,A2,c2,by omega,by go_num,by rw [HE.out],by rw [HE.out]; exact hown3,hbw3⟩
     case measure => simp [intOf]; omega
  ·have ht : ps.take k = ps:=List.take_of_length_le (by omega)
   rw [ht] at hown
   rw [ht]
   clear ht
   go_wp2_with fail
   go_ret
   exact ⟨A',c',rfl,hown,hbw⟩
end Go.Proofs.YtbfphnknkbhpkaaGreatDoor
/- The walks of holds, Presses and their references, and of slices.Equal over pieces. -/
namespace Go.Proofs.YtbfphnknkbhpkaaGreatDoor
set_option linter.unusedVariables false
set_option linter.unusedSimpArgs false
open Go.RowKit

theorem ty_holds : SliceTy Tryz.prog 173 224 2 16:=.mk' Tryz.underlying173 (z:=.agg #[.int .i64 0,.int .i64 0]) (by kernel_rfl) rfl (by decide)

theorem holdsM_le (xs : List Int) (b : Int) (k : Nat) : (holdsM xs b k).length ≤ k:=by rw [holdsM_len]; exact pressesM_le xs b k
theorem holdsM_long (xs : List Int) (b : Int) (k : Nat) : ∀ p ∈ holdsM xs b k,0 ≤ p.2 ∧ p.2 ≤ k:=by
 induction k with
 | zero => intro p hp; simp [holdsM] at hp
 | succ k ih =>
  rw [holdsM_succ]
  intro p hp
  unfold hstep at hp
  by_cases h1 : hasB (heldL xs k) b = true
  ·by_cases h2 : hasB (heldL xs ((k : Int) - 1)) b = true
   ·simp only [h1,h2,if_true] at hp
    have hpos:=holdsM_pos xs b k h2
    rcases List.mem_or_eq_of_mem_set hp with h3 | h3
    ·have:=ih p h3; omega
    ·have h4 : (holdsM xs b k).getD ((holdsM xs b k).length - 1) (0,0) ∈ holdsM xs b k:=by
      rw [List.getD_eq_getElem?_getD,List.getElem?_eq_getElem (by omega)]; simp
     have:=ih _ h4
     rw [h3]; simp only; omega
   ·simp only [h1,h2,if_true] at hp
    simp at hp
    rcases hp with h3 | h3
    ·have:=ih p h3; omega
    ·subst h3; simp; omega
  ·simp only [h1] at hp
   have:=ih p (by simpa using hp); omega

set_option maxHeartbeats 1000000 in
theorem holds_any (A : Option Addr) (c lo : Nat) (xs : List Int) (b : Int) (w : World) (hr : Row w lo 1 A xs.length (u8s xs)) (hl : xs.length ≤ 1000000000) (hx : ∀ x ∈ xs,0 ≤ x ∧ x ≤ 255) :
  Calls Tryz.prog 81 #[.slice A xs.length c,.int .i64 b] w fun e w' => ∃ A' c',e = .returned (.slice A' (holdsM xs b xs.length).length c') ∧ w'.ownsRow w.heap.size 224 2 (.slice A' (holdsM xs b xs.length).length c') (holdsM xs b xs.length).length (prs (holdsM xs b xs.length)) ∧ Below w.heap.size w w':=by
 have HX:=Lib.hid hx
 clear hx
 go_enter Tryz.func81,Tryz.ntmps81
 go_wp2_with fail
 go_loopw [5,10] (fun v i wr => ∃ (k : Nat) (A' : Option Addr) (c' : Nat),k ≤ xs.length ∧ i = .int .i64 k ∧ v = .slice A' (holdsM xs b k).length c' ∧ wr.ownsRow w.heap.size 224 2 (.slice A' (holdsM xs b k).length c') (holdsM xs b k).length (prs (holdsM xs b k)) ∧ Below w.heap.size w wr) (fun _ i _ => xs.length - (intOf i).toNat)
 case atStart => exact ⟨0,none,0,Nat.zero_le _,rfl,rfl,World.ownsRow_nil _ _ _ _,Below.refl _ _⟩
 case round =>
  obtain ⟨k,A',c',hk,rfl,rfl,hown,hbw⟩:=hrel
  by_cases hlt : k < xs.length
  ·obtain ⟨bb,off,rfl,_,hbs,c0⟩:=(hr.below hbw).u8_at hlt
   have HT:=Lib.hid (holdsM_succ xs b k)
   have hlen:=holdsM_le xs b k
   obtain ⟨x0,x1⟩:=HX.out xs[k] (List.getElem_mem _)
   have hz:=hbw.size
   have HK:=Lib.hid (heldL_at xs k hlt)
   by_cases h1 : hasB xs[k] b = true
   ·have g1 : (bits .and .i64 xs[k] b == 0) = false:=by unfold hasB at h1; simpa using h1
    by_cases hk0 : k = 0
    ·have HE : Hid (holdsM xs b (k + 1) = holdsM xs b k ++ [((k : Int),1)]):=Lib.hid (by
      rw [HT.out]; unfold hstep
      rw [HK.out,h1,heldL_out xs ((k : Int) - 1) (by omega),hasB_zero]; rfl)
     have d0 : decide ((0 : Int) < (k : Int)) = false:=by simp; omega
     have d1 : (k : Int) ≤ 0:=by omega
     clear HT h1 hk0
     generalize holdsM xs b k = o at *
     go_wp2_with (at_builtin; go_must (refine wpList_app (lo:=w.heap.size) (base:=w.heap.size) (n:=o.length) (xs:=prs o) _ _ rfl _ _ ty_holds rfl (by repeat (first | exact hown | refine World.ownsRow.alloc ?_ _ | refine own_drewN ?_ _ | refine World.ownsRow.drew ?_)) rfl (by first | exact row_new' _ (by first | rfl | simp) (by first | omega | (simp; omega)) rfl | exact row_newN _ _ (by first | rfl | simp) (by first | omega | (simp; omega)) rfl | exact row_newD _ (by first | rfl | simp) (by first | omega | (simp; omega)) rfl) rfl rfl (by first | omega | decide) (by first | omega | decide) (by first | omega | (simp; omega)) ?_))
     intro A5 c5 w5 hown5 hg5 _
     go_wp2_with fail
     go_roundw
     case rel => exact ⟨k + 1,A5,c5,by omega,by go_num,by rw [HE.out]; simp,by rw [HE.out,prs_app,List.length_append]; exact hown5,below_app hown (by repeat (first | exact hbw | refine Below.alloc ?_ (by first | omega | (simp; omega)) _ | refine below_drewN' ?_ _ | refine Below.drew ?_)) hg5 (Nat.le_refl _) (by simp; omega)⟩
     case measure => simp [intOf]; omega
    ·obtain ⟨b',off',e',_,_,c1⟩:=(hr.below hbw).u8_at (k:=k - 1) (by omega)
     have e1 : b' = bb ∧ off' = off:=by injection e' with e'; injection e' with h1 h2; exact ⟨h1.symm,h2.symm⟩
     obtain ⟨rfl,rfl⟩:=e1
     clear e'
     obtain ⟨y0,y1⟩:=HX.out xs[k - 1] (List.getElem_mem _)
     have HK1:=Lib.hid (heldL_at xs (k - 1) (by omega))
     have HKK : Hid (((k - 1 : Nat) : Int) = (k : Int) - 1):=Lib.hid (by omega)
     have d0 : decide ((0 : Int) < (k : Int)) = true:=by simp; omega
     have d1 : (0 : Int) < (k : Int):=by omega
     by_cases h2 : hasB xs[k - 1] b = true
     ·have hpos:=holdsM_pos xs b k (by rw [← HKK.out,HK1.out]; exact h2)
      have hlong:=holdsM_long xs b k
      have g2 : (bits .and .i64 xs[k - 1] b != 0) = true:=h2
      generalize holdsM xs b k = o at *
      have hj : o.length - 1 < o.length:=by omega
      have HE : Hid (holdsM xs b (k + 1) = o.set (o.length - 1) ((o[o.length - 1]'hj).1,(o[o.length - 1]'hj).2 + 1)):=Lib.hid (by
       rw [HT.out]; unfold hstep
       rw [HK.out,h1,← HKK.out,HK1.out,h2,List.getD_eq_getElem?_getD,List.getElem?_eq_getElem hj]; rfl)
      clear HT h1 h2
      obtain ⟨g,rfl,hg,hg',hcb,hfb⟩:=ownBlk hown (by omega)
      obtain ⟨e1,e2⟩:=prs_at o _ hj
      have q2:=hcb _ _ e2
      have f2:=hfb ((o.length - 1) * 2 + 1)
      obtain ⟨b1,b2⟩:=hlong _ (List.getElem_mem hj)
      clear hcb hfb e1 e2 hlong
      go_wp2_with fail
      go_roundw
      case rel => exact ⟨k + 1,some ⟨g,0,none⟩,c',by omega,by go_num,by rw [HE.out]; simp,by rw [HE.out,List.length_set]; exact own_prs_set (ps:=o) (c:=c') (by repeat (first | exact hown | refine World.ownsRow.alloc ?_ _ | refine own_drewN ?_ _ | refine World.ownsRow.drew ?_)) _ hj _,Below.setCell (by repeat (first | exact hbw | refine Below.alloc ?_ (by first | omega | (simp; omega)) _ | refine below_drewN' ?_ _ | refine Below.drew ?_)) (by simpa using hg) _⟩
      case measure => simp [intOf]; omega
     ·have g2 : (bits .and .i64 xs[k - 1] b != 0) = false:=by simpa [hasB] using h2
      have HE : Hid (holdsM xs b (k + 1) = holdsM xs b k ++ [((k : Int),1)]):=Lib.hid (by
       rw [HT.out]; unfold hstep
       rw [HK.out,h1,← HKK.out,HK1.out,Bool.eq_false_iff.2 h2]; rfl)
      clear HT h1 h2
      generalize holdsM xs b k = o at *
      go_wp2_with (at_builtin; go_must (refine wpList_app (lo:=w.heap.size) (base:=w.heap.size) (n:=o.length) (xs:=prs o) _ _ rfl _ _ ty_holds rfl (by repeat (first | exact hown | refine World.ownsRow.alloc ?_ _ | refine own_drewN ?_ _ | refine World.ownsRow.drew ?_)) rfl (by first | exact row_new' _ (by first | rfl | simp) (by first | omega | (simp; omega)) rfl | exact row_newN _ _ (by first | rfl | simp) (by first | omega | (simp; omega)) rfl | exact row_newD _ (by first | rfl | simp) (by first | omega | (simp; omega)) rfl) rfl rfl (by first | omega | decide) (by first | omega | decide) (by first | omega | (simp; omega)) ?_))
      intro A5 c5 w5 hown5 hg5 _
      go_wp2_with fail
      go_roundw
      case rel => exact ⟨k + 1,A5,c5,by omega,by go_num,by rw [HE.out]; simp,by rw [HE.out,prs_app,List.length_append]; exact hown5,below_app hown (by repeat (first | exact hbw | refine Below.alloc ?_ (by first | omega | (simp; omega)) _ | refine below_drewN' ?_ _ | refine Below.drew ?_)) hg5 (Nat.le_refl _) (by simp; omega)⟩
      case measure => simp [intOf]; omega
   ·have g1 : (bits .and .i64 xs[k] b == 0) = true:=by simpa [hasB] using h1
    have HE : Hid (holdsM xs b (k + 1) = holdsM xs b k):=Lib.hid (by
     rw [HT.out]; unfold hstep
     rw [HK.out,Bool.eq_false_iff.2 h1]; rfl)
    clear HT h1
    go_wp2_with fail
    go_roundw
    case rel => exact ⟨k + 1,A',c',by omega,by go_num,by rw [HE.out],by rw [HE.out]; exact hown,hbw⟩
    case measure => simp [intOf]; omega
  ·have hkn : k = xs.length:=by omega
   subst hkn
   go_wp2_with fail
   go_ret
   exact ⟨A',c',rfl,hown,hbw⟩

def pressR (ps : List (Int × Int)) (b : Int) : Int:=if inFault ps = 0 ∧ btnFault b = 0 then (pressesM (unf ps) b (unf ps).length : Int) else 0
def pressE (ps : List (Int × Int)) (b : Int) : Int:=if inFault ps = 0 then btnFault b else inFault ps
theorem pressR_ok {ps : List (Int × Int)} {b : Int} (h : inFault ps = 0) (h' : btnFault b = 0) : pressR ps b = (pressesM (unf ps) b (unf ps).length : Int):=by simp [pressR,h,h']
theorem pressR_bad {ps : List (Int × Int)} {b : Int} (h : ¬ (inFault ps = 0 ∧ btnFault b = 0)) : pressR ps b = 0:=by simp only [pressR,h,if_false]
theorem btn_ok {b : Int} (h : b ∈ btns) : btnFault b = 0:=by simp [btnFault,h]
theorem btn_bad {b : Int} (h : ¬ b ∈ btns) : btnFault b = 4:=by simp [btnFault,h]
theorem unf_mem {ps : List (Int × Int)} {P : Int → Prop} (h : ∀ p ∈ ps,P p.1) : ∀ x ∈ unf ps,P x:=by
 intro x hx
 obtain ⟨p,hp,hq⟩:=List.mem_flatMap.1 hx
 rw [List.eq_of_mem_replicate hq]
 exact h p hp

set_option maxHeartbeats 1000000 in
theorem presses_any (A : Option Addr) (c lo : Nat) (ps : List (Int × Int)) (b : Int) (w : World) (hr : Row w lo 2 A ps.length (prs ps)) (hl : ps.length ≤ 1000000000) :
  Calls Tryz.prog 44 #[.slice A ps.length c,.int .i64 b] w fun e w' => e = .returned (.tuple #[.int .i64 (pressR ps b),.int .i64 (pressE ps b)]) ∧ Below w.heap.size w w':=by
 go_enter Tryz.func44,Tryz.ntmps44
 go_wp2_with fail
 refine (checkInput_any _ _ _ ps _ hr hl).mono ?_
 rintro e w1 ⟨rfl,hb1⟩
 by_cases h0 : inFault ps = 0
 ·obtain ⟨h1,h2,h3⟩:=inFault_ok h0
  have hp : ∀ p ∈ ps,0 ≤ p.2:=fun p hp => by have:=h2 p hp; omega
  have hv : ∀ p ∈ ps,0 ≤ p.1 ∧ p.1 ≤ 255:=fun p hp => by have:=h2 p hp; omega
  have hu:=unf_len ps hp
  have hul : (unf ps).length ≤ 200000:=by omega
  have H0:=Lib.hid h0
  have h0' : (inFault ps != 0) = false:=by simpa using h0
  have HP:=Lib.hid hp
  have HV:=Lib.hid hv
  rw [h0]
  clear h0 hu h2 hp hv h0'
  go_wp2_with fail
  refine (buttons_any _).mono ?_
  rintro e w2 ⟨A2,c2,rfl,hr2,hb2⟩
  go_wp2_with fail
  refine (contains_any _ _ _ btns b _ hr2 (by decide)).mono ?_
  rintro e w3 ⟨rfl,rfl⟩
  have hb12:=below_up hb1 hb2
  by_cases h4 : b ∈ btns
  ·have hd : decide (b ∈ btns) = true:=by simpa using h4
   have H4:=Lib.hid (btn_ok h4)
   rw [hd]
   clear h4 hd
   go_wp2_with fail
   refine (spread_any _ _ _ ps _ (hr.below hb12) hl HP.out HV.out (by omega)).mono ?_
   rintro e w4 ⟨A4,c4,rfl,hown4,hb4⟩
   go_wp2_with fail
   refine (holds_any _ _ _ (unf ps) b _ (Row.of_own hown4) (by omega) (unf_mem HV.out)).mono ?_
   rintro e w5 ⟨A5,c5,rfl,hown5,hb5⟩
   have HL:=Lib.hid (holdsM_len (unf ps) b (unf ps).length)
   go_wp2_with fail
   go_ret2
   exact ⟨ret2_is (by rw [pressR_ok H0.out H4.out,← HL.out]; rfl) (by simp only [pressE,H0.out,if_true,H4.out]; rfl),below_up (below_up hb12 hb4) hb5⟩
  ·have hd : decide (b ∈ btns) = false:=by simpa using h4
   have H4:=Lib.hid (btn_bad h4)
   rw [hd]
   clear h4 hd
   go_wp2_with fail
   go_ret2
   exact ⟨ret2_is (by rw [pressR_bad (by rw [H4.out]; omega)]; rfl) (by simp only [pressE,H0.out,if_true,H4.out]; rfl),hb12⟩
 ·have h0' : (inFault ps != 0) = true:=by simpa using h0
  have H0:=Lib.hid h0
  clear h0
  go_wp2_with fail
  go_ret2
  exact ⟨ret2_is (by rw [pressR_bad (fun h => H0.out h.1)]; rfl) (by simp only [pressE,H0.out,if_false]; rfl),hb1⟩

end Go.Proofs.YtbfphnknkbhpkaaGreatDoor
/- The walks of slices.Equal over pieces, and of the law's own small test. -/
namespace Go.Proofs.YtbfphnknkbhpkaaGreatDoor
set_option linter.unusedVariables false
set_option linter.unusedSimpArgs false
open Go.RowKit

set_option maxHeartbeats 1000000 in
theorem equalP_any (A B : Option Addr) (c d lo lo' : Nat) (ps qs : List (Int × Int)) (w : World) (hr : Row w lo 2 A ps.length (prs ps)) (hr' : Row w lo' 2 B qs.length (prs qs)) (hl : ps.length ≤ 1000000000) (hl' : qs.length ≤ 1000000000) :
  Calls Tryz.prog 12 #[.slice A ps.length c,.slice B qs.length d] w fun e w' => e = .returned (.bool (decide (ps = qs))) ∧ ∃ q,w' = w.drewN q:=by
 by_cases hlen : ps.length = qs.length
 ·have h0 : ((ps.length : Int) != (qs.length : Int)) = false:=by simp [hlen]
  have HLEN:=Lib.hid hlen
  clear hlen
  go_enter Tryz.func12,Tryz.ntmps12
  go_wp2_with fail
  go_loopw [13] (fun i wr => ∃ (k : Nat) (q : Nat),k ≤ ps.length ∧ i = .int .i64 k ∧ Hid (ps.take k = qs.take k) ∧ wr = w.drewN q) (fun i _ => ps.length - (intOf i).toNat)
  case atStart => exact ⟨0,0,Nat.zero_le _,rfl,Lib.hid rfl,rfl⟩
  case round =>
   obtain ⟨k,q,hk,rfl,htk,rfl⟩:=hrel
   by_cases hlt : k < ps.length
   ·obtain ⟨b,off,rfl,_,hbs,c0,c1⟩:=hr.pr_at hlt
    have hlt' : k < qs.length:=by have:=HLEN.out; omega
    obtain ⟨b',off',rfl,_,hbs',d0,d1⟩:=hr'.pr_at hlt'
    by_cases he : ps[k] = qs[k]
    ·have HN : Hid (ps.take (k + 1) = qs.take (k + 1)):=Lib.hid (by rw [List.take_succ_eq_append_getElem hlt,List.take_succ_eq_append_getElem hlt',htk.out,he])
     rw [← he] at d0 d1
     clear he
     go_wp2_with fail
     go_quiet (fail)
     go_wp2_with fail
     go_roundw
     case rel => exact ⟨k + 1,_,by omega,by go_num,HN,rfl⟩
     case measure => simp [intOf]; omega
    ·have HN : Hid (¬ ps = qs):=Lib.hid (fun h => he (by subst h; rfl))
     by_cases he1 : ps[k].1 = qs[k].1
     ·have e1 : (ps[k].1 == qs[k].1) = true:=by simpa using he1
      have e2 : (ps[k].2 == qs[k].2) = false:=by simpa using fun h => he (Prod.ext he1 h)
      clear he he1
      go_wp2_with fail
      go_quiet (fail)
      go_wp2_with fail
      go_ret
      exact ⟨ret_bool' (by simp [HN.out]),_,World.drewN_drewN _ _ _⟩
     ·have e1 : (ps[k].1 == qs[k].1) = false:=by simpa using he1
      clear he he1
      go_wp2_with fail
      go_quiet (fail)
      go_wp2_with fail
      go_ret
      exact ⟨ret_bool' (by simp [HN.out]),_,World.drewN_drewN _ _ _⟩
   ·have HN : Hid (ps = qs):=Lib.hid (by
     have:=htk.out
     have hh:=HLEN.out
     rwa [List.take_of_length_le (by omega),List.take_of_length_le (by omega)] at this)
    go_wp2_with fail
    go_ret
    exact ⟨ret_bool' (by simp [HN.out]),_,rfl⟩
 ·have h0 : ((ps.length : Int) != (qs.length : Int)) = true:=by rw [bne_iff_ne]; omega
  have HN : Hid (¬ ps = qs):=Lib.hid (fun h => hlen (by rw [h]))
  clear hlen
  go_enter Tryz.func12,Tryz.ntmps12
  go_wp2_with fail
  go_ret
  exact ⟨ret_bool' (by simp [HN.out]),0,rfl⟩

theorem pressR_ex : pressR [(1,3),(0,1),(1,1)] 1 = 2:=by decide
theorem pressE_ex : pressE [(1,3),(0,1),(1,1)] 1 = 0:=by decide

end Go.Proofs.YtbfphnknkbhpkaaGreatDoor
/- The walks of First, Or, when, part, Cut and CutOf. -/
namespace Go.Proofs.YtbfphnknkbhpkaaGreatDoor
set_option linter.unusedVariables false
set_option linter.unusedSimpArgs false
open Go.RowKit

theorem take_zero_snoc {l : List Int} {k : Nat} (h : ∀ y ∈ l.take k,y = 0) (hk : k < l.length) (hv : l[k] = 0) : ∀ y ∈ l.take (k + 1),y = 0:=by
 intro y hy
 rw [List.take_succ_eq_append_getElem hk] at hy
 rcases List.mem_append.1 hy with h1 | h1
 ·exact h y h1
 ·simp at h1; subst h1; exact hv

set_option maxHeartbeats 400000 in
theorem first_any (A : Option Addr) (c lo : Nat) (l : List Int) (w : World) (hr : Row w lo 1 A l.length (ints l)) (hl : l.length ≤ 1000000000) :
  Calls Tryz.prog 37 #[.slice A l.length c] w fun e w' => e = .returned (.int .i64 (firstE l)) ∧ w = w':=by
 go_enter Tryz.func37,Tryz.ntmps37
 go_wp2_with fail
 go_loop [7] (fun i => ∃ k : Nat,k ≤ l.length ∧ i = .int .i64 k ∧ Hid (∀ y ∈ l.take k,y = 0)) (fun i => l.length - (intOf i).toNat)
 case atStart => exact ⟨0,Nat.zero_le _,rfl,Lib.hid (by simp)⟩
 case round =>
  obtain ⟨k,hk,rfl,hno⟩:=hrel
  by_cases hlt : k < l.length
  ·obtain ⟨b,off,rfl,_,hbs,c0⟩:=hr.int_at hlt
   by_cases he : l[k] = 0
   ·have he' : (l[k] != 0) = false:=by simpa using he
    have HN:=Lib.hid (take_zero_snoc hno.out hlt he)
    clear he
    go_wp2_with fail
    go_round
    case rel => exact ⟨k + 1,by omega,by go_num,HN⟩
    case measure => simp [intOf]; omega
   ·have he' : (l[k] != 0) = true:=by simpa using he
    have HV:=Lib.hid (firstE_hit l k hlt hno.out he)
    clear he
    go_wp2_with fail
    go_ret
    exact ⟨ret_int' HV.out.symm,rfl⟩
  ·have HV:=Lib.hid (firstE_none l (by have:=hno.out; rwa [List.take_of_length_le (by omega)] at this))
   go_wp2_with fail
   go_ret
   exact ⟨ret_int' HV.out.symm,rfl⟩

theorem Row.cut {w : World} {lo : Nat} {A A' : Option Addr} {n : Nat} {xs : List Value} (h : Row w lo 1 A n xs) {i j c : Nat} (hij : i ≤ j) (hj : j ≤ n) (hc : n ≤ c) (hA : (A' = A ∧ c = i) ∨ A' = A.map (·.add i)) : Row w lo 1 A' (j - i) ((xs.take j).drop i):=by
 have hl:=h.1
 refine ⟨by simp; omega,fun hn => ?_⟩
 obtain ⟨b,off,rfl,h1,h2,h3⟩:=h.2 (by omega)
 rcases hA with ⟨_,h4⟩ | h4
 ·omega
 ·have ha : (⟨b,off,none⟩ : Addr).add i = ⟨b,off + i,none⟩:=by unfold Addr.add; split <;> simp_all
  refine ⟨b,off + i,by rw [h4]; simp [ha],h1,h2,fun k u hu => ?_⟩
  rw [Nat.add_assoc]
  refine h3 _ u ?_
  rw [List.getElem?_drop,List.getElem?_take] at hu
  split at hu
  ·exact hu
  ·cases hu
theorem own_cast {w : World} {base : Nat} {e : TypeId} {size : Nat} {v : Value} {n : Nat} {xs ys : List Value} (h : xs = ys) (ho : w.ownsRow base e size v n xs) : w.ownsRow base e size v n ys:=h ▸ ho
set_option maxHeartbeats 1000000 in
theorem part_any (A : Option Addr) (c lo : Nat) (ps : List (Int × Int)) (f t : Nat) (w : World) (hr : Row w lo 2 A ps.length (prs ps)) (hl : ps.length ≤ 1000000) (hb : ∀ p ∈ ps,0 ≤ p.2) (hs : psum ps ≤ 1000000000) (hf : f ≤ 1000000000) (ht : t ≤ 1000000000) :
  Calls Tryz.prog 36 #[.slice A ps.length c,.int .i64 f,.int .i64 t] w fun e w' => ∃ A' c',e = .returned (.slice A' (foldM (cutL (unf ps) f t)).length c') ∧ w'.ownsRow w.heap.size 39 2 (.slice A' (foldM (cutL (unf ps) f t)).length c') (foldM (cutL (unf ps) f t)).length (prs (foldM (cutL (unf ps) f t))) ∧ Below w.heap.size w w':=by
 have HB:=Lib.hid hb
 clear hb
 go_enter Tryz.func36,Tryz.ntmps36
 go_wp2_with fail
 go_loopw [7,8,14] (fun v a i wr => ∃ (k : Nat) (A' : Option Addr) (c' : Nat),k ≤ ps.length ∧ i = .int .i64 k ∧ a = .int .i64 (psum (ps.take k)) ∧ v = .slice A' (clips ps f t k).length c' ∧ wr.ownsRow w.heap.size 39 2 (.slice A' (clips ps f t k).length c') (clips ps f t k).length (prs (clips ps f t k)) ∧ Below w.heap.size w wr) (fun _ _ i _ => ps.length - (intOf i).toNat)
 case atStart => exact ⟨0,none,0,Nat.zero_le _,rfl,rfl,rfl,World.ownsRow_nil _ _ _ _,Below.refl _ _⟩
 case round =>
  obtain ⟨k,A',c',hk,rfl,rfl,rfl,hown,hbw⟩:=hrel
  by_cases hlt : k < ps.length
  ·obtain ⟨b,off,rfl,_,hbs,c0,c1⟩:=(hr.below hbw).pr_at hlt
   have HT:=Lib.hid (clips_succ ps f t k hlt)
   have HS:=Lib.hid (psum_take ps k hlt)
   have hlen:=clips_len ps f t k hk
   have hp0:=HB.out ps[k] (List.getElem_mem _)
   have hps:=psum_take_le ps k HB.out
   have hps2:=psum_take_le ps (k + 1) HB.out
   rw [HS.out] at hps2
   have hz:=hbw.size
   have HC : Hid (clipN (psum (ps.take k)) ps[k].2 f t = min (psum (ps.take k) + ps[k].2) t - max (psum (ps.take k)) f):=Lib.hid rfl
   generalize clips ps f t k = o at *
   generalize psum (ps.take k) = a at *
   by_cases hpos : 0 < clipN a ps[k].2 f t
   ·have HE : Hid (clips ps f t (k + 1) = o ++ [(ps[k].1,min (a + ps[k].2) t - max a f)]):=Lib.hid (by rw [HT.out,if_pos hpos,HC.out])
    rw [HC.out] at hpos
    clear HT HC
    rcases Int.lt_or_le (t : Int) (a + ps[k].2) with g1 | g1 <;> rcases Int.lt_or_le a (f : Int) with g2 | g2
    all_goals
     go_wp2_with (at_builtin; go_must (refine wpList_app (lo:=w.heap.size) (base:=w.heap.size) (n:=o.length) (xs:=prs o) _ _ rfl _ _ ty_prs rfl (by repeat (first | exact hown | refine World.ownsRow.alloc ?_ _ | refine own_drewN ?_ _ | refine World.ownsRow.drew ?_)) rfl (by first | exact row_new' _ (by first | rfl | simp) (by first | omega | (simp; omega)) rfl | exact row_newN _ _ (by first | rfl | simp) (by first | omega | (simp; omega)) rfl | exact row_newD _ (by first | rfl | simp) (by first | omega | (simp; omega)) rfl) rfl rfl (by first | omega | decide) (by first | omega | decide) (by first | omega | (simp; omega)) ?_))
     intro A5 c5 w5 hown5 hg5 _
     go_wp2_with fail
     go_roundw
     case rel => exact ⟨k + 1,A5,c5,by omega,by go_num,by rw [HS.out],by rw [HE.out]; simp,by rw [HE.out,prs_app,List.length_append]; exact own_cast (by simp [prs]; omega) hown5,below_app hown (by repeat (first | exact hbw | refine Below.alloc ?_ (by first | omega | (simp; omega)) _ | refine below_drewN' ?_ _ | refine Below.drew ?_)) hg5 (Nat.le_refl _) (by simp; omega)⟩
     case measure => simp [intOf]; omega
   ·have HE : Hid (clips ps f t (k + 1) = o):=Lib.hid (by rw [HT.out,if_neg hpos])
    rw [HC.out] at hpos
    clear HT HC
    rcases Int.lt_or_le (t : Int) (a + ps[k].2) with g1 | g1 <;> rcases Int.lt_or_le a (f : Int) with g2 | g2
    all_goals
     go_wp2_with fail
     go_roundw
     case rel => exact ⟨k + 1,A',c',by omega,by go_num,by rw [HS.out],by rw [HE.out],by rw [HE.out]; exact hown.alloc _,(by repeat (first | exact hbw | refine Below.alloc ?_ (by first | omega | (simp; omega)) _ | refine below_drewN' ?_ _ | refine Below.drew ?_))⟩
     case measure => simp [intOf]; omega
  ·have hkn : k = ps.length:=by omega
   subst hkn
   have hcm:=clips_mem ps f t ps.length (Nat.le_refl _)
   have hcu:=clips_unf ps HB.out f t ps.length (Nat.le_refl _)
   rw [List.take_of_length_le (Nat.le_refl _)] at hcu
   have hcl:=clips_len ps f t ps.length (Nat.le_refl _)
   have HF:=Lib.hid (fold_unf (clips ps f t ps.length) hcm)
   have hcs:=unf_len _ hcm
   have hu:=unf_len ps HB.out
   have hcut:=cutL_len (unf ps) f t
   rw [hcu] at HF hcs
   have hcs2 : psum (clips ps f t ps.length) ≤ 1000000000:=by omega
   clear hcs hcut hu hcu
   generalize clips ps f t ps.length = o at *
   go_wp2_with fail
   refine (tidy_any _ _ _ o _ (Row.of_own hown) (by omega) hcm (by omega)).mono ?_
   rintro e w2 ⟨A2,c2,rfl,hown2,hb2⟩
   clear hcm
   go_wp2_with fail
   go_ret
   rw [HF.out]
   exact ⟨A2,c2,rfl,own_weak hown2 hbw.size,below_up hbw hb2⟩

def cutOk (f t : Int) : Bool:=decide (0 ≤ f) && decide (f ≤ t) && decide (t ≤ 200000)
def cutR (ps : List (Int × Int)) (f t : Int) : List (Int × Int):=if inFault ps = 0 ∧ cutOk f t = true then foldM (cutL (unf ps) f.toNat t.toNat) else []
def cutE (ps : List (Int × Int)) (f t : Int) : Int:=if inFault ps = 0 then (if cutOk f t = true then 0 else 1) else inFault ps
theorem cutOk_iff (f t : Int) : cutOk f t = true ↔ 0 ≤ f ∧ f ≤ t ∧ t ≤ 200000:=by simp [cutOk,and_assoc]
theorem cutR_ok {ps : List (Int × Int)} {f t : Int} (h : inFault ps = 0) (h' : cutOk f t = true) : cutR ps f t = foldM (cutL (unf ps) f.toNat t.toNat):=by simp [cutR,h,h']
theorem cutR_bad {ps : List (Int × Int)} {f t : Int} (h : ¬ (inFault ps = 0 ∧ cutOk f t = true)) : cutR ps f t = []:=by simp only [cutR,h,if_false]

end Go.Proofs.YtbfphnknkbhpkaaGreatDoor
/- The walks of Splice, SplicedOf, Differ, DifferOf and slices.Clone over pieces. -/
namespace Go.Proofs.YtbfphnknkbhpkaaGreatDoor
set_option linter.unusedVariables false
set_option linter.unusedSimpArgs false
open Go.RowKit

def firsts (xs : List Int) (n : Nat) : List Int:=(List.range n).map fun i : Nat => heldL xs (i : Int)
theorem firsts_succ (xs : List Int) (n : Nat) : firsts xs (n + 1) = firsts xs n ++ [heldL xs (n : Int)]:=by simp [firsts,List.range_succ]
theorem firsts_len (xs : List Int) (n : Nat) : (firsts xs n).length = n:=by simp [firsts]
theorem firsts_eq (xs : List Int) (n : Nat) : firsts xs n = xs.take n ++ List.replicate (n - xs.length) 0:=by
 induction n with
 | zero => simp [firsts]
 | succ n ih =>
  rw [firsts_succ,ih]
  rcases Nat.lt_or_ge n xs.length with h | h
  ·rw [heldL_at xs n h,List.take_succ_eq_append_getElem h]
   have e1 : n - xs.length = 0:=by omega
   have e2 : n + 1 - xs.length = 0:=by omega
   simp [e1,e2]
  ·rw [heldL_out xs n (by omega),List.take_of_length_le (by omega),List.take_of_length_le (by omega),List.append_assoc]
   have e1 : n + 1 - xs.length = (n - xs.length) + 1:=by omega
   rw [e1,List.replicate_succ']
def spliced (xs ys : List Int) (n : Nat) : List Int:=firsts xs n ++ ys
def sqE (xs ys : List Int) (n : Nat) : Int:=if 200000 < n + ys.length then 2 else if 5000 < (foldM (spliced xs ys n)).length then 2 else 0
def sqR (xs ys : List Int) (n : Nat) : List (Int × Int):=if sqE xs ys n = 0 then foldM (spliced xs ys n) else []
theorem sqE_long {xs ys : List Int} {n : Nat} (h : 200000 < n + ys.length) : sqE xs ys n = 2:=by simp [sqE,h]
theorem sqE_many {xs ys : List Int} {n : Nat} (h : 5000 < (foldM (spliced xs ys n)).length) : sqE xs ys n = 2:=by unfold sqE; split <;> simp [h]
theorem sqE_ok {xs ys : List Int} {n : Nat} (h : ¬ 200000 < n + ys.length) (h' : ¬ 5000 < (foldM (spliced xs ys n)).length) : sqE xs ys n = 0:=by simp [sqE,h,h']
theorem sqR_ok {xs ys : List Int} {n : Nat} (h : sqE xs ys n = 0) : sqR xs ys n = foldM (spliced xs ys n):=by simp [sqR,h]
theorem sqR_bad {xs ys : List Int} {n : Nat} (h : sqE xs ys n = 2) : sqR xs ys n = []:=by simp [sqR,h]

end Go.Proofs.YtbfphnknkbhpkaaGreatDoor
/- The walks of Splice, Differ, DifferOf and slices.Clone over pieces. -/
namespace Go.Proofs.YtbfphnknkbhpkaaGreatDoor
set_option linter.unusedVariables false
set_option linter.unusedSimpArgs false
open Go.RowKit

def spcE (ps qs : List (Int × Int)) (n : Int) : Int:=if firstE [inFault ps,inFault qs] = 0 then (if spanFault n 0 200000 = 0 then sqE (unf ps) (unf qs) n.toNat else 1) else firstE [inFault ps,inFault qs]
def spR (ps qs : List (Int × Int)) (n : Int) : List (Int × Int):=if firstE [inFault ps,inFault qs] = 0 ∧ spanFault n 0 200000 = 0 then sqR (unf ps) (unf qs) n.toNat else []
theorem two_ok {a b : Int} (h : firstE [a,b] = 0) : a = 0 ∧ b = 0:=by
 rw [firstE_two] at h
 by_cases ha : a = 0
 ·simp [ha] at h; exact ⟨ha,h⟩
 ·simp [ha] at h
theorem spcE_bad {ps qs : List (Int × Int)} {n : Int} (h : ¬ firstE [inFault ps,inFault qs] = 0) : spcE ps qs n = firstE [inFault ps,inFault qs]:=by simp only [spcE,h,if_false]
theorem spR_bad {ps qs : List (Int × Int)} {n : Int} (h : ¬ (firstE [inFault ps,inFault qs] = 0 ∧ spanFault n 0 200000 = 0)) : spR ps qs n = []:=by simp only [spR,h,if_false]
theorem spE_span {ps qs : List (Int × Int)} {n : Int} (h : firstE [inFault ps,inFault qs] = 0) (h' : spanFault n 0 200000 = 1) : spcE ps qs n = 1:=by simp [spcE,h,h']
theorem spcE_ok {ps qs : List (Int × Int)} {n : Int} (h : firstE [inFault ps,inFault qs] = 0) (h' : spanFault n 0 200000 = 0) : spcE ps qs n = sqE (unf ps) (unf qs) n.toNat:=by simp [spcE,h,h']
theorem spR_ok {ps qs : List (Int × Int)} {n : Int} (h : firstE [inFault ps,inFault qs] = 0) (h' : spanFault n 0 200000 = 0) : spR ps qs n = sqR (unf ps) (unf qs) n.toNat:=by simp [spR,h,h']
theorem splice_unf (ps qs : List (Int × Int)) (n : Nat) (hx : (cutL (unf ps) 0 n).length ≤ n) : unf (foldM (cutL (unf ps) 0 n) ++ [(0,(n : Int) - psum (foldM (cutL (unf ps) 0 n)))] ++ qs) = spliced (unf ps) (unf qs) n:=by
 have h1 : ∀ l : List Int,unf (foldM l) = l:=by
  intro l
  suffices H : ∀ out : List (Int × Int),(∀ p ∈ out,0 ≤ p.2) → unf (l.foldl (fun o h => fadd o h 1) out) = unf out ++ l from by simpa [unf,foldM] using H [] (by simp)
  induction l with
  | nil => intro out _; simp
  | cons x l ih =>
   intro out ho
   rw [List.foldl_cons,ih _ (fadd_mem (by omega) ho)]
   have : unf (fadd out x 1) = unf out ++ [x]:=by
    unfold fadd
    simp only [show ¬ (1 : Int) = 0 by omega,if_false]
    cases hl : out.getLast? with
    | none => simp at hl; subst hl; simp [unf]
    | some q =>
     by_cases hq : q.1 = x
     ·obtain ⟨r,rfl⟩:=List.getLast?_eq_some_iff.1 hl
      have hq2:=ho q (by simp)
      simp only [hq,if_true,List.dropLast_concat,unf_app]
      simp only [unf,List.flatMap_cons,List.flatMap_nil,List.append_nil,hq,List.append_assoc]
      congr 1
      rw [show (q.2 + 1).toNat = q.2.toNat + 1 by omega,List.replicate_succ']
     ·simp [hq,unf]
   rw [this]; simp
 rw [unf_app,unf_app,h1,foldM_psum,spliced,firsts_eq]
 simp [unf,cutL]
 omega

end Go.Proofs.YtbfphnknkbhpkaaGreatDoor
/- Tidy, Cut and Splice: what they hand out is memory of the call's own. -/
namespace Go.Proofs.YtbfphnknkbhpkaaGreatDoor
set_option linter.unusedVariables false
set_option linter.unusedSimpArgs false
open Go.RowKit

set_option maxHeartbeats 400000 in
theorem tidyO_any (A : Option Addr) (c lo : Nat) (ps : List (Int × Int)) (w : World) (hr : Row w lo 2 A ps.length (prs ps)) (hl : ps.length ≤ 1000000000) :
  Calls Tryz.prog 8 #[.slice A ps.length c] w fun e w' => ∃ A' c',e = .returned (.tuple #[.slice A' (tidyR ps).length c',.int .i64 (inFault ps)]) ∧ w'.ownsRow w.heap.size 39 2 (.slice A' (tidyR ps).length c') (tidyR ps).length (prs (tidyR ps)) ∧ Below w.heap.size w w':=by
 go_enter Tryz.func8,Tryz.ntmps8
 go_wp2_with fail
 refine (checkInput_any _ _ _ ps _ hr hl).mono ?_
 rintro e w1 ⟨rfl,hb1⟩
 by_cases h0 : inFault ps = 0
 ·obtain ⟨h1,h2,h3⟩:=inFault_ok h0
  have h0' : (inFault ps != 0) = false:=by simpa using h0
  have HF:=Lib.hid (fold_unf ps fun p hp => by have:=h2 p hp; omega)
  have H0:=Lib.hid h0
  clear h0
  go_wp2_with fail
  refine (tidy_any _ _ _ ps _ (hr.below hb1) hl (fun p hp => by have:=h2 p hp; omega) (by omega)).mono ?_
  rintro e w2 ⟨A',c',rfl,hown,hb2⟩
  clear h2
  go_wp2_with fail
  go_ret2
  rw [tidyR_ok H0.out,HF.out]
  exact ⟨A',c',ret2_is rfl (by rw [H0.out]; rfl),own_weak hown hb1.size,below_up hb1 hb2⟩
 ·have h0' : (inFault ps != 0) = true:=by simpa using h0
  have H0:=Lib.hid h0
  clear h0
  go_wp2_with fail
  go_ret2
  rw [tidyR_bad H0.out]
  exact ⟨none,0,rfl,World.ownsRow_nil _ _ _ _,hb1⟩
set_option maxHeartbeats 1000000 in
theorem cutO_any (A : Option Addr) (c lo : Nat) (ps : List (Int × Int)) (f t : Int) (w : World) (hr : Row w lo 2 A ps.length (prs ps)) (hl : ps.length ≤ 1000000000) :
  Calls Tryz.prog 9 #[.slice A ps.length c,.int .i64 f,.int .i64 t] w fun e w' => ∃ A' c',e = .returned (.tuple #[.slice A' (cutR ps f t).length c',.int .i64 (cutE ps f t)]) ∧ w'.ownsRow w.heap.size 39 2 (.slice A' (cutR ps f t).length c') (cutR ps f t).length (prs (cutR ps f t)) ∧ Below w.heap.size w w':=by
 go_enter Tryz.func9,Tryz.ntmps9
 go_wp2_with fail
 refine (checkInput_any _ _ _ ps _ hr hl).mono ?_
 rintro e w1 ⟨rfl,hb1⟩
 by_cases h0 : inFault ps = 0
 ·obtain ⟨h1,h2,h3⟩:=inFault_ok h0
  have HP:=Lib.hid (show ∀ p ∈ ps,0 ≤ p.2 from fun p hp => by have:=h2 p hp; omega)
  have H0:=Lib.hid h0
  have h0' : (inFault ps != 0) = false:=by simpa using h0
  rw [h0]
  clear h0 h2 h0'
  go_wp2_with fail
  refine (out_any _ _ _ _).mono ?_
  rintro e w2 ⟨rfl,rfl⟩
  by_cases h4 : 0 ≤ f ∧ f ≤ t
  ·have h4' : (decide (f < 0) || decide (t < f)) = false:=by simp; omega
   rw [h4']
   clear h4'
   by_cases h5 : t ≤ 200000
   ·have HC:=Lib.hid ((cutOk_iff f t).2 ⟨h4.1,h4.2,h5⟩)
    obtain ⟨fn,rfl⟩:=Int.eq_ofNat_of_zero_le h4.1
    obtain ⟨tn,rfl⟩:=Int.eq_ofNat_of_zero_le (show 0 ≤ t by omega)
    obtain ⟨h41,h42⟩:=h4
    go_wp2_with fail
    refine (part_any _ _ _ ps fn tn _ (hr.below hb1) (by omega) HP.out (by omega) (by omega) (by omega)).mono ?_
    rintro e w2 ⟨A2,c2,rfl,hown2,hb2⟩
    go_wp2_with fail
    go_ret2
    rw [cutR_ok H0.out HC.out]
    exact ⟨A2,c2,ret2_is rfl (by simp only [cutE,H0.out,HC.out,if_true]; rfl),own_weak hown2 hb1.size,below_up hb1 hb2⟩
   ·have HC : Hid (¬ cutOk f t = true):=Lib.hid (by rw [cutOk_iff]; omega)
    clear h4
    go_wp2_with fail
    go_ret2
    rw [cutR_bad fun h => HC.out h.2]
    exact ⟨none,0,ret2_is rfl (by simp only [cutE,H0.out,HC.out,if_true]; rfl),World.ownsRow_nil _ _ _ _,hb1⟩
  ·have h4' : (decide (f < 0) || decide (t < f)) = true:=by simp; omega
   have HC : Hid (¬ cutOk f t = true):=Lib.hid (by rw [cutOk_iff]; omega)
   rw [h4']
   clear h4' h4
   go_wp2_with fail
   go_ret2
   rw [cutR_bad fun h => HC.out h.2]
   exact ⟨none,0,ret2_is rfl (by simp only [cutE,H0.out,HC.out,if_true]; rfl),World.ownsRow_nil _ _ _ _,hb1⟩
 ·have h0' : (inFault ps != 0) = true:=by simpa using h0
  have H0:=Lib.hid h0
  clear h0
  go_wp2_with fail
  go_ret2
  rw [cutR_bad fun h => H0.out h.1]
  exact ⟨none,0,ret2_is rfl (by simp only [cutE,H0.out,if_false]; rfl),World.ownsRow_nil _ _ _ _,hb1⟩
set_option maxHeartbeats 1000000 in
theorem spliceO_any (A B : Option Addr) (c d lo lo' : Nat) (ps qs : List (Int × Int)) (n : Int) (w : World) (hr : Row w lo 2 A ps.length (prs ps)) (hr' : Row w lo' 2 B qs.length (prs qs)) (hl : ps.length ≤ 1000000000) (hl' : qs.length ≤ 1000000000) :
  Calls Tryz.prog 10 #[.slice A ps.length c,.slice B qs.length d,.int .i64 n] w fun e w' => ∃ A' c',e = .returned (.tuple #[.slice A' (spR ps qs n).length c',.int .i64 (spcE ps qs n)]) ∧ w'.ownsRow w.heap.size 39 2 (.slice A' (spR ps qs n).length c') (spR ps qs n).length (prs (spR ps qs n)) ∧ Below w.heap.size w w':=by
 go_enter Tryz.func10,Tryz.ntmps10
 go_wp2_with fail
 refine (checkInput_any _ _ _ ps _ hr hl).mono ?_
 rintro e w1 ⟨rfl,hb1⟩
 go_wp2_with fail
 refine (checkInput_any _ _ _ qs _ (hr'.below hb1) hl').mono ?_
 rintro e w2 ⟨rfl,hb2⟩
 have hb12:=below_up hb1 hb2
 have z12:=hb12.size
 go_wp2_with fail
 refine (first_any _ _ w.heap.size [inFault ps,inFault qs] _ (by first | exact row_new' _ (by first | rfl | simp) (by first | omega | (simp; omega)) rfl | exact row_newN _ _ (by first | rfl | simp) (by first | omega | (simp; omega)) rfl | exact row_newD _ (by first | rfl | simp) (by first | omega | (simp; omega)) rfl) (by simp)).mono ?_
 rintro e w3 ⟨rfl,rfl⟩
 by_cases h0 : firstE [inFault ps,inFault qs] = 0
 ·obtain ⟨hp0,hq0⟩:=two_ok h0
  obtain ⟨p1,p2,p3⟩:=inFault_ok hp0
  obtain ⟨q1,q2,q3⟩:=inFault_ok hq0
  have HP:=Lib.hid (show ∀ p ∈ ps,0 ≤ p.2 from fun p hp => by have:=p2 p hp; omega)
  have HQ:=Lib.hid (show ∀ p ∈ qs,0 ≤ p.2 from fun p hp => by have:=q2 p hp; omega)
  have hup : (unf ps).length ≤ 200000:=by have:=unf_len ps HP.out; omega
  have huq:=unf_len qs HQ.out
  have H0:=Lib.hid h0
  have h0' : (firstE [inFault ps,inFault qs] != 0) = false:=by simpa using h0
  rw [h0]
  clear h0 h0' p2 q2 hp0 hq0
  have hbx : Below w.heap.size w (w2.alloc (.cells #[.int .i64 (inFault ps),.int .i64 (inFault qs)] 30)):=hb12.alloc z12 _
  have hrx:=(hr.below hb12).alloc (.cells #[.int .i64 (inFault ps),.int .i64 (inFault qs)] 30)
  have hrx':=(hr'.below hb12).alloc (.cells #[.int .i64 (inFault ps),.int .i64 (inFault qs)] 30)
  go_wp2_with fail
  refine (out_any _ _ _ _).mono ?_
  rintro e w3 ⟨rfl,rfl⟩
  by_cases h4 : 0 ≤ n ∧ n ≤ 200000
  ·have h4' : (decide (n < 0) || decide (200000 < n)) = false:=by simp; omega
   have H4:=Lib.hid (span_ok h4)
   rw [h4']
   obtain ⟨m,rfl⟩:=Int.eq_ofNat_of_zero_le h4.1
   have hm : m ≤ 200000:=by omega
   clear h4' h4
   have HU:=Lib.hid (splice_unf ps qs m (by simp [cutL]; omega))
   have hcl:=cutL_len (unf ps) 0 m
   have hfl:=foldM_len (cutL (unf ps) 0 m)
   have HFP:=Lib.hid (foldM_pos (cutL (unf ps) 0 m))
   have hfs:=foldM_psum (cutL (unf ps) 0 m)
   have hfs2 : psum (foldM (cutL (unf ps) 0 m)) ≤ m:=by rw [hfs]; simp [cutL]; omega
   have hfs3 : 0 ≤ psum (foldM (cutL (unf ps) 0 m)):=by rw [hfs]; omega
   clear hfs
   go_wp2_with fail
   generalize w2.alloc (.cells #[.int .i64 (inFault ps),.int .i64 (inFault qs)] 30) = w3 at *
   refine (part_any _ _ _ ps 0 m _ hrx (by omega) HP.out (by omega) (by omega) (by omega)).mono ?_
   rintro e w4 ⟨A4,c4,rfl,hown4,hb4⟩
   have hown4':=own_weak hown4 hbx.size
   have hb4x:=below_up hbx hb4
   have hrq4:=hrx'.below hb4
   clear hown4 hbx hrx hrx' hb4 hb1 hb2 hb12
   generalize hP : foldM (cutL (unf ps) 0 m) = P at *
   have HPX:=Lib.hid hP
   clear hP
   go_wp2_with fail
   refine (frames_any _ _ _ P _ (Row.of_own hown4') (by omega) HFP.out (by omega)).mono ?_
   rintro e w5 ⟨rfl,hb5⟩
   have hown5:=own_keep hown4' hb5
   have hb5x:=below_up hb4x hb5
   have hrq5:=hrq4.below hb5
   have z5:=hb5x.size
   clear hown4' hb4x hrq4 hb5
   go_wp2_with (at_builtin; go_must (refine wpList_app (lo:=w.heap.size) (base:=w.heap.size) (n:=P.length) (xs:=prs P) _ _ rfl _ _ ty_prs rfl (by repeat (first | exact hown5 | refine World.ownsRow.alloc ?_ _ | refine own_drewN ?_ _ | refine World.ownsRow.drew ?_)) rfl (by first | exact row_new' _ (by first | rfl | simp) (by first | omega | (simp; omega)) rfl | exact row_newN _ _ (by first | rfl | simp) (by first | omega | (simp; omega)) rfl | exact row_newD _ (by first | rfl | simp) (by first | omega | (simp; omega)) rfl) rfl rfl (by first | omega | decide) (by first | omega | decide) (by first | omega | (simp; omega)) ?_))
   intro A6 c6 w6 hown6 hg6 _
   have hb6x : Below w.heap.size w w6:=below_app hown5 (by repeat (first | exact hb5x | refine Below.alloc ?_ (by first | omega | (simp; omega)) _ | refine below_drewN' ?_ _ | refine Below.drew ?_)) hg6 (Nat.le_refl _) (by simp; omega)
   have z6:=hb6x.size
   clear hown5 hg6 hb5x hrq5
   go_wp2_with (at_builtin; go_must (refine wpList_app _ _ rfl _ _ ty_prs rfl hown6 rfl (hr'.below hb6x) rfl (prs_all _) (by omega) (by omega) z6 ?_))
   intro A7 c7 w7 hown7 hg7 _
   have hb7x : Below w.heap.size w w7:=below_app hown6 hb6x hg7 (Nat.le_refl _) z6
   have hL : ∃ L : List (Int × Int),L = P ++ [(0,(m : Int) - psum P)] ++ qs:=⟨_,rfl⟩
   obtain ⟨L,hL⟩:=hL
   have HLN : Hid (P.length + 1 + qs.length = L.length):=Lib.hid (by rw [hL]; simp; omega)
   have hown8 : w7.ownsRow w.heap.size 39 2 (.slice A7 L.length c7) L.length (prs L):=by
    rw [← HLN.out,hL,prs_app,prs_app]; exact own_cast (by simp [prs]) hown7
   have hLl : L.length ≤ 1000000:=by rw [← HLN.out]; omega
   have HLP : Hid (∀ p ∈ L,0 ≤ p.2):=Lib.hid (by
    rw [hL]
    intro p hp
    simp only [List.mem_append,List.mem_singleton] at hp
    rcases hp with (h1 | h1) | h1
    ·exact HFP.out p h1
    ·subst h1; simp; omega
    ·exact HQ.out p h1)
   have hLs : psum L = (m : Int) + psum qs:=by rw [hL,psum_app,psum_app]; simp [psum]; omega
   have HLU : Hid (foldM (spliced (unf ps) (unf qs) m) = tidyM L):=Lib.hid (by
    rw [← fold_unf L HLP.out,hL,← HU.out])
   have htl:=tidyM_len L
   have HTP:=Lib.hid (tidyM_mem L HLP.out)
   have hts:=tidyM_psum L
   rw [HLN.out]
   clear hown7 hown6 hg7 hL HLN HU HPX HFP hb6x
   go_wp2_with fail
   refine (tidy_any _ _ _ L _ (Row.of_own hown8) (by omega) HLP.out (by omega)).mono ?_
   rintro e w8 ⟨A8,c8,rfl,hown9,hb8⟩
   have hb8x:=below_up hb7x hb8
   have hown9':=own_weak hown9 hb7x.size
   clear hown8 hown9 hb7x hb8
   generalize tidyM L = T at *
   go_wp2_with fail
   refine (frames_any _ _ _ T _ (Row.of_own hown9') (by omega) HTP.out (by omega)).mono ?_
   rintro e w9 ⟨rfl,hb9⟩
   have hb9x:=below_up hb8x hb9
   have hrow9:=own_keep hown9' hb9
   have hts2 : psum T = (m : Int) + ((unf qs).length : Int):=by omega
   have HTS:=Lib.hid hts2
   clear hown9' hb9 hb8x
   by_cases h5 : 200000 < m + (unf qs).length
   ·have HE:=Lib.hid (sqE_long (xs:=unf ps) h5)
    have h5' : 200000 < psum T:=by omega
    clear hts hts2 hLs
    go_wp2_with fail
    go_ret2
    rw [spR_ok H0.out H4.out,spcE_ok H0.out H4.out,Int.toNat_natCast,sqR_bad HE.out,HE.out]
    exact ⟨none,0,rfl,World.ownsRow_nil _ _ _ _,hb9x⟩
   ·have h5' : ¬ 200000 < psum T:=by omega
    have h5d : decide (200000 < psum T) = false:=by simpa using h5'
    clear hts hts2 hLs
    by_cases h6 : 5000 < T.length
    ·have HE:=Lib.hid (sqE_many (xs:=unf ps) (ys:=unf qs) (n:=m) (by rw [HLU.out]; exact h6))
     go_wp2_with fail
     go_ret2
     rw [spR_ok H0.out H4.out,spcE_ok H0.out H4.out,Int.toNat_natCast,sqR_bad HE.out,HE.out]
     exact ⟨none,0,rfl,World.ownsRow_nil _ _ _ _,hb9x⟩
    ·have HE:=Lib.hid (sqE_ok (xs:=unf ps) (ys:=unf qs) (n:=m) h5 (by rw [HLU.out]; exact h6))
     go_wp2_with fail
     go_ret2
     rw [spR_ok H0.out H4.out,spcE_ok H0.out H4.out,Int.toNat_natCast,sqR_ok HE.out,HE.out,HLU.out]
     exact ⟨A8,c8,rfl,hrow9,hb9x⟩
  ·have h4' : (decide (n < 0) || decide (200000 < n)) = true:=by simp; omega
   have H4:=Lib.hid (span_bad h4)
   rw [h4']
   clear h4' h4
   go_wp2_with fail
   go_ret2
   rw [spR_bad (by rw [H4.out]; omega),spE_span H0.out H4.out]
   exact ⟨none,0,rfl,World.ownsRow_nil _ _ _ _,hbx⟩
 ·have h0' : (firstE [inFault ps,inFault qs] != 0) = true:=by simpa using h0
  have H0:=Lib.hid h0
  clear h0
  go_wp2_with fail
  go_ret2
  rw [spR_bad (fun h => H0.out h.1),spcE_bad H0.out]
  exact ⟨none,0,rfl,World.ownsRow_nil _ _ _ _,hb12.alloc z12 _⟩
end Go.Proofs.YtbfphnknkbhpkaaGreatDoor
/- Small laws of a block that is known whole. -/
namespace Go.Proofs.YtbfphnknkbhpkaaGreatDoor
set_option linter.unusedVariables false
set_option linter.unusedSimpArgs false
open Go.RowKit

theorem Blk.thaw {w : World} {g : Nat} {t : TypeId} {cs : Array Value} (h : Blk w g t cs) (i : Nat) : w.frozen? ⟨g,i,none⟩ = false:=by
 have h' : w.heap[g]? = some (.cells cs t (0,0)):=h
 simp [World.frozen?,h']
theorem Blk.poke {w : World} {g : Nat} {t : TypeId} {cs : Array Value} (h : Blk w g t cs) (i : Nat) (u : Value) : Blk (w.setCell ⟨g,i,none⟩ u) g t (cs.setIfInBounds i u):=by
 have h' : w.heap[g]? = some (.cells cs t (0,0)):=h
 unfold Blk
 simp [World.setCell,Array.getElem?_modify,h']
theorem Blk.past {w : World} {g : Nat} {t : TypeId} {cs : Array Value} (h : Blk w g t cs) (k i : Nat) (u : Value) (hne : g ≠ k) : Blk (w.setCell ⟨k,i,none⟩ u) g t cs:=by
 have h' : w.heap[g]? = some (.cells cs t (0,0)):=h
 unfold Blk
 have hne' : ¬ k = g:=fun e => hne e.symm
 simp [World.setCell,Array.getElem?_modify,h',hne']
theorem own_past {w : World} {base size n g : Nat} {e t : TypeId} {v : Value} {xs : List Value} {cs : Array Value} (h : w.ownsRow base e size v n xs) (hb : Blk w g t cs) (hne : e ≠ t) (i : Nat) (u : Value) : (w.setCell ⟨g,i,none⟩ u).ownsRow base e size v n xs:=by
 refine ⟨h.1,?_⟩
 rcases h.2 with h0 | ⟨g',cap,cur,hv,hg,hh,h3⟩
 ·exact .inl h0
 ·have hgg : ¬ g = g':=by
   intro e1
   subst e1
   have h' : w.heap[g]? = some (.cells cs t (0,0)):=hb
   rw [h'] at hh
   injection hh with hh
   injection hh with _ h2
   exact hne h2.symm
  exact .inr ⟨g',cap,cur,hv,hg,by simp [World.setCell,Array.getElem?_modify,hgg,hh],h3⟩
end Go.Proofs.YtbfphnknkbhpkaaGreatDoor
/- A row of rows of bytes, all of the call's own; and what 'make' of a variable size leaves. -/
namespace Go.Proofs.YtbfphnknkbhpkaaGreatDoor
set_option linter.unusedVariables false
set_option linter.unusedSimpArgs false
open Go.RowKit

structure NestU (tI tS : TypeId) (w : World) (base g : Nat) (rows : List (List Int)) : Prop where
  ne : tI ≠ tS
  has : ∃ cs : Array Value, Blk w g tS cs ∧ (∀ i (h : i < rows.length), ∃ A c, cs[i]? = some (.slice A rows[i].length c) ∧ w.ownsRow base tI 1 (.slice A rows[i].length c) rows[i].length (u8s rows[i])) ∧
    (∀ (i j : Nat) (u v : Value) (b : Nat), i < rows.length → j < rows.length → i ≠ j → cs[i]? = some u → cs[j]? = some v → u.ownBlock = some b → v.ownBlock ≠ some b)
section
variable {tI tS : TypeId} {w w' : World} {base g : Nat} {rows : List (List Int)}
theorem NestU.lt (h : NestU tI tS w base g rows) : g < w.heap.size:=by obtain ⟨cs,h1,_⟩:=h.has; exact h1.lt
theorem NestU.frz (h : NestU tI tS w base g rows) (i : Nat) : w.frozen? ⟨g,i,none⟩ = false:=by obtain ⟨cs,h1,_⟩:=h.has; exact h1.thaw i
theorem NestU.below (h : NestU tI tS w base g rows) (hb : Below w.heap.size w w') : NestU tI tS w' base g rows:=by
 obtain ⟨ne,cs,h1,h2,h3⟩:=h
 exact ⟨ne,cs,h1.below hb,fun i hi => let ⟨A,c,a,b⟩:=h2 i hi; ⟨A,c,a,own_keep b hb⟩,h3⟩
theorem NestU.alloc (h : NestU tI tS w base g rows) (o : Obj) : NestU tI tS (w.alloc o) base g rows:=h.below ((Below.refl _ _).alloc (Nat.le_refl _) o)
theorem NestU.drewN (h : NestU tI tS w base g rows) (q : Nat) : NestU tI tS (w.drewN q) base g rows:=by
 obtain ⟨ne,cs,h1,h2,h3⟩:=h
 exact ⟨ne,cs,h1,fun i hi => let ⟨A,c,a,b⟩:=h2 i hi; ⟨A,c,a,b⟩,h3⟩
theorem NestU.row (h : NestU tI tS w base g rows) {i : Nat} (hi : i < rows.length) : ∃ A c,w.cell? ⟨g,i,none⟩ = some (.slice A rows[i].length c) ∧ w.ownsRow base tI 1 (.slice A rows[i].length c) rows[i].length (u8s rows[i]):=by
 obtain ⟨ne,cs,h1,h2,h3⟩:=h
 obtain ⟨A,c,a,b⟩:=h2 i hi
 exact ⟨A,c,by rw [h1.cell]; exact a,b⟩
theorem NestU.push (h : NestU tI tS w base g rows) {i : Nat} (hi : i < rows.length) {A A' : Option Addr} {c c' : Nat} (hc : w.cell? ⟨g,i,none⟩ = some (.slice A rows[i].length c)) {xs : List Int}
  (hg : w.grownBy w' (Value.slice A rows[i].length c).ownBlock) (ho : w'.ownsRow base tI 1 (.slice A' xs.length c') xs.length (u8s xs))
  (hb : (Value.slice A' xs.length c').ownBlock = (Value.slice A rows[i].length c).ownBlock ∨ (Value.slice A' xs.length c').ownBlock = some w.heap.size) : NestU tI tS (w'.setCell ⟨g,i,none⟩ (.slice A' xs.length c')) base g (rows.set i xs):=by
 obtain ⟨ne,cs,h1,h2,h3⟩:=h
 rw [h1.cell] at hc
 obtain ⟨A1,c1,a1,b1⟩:=h2 i hi
 rw [a1] at hc
 injection hc with hc
 injection hc with e1 _ e2
 subst e1 e2
 have k1:=Blk.app b1 h1 hg ne
 have hs : i < cs.size:=(Array.getElem?_eq_some_iff.1 a1).1
 have hget : ∀ j,(cs.setIfInBounds i (.slice A' xs.length c'))[j]? = if i = j then some (.slice A' xs.length c') else cs[j]?:=by
  intro j
  rw [Array.getElem?_setIfInBounds]
  by_cases e : i = j
  ·subst e; simp [hs]
  ·simp [e]
 -- the other rows stand behind other blocks
 have hfar : ∀ j (hj : j < rows.length),i ≠ j → ∀ v b,cs[j]? = some v → v.ownBlock = some b → (Value.slice A' xs.length c').ownBlock ≠ some b:=by
  intro j hj e v b hv hvb hx
  rcases hb with hb | hb
  ·rw [hb] at hx
   exact h3 i j _ _ b hi hj e a1 hv hx hvb
  ·rw [hb] at hx
   injection hx with hx
   obtain ⟨A2,c2,a2,b2⟩:=h2 j hj
   rw [hv] at a2
   injection a2 with a2
   subst a2
   have:=(b2.lt b hvb).2
   omega
 refine ⟨ne,_,Blk.poke k1 i _,fun j hj => ?_,fun i' j' u v b hi' hj' hne hu hv hub => ?_⟩
 ·have hj' : j < rows.length:=by simpa using hj
  rw [hget]
  by_cases e : i = j
  ·subst e
   have : (rows.set i xs)[i] = xs:=by simp
   rw [this,if_pos rfl]
   exact ⟨A',c',rfl,own_past ho k1 ne i _⟩
  ·have : (rows.set i xs)[j] = rows[j]:=by simp [List.getElem_set,e]
   rw [this,if_neg e]
   obtain ⟨A2,c2,a2,b2⟩:=h2 j hj'
   refine ⟨A2,c2,a2,own_past (b2.kept hg ?_) k1 ne i _⟩
   cases hv : (Value.slice A2 rows[j].length c2).ownBlock with
   | none => exact .inl rfl
   | some b =>
    right
    intro he
    exact h3 i j _ _ b hi hj' e a1 a2 he.symm hv
 ·have hi2 : i' < rows.length:=by simpa using hi'
  have hj2 : j' < rows.length:=by simpa using hj'
  rw [hget] at hu hv
  by_cases e1 : i = i'
  ·subst e1
   rw [if_pos rfl] at hu
   injection hu with hu
   subst hu
   rw [if_neg hne] at hv
   intro hvb
   exact hfar j' hj2 hne v b hv hvb hub
  ·rw [if_neg e1] at hu
   by_cases e2 : i = j'
   ·subst e2
    rw [if_pos rfl] at hv
    injection hv with hv
    subst hv
    exact hfar i' hi2 e1 u b hu hub
   ·rw [if_neg e2] at hv
    exact h3 i' j' u v b hi2 hj2 hne hu hv hub
theorem NestU.made {n : Nat} (hne : tI ≠ tS) {cs : Array Value} (h : Blk w g tS cs) (hc : ∀ i,i < n → cs[i]? = some (.slice none 0 0)) : NestU tI tS w base g (List.replicate n []):=by
 refine ⟨hne,cs,h,fun i hi => ?_,fun i j u v b hi hj _ hu hv hub => ?_⟩
 ·have hi' : i < n:=by simpa using hi
  have : (List.replicate n ([] : List Int))[i] = []:=by simp
  rw [this]
  exact ⟨none,0,hc i hi',World.ownsRow_nil _ _ _ _⟩
 ·rw [hc i (by simpa using hi)] at hu
  injection hu with hu
  subst hu
  cases hub
theorem NestU.grown_ (h : NestU tI tS w base g rows) {i : Nat} (hi : i < rows.length) {A : Option Addr} {c : Nat} (hc : w.cell? ⟨g,i,none⟩ = some (.slice A rows[i].length c)) (hg : w.grownBy w' (Value.slice A rows[i].length c).ownBlock) : (∃ cs,Blk w' g tS cs) ∧ ∀ j,w'.cell? ⟨g,j,none⟩ = w.cell? ⟨g,j,none⟩:=by
 obtain ⟨ne,cs,h1,h2,h3⟩:=h
 rw [h1.cell] at hc
 obtain ⟨A1,c1,a1,b1⟩:=h2 i hi
 rw [a1] at hc
 injection hc with hc
 injection hc with e1 _ e2
 subst e1 e2
 have k1:=Blk.app b1 h1 hg ne
 exact ⟨⟨cs,k1⟩,fun j => by rw [k1.cell,h1.cell]⟩
theorem NestU.app {e : TypeId} {size n : Nat} {v : Value} {xs : List Value} {b2 : Nat} (h : NestU tI tS w base g rows) (hown : w.ownsRow b2 e size v n xs) (hg : w.grownBy w' v.ownBlock) (he : e ≠ tS) (hlt : ∀ k,v.ownBlock = some k → k < base) : NestU tI tS w' base g rows:=by
 obtain ⟨ne,cs,h1,h2,h3⟩:=h
 refine ⟨ne,cs,Blk.app hown h1 hg he,fun i hi => ?_,h3⟩
 obtain ⟨A,c,a,b⟩:=h2 i hi
 refine ⟨A,c,a,b.kept hg ?_⟩
 cases hv : (Value.slice A rows[i].length c).ownBlock with
 | none => exact .inl rfl
 | some k =>
  right
  intro he
  have:=hlt k he.symm
  have:=(b.lt k hv).1
  omega
end
end Go.Proofs.YtbfphnknkbhpkaaGreatDoor
/- copy at elements of more than one cell; the walk of slices.Repeat at one pair of numbers. -/
namespace Go.Proofs.YtbfphnknkbhpkaaGreatDoor
set_option linter.unusedVariables false
set_option linter.unusedSimpArgs false
open Go.RowKit

theorem run_copy_rowN {P : Program} (w : World) (dT sT ty elem : TypeId) (g o dLen dCap : Nat) (a : Addr) (sLen sCap : Nat) (cur : Array Value) (t : TypeId) (cs : List Value) (size m : Nat)
  (hu : P.underlying dT = some (.slice elem)) (hs : (P.info? elem).map (·.size) = some size)
  (hg : w.heap[g]? = some (.cells cur t (0,0))) (hm : m = Nat.min sLen dLen) (hn : cs.length = m * size)
  (hsrc : ∀ j v,cs[j]? = some v → w.cell? (a.add j) = some v) (hfit : o + cs.length ≤ cur.size) (h1 : ∀ v ∈ cs,v.oneCell' = true) :
  (Builtin.copy_ #[dT,sT] ty #[.slice (some ⟨g,o,none⟩) dLen dCap,.slice (some a) sLen sCap]).run P w =
   .ok (goInt m) (w.setRow g (cur.toList.take o ++ cs ++ cur.toList.drop (o + cs.length)).toArray):=by
 have hl:=run_loadCells_list (P:=P) w a cs hsrc
 have hst:=run_storeCells_at P g o t cs 0 cur w hg (by simpa using hfit) h1
 cases hq : P.info? elem with
 | none => simp [hq] at hs
 | some i =>
  have hi : i.size = size:=by simpa [hq] using hs
  rw [hn] at hl
  subst hm
  simp [Builtin.copy_,run_underlying hu,Builtin.lenOf,Builtin.firstCells,sizeOf,typeInfo,hq,hi,hl,hst]

theorem wpList_copyN {P : Program} {w : World} {ops : Array Oper} {rest : List Oper} {o : Oper} {a : Act} {Q : Exit → Act → World → Prop} (hgd : o.guard = none) (d s : Operand) (dT sT : TypeId)
  (ho : o.op = .call { callee:=.builtin .copy,args:=#[d,s],argTypes:=#[dT,sT] }) (elem : TypeId) (size m : Nat) (hu : P.underlying dT = some (.slice elem)) (hsz : (P.info? elem).map (·.size) = some size)
  (g off dLen dCap : Nat) (ad : Addr) (sLen sCap : Nat) (hd : a.eval d = .slice (some ⟨g,off,none⟩) dLen dCap) (hs : a.eval s = .slice (some ad) sLen sCap)
  (cur : List Value) (t : TypeId) (hg : w.heap[g]? = some (.cells cur.toArray t (0,0))) (cs : List Value) (hm : m = Nat.min sLen dLen) (hn : cs.length = m * size)
  (hsrc : ∀ j v,cs[j]? = some v → w.cell? (ad.add j) = some v) (hfit : off + cs.length ≤ cur.length) (h1 : ∀ v ∈ cs,v.oneCell' = true) (B : Nat) (w0 : World) (hb : Below B w0 w) (hBg : B ≤ g)
  (h : ∀ w',Hid (w'.heap[g]? = some (.cells (splice cur off cs).toArray t (0,0))) → Below B w0 w' → wpList P ops Q rest (a.put o.dst (goInt m)) w') : wpList P ops Q (o :: rest) a w:=by
 refine wpList_plain hgd fun K hK => ?_
 have hrun:=run_copy_rowN (P:=P) w dT sT o.type elem g off dLen dCap ad sLen sCap cur.toArray t cs size m hu hsz hg hm hn hsrc (by simpa using hfit) h1
 unfold Oper.wp
 simp [execOp,ho,resolve,invoke,builtin,hd,hs,hrun,Result.andThen]
 exact hK _ _ (h _ (show _ = _ by simpa [splice] using setRow_heap w g _ _ t _ hg) (below_setRow hb hBg _))
theorem step_copyN {P : Program} {ops : Array Oper} {o : Oper} {a : Act} {w : World} {K : Act → World → Prop} {Q : Exit → Act → World → Prop} {E : Prop} (hgd : o.guard = none) (d s : Operand) (dT sT : TypeId)
  (ho : o.op = .call { callee:=.builtin .copy,args:=#[d,s],argTypes:=#[dT,sT] }) (elem : TypeId) (size m : Nat) (hu : P.underlying dT = some (.slice elem)) (hsz : (P.info? elem).map (·.size) = some size)
  (g off dLen dCap : Nat) (ad : Addr) (sLen sCap : Nat) (hd : a.eval d = .slice (some ⟨g,off,none⟩) dLen dCap) (hs : a.eval s = .slice (some ad) sLen sCap)
  (cur : List Value) (t : TypeId) (hg : w.heap[g]? = some (.cells cur.toArray t (0,0))) (cs : List Value) (hm : m = Nat.min sLen dLen) (hn : cs.length = m * size)
  (hsrc : ∀ j v,cs[j]? = some v → w.cell? (ad.add j) = some v) (hfit : off + cs.length ≤ cur.length) (h1 : ∀ v ∈ cs,v.oneCell' = true) (B : Nat) (w0 : World) (hb : Below B w0 w) (hBg : B ≤ g)
  (h : ∀ w',Hid (w'.heap[g]? = some (.cells (splice cur off cs).toArray t (0,0))) → Below B w0 w' → K (a.put o.dst (goInt m)) w') :
  if Region.wanted o (yielded ops a.tmps) = true then Oper.wp P o a w K Q else E:=by
 have hw : Region.wanted o (yielded ops a.tmps) = true:=by simp [Region.wanted,hgd]
 rw [if_pos hw]
 have hrun:=run_copy_rowN (P:=P) w dT sT o.type elem g off dLen dCap ad sLen sCap cur.toArray t cs size m hu hsz hg hm hn hsrc (by simpa using hfit) h1
 unfold Oper.wp
 simp [execOp,ho,resolve,invoke,builtin,hd,hs,hrun,Result.andThen]
 exact h _ (show _ = _ by simpa [splice] using setRow_heap w g _ _ t _ hg) (below_setRow hb hBg _)

theorem prs_cons (p : Int × Int) (ps : List (Int × Int)) : prs (p :: ps) = .int .i64 p.1 :: .int .i64 p.2 :: prs ps:=rfl
theorem prs_take (ps : List (Int × Int)) (k : Nat) : (prs ps).take (k * 2) = prs (ps.take k):=by
 induction ps generalizing k with
 | nil => simp [prs]
 | cons p ps ih =>
  cases k with
  | zero => rfl
  | succ k =>
   have e : (k + 1) * 2 = k * 2 + 1 + 1:=by omega
   rw [prs_cons,e,List.take_succ_cons,List.take_succ_cons,ih,List.take_succ_cons,prs_cons]
theorem prs_drop (ps : List (Int × Int)) (k : Nat) : (prs ps).drop (k * 2) = prs (ps.drop k):=by
 induction ps generalizing k with
 | nil => simp [prs]
 | cons p ps ih =>
  cases k with
  | zero => rfl
  | succ k =>
   have e : (k + 1) * 2 = k * 2 + 1 + 1:=by omega
   rw [prs_cons,e,List.drop_succ_cons,List.drop_succ_cons,ih,List.drop_succ_cons]
theorem prs_splice (ps qs : List (Int × Int)) (k : Nat) : splice (prs ps) (k * 2) (prs qs) = prs (splice ps k qs):=by
 unfold splice
 rw [prs_take,prs_len,← Nat.add_mul,prs_drop,prs_app,prs_app]
def repP (p : Int × Int) (n k : Nat) : List (Int × Int):=List.replicate k p ++ List.replicate (n - k) (0,0)
theorem repP_len (p : Int × Int) (n k : Nat) (hk : k ≤ n) : (repP p n k).length = n:=by simp [repP]; omega
theorem repP_splice (p : Int × Int) (n k m : Nat) (_ : k + m ≤ n) : splice (repP p n k) k (List.replicate m p) = repP p n (k + m):=by
 unfold splice repP
 rw [List.take_left' (by simp),List.length_replicate,List.drop_append,List.drop_replicate,List.drop_replicate,List.length_replicate]
 have e1 : k - (k + m) = 0:=by omega
 have e2 : k + m - k = m:=by omega
 have e3 : n - k - m = n - (k + m):=by omega
 rw [e1,e2,e3,List.replicate_zero,List.nil_append,← List.append_assoc,List.replicate_append_replicate]
theorem repP_full (p : Int × Int) (n : Nat) : repP p n n = List.replicate n p:=by simp [repP]
def repC (p : Int × Int) (n k : Nat) : List Value:=prs (repP p n k)
def repS (p : Int × Int) (m : Nat) : List Value:=prs (List.replicate m p)
theorem repC_len (p : Int × Int) (n k : Nat) (hk : k ≤ n) : (repC p n k).length = n * 2:=by rw [repC,prs_len,repP_len p n k hk]
theorem repS_len (p : Int × Int) (m : Nat) : (repS p m).length = m * 2:=by rw [repS,prs_len,List.length_replicate]
theorem repC_splice (p : Int × Int) (n k m : Nat) (h : k + m ≤ n) : splice (repC p n k) (k * 2) (repS p m) = repC p n (k + m):=by rw [repC,repS,prs_splice,repP_splice p n k m h,repC]
theorem repC_none (p : Int × Int) (n : Nat) : repC p n 0 = (madeCells #[.int .i64 0,.int .i64 0] (n * 2)).toList:=by
 apply List.ext_getElem?
 intro j
 by_cases hj : j < n * 2
 ·have h1 : (repC p n 0)[j]? = some (.int .i64 0):=by
   have h0 : repC p n 0 = List.replicate (n * 2) (.int .i64 0):=by
    rw [repC,repP]
    simp only [List.replicate_zero,List.nil_append,Nat.sub_zero]
    clear hj
    induction n with
    | zero => rfl
    | succ n ih =>
     have e : (n + 1) * 2 = n * 2 + 1 + 1:=by omega
     rw [List.replicate_succ,prs_cons,ih,e,List.replicate_succ,List.replicate_succ]
   rw [h0,List.getElem?_replicate,if_pos hj]
  rw [h1]
  have h2 : ((madeCells #[Value.int .i64 0,Value.int .i64 0] (n * 2)).toList)[j]? = some (#[Value.int .i64 0,Value.int .i64 0][j % 2]!):=by
   simp [madeCells,hj]
  rw [h2]
  have : j % 2 = 0 ∨ j % 2 = 1:=by omega
  rcases this with h | h <;> rw [h] <;> rfl
 ·rw [List.getElem?_eq_none (by rw [repC_len p n 0 (by omega)]; omega),List.getElem?_eq_none (by simp [size_madeCells]; omega)]
theorem own_wholeN {w : World} {base : Nat} {e : TypeId} {g n size : Nat} {xs : List Value} (h : w.ownsRow base e size (.slice (some ⟨g,0,none⟩) n n) n xs) : w.heap[g]? = some (.cells xs.toArray e (0,0)):=by
 rcases h.2 with ⟨h0,_⟩ | ⟨g',cap,cur,hv,hg,hh,hcap,hm,hcs,ht⟩
 ·cases h0
 ·injection hv with h1 _ h3
  injection h1 with h1
  injection h1 with h1
  subst h1 h3
  rw [hh]
  rw [List.take_of_length_le (by simp [hcs])] at ht
  subst ht
  simp
theorem own_of_wholeN {w : World} {base : Nat} {e : TypeId} {g n size : Nat} {xs : List Value} (h : w.heap[g]? = some (.cells xs.toArray e (0,0))) (hx : xs.length = n * size) (hb : base ≤ g) (hm : n ≤ 9223372036854775807) : w.ownsRow base e size (.slice (some ⟨g,0,none⟩) n n) n xs :=
 ⟨hx,.inr ⟨g,n,xs.toArray,rfl,hb,h,Nat.le_refl _,by simp only [maxLen]; omega,by simp [hx],by rw [List.take_of_length_le (by simp [hx])]⟩⟩
theorem repC_src {w : World} {g : Nat} {e : TypeId} (p : Int × Int) (n k j : Nat) (v : Value) (m : Nat) (hm : m ≤ k) (hr : w.heap[g]? = some (.cells (repC p n k).toArray e (0,0))) (hv : (repS p m)[j]? = some v) : w.cell? ((⟨g,0,none⟩ : Addr).add j) = some v:=by
 refine World.news_of_block hr j v ?_
 have e1 : repS p m = (repC p n k).take (m * 2):=by
  rw [repS,repC,prs_take,repP,List.take_append_of_le_length (by simp; omega),List.take_replicate]
  congr 2
  omega
 rw [e1] at hv
 have:=(List.getElem?_eq_some_iff.1 hv).1
 rw [List.getElem?_take_of_lt (by simp at this; omega)] at hv
 simpa using hv
theorem sz_far : (Tryz.prog.info? 240).map (·.size) = some 2:=by kernel_rfl
theorem ty_fars : SliceTy Tryz.prog 244 240 2 16:=.mk' Tryz.underlying244 (z:=.agg #[.int .i64 0,.int .i64 0]) (by kernel_rfl) rfl (by decide)
set_option maxRecDepth 100000 in
set_option maxHeartbeats 1000000 in
theorem repeatF_any (A : Option Addr) (c lo : Nat) (p : Int × Int) (n : Nat) (w : World) (hr : Row w lo 2 A 1 (prs [p])) (hn : n ≤ 1000000000) (hn1 : 1 ≤ n) :
  Calls Tryz.prog 193 #[.slice A 1 c,.int .i64 n] w fun e w' => ∃ A' c',e = .returned (.slice A' n c') ∧ w'.ownsRow w.heap.size 240 2 (.slice A' n c') n (prs (List.replicate n p)) ∧ Below w.heap.size w w':=by
 obtain ⟨und,⟨i0,z0,hi0,hz0,hz1,hz2,hz3⟩,_⟩:=ty_fars
 have hz0' : z0 = .agg #[.int .i64 0,.int .i64 0]:=by
  have : (Tryz.prog.info? 240).map (fun i => i.zero) = some (some (.agg #[.int .i64 0,.int .i64 0])):=by kernel_rfl
  rw [hi0] at this
  simp [hz0] at this
  exact this
 subst hz0'
 obtain ⟨sb,so,rfl,_,hsb,hsc⟩:=hr.2 (by omega)
 have hd0 : decide ((n : Int) < 0) = false:=by simp
 have hd1 : decide ((9223372036854775807 : Int) < (n : Int)) = false:=by simp; omega
 go_enter Tryz.func193,Tryz.ntmps193
 go_wp2_with fail
 refine (mul_one' n hn _).mono ?_
 rintro e w' ⟨rfl,rfl⟩
 go_wp2_with (first | (at_make; go_must (refine wpList_make_full _ rfl _ _ 244 rfl w.heap.size 240 i0 _ 2 und hi0 hz0 hz1 .i64 .i64 _ _ n rfl rfl rfl rfl (by rw [hz2]; omega) (by simp only [maxLen]; omega) (Nat.le_refl _) ?_)))
 intro w1 hown1 hg1
 rw [← repC_none p n] at hown1
 have HR0:=Lib.hid (own_wholeN hown1)
 have hb1 : Below w.heap.size w w1:=below_of_grown hg1 (Nat.le_refl _) (fun k hk => by cases hk)
 have hr1:=hr.below hb1
 have hl0:=repC_len p n 0 (by omega)
 have hs1 : ∀ j v,(repS p 1)[j]? = some v → w1.cell? ((⟨sb,so,none⟩ : Addr).add j) = some v:=by
  intro j v hv
  have e : (⟨sb,so,none⟩ : Addr).add j = ⟨sb,so + j,none⟩:=by unfold Addr.add; split <;> simp_all
  rw [e,World.cell?_of_block (hb1.block sb hsb)]
  exact hsc j v hv
 have HS:=Lib.hid hs1
 clear hown1 hs1 hsc
 go_wp2_with (refine wpList_copyN rfl (.tmp 31) (.tmp 32) 244 244 rfl 240 2 1 und sz_far w.heap.size 0 n n ⟨sb,so,none⟩ 1 c rfl rfl (repC p n 0) 240 HR0.out (repS p 1) (by simp only [Nat.min_def]; split <;> omega) (repS_len _ _) HS.out (by rw [repS_len]; omega) (prs_one _) w.heap.size w hb1 (Nat.le_refl _) ?_)
 intro w2 HR1 hb2
 have HR2 : Hid (w2.heap[w.heap.size]? = some (.cells (repC p n 1).toArray 240 (0,0))):=by
  have h1:=HR1.out
  rw [show (0 : Nat) = 0 * 2 from rfl,repC_splice p n 0 1 (by omega),Nat.zero_add] at h1
  exact Lib.hid h1
 clear HR1 HR0 hl0 HS hr hr1
 go_wp2_with fail
 go_loopw [8] (fun i wr => ∃ k : Nat,k ≤ n ∧ 0 < k ∧ i = .int .i64 k ∧ Hid (wr.heap[w.heap.size]? = some (.cells (repC p n k).toArray 240 (0,0))) ∧ Below w.heap.size w wr) (fun i _ => n - (intOf i).toNat)
 case atStart => exact ⟨1,by omega,by omega,rfl,HR2,hb2⟩
 case round =>
  obtain ⟨k,hk,hk1,rfl,HR,hbw⟩:=hrel
  by_cases hlt : k < n
  ·have hl1:=repC_len p n k hk
   have HL1:=Lib.hid hl1
   clear hl1
   have hnk : ¬ n = k:=by omega
   have hw1 : IntKind.i64.wrap ((k : Int) + ((min k (n - k) : Nat) : Int)) = (k : Int) + ((min k (n - k) : Nat) : Int):=IntWalk.i64_in _ ⟨by omega,by omega⟩
   generalize hm : min k (n - k) = m at hw1
   have HM:=Lib.hid hm
   clear hm
   go_wp2_with fail
   go_region_law (refine step_copyN rfl (.tmp 41) (.tmp 44) 244 244 rfl 240 2 m und sz_far w.heap.size (k * 2) (n - k) (n - k) ⟨w.heap.size,0,none⟩ k n (by simp [Act.eval,Act.put,hnk]) (by simp [Act.eval,Act.put]) (repC p n k) 240 HR.out (repS p m) (by have:=HM.out; simp only [Nat.min_def] at this ⊢; exact this.symm) (repS_len _ _) (fun j v hv => repC_src p n k j v m (by have:=HM.out; omega) HR.out hv) (by rw [repS_len,HL1.out]; have:=HM.out; omega) (prs_one _) w.heap.size w hbw.drew (Nat.le_refl _) ?_; intro w3 HR3 hb3)
   have HR4 : Hid (w3.heap[w.heap.size]? = some (.cells (repC p n (k + m)).toArray 240 (0,0))):=by
    have h1:=HR3.out
    rw [repC_splice p n k m (by have:=HM.out; omega)] at h1
    exact Lib.hid h1
   clear HR3
   go_wp2_with fail
   go_frame
   clear hw1
   have:=HM.out
   go_roundw
   case rel =>
    refine ⟨_,_,_,_,_,_,_,_,_,_,_,_,_,_,?_,rfl⟩
    exact ⟨k + m,by omega,by omega,by simp,HR4,hb3⟩
   case measure => simp [intOf]; omega
  ·have hkn : k = n:=by omega
   subst hkn
   go_wp2_with fail
   go_ret
   refine ⟨_,_,rfl,?_,hbw⟩
   have:=own_of_wholeN (base:=w.heap.size) (size:=2) HR.out (repC_len _ _ _ (Nat.le_refl _)) (Nat.le_refl _) (by omega)
   rw [repC,repP_full] at this
   exact this
end Go.Proofs.YtbfphnknkbhpkaaGreatDoor
/- The walks of what checks a video: greatest common divisors, multiples, frames, CheckVideo and its reference. -/
namespace Go.Proofs.YtbfphnknkbhpkaaGreatDoor
set_option linter.unusedVariables false
set_option linter.unusedSimpArgs false
open Go.RowKit

set_option maxHeartbeats 400000 in
theorem gcd_any (x y : Nat) (w : World) (hx : x ≤ 9223372036854775807) (hy : y ≤ 9223372036854775807) :
  Calls Tryz.prog 152 #[.int .i64 x,.int .i64 y] w fun e w' => e = .returned (.int .i64 (Nat.gcd x y : Int)) ∧ ∃ q,w' = w.drewN q:=by
 go_enter Tryz.func152,Tryz.ntmps152
 go_wp2_with fail
 go_loopw [0,1] (fun a b wr => ∃ (p r q : Nat),a = .int .i64 p ∧ b = .int .i64 r ∧ p ≤ 9223372036854775807 ∧ r ≤ 9223372036854775807 ∧ Hid (Nat.gcd p r = Nat.gcd x y) ∧ wr = w.drewN q) (fun _ b _ => (intOf b).toNat)
 case atStart => exact ⟨x,y,0,rfl,rfl,hx,hy,Lib.hid rfl,rfl⟩
 case round =>
  obtain ⟨p,r,q,rfl,rfl,hp,hr,hg,rfl⟩:=hrel
  by_cases h0 : r = 0
  ·have h0' : ((r : Int) != 0) = false:=by simp [h0]
   have HG : Hid (p = Nat.gcd x y):=Lib.hid (by rw [← hg.out,h0,Nat.gcd_zero_right])
   clear h0
   go_wp2_with fail
   go_ret
   exact ⟨ret_int' (by rw [← HG.out]),_,rfl⟩
  ·have h0' : ((r : Int) != 0) = true:=by simp; omega
   have h0'' : ((r : Int) == 0) = false:=by simp; omega
   have HG : Hid (Nat.gcd r (p % r) = Nat.gcd x y):=Lib.hid (by rw [← hg.out,Nat.gcd_comm r (p % r),← Nat.gcd_rec r p,Nat.gcd_comm])
   have hm : p % r < r:=Nat.mod_lt _ (by omega)
   have hr1 : 1 ≤ (r : Int):=by omega
   go_wp2_with fail
   go_quiet (fail)
   go_wp2_with fail
   go_roundw
   case rel => exact ⟨r,p % r,_,rfl,by simp,hr,by omega,HG,World.drewN_drewN _ _ _⟩
   case measure => simp [intOf]; omega

set_option maxHeartbeats 400000 in
theorem lowest_any (x y : Nat) (w : World) (hx : x ≤ 9223372036854775807) (hy : y ≤ 9223372036854775807) :
  Calls Tryz.prog 137 #[.agg #[.int .i64 x,.int .i64 y]] w fun e w' => e = .returned (.bool (Nat.gcd x y == 1)) ∧ Below w.heap.size w w':=by
 go_enter Tryz.func137,Tryz.ntmps137
 go_wp2_with fail
 go_quiet (fail)
 go_wp2_with fail
 go_loopw [3,4] (fun a b wr => ∃ (p r : Nat),a = .int .u64 p ∧ b = .int .u64 r ∧ p ≤ 9223372036854775807 ∧ r ≤ 9223372036854775807 ∧ Hid (Nat.gcd p r = Nat.gcd x y) ∧ Below w.heap.size w wr) (fun _ b _ => (intOf b).toNat)
 case atStart => exact ⟨x,y,rfl,rfl,hx,hy,Lib.hid rfl,below_drewN' ((Below.refl _ _).alloc (Nat.le_refl _) _) _⟩
 case round =>
  obtain ⟨p,r,rfl,rfl,hp,hr,hg,hbw⟩:=hrel
  by_cases h0 : r = 0
  ·have h0' : ((r : Int) != 0) = false:=by simp [h0]
   have HG : Hid (p = Nat.gcd x y):=Lib.hid (by rw [← hg.out,h0,Nat.gcd_zero_right])
   clear h0
   go_wp2_with fail
   go_ret
   refine ⟨ret_bool' ?_,hbw⟩
   rw [← HG.out,Bool.eq_iff_iff]
   simp
   omega
  ·have h0' : ((r : Int) != 0) = true:=by simp; omega
   have h0'' : ((r : Int) == 0) = false:=by simp; omega
   have HG : Hid (Nat.gcd r (p % r) = Nat.gcd x y):=Lib.hid (by rw [← hg.out,Nat.gcd_comm r (p % r),← Nat.gcd_rec r p,Nat.gcd_comm])
   have hm : p % r < r:=Nat.mod_lt _ (by omega)
   have hr1 : 1 ≤ (r : Int):=by omega
   go_wp2_with fail
   go_quiet (fail)
   go_wp2_with fail
   go_roundw
   case rel => exact ⟨r,p % r,rfl,by simp,hr,by omega,HG,below_drewN' hbw _⟩
   case measure => simp [intOf]; omega

set_option maxHeartbeats 1000000 in
theorem multiple_any (A : Option Addr) (c lo : Nat) (v : List St) (w : World) (hr : Row w lo 3 A v.length (trs v)) (hl : v.length ≤ 1000000000) (hf : ∀ s ∈ v,1 ≤ s.2.1 ∧ s.2.1 ≤ 1001000) :
  Calls Tryz.prog 124 #[.slice A v.length c] w fun e w' => e = .returned (.int .i64 (multK v)) ∧ Below w.heap.size w w':=by
 have HF:=Lib.hid hf
 clear hf
 go_enter Tryz.func124,Tryz.ntmps124
 go_wp2_with fail
 go_loopw [3,8] (fun n i wr => ∃ k : Nat,k ≤ v.length ∧ i = .int .i64 k ∧ n = .int .i64 (multK (v.take k)) ∧ Below w.heap.size w wr) (fun _ i _ => v.length - (intOf i).toNat)
 case atStart => exact ⟨0,Nat.zero_le _,rfl,rfl,Below.refl _ _⟩
 case round =>
  obtain ⟨k,hk,rfl,rfl,hbw⟩:=hrel
  by_cases hlt : k < v.length
  ·obtain ⟨b,off,rfl,_,hbs,c0,c1,c2⟩:=(hr.below hbw).tr_at hlt
   have HT:=Lib.hid (multK_take v k hlt)
   obtain ⟨m1,m2⟩:=multK_bd (v.take k) fun s hs => HF.out s (List.mem_of_mem_take hs)
   obtain ⟨n1,n2⟩:=HF.out v[k] (List.getElem_mem _)
   have hbd:=mstep_bd m1 m2 n1 n2
   generalize multK (v.take k) = M at *
   obtain ⟨x,rfl⟩:=Int.eq_ofNat_of_zero_le (show 0 ≤ M by omega)
   obtain ⟨y,hy⟩:=Int.eq_ofNat_of_zero_le (show 0 ≤ v[k].2.1 by omega)
   rw [hy] at c1 n1 n2
   by_cases hx : x ≤ 100000000
   ·have HE : Hid (mstep x v[k] = (x : Int) / (Nat.gcd x y : Int) * (y : Int)):=Lib.hid (by
     unfold mstep gcdI
     rw [if_pos (by omega),hy,Int.toNat_natCast,Int.toNat_natCast])
    rw [HE.out] at hbd
    obtain ⟨b1,b2⟩:=hbd
    have g1 : 1 ≤ Nat.gcd x y:=Nat.gcd_pos_of_pos_left _ (by omega)
    have g1' : (1 : Int) ≤ (Nat.gcd x y : Int):=by omega
    have g0 : ((Nat.gcd x y : Int) == 0) = false:=by simp; omega
    have q0 : 0 ≤ (x : Int) / (Nat.gcd x y : Int):=Int.ediv_nonneg (by omega) (by omega)
    have q1 : (x : Int) / (Nat.gcd x y : Int) ≤ (x : Int):=Int.ediv_le_self _ (by omega)
    have wr1 : IntKind.i64.wrap ((x : Int) / (Nat.gcd x y : Int)) = (x : Int) / (Nat.gcd x y : Int):=IntWalk.i64_in _ ⟨by omega,by omega⟩
    have wr2 : IntKind.i64.wrap ((x : Int) / (Nat.gcd x y : Int) * (y : Int)) = (x : Int) / (Nat.gcd x y : Int) * (y : Int):=IntWalk.i64_in _ ⟨by omega,by omega⟩
    clear hy
    go_wp2_with fail
    go_quiet ((go_at_call 152; exact Calls.quiet_of (gcd_any x y _ (by omega) (by omega))))
    clear wr1 wr2
    go_wp2_with fail
    go_roundw
    case rel => exact ⟨k + 1,by omega,by go_num,by rw [HT.out,HE.out],below_drewN' (hbw.alloc hbw.size _) _⟩
    case measure => simp [intOf]; omega
   ·have HE : Hid (mstep x v[k] = x):=Lib.hid (mstep_mono (by omega))
    clear hbd hy
    go_wp2_with fail
    go_roundw
    case rel => exact ⟨k + 1,by omega,by go_num,by rw [HT.out,HE.out],hbw.alloc hbw.size _⟩
    case measure => simp [intOf]; omega
  ·go_wp2_with fail
   go_ret
   exact ⟨ret_int' (by rw [List.take_of_length_le (by omega)]),hbw⟩

set_option maxHeartbeats 400000 in
theorem vframes_any (A : Option Addr) (c lo : Nat) (v : List St) (w : World) (hr : Row w lo 3 A v.length (trs v)) (hl : v.length ≤ 1000000000) (hb : ∀ s ∈ v,0 ≤ s.1) (hs : fsum v ≤ 1000000000000000) :
  Calls Tryz.prog 54 #[.slice A v.length c] w fun e w' => e = .returned (.int .i64 (fsum v)) ∧ Below w.heap.size w w':=by
 go_enter Tryz.func54,Tryz.ntmps54
 go_wp2_with fail
 go_loopw [3,8] (fun n i wr => ∃ k : Nat,k ≤ v.length ∧ i = .int .i64 k ∧ n = .int .i64 (fsum (v.take k)) ∧ Below w.heap.size w wr) (fun _ i _ => v.length - (intOf i).toNat)
 case atStart => exact ⟨0,Nat.zero_le _,rfl,rfl,Below.refl _ _⟩
 case round =>
  obtain ⟨k,hk,rfl,rfl,hbw⟩:=hrel
  by_cases hlt : k < v.length
  ·obtain ⟨b,off,rfl,_,hbs,c0,c1,c2⟩:=(hr.below hbw).tr_at hlt
   have ht:=fsum_take v k hlt
   have h1:=fsum_take_le v k hb
   have h2:=fsum_take_le v (k + 1) hb
   have HT:=Lib.hid ht
   rw [ht] at h2
   clear ht
   go_wp2_with fail
   go_roundw
   case rel => exact ⟨k + 1,by omega,by go_num,by rw [HT.out],hbw.alloc hbw.size _⟩
   case measure => simp [intOf]; omega
  ·go_wp2_with fail
   go_ret
   exact ⟨ret_int' (by rw [List.take_of_length_le (by omega)]),hbw⟩

end Go.Proofs.YtbfphnknkbhpkaaGreatDoor
