/- Texts of this seat, laid together: Rep InpB InpC InpD Blk InpE InpF InpG InpH InpI Ck GmN Nest RepF EvA EvB EvC EvD EvE MkA MkB MkC. -/
import Derived.Laws.CopyOwn
import Derived.StillTailTactics
import Derived.Maps.RangeWalk
import Derived.Shelf.Bits.Mul64
import Derived.Test.YtkchacgkjdeiaaaGreatDoorBf03
import Derived.Test.YtkchacgkjdeiaaaGreatDoorBf00
/- The walk of slices.Repeat at one element: a row of n equal numbers, by doubling copies. -/
set_option linter.unusedVariables false
set_option linter.unusedSimpArgs false
namespace Go.Proofs.YtkchacgkjdeiaaaGreatDoor
open Go.RowKit

set_option maxHeartbeats 1000000 in
theorem mul64_one (n : Nat) (hn : n ≤ 1000000000) (w : World) :
  Calls Tryz.prog 102 #[.int .u64 1,.int .u64 n] w fun e w' => e = .returned (.tuple #[.int .u64 0,.int .u64 n]) ∧ w = w':=by
 have h1 : bits .and .u64 (n : Int) 4294967295 = (n : Int):=by rw [Go.Proofs.Mul64.maskN n (by omega)]; omega
 have h2 : bits .and .u64 1 4294967295 = 1:=by decide
 have h3 : (n : Int) / 4294967296 = 0:=by omega
 have h4 : bits .and .u64 0 4294967295 = 0:=by decide
 go_enter Tryz.func102,Tryz.ntmps102
 go_wp2
 go_ret2;exact ⟨rfl,rfl⟩

set_option maxHeartbeats 1000000 in
theorem mul_one' (n : Nat) (hn : n ≤ 1000000000) (w : World) :
  Calls Tryz.prog 63 #[.int .u64 1,.int .u64 n] w fun e w' => e = .returned (.tuple #[.int .u64 0,.int .u64 n]) ∧ w = w':=by
 go_enter Tryz.func63,Tryz.ntmps63
 go_wp2_with fail;refine (mul64_one n hn _).mono ?_;rintro e w' ⟨rfl,rfl⟩;go_wp2_with fail;go_ret2;exact ⟨rfl,rfl⟩

theorem splice_rep (u : Value) (n k m : Nat) (z : Value) (_ : k + m ≤ n) : splice (List.replicate k u ++ List.replicate (n - k) z) k (List.replicate m u) = List.replicate (k + m) u ++ List.replicate (n - (k + m)) z:=by
 unfold splice;rw [List.take_left' (by simp),List.length_replicate,List.drop_append,List.drop_replicate,List.drop_replicate,List.length_replicate]
 have e1 : k - (k + m) = 0:=by omega
 have e2 : k + m - k = m:=by omega
 have e3 : n - k - m = n - (k + m):=by omega
 rw [e1,e2,e3,List.replicate_zero,List.nil_append,← List.append_assoc,List.replicate_append_replicate]

theorem own_whole {w : World} {base : Nat} {e : TypeId} {g n : Nat} {xs : List Value} (h : w.ownsRow base e 1 (.slice (some ⟨g,0,none⟩) n n) n xs) : w.heap[g]? = some (.cells xs.toArray e (0,0)):=by
 rcases h.2 with ⟨h0,_⟩ | ⟨g',cap,cur,hv,hg,hh,hcap,hm,hcs,ht⟩
 ·cases h0
 ·injection hv with h1 _ h3
  injection h1 with h1;injection h1 with h1;subst h1 h3;rw [hh];rw [List.take_of_length_le (by simp [hcs])] at ht;subst ht
  simp
theorem own_of_whole {w : World} {base : Nat} {e : TypeId} {g n : Nat} {xs : List Value} (h : w.heap[g]? = some (.cells xs.toArray e (0,0))) (hx : xs.length = n) (hb : base ≤ g) (hm : n ≤ 9223372036854775807) : w.ownsRow base e 1 (.slice (some ⟨g,0,none⟩) n n) n xs :=
 ⟨by simp [hx],.inr ⟨g,n,xs.toArray,rfl,hb,h,Nat.le_refl _,by simp only [maxLen]; omega,by simp [hx],by rw [List.take_of_length_le (by simp [hx])]⟩⟩

theorem sz_int : (Tryz.prog.info? 3).map (·.size) = some 1:=by kernel_rfl
def repRow (h : Int) (n k : Nat) : List Value:=List.replicate k (Value.int .i64 h) ++ List.replicate (n - k) (Value.int .i64 0)
def reps (h : Int) (m : Nat) : List Value:=List.replicate m (Value.int .i64 h)
theorem reps_len (h : Int) (m : Nat) : (reps h m).length = m:=by simp [reps]
theorem reps_one (h : Int) (m : Nat) : ∀ v ∈ reps h m,v.oneCell' = true:=fun v hv => by rw [List.eq_of_mem_replicate hv]; rfl
theorem repRow_len (h : Int) (n k : Nat) (hk : k ≤ n) : (repRow h n k).length = n:=by simp [repRow]; omega
theorem splice_row (h : Int) (n k m : Nat) (hk : k + m ≤ n) : splice (repRow h n k) k (reps h m) = repRow h n (k + m):=splice_rep _ n k m _ hk
theorem repRow_at (h : Int) (n k j : Nat) (v : Value) (m : Nat) (hm : m ≤ k) (hv : (reps h m)[j]? = some v) : (repRow h n k)[j]? = some v:=by
 have hj : j < m:=by simpa [reps] using (List.getElem?_eq_some_iff.1 hv).1
 have h1 : v = .int .i64 h:=by simpa [reps,List.getElem?_replicate,hj] using hv.symm
 subst h1
 simp [repRow,List.getElem?_append,show j < k by omega]
theorem rep_src {w : World} {g : Nat} {e : TypeId} (h : Int) (n k j : Nat) (v : Value) (m : Nat) (hm : m ≤ k) (hr : w.heap[g]? = some (.cells (repRow h n k).toArray e (0,0))) (hv : (reps h m)[j]? = some v) : w.cell? ((⟨g,0,none⟩ : Addr).add j) = some v :=
 World.news_of_block hr j v (by simpa using repRow_at h n k j v m hm hv)
theorem repRow_full (h : Int) (n : Nat) : repRow h n n = List.replicate n (Value.int .i64 h):=by simp [repRow]
theorem repRow_none (h : Int) (n : Nat) : repRow h n 0 = List.replicate n (Value.int .i64 0):=by simp [repRow]

set_option maxRecDepth 100000 in
set_option maxHeartbeats 400000 in
theorem repeat_any (A : Option Addr) (c lo : Nat) (h : Int) (n : Nat) (w : World) (hr : Row w lo 1 A 1 [.int .i64 h]) (hn : n ≤ 1000000000) :
  Calls Tryz.prog 92 #[.slice A 1 c,.int .i64 n] w fun e w' => ∃ A' c',e = .returned (.slice A' n c') ∧ w'.ownsRow w.heap.size 3 1 (.slice A' n c') n (List.replicate n (.int .i64 h)) ∧ Below w.heap.size w w':=by
 obtain ⟨und,⟨i0,z0,hi0,hz0,hz1,hz2,hz3⟩,_⟩:=ty_ints
 have hz0' : z0 = .int .i64 0:=by
  have : (Tryz.prog.info? 3).map (fun i => i.zero) = some (some (.int .i64 0)):=by kernel_rfl
  rw [hi0] at this
  simp [hz0] at this
  exact this
 subst hz0'
 have hd0 : decide ((n : Int) < 0) = false:=by simp
 have hd1 : decide ((9223372036854775807 : Int) < (n : Int)) = false:=by simp; omega
 go_enter Tryz.func92,Tryz.ntmps92
 go_wp2_with fail;refine (mul_one' n hn _).mono ?_;rintro e w' ⟨rfl,rfl⟩
 go_wp2_with (first | (at_make; go_must (refine wpList_make_full _ rfl _ _ 22 rfl w.heap.size 3 i0 _ 1 und hi0 hz0 hz1 .i64 .i64 _ _ n rfl rfl rfl rfl (by rw [hz2]; omega) (by simp only [maxLen]; omega) (Nat.le_refl _) ?_)))
 intro w1 hown1 hg1;rw [toList_madeCells_one] at hown1;rw [← repRow_none h n] at hown1;have HR0:=Lib.hid (own_whole hown1);have hb1 : Below w.heap.size w w1:=below_of_grown hg1 (Nat.le_refl _) (fun k hk => by cases hk);have hr1:=hr.below hb1;have hl0:=repRow_len h n 0 (by omega);clear hown1
 go_wp2_with (refine wpList_copy_splice rfl (.tmp 31) (.tmp 32) 22 22 rfl 3 und sz_int _ _ _ _ _ _ rfl rfl w.heap.size 0 (repRow h n 0) 3 HR0.out (reps h (min 1 n)) (by rw [reps_len]) ?_ (by rw [reps_len]; omega) (reps_one _ _) w.heap.size w hb1 (Nat.le_refl _) ?_)
 ·intro _
  obtain ⟨b,off,rfl,_,hbs,hc⟩:=hr1.2 (by omega);refine ⟨⟨b,off,none⟩,rfl,fun j v hv => ?_⟩
  have hj : j < min 1 n:=by simpa [reps] using (List.getElem?_eq_some_iff.1 hv).1
  have hj0 : j = 0:=by omega
  subst hj0
  have : v = .int .i64 h:=by simpa [reps,List.getElem?_replicate,hj] using hv.symm
  rw [this];exact hc 0 _ rfl
 ·intro w2 HR1 hb2
  have HR2 : Hid (w2.heap[w.heap.size]? = some (.cells (repRow h n (min 1 n)).toArray 3 (0,0))):=by
   have h1:=HR1.out;rw [splice_row h n 0 (min 1 n) (by omega),Nat.zero_add] at h1;exact Lib.hid h1
  have HL : Hid ((reps h (min 1 n)).length = min 1 n):=Lib.hid (reps_len _ _);clear HR1 HR0 hl0;go_wp2_with fail
  go_loopw [8] (fun i wr => ∃ k : Nat,k ≤ n ∧ (n ≤ k ∨ 0 < k) ∧ i = .int .i64 k ∧ Hid (wr.heap[w.heap.size]? = some (.cells (repRow h n k).toArray 3 (0,0))) ∧ Below w.heap.size w wr) (fun i _ => n - (intOf i).toNat)
  case atStart => exact ⟨min 1 n,by omega,by omega,by first | (rw [HL.out]; done) | rfl,HR2,hb2⟩
  case round =>
   obtain ⟨k,hk,hk0,rfl,HR,hbw⟩:=hrel
   by_cases hlt : k < n
   ·have hk1 : 0 < k:=by omega
    clear hk0;have hl1:=repRow_len h n k hk;have HL1:=Lib.hid hl1;clear hl1
    have hnk : ¬ n = k:=by omega
    have hw1 : IntKind.i64.wrap ((k : Int) + ((reps h (min k (n - k))).length : Int)) = (k : Int) + ((reps h (min k (n - k))).length : Int):=by rw [reps_len]; exact IntWalk.i64_in _ ⟨by omega,by omega⟩
    go_wp2_with fail
    go_region_law (refine step_copy_splice rfl (.tmp 41) (.tmp 44) 22 22 rfl 3 und sz_int (some ⟨w.heap.size,k,none⟩) (some ⟨w.heap.size,0,none⟩) (n - k) (n - k) k n (by simp [Act.eval,Act.put,hnk]) (by simp [Act.eval,Act.put]) w.heap.size k (repRow h n k) 3 HR.out (reps h (min k (n - k))) (by rw [reps_len]) (fun _ => ⟨rfl,_,rfl,fun j v hv => rep_src h n k j v (min k (n - k)) (by omega) HR.out hv⟩) (by rw [reps_len,HL1.out]; omega) (reps_one _ _) w.heap.size w hbw.drew (Nat.le_refl _) ?_; intro w3 HR3 hb3)
    have HR4 : Hid (w3.heap[w.heap.size]? = some (.cells (repRow h n (k + min k (n - k))).toArray 3 (0,0))):=by
     have h1:=HR3.out;rw [splice_row h n k (min k (n - k)) (by omega)] at h1;exact Lib.hid h1
    clear HR3;go_wp2_with fail
    go_frame
    clear hw1;go_roundw
    case rel =>
     refine ⟨_,_,_,_,_,_,_,_,_,_,_,_,_,_,?_,rfl⟩;exact ⟨k + min k (n - k),by omega,by omega,by simp [reps_len],HR4,hb3⟩
    case measure => simp [intOf,reps_len]; omega
   ·have hkn : k = n:=by omega
    subst hkn;go_wp2_with fail;go_ret;refine ⟨_,_,rfl,?_,hbw⟩;rw [← repRow_full];exact own_of_whole HR.out (repRow_len _ _ _ (Nat.le_refl _)) (Nat.le_refl _) (by omega)
end Go.Proofs.YtkchacgkjdeiaaaGreatDoor
/- The walks of what folds and unfolds an input: frames, pieces, what is held in a frame. -/
namespace Go.Proofs.YtkchacgkjdeiaaaGreatDoor
open Go.RowKit

theorem foldM_psum (l : List Int) : psum (foldM l) = l.length:=by
 suffices H : ∀ out : List (Int × Int),psum (l.foldl (fun o h => fadd o h 1) out) = psum out + l.length from by have:=H []; rw [psum_nil,Int.zero_add] at this; exact this
 induction l with
 | nil => intro out; simp
 | cons p ps ih =>
  intro out;rw [List.foldl_cons,ih,fadd_psum]
  simp
  omega

end Go.Proofs.YtkchacgkjdeiaaaGreatDoor
/- The walks of Tidy, Frames, HeldAt and their references, and of slices' Index, Contains and Equal. -/
namespace Go.Proofs.YtkchacgkjdeiaaaGreatDoor
open Go.RowKit

theorem ret2_is {a b c d : Value} (h1 : a = c) (h2 : b = d) : Ending.returned (.tuple #[a,b]) = .returned (.tuple #[c,d]):=by rw [h1,h2]

set_option maxHeartbeats 400000 in
theorem index_any (A : Option Addr) (c lo : Nat) (zs : List Int) (x : Int) (w : World) (hr : Row w lo 1 A zs.length (ints zs)) (hl : zs.length ≤ 1000000000) :
  Calls Tryz.prog 121 #[.slice A zs.length c,.int .i64 x] w fun e w' => ∃ r : Int,e = .returned (.int .i64 r) ∧ (r < 0 ↔ x ∉ zs) ∧ w = w':=by
 go_enter Tryz.func121,Tryz.ntmps121
 go_wp2_with fail
 go_loop [8] (fun i => ∃ k : Nat,k ≤ zs.length ∧ i = .int .i64 k ∧ Hid (∀ y ∈ zs.take k,y ≠ x)) (fun i => zs.length - (intOf i).toNat)
 case atStart => exact ⟨0,Nat.zero_le _,rfl,Lib.hid (by simp)⟩
 case round =>
  obtain ⟨k,hk,rfl,hno⟩:=hrel
  by_cases hlt : k < zs.length
  ·obtain ⟨b,off,rfl,_,hbs,c0⟩:=hr.int_at hlt
   by_cases he : x = zs[k]
   ·have he' : (x == zs[k]) = true:=by simpa using he
    have hm : Hid (x ∈ zs):=Lib.hid (by rw [he]; exact List.getElem_mem _);clear he;go_wp2_with fail;go_ret;exact ⟨_,rfl,⟨fun h => absurd h (by omega),fun h => absurd hm.out h⟩,rfl⟩
   ·have he' : (x == zs[k]) = false:=by simpa using he
    have hn : Hid (∀ y ∈ zs.take (k + 1),y ≠ x):=Lib.hid (by
     intro y hy;rw [List.take_succ_eq_append_getElem hlt] at hy;rcases List.mem_append.1 hy with h1 | h1
     ·exact hno.out y h1
     ·simp at h1; subst h1; exact fun h => he h.symm)
    clear he;go_wp2_with fail;go_round
    case rel => exact ⟨k + 1,by omega,by go_num,hn⟩
    case measure => simp [intOf]; omega
  ·have hm : Hid (x ∉ zs):=Lib.hid (by
    have:=hno.out;rw [List.take_of_length_le (by omega)] at this
    exact fun h => this x h rfl)
   go_wp2_with fail;go_ret;exact ⟨-1,rfl,⟨fun _ => hm.out,fun _ => by omega⟩,rfl⟩

set_option maxHeartbeats 400000 in
theorem contains_any (A : Option Addr) (c lo : Nat) (zs : List Int) (x : Int) (w : World) (hr : Row w lo 1 A zs.length (ints zs)) (hl : zs.length ≤ 1000000000) :
  Calls Tryz.prog 89 #[.slice A zs.length c,.int .i64 x] w fun e w' => e = .returned (.bool (decide (x ∈ zs))) ∧ w = w':=by
 go_enter Tryz.func89,Tryz.ntmps89
 go_wp2_with fail;refine (index_any _ _ _ zs x _ hr hl).mono ?_;rintro e w' ⟨r,rfl,hx,rfl⟩;have HX:=Lib.hid hx;clear hx;go_wp2_with fail;go_ret;refine ⟨ret_bool' ?_,rfl⟩;have h:=HX.out
 by_cases h1 : x ∈ zs
 ·have : 0 ≤ r:=by
   rcases Int.lt_or_le r 0 with h2 | h2
   ·exact absurd h1 (h.1 h2)
   ·exact h2
  simp [h1,this]
 ·have:=h.2 h1
  simp [h1]; omega

def btns : List Int:=[1,2,4,8,16,32]
def btnFault (b : Int) : Int:=if b ∈ btns then 0 else 4

set_option maxHeartbeats 400000 in
theorem buttons_any (w : World) : Calls Tryz.prog 90 #[] w fun e w' => ∃ A c,e = .returned (.slice A btns.length c) ∧ Row w' w.heap.size 1 A btns.length (ints btns) ∧ Below w.heap.size w w':=by
 go_enter Tryz.func90,Tryz.ntmps90
 go_wp2_with fail;go_ret;exact ⟨_,_,rfl,row_new w _ _ _ _ _ (Nat.le_refl _) rfl,(Below.refl _ _).alloc (Nat.le_refl _) _⟩
set_option maxHeartbeats 400000 in
theorem framesF_any (A : Option Addr) (c lo : Nat) (ps : List (Int × Int)) (w : World) (hr : Row w lo 2 A ps.length (prs ps)) (hl : ps.length ≤ 1000000000) :
  Calls Tryz.prog 25 #[.slice A ps.length c] w fun e w' => e = .returned (.tuple #[.int .i64 (framesR ps),.int .i64 (inFault ps)]) ∧ Below w.heap.size w w':=by
 go_enter Tryz.func25,Tryz.ntmps25
 go_wp2_with fail;refine (checkInput_any _ _ _ ps _ hr hl).mono ?_;rintro e w1 ⟨rfl,hb1⟩
 by_cases h0 : inFault ps = 0
 ·obtain ⟨h1,h2,h3⟩:=inFault_ok h0
  have h0' : (inFault ps != 0) = false:=by simpa using h0
  have HF:=Lib.hid (unf_len ps fun p hp => by have:=h2 p hp; omega);have H0:=Lib.hid h0;clear h0;go_wp2_with fail;refine (frames_any _ _ _ ps _ (hr.below hb1) hl (fun p hp => by have:=h2 p hp; omega) (by omega)).mono ?_;rintro e w2 ⟨rfl,hb2⟩;clear h2;go_wp2_with fail;go_ret2;exact ⟨ret2_is (by rw [framesR_ok H0.out,HF.out]; rfl) (by rw [H0.out]; rfl),below_up hb1 hb2⟩
 ·have h0' : (inFault ps != 0) = true:=by simpa using h0
  have H0:=Lib.hid h0;clear h0;go_wp2_with fail;go_ret2;exact ⟨ret2_is (by rw [framesR_bad H0.out]; rfl) rfl,hb1⟩
end Go.Proofs.YtkchacgkjdeiaaaGreatDoor
/- The walks of HeldAt, spread, holds, Presses and their references, and of slices.Equal over pieces. -/
namespace Go.Proofs.YtkchacgkjdeiaaaGreatDoor
open Go.RowKit

theorem span_ok {f lo hi : Int} (h : lo ≤ f ∧ f ≤ hi) : spanFault f lo hi = 0:=by simp [spanFault,h]
def Blk (w : World) (g : Nat) (t : TypeId) (cs : Array Value) : Prop:=w.heap[g]? = some (.cells cs t (0,0))
theorem Blk.lt {w : World} {g : Nat} {t : TypeId} {cs : Array Value} (h : Blk w g t cs) : g < w.heap.size:=(Array.getElem?_eq_some_iff.1 h).1
theorem Blk.cell {w : World} {g : Nat} {t : TypeId} {cs : Array Value} (h : Blk w g t cs) (i : Nat) : w.cell? ⟨g,i,none⟩ = cs[i]?:=cell_of_row w g i cs t (0,0) h
theorem Blk.new (w : World) (t : TypeId) (cs : Array Value) : Blk (w.alloc (.cells cs t)) w.heap.size t cs:=heap_alloc_new w _
theorem Blk.alloc {w : World} {g : Nat} {t : TypeId} {cs : Array Value} (h : Blk w g t cs) (o : Obj) : Blk (w.alloc o) g t cs:=(Below.heap_alloc w o g h.lt).trans h
theorem Blk.drewN {w : World} {g : Nat} {t : TypeId} {cs : Array Value} (h : Blk w g t cs) (q : Nat) : Blk (w.drewN q) g t cs:=h
theorem Blk.drew {w : World} {g : Nat} {t : TypeId} {cs : Array Value} (h : Blk w g t cs) : Blk w.drew g t cs:=h
theorem Blk.below {w w' : World} {g : Nat} {t : TypeId} {cs : Array Value} (h : Blk w g t cs) (hb : Below w.heap.size w w') : Blk w' g t cs:=(hb.block g h.lt).trans h
theorem Blk.app {w1 w2 : World} {g base n size : Nat} {t e : TypeId} {cs : Array Value} {v : Value} {xs : List Value} (hown : w1.ownsRow base e size v n xs) (h : Blk w1 g t cs) (hg : w1.grownBy w2 v.ownBlock) (hne : e ≠ t) : Blk w2 g t cs:=by
 refine (hg.block g h.lt ?_).trans h;rcases hown.2 with ⟨rfl,_⟩ | ⟨g',cap,cur,rfl,_,hh,_⟩
 ·simp [Value.ownBlock]
 ·intro he
  have : g = g':=by simpa [Value.ownBlock] using he
  subst this;unfold Blk at h;rw [hh] at h;injection h with h;injection h with _ h1;exact hne h1

def u8s (xs : List Int) : List Value:=xs.map (Value.int .u8)
theorem u8s_all (zs : List Int) : (u8s zs).all (·.oneCell') = true:=List.all_eq_true.2 (ints_oneCell .u8 zs)
theorem u8s_app (a b : List Int) : u8s (a ++ b) = u8s a ++ u8s b:=by simp [u8s]
theorem Row.u8_at {w : World} {lo : Nat} {A : Option Addr} {zs : List Int} (h : Row w lo 1 A zs.length (u8s zs)) {k : Nat} (hk : k < zs.length) :
  ∃ b off,A = some ⟨b,off,none⟩ ∧ lo ≤ b ∧ b < w.heap.size ∧ w.cell? ⟨b,off + k,none⟩ = some (.int .u8 zs[k]):=by
 obtain ⟨b,off,e,hl,hb,hc⟩:=h.2 (by omega);exact ⟨b,off,e,hl,hb,hc k _ (by simp [u8s,hk])⟩
theorem ty_u8s : SliceTy Tryz.prog 62 5 1 1:=.mk' Tryz.underlying62 (z:=.int .u8 0) (by kernel_rfl) rfl (by decide)

set_option maxHeartbeats 1000000 in
theorem spread_any (A : Option Addr) (c lo : Nat) (ps : List (Int × Int)) (w : World) (hr : Row w lo 2 A ps.length (prs ps)) (hl : ps.length ≤ 1000000000) (hb : ∀ p ∈ ps,0 ≤ p.2) (hv : ∀ p ∈ ps,0 ≤ p.1 ∧ p.1 ≤ 255) (hs : psum ps ≤ 1000000000) :
  Calls Tryz.prog 50 #[.slice A ps.length c] w fun e w' => ∃ A' c',e = .returned (.slice A' (unf ps).length c') ∧ w'.ownsRow w.heap.size 5 1 (.slice A' (unf ps).length c') (unf ps).length (u8s (unf ps)) ∧ Below w.heap.size w w':=by
 obtain ⟨und,⟨i0,z0,hi0,hz0,hz1,hz2,hz3⟩,_⟩:=ty_u8s;have hs0:=psum_nonneg ps hb;obtain ⟨m,hm⟩:=Int.eq_ofNat_of_zero_le hs0
 go_enter Tryz.func50,Tryz.ntmps50
 go_wp2_with fail;refine (frames_any _ _ _ ps _ hr hl hb (by omega)).mono ?_;rintro e w1 ⟨rfl,hb1⟩;rw [hm]
 have hmm : m ≤ 1000000000:=by omega
 have HB:=Lib.hid hb;have HV:=Lib.hid hv;clear hm hs0 hb hv
 go_wp2_with (at_make; go_must (refine wpList_make_own _ rfl _ _ 62 rfl w.heap.size 5 i0 _ 1 und hi0 hz0 hz1 .i64 .i64 _ m rfl rfl rfl (by rw [hz2]; omega) (by simp only [maxLen]; omega) hb1.size ?_))
 intro w2 hown2 hg2;have hb2 : Below w.heap.size w w2:=hb1.grown hg2 hb1.size (fun k hk => by cases hk);clear hg2;go_wp2_with fail
 go_loopw [3,11] (fun v i wr => ∃ (k : Nat) (A' : Option Addr) (c' : Nat),k ≤ ps.length ∧ i = .int .i64 k ∧ v = .slice A' (unf (ps.take k)).length c' ∧ wr.ownsRow w.heap.size 5 1 (.slice A' (unf (ps.take k)).length c') (unf (ps.take k)).length (u8s (unf (ps.take k))) ∧ Below w.heap.size w wr) (fun _ i _ => ps.length - (intOf i).toNat)
 case atStart => exact ⟨0,_,_,Nat.zero_le _,rfl,rfl,hown2,hb2⟩
 case round =>
  obtain ⟨k,A',c',hk,rfl,rfl,hown,hbw⟩:=hrel
  by_cases hlt : k < ps.length
  ·obtain ⟨b,off,rfl,_,hbs,c0,c1⟩:=(hr.below hbw).pr_at hlt
   have HT:=Lib.hid (unf_take ps k hlt);have hb0:=HB.out ps[k] (List.getElem_mem _);obtain ⟨hv0,hv1⟩:=HV.out ps[k] (List.getElem_mem _);obtain ⟨n,hn⟩:=Int.eq_ofNat_of_zero_le hb0;have hu:=unf_len (ps.take k) (fun p hp => HB.out p (List.mem_of_mem_take hp));have hps2:=psum_take_le ps (k + 1) HB.out;have hps:=psum_take_le ps k HB.out;rw [psum_take ps k hlt,hn] at hps2;rw [hn] at c1;rw [← hu] at hps hps2;clear hu;have HT2 : Hid (unf (ps.take (k + 1)) = unf (ps.take k) ++ List.replicate n ps[k].1):=Lib.hid (by rw [HT.out,hn]; rfl);clear HT hn hb0;generalize unf (ps.take k) = o at *;generalize ps[k].1 = x at *;have hz:=hbw.size;go_wp2_with fail
   obtain ⟨wo,rfl⟩ : ∃ wo : World,wo = wr:=⟨_,rfl⟩
   go_loopw [3,17] (fun v i wr => ∃ (j : Nat) (A2 : Option Addr) (c2 : Nat),j ≤ n ∧ i = .int .i64 j ∧ v = .slice A2 (o ++ List.replicate j x).length c2 ∧ wr.ownsRow w.heap.size 5 1 (.slice A2 (o ++ List.replicate j x).length c2) (o ++ List.replicate j x).length (u8s (o ++ List.replicate j x)) ∧ Blk wr wo.heap.size 39 #[.int .i64 x,.int .i64 n] ∧ Below w.heap.size w wr) (fun _ i _ => n - (intOf i).toNat)
   case atStart => exact ⟨0,A',c',Nat.zero_le _,by first | rfl | simp,by simp,by simpa using (by repeat (first | exact hown | refine World.ownsRow.alloc ?_ _ | refine own_drewN ?_ _ | refine World.ownsRow.drew ?_)),Blk.new _ _ _,(by repeat (first | exact hbw | refine Below.alloc ?_ (by first | omega | (simp; omega)) _ | refine below_drewN' ?_ _ | refine Below.drew ?_))⟩
   case round =>
    obtain ⟨j,A2,c2,hj,rfl,rfl,hown3,hblk,hbw3⟩:=hrel;have hcell:=hblk.cell 0;have HJ : Hid (o ++ List.replicate (j + 1) x = (o ++ List.replicate j x) ++ [x]):=Lib.hid (by rw [List.replicate_succ',List.append_assoc])
    have hlj : (o ++ List.replicate j x).length ≤ 1000000000:=by simp; omega
    have hz3:=hbw3.size
    by_cases hjn : j < n
    ·generalize o ++ List.replicate j x = q at *
     go_wp2_with (at_builtin; go_must (refine wpList_app (lo:=w.heap.size) (base:=w.heap.size) (n:=q.length) (xs:=u8s q) _ _ rfl _ _ ty_u8s rfl (by repeat (first | exact hown3 | refine World.ownsRow.alloc ?_ _ | refine own_drewN ?_ _ | refine World.ownsRow.drew ?_)) rfl (by first | exact row_new' _ (by first | rfl | simp) (by first | omega | (simp; omega)) rfl | exact row_newN _ _ (by first | rfl | simp) (by first | omega | (simp; omega)) rfl | exact row_newD _ (by first | rfl | simp) (by first | omega | (simp; omega)) rfl) rfl rfl (by first | omega | decide) (by first | omega | decide) (by first | omega | (simp; omega)) ?_))
     intro A5 c5 w5 hown5 hg5 _;go_wp2_with fail;go_roundw
     case rel => exact ⟨j + 1,A5,c5,by omega,by go_num,by rw [HJ.out]; simp,by rw [HJ.out,u8s_app,List.length_append]; exact hown5,Blk.app (hown3.alloc _) (hblk.alloc _) hg5 (by decide),below_app hown3 (by repeat (first | exact hbw3 | refine Below.alloc ?_ (by first | omega | (simp; omega)) _ | refine below_drewN' ?_ _ | refine Below.drew ?_)) hg5 (Nat.le_refl _) (by simp; omega)⟩
     case measure => simp [intOf]; omega
    ·have HE : Hid (unf (ps.take (k + 1)) = o ++ List.replicate j x):=Lib.hid (by rw [HT2.out,show j = n by omega])
     clear HJ HT2;generalize o ++ List.replicate j x = q at *;go_wp2_with fail;go_roundw
     case rel => exact ⟨k + 1,A2,c2,by omega,by go_num,by rw [HE.out],by rw [HE.out]; exact hown3,hbw3⟩
     case measure => simp [intOf]; omega
  ·have ht : ps.take k = ps:=List.take_of_length_le (by omega)
   rw [ht] at hown;rw [ht];clear ht;go_wp2_with fail;go_ret;exact ⟨A',c',rfl,hown,hbw⟩
end Go.Proofs.YtkchacgkjdeiaaaGreatDoor
/- Small laws of a block that is known whole. -/
namespace Go.Proofs.YtkchacgkjdeiaaaGreatDoor
open Go.RowKit

theorem Blk.thaw {w : World} {g : Nat} {t : TypeId} {cs : Array Value} (h : Blk w g t cs) (i : Nat) : w.frozen? ⟨g,i,none⟩ = false:=by
 have h' : w.heap[g]? = some (.cells cs t (0,0)):=h
 simp [World.frozen?,h']
theorem Blk.poke {w : World} {g : Nat} {t : TypeId} {cs : Array Value} (h : Blk w g t cs) (i : Nat) (u : Value) : Blk (w.setCell ⟨g,i,none⟩ u) g t (cs.setIfInBounds i u):=by
 have h' : w.heap[g]? = some (.cells cs t (0,0)):=h;unfold Blk
 simp [World.setCell,Array.getElem?_modify,h']
theorem Blk.past {w : World} {g : Nat} {t : TypeId} {cs : Array Value} (h : Blk w g t cs) (k i : Nat) (u : Value) (hne : g ≠ k) : Blk (w.setCell ⟨k,i,none⟩ u) g t cs:=by
 have h' : w.heap[g]? = some (.cells cs t (0,0)):=h;unfold Blk
 have hne' : ¬ k = g:=fun e => hne e.symm
 simp [World.setCell,Array.getElem?_modify,h',hne']
theorem own_past {w : World} {base size n g : Nat} {e t : TypeId} {v : Value} {xs : List Value} {cs : Array Value} (h : w.ownsRow base e size v n xs) (hb : Blk w g t cs) (hne : e ≠ t) (i : Nat) (u : Value) : (w.setCell ⟨g,i,none⟩ u).ownsRow base e size v n xs:=by
 refine ⟨h.1,?_⟩;rcases h.2 with h0 | ⟨g',cap,cur,hv,hg,hh,h3⟩
 ·exact .inl h0
 ·have hgg : ¬ g = g':=by
   intro e1;subst e1;have h' : w.heap[g]? = some (.cells cs t (0,0)):=hb;rw [h'] at hh;injection hh with hh;injection hh with _ h2;exact hne h2.symm
  exact .inr ⟨g',cap,cur,hv,hg,by simp [World.setCell,Array.getElem?_modify,hgg,hh],h3⟩
end Go.Proofs.YtkchacgkjdeiaaaGreatDoor
/- The walks of holds, Presses and their references, and of slices.Equal over pieces. -/
namespace Go.Proofs.YtkchacgkjdeiaaaGreatDoor
open Go.RowKit

theorem ty_holds : SliceTy Tryz.prog 179 211 2 16:=.mk' Tryz.underlying179 (z:=.agg #[.int .i64 0,.int .i64 0]) (by kernel_rfl) rfl (by decide)

theorem holdsM_le (xs : List Int) (b : Int) (k : Nat) : (holdsM xs b k).length ≤ k:=by rw [holdsM_len]; exact pressesM_le xs b k
theorem holdsM_long (xs : List Int) (b : Int) (k : Nat) : ∀ p ∈ holdsM xs b k,0 ≤ p.2 ∧ p.2 ≤ k:=by
 induction k with
 | zero => intro p hp; simp [holdsM] at hp
 | succ k ih =>
  rw [holdsM_succ];intro p hp;unfold hstep at hp
  by_cases h1 : hasB (heldL xs k) b = true
  ·by_cases h2 : hasB (heldL xs ((k : Int) - 1)) b = true
   ·simp only [h1,h2,if_true] at hp
    have hpos:=holdsM_pos xs b k h2;rcases List.mem_or_eq_of_mem_set hp with h3 | h3
    ·have:=ih p h3; omega
    ·have h4 : (holdsM xs b k).getD ((holdsM xs b k).length - 1) (0,0) ∈ holdsM xs b k:=by
      rw [List.getD_eq_getElem?_getD,List.getElem?_eq_getElem (by omega)]; simp
     have:=ih _ h4;rw [h3]; simp only; omega
   ·simp only [h1,h2,if_true] at hp
    simp at hp
    rcases hp with h3 | h3
    ·have:=ih p h3; omega
    ·subst h3; simp; omega
  ·simp only [h1] at hp
   have:=ih p (by simpa using hp); omega

set_option maxHeartbeats 1000000 in
theorem holds_any (A : Option Addr) (c lo : Nat) (xs : List Int) (b : Int) (w : World) (hr : Row w lo 1 A xs.length (u8s xs)) (hl : xs.length ≤ 1000000000) (hx : ∀ x ∈ xs,0 ≤ x ∧ x ≤ 255) :
  Calls Tryz.prog 91 #[.slice A xs.length c,.int .i64 b] w fun e w' => ∃ A' c',e = .returned (.slice A' (holdsM xs b xs.length).length c') ∧ w'.ownsRow w.heap.size 211 2 (.slice A' (holdsM xs b xs.length).length c') (holdsM xs b xs.length).length (prs (holdsM xs b xs.length)) ∧ Below w.heap.size w w':=by
 have HX:=Lib.hid hx;clear hx
 go_enter Tryz.func91,Tryz.ntmps91
 go_wp2_with fail
 go_loopw [5,10] (fun v i wr => ∃ (k : Nat) (A' : Option Addr) (c' : Nat),k ≤ xs.length ∧ i = .int .i64 k ∧ v = .slice A' (holdsM xs b k).length c' ∧ wr.ownsRow w.heap.size 211 2 (.slice A' (holdsM xs b k).length c') (holdsM xs b k).length (prs (holdsM xs b k)) ∧ Below w.heap.size w wr) (fun _ i _ => xs.length - (intOf i).toNat)
 case atStart => exact ⟨0,none,0,Nat.zero_le _,rfl,rfl,World.ownsRow_nil _ _ _ _,Below.refl _ _⟩
 case round =>
  obtain ⟨k,A',c',hk,rfl,rfl,hown,hbw⟩:=hrel
  by_cases hlt : k < xs.length
  ·obtain ⟨bb,off,rfl,_,hbs,c0⟩:=(hr.below hbw).u8_at hlt
   have HT:=Lib.hid (holdsM_succ xs b k);have hlen:=holdsM_le xs b k;obtain ⟨x0,x1⟩:=HX.out xs[k] (List.getElem_mem _);have hz:=hbw.size;have HK:=Lib.hid (heldL_at xs k hlt)
   by_cases h1 : hasB xs[k] b = true
   ·have g1 : (bits .and .i64 xs[k] b == 0) = false:=by unfold hasB at h1; simpa using h1
    by_cases hk0 : k = 0
    ·have HE : Hid (holdsM xs b (k + 1) = holdsM xs b k ++ [((k : Int),1)]):=Lib.hid (by
      rw [HT.out]; unfold hstep
      rw [HK.out,h1,heldL_out xs ((k : Int) - 1) (by omega),hasB_zero]; rfl)
     have d0 : decide ((0 : Int) < (k : Int)) = false:=by simp; omega
     have d1 : (k : Int) ≤ 0:=by omega
     clear HT h1 hk0;generalize holdsM xs b k = o at *
     go_wp2_with (at_builtin; go_must (refine wpList_app (lo:=w.heap.size) (base:=w.heap.size) (n:=o.length) (xs:=prs o) _ _ rfl _ _ ty_holds rfl (by repeat (first | exact hown | refine World.ownsRow.alloc ?_ _ | refine own_drewN ?_ _ | refine World.ownsRow.drew ?_)) rfl (by first | exact row_new' _ (by first | rfl | simp) (by first | omega | (simp; omega)) rfl | exact row_newN _ _ (by first | rfl | simp) (by first | omega | (simp; omega)) rfl | exact row_newD _ (by first | rfl | simp) (by first | omega | (simp; omega)) rfl) rfl rfl (by first | omega | decide) (by first | omega | decide) (by first | omega | (simp; omega)) ?_))
     intro A5 c5 w5 hown5 hg5 _;go_wp2_with fail;go_roundw
     case rel => exact ⟨k + 1,A5,c5,by omega,by go_num,by rw [HE.out]; simp,by rw [HE.out,prs_app,List.length_append]; exact hown5,below_app hown (by repeat (first | exact hbw | refine Below.alloc ?_ (by first | omega | (simp; omega)) _ | refine below_drewN' ?_ _ | refine Below.drew ?_)) hg5 (Nat.le_refl _) (by simp; omega)⟩
     case measure => simp [intOf]; omega
    ·obtain ⟨b',off',e',_,_,c1⟩:=(hr.below hbw).u8_at (k:=k - 1) (by omega)
     have e1 : b' = bb ∧ off' = off:=by injection e' with e'; injection e' with h1 h2; exact ⟨h1.symm,h2.symm⟩
     obtain ⟨rfl,rfl⟩:=e1;clear e';obtain ⟨y0,y1⟩:=HX.out xs[k - 1] (List.getElem_mem _);have HK1:=Lib.hid (heldL_at xs (k - 1) (by omega));have HKK : Hid (((k - 1 : Nat) : Int) = (k : Int) - 1):=Lib.hid (by omega)
     have d0 : decide ((0 : Int) < (k : Int)) = true:=by simp; omega
     have d1 : (0 : Int) < (k : Int):=by omega
     by_cases h2 : hasB xs[k - 1] b = true
     ·have hpos:=holdsM_pos xs b k (by rw [← HKK.out,HK1.out]; exact h2)
      have hlong:=holdsM_long xs b k;have g2 : (bits .and .i64 xs[k - 1] b != 0) = true:=h2;generalize holdsM xs b k = o at *
      have hj : o.length - 1 < o.length:=by omega
      have HE : Hid (holdsM xs b (k + 1) = o.set (o.length - 1) ((o[o.length - 1]'hj).1,(o[o.length - 1]'hj).2 + 1)):=Lib.hid (by
       rw [HT.out]; unfold hstep
       rw [HK.out,h1,← HKK.out,HK1.out,h2,List.getD_eq_getElem?_getD,List.getElem?_eq_getElem hj]; rfl)
      clear HT h1 h2;obtain ⟨g,rfl,hg,hg',hcb,hfb⟩:=ownBlk hown (by omega);obtain ⟨e1,e2⟩:=prs_at o _ hj;have q2:=hcb _ _ e2;have f2:=hfb ((o.length - 1) * 2 + 1);obtain ⟨b1,b2⟩:=hlong _ (List.getElem_mem hj);clear hcb hfb e1 e2 hlong;go_wp2_with fail;go_roundw
      case rel => exact ⟨k + 1,some ⟨g,0,none⟩,c',by omega,by go_num,by rw [HE.out]; simp,by rw [HE.out,List.length_set]; exact own_prs_set (ps:=o) (c:=c') (by repeat (first | exact hown | refine World.ownsRow.alloc ?_ _ | refine own_drewN ?_ _ | refine World.ownsRow.drew ?_)) _ hj _,Below.setCell (by repeat (first | exact hbw | refine Below.alloc ?_ (by first | omega | (simp; omega)) _ | refine below_drewN' ?_ _ | refine Below.drew ?_)) (by simpa using hg) _⟩
      case measure => simp [intOf]; omega
     ·have g2 : (bits .and .i64 xs[k - 1] b != 0) = false:=by simpa [hasB] using h2
      have HE : Hid (holdsM xs b (k + 1) = holdsM xs b k ++ [((k : Int),1)]):=Lib.hid (by
       rw [HT.out]; unfold hstep
       rw [HK.out,h1,← HKK.out,HK1.out,Bool.eq_false_iff.2 h2]; rfl)
      clear HT h1 h2;generalize holdsM xs b k = o at *
      go_wp2_with (at_builtin; go_must (refine wpList_app (lo:=w.heap.size) (base:=w.heap.size) (n:=o.length) (xs:=prs o) _ _ rfl _ _ ty_holds rfl (by repeat (first | exact hown | refine World.ownsRow.alloc ?_ _ | refine own_drewN ?_ _ | refine World.ownsRow.drew ?_)) rfl (by first | exact row_new' _ (by first | rfl | simp) (by first | omega | (simp; omega)) rfl | exact row_newN _ _ (by first | rfl | simp) (by first | omega | (simp; omega)) rfl | exact row_newD _ (by first | rfl | simp) (by first | omega | (simp; omega)) rfl) rfl rfl (by first | omega | decide) (by first | omega | decide) (by first | omega | (simp; omega)) ?_))
      intro A5 c5 w5 hown5 hg5 _;go_wp2_with fail;go_roundw
      case rel => exact ⟨k + 1,A5,c5,by omega,by go_num,by rw [HE.out]; simp,by rw [HE.out,prs_app,List.length_append]; exact hown5,below_app hown (by repeat (first | exact hbw | refine Below.alloc ?_ (by first | omega | (simp; omega)) _ | refine below_drewN' ?_ _ | refine Below.drew ?_)) hg5 (Nat.le_refl _) (by simp; omega)⟩
      case measure => simp [intOf]; omega
   ·have g1 : (bits .and .i64 xs[k] b == 0) = true:=by simpa [hasB] using h1
    have HE : Hid (holdsM xs b (k + 1) = holdsM xs b k):=Lib.hid (by
     rw [HT.out]; unfold hstep
     rw [HK.out,Bool.eq_false_iff.2 h1]; rfl)
    clear HT h1;go_wp2_with fail;go_roundw
    case rel => exact ⟨k + 1,A',c',by omega,by go_num,by rw [HE.out],by rw [HE.out]; exact hown,hbw⟩
    case measure => simp [intOf]; omega
  ·have hkn : k = xs.length:=by omega
   subst hkn;go_wp2_with fail;go_ret;exact ⟨A',c',rfl,hown,hbw⟩

def pressR (ps : List (Int × Int)) (b : Int) : Int:=if inFault ps = 0 ∧ btnFault b = 0 then (pressesM (unf ps) b (unf ps).length : Int) else 0
def pressE (ps : List (Int × Int)) (b : Int) : Int:=if inFault ps = 0 then btnFault b else inFault ps
theorem pressR_ok {ps : List (Int × Int)} {b : Int} (h : inFault ps = 0) (h' : btnFault b = 0) : pressR ps b = (pressesM (unf ps) b (unf ps).length : Int):=by simp [pressR,h,h']
theorem pressR_bad {ps : List (Int × Int)} {b : Int} (h : ¬ (inFault ps = 0 ∧ btnFault b = 0)) : pressR ps b = 0:=by simp only [pressR,h,if_false]
theorem btn_ok {b : Int} (h : b ∈ btns) : btnFault b = 0:=by simp [btnFault,h]
theorem btn_bad {b : Int} (h : ¬ b ∈ btns) : btnFault b = 4:=by simp [btnFault,h]
theorem unf_mem {ps : List (Int × Int)} {P : Int → Prop} (h : ∀ p ∈ ps,P p.1) : ∀ x ∈ unf ps,P x:=by
 intro x hx;obtain ⟨p,hp,hq⟩:=List.mem_flatMap.1 hx;rw [List.eq_of_mem_replicate hq];exact h p hp

set_option maxHeartbeats 1000000 in
theorem presses_any (A : Option Addr) (c lo : Nat) (ps : List (Int × Int)) (b : Int) (w : World) (hr : Row w lo 2 A ps.length (prs ps)) (hl : ps.length ≤ 1000000000) :
  Calls Tryz.prog 53 #[.slice A ps.length c,.int .i64 b] w fun e w' => e = .returned (.tuple #[.int .i64 (pressR ps b),.int .i64 (pressE ps b)]) ∧ Below w.heap.size w w':=by
 go_enter Tryz.func53,Tryz.ntmps53
 go_wp2_with fail;refine (checkInput_any _ _ _ ps _ hr hl).mono ?_;rintro e w1 ⟨rfl,hb1⟩
 by_cases h0 : inFault ps = 0
 ·obtain ⟨h1,h2,h3⟩:=inFault_ok h0
  have hp : ∀ p ∈ ps,0 ≤ p.2:=fun p hp => by have:=h2 p hp; omega
  have hv : ∀ p ∈ ps,0 ≤ p.1 ∧ p.1 ≤ 255:=fun p hp => by have:=h2 p hp; omega
  have hu:=unf_len ps hp
  have hul : (unf ps).length ≤ 200000:=by omega
  have H0:=Lib.hid h0
  have h0' : (inFault ps != 0) = false:=by simpa using h0
  have HP:=Lib.hid hp;have HV:=Lib.hid hv;rw [h0];clear h0 hu h2 hp hv h0';go_wp2_with fail;refine (buttons_any _).mono ?_;rintro e w2 ⟨A2,c2,rfl,hr2,hb2⟩;go_wp2_with fail;refine (contains_any _ _ _ btns b _ hr2 (by decide)).mono ?_;rintro e w3 ⟨rfl,rfl⟩;have hb12:=below_up hb1 hb2
  by_cases h4 : b ∈ btns
  ·have hd : decide (b ∈ btns) = true:=by simpa using h4
   have H4:=Lib.hid (btn_ok h4);rw [hd];clear h4 hd;go_wp2_with fail;refine (spread_any _ _ _ ps _ (hr.below hb12) hl HP.out HV.out (by omega)).mono ?_;rintro e w4 ⟨A4,c4,rfl,hown4,hb4⟩;go_wp2_with fail;refine (holds_any _ _ _ (unf ps) b _ (Row.of_own hown4) (by omega) (unf_mem HV.out)).mono ?_;rintro e w5 ⟨A5,c5,rfl,hown5,hb5⟩;have HL:=Lib.hid (holdsM_len (unf ps) b (unf ps).length);go_wp2_with fail;go_ret2;exact ⟨ret2_is (by rw [pressR_ok H0.out H4.out,← HL.out]; rfl) (by simp only [pressE,H0.out,if_true,H4.out]; rfl),below_up (below_up hb12 hb4) hb5⟩
  ·have hd : decide (b ∈ btns) = false:=by simpa using h4
   have H4:=Lib.hid (btn_bad h4);rw [hd];clear h4 hd;go_wp2_with fail;go_ret2;exact ⟨ret2_is (by rw [pressR_bad (by rw [H4.out]; omega)]; rfl) (by simp only [pressE,H0.out,if_true,H4.out]; rfl),hb12⟩
 ·have h0' : (inFault ps != 0) = true:=by simpa using h0
  have H0:=Lib.hid h0;clear h0;go_wp2_with fail;go_ret2;exact ⟨ret2_is (by rw [pressR_bad (fun h => H0.out h.1)]; rfl) (by simp only [pressE,H0.out,if_false]; rfl),hb1⟩

end Go.Proofs.YtkchacgkjdeiaaaGreatDoor
/- The walks of slices.Equal over pieces, and of the law's own small test. -/
namespace Go.Proofs.YtkchacgkjdeiaaaGreatDoor
open Go.RowKit

theorem pressR_ex : pressR [(1,3),(0,1),(1,1)] 1 = 2:=by decide
theorem pressE_ex : pressE [(1,3),(0,1),(1,1)] 1 = 0:=by decide

end Go.Proofs.YtkchacgkjdeiaaaGreatDoor
/- The walks of First, Or, when, part, Cut and CutOf. -/
namespace Go.Proofs.YtkchacgkjdeiaaaGreatDoor
open Go.RowKit

theorem take_zero_snoc {l : List Int} {k : Nat} (h : ∀ y ∈ l.take k,y = 0) (hk : k < l.length) (hv : l[k] = 0) : ∀ y ∈ l.take (k + 1),y = 0:=by
 intro y hy;rw [List.take_succ_eq_append_getElem hk] at hy;rcases List.mem_append.1 hy with h1 | h1
 ·exact h y h1
 ·simp at h1; subst h1; exact hv

set_option maxHeartbeats 400000 in
theorem first_any (A : Option Addr) (c lo : Nat) (l : List Int) (w : World) (hr : Row w lo 1 A l.length (ints l)) (hl : l.length ≤ 1000000000) :
  Calls Tryz.prog 88 #[.slice A l.length c] w fun e w' => e = .returned (.int .i64 (firstE l)) ∧ w = w':=by
 go_enter Tryz.func88,Tryz.ntmps88
 go_wp2_with fail
 go_loop [7] (fun i => ∃ k : Nat,k ≤ l.length ∧ i = .int .i64 k ∧ Hid (∀ y ∈ l.take k,y = 0)) (fun i => l.length - (intOf i).toNat)
 case atStart => exact ⟨0,Nat.zero_le _,rfl,Lib.hid (by simp)⟩
 case round =>
  obtain ⟨k,hk,rfl,hno⟩:=hrel
  by_cases hlt : k < l.length
  ·obtain ⟨b,off,rfl,_,hbs,c0⟩:=hr.int_at hlt
   by_cases he : l[k] = 0
   ·have he' : (l[k] != 0) = false:=by simpa using he
    have HN:=Lib.hid (take_zero_snoc hno.out hlt he);clear he;go_wp2_with fail;go_round
    case rel => exact ⟨k + 1,by omega,by go_num,HN⟩
    case measure => simp [intOf]; omega
   ·have he' : (l[k] != 0) = true:=by simpa using he
    have HV:=Lib.hid (firstE_hit l k hlt hno.out he);clear he;go_wp2_with fail;go_ret;exact ⟨ret_int' HV.out.symm,rfl⟩
  ·have HV:=Lib.hid (firstE_none l (by have:=hno.out; rwa [List.take_of_length_le (by omega)] at this))
   go_wp2_with fail;go_ret;exact ⟨ret_int' HV.out.symm,rfl⟩

theorem Row.cut {w : World} {lo : Nat} {A A' : Option Addr} {n : Nat} {xs : List Value} (h : Row w lo 1 A n xs) {i j c : Nat} (hij : i ≤ j) (hj : j ≤ n) (hc : n ≤ c) (hA : (A' = A ∧ c = i) ∨ A' = A.map (·.add i)) : Row w lo 1 A' (j - i) ((xs.take j).drop i):=by
 have hl:=h.1;refine ⟨by simp; omega,fun hn => ?_⟩;obtain ⟨b,off,rfl,h1,h2,h3⟩:=h.2 (by omega);rcases hA with ⟨_,h4⟩ | h4
 ·omega
 ·have ha : (⟨b,off,none⟩ : Addr).add i = ⟨b,off + i,none⟩:=by unfold Addr.add; split <;> simp_all
  refine ⟨b,off + i,by rw [h4]; simp [ha],h1,h2,fun k u hu => ?_⟩;rw [Nat.add_assoc];refine h3 _ u ?_;rw [List.getElem?_drop,List.getElem?_take] at hu
  split at hu
  ·exact hu
  ·cases hu
def cutOk (f t : Int) : Bool:=decide (0 ≤ f) && decide (f ≤ t) && decide (t ≤ 200000)
def cutR (ps : List (Int × Int)) (f t : Int) : List (Int × Int):=if inFault ps = 0 ∧ cutOk f t = true then foldM (cutL (unf ps) f.toNat t.toNat) else []
def cutE (ps : List (Int × Int)) (f t : Int) : Int:=if inFault ps = 0 then (if cutOk f t = true then 0 else 1) else inFault ps
theorem cutOk_iff (f t : Int) : cutOk f t = true ↔ 0 ≤ f ∧ f ≤ t ∧ t ≤ 200000:=by simp [cutOk,and_assoc]
theorem cutR_ok {ps : List (Int × Int)} {f t : Int} (h : inFault ps = 0) (h' : cutOk f t = true) : cutR ps f t = foldM (cutL (unf ps) f.toNat t.toNat):=by simp [cutR,h,h']
end Go.Proofs.YtkchacgkjdeiaaaGreatDoor
/- The walks of Splice, SplicedOf, Differ, DifferOf and slices.Clone over pieces. -/
namespace Go.Proofs.YtkchacgkjdeiaaaGreatDoor
open Go.RowKit

def firsts (xs : List Int) (n : Nat) : List Int:=(List.range n).map fun i : Nat => heldL xs (i : Int)
theorem firsts_succ (xs : List Int) (n : Nat) : firsts xs (n + 1) = firsts xs n ++ [heldL xs (n : Int)]:=by simp [firsts,List.range_succ]
theorem firsts_eq (xs : List Int) (n : Nat) : firsts xs n = xs.take n ++ List.replicate (n - xs.length) 0:=by
 induction n with
 | zero => simp [firsts]
 | succ n ih =>
  rw [firsts_succ,ih];rcases Nat.lt_or_ge n xs.length with h | h
  ·rw [heldL_at xs n h,List.take_succ_eq_append_getElem h]
   have e1 : n - xs.length = 0:=by omega
   have e2 : n + 1 - xs.length = 0:=by omega
   simp [e1,e2]
  ·rw [heldL_out xs n (by omega),List.take_of_length_le (by omega),List.take_of_length_le (by omega),List.append_assoc]
   have e1 : n + 1 - xs.length = (n - xs.length) + 1:=by omega
   rw [e1,List.replicate_succ']
def spliced (xs ys : List Int) (n : Nat) : List Int:=firsts xs n ++ ys
def sqE (xs ys : List Int) (n : Nat) : Int:=if 200000 < n + ys.length then 2 else if 5000 < (foldM (spliced xs ys n)).length then 2 else 0
def sqR (xs ys : List Int) (n : Nat) : List (Int × Int):=if sqE xs ys n = 0 then foldM (spliced xs ys n) else []
theorem sqE_ok {xs ys : List Int} {n : Nat} (h : ¬ 200000 < n + ys.length) (h' : ¬ 5000 < (foldM (spliced xs ys n)).length) : sqE xs ys n = 0:=by simp [sqE,h,h']
theorem sqR_ok {xs ys : List Int} {n : Nat} (h : sqE xs ys n = 0) : sqR xs ys n = foldM (spliced xs ys n):=by simp [sqR,h]
end Go.Proofs.YtkchacgkjdeiaaaGreatDoor
/- The walks of Splice, Differ, DifferOf and slices.Clone over pieces. -/
namespace Go.Proofs.YtkchacgkjdeiaaaGreatDoor
open Go.RowKit

def spcE (ps qs : List (Int × Int)) (n : Int) : Int:=if firstE [inFault ps,inFault qs] = 0 then (if spanFault n 0 200000 = 0 then sqE (unf ps) (unf qs) n.toNat else 1) else firstE [inFault ps,inFault qs]
def spR (ps qs : List (Int × Int)) (n : Int) : List (Int × Int):=if firstE [inFault ps,inFault qs] = 0 ∧ spanFault n 0 200000 = 0 then sqR (unf ps) (unf qs) n.toNat else []
theorem spcE_ok {ps qs : List (Int × Int)} {n : Int} (h : firstE [inFault ps,inFault qs] = 0) (h' : spanFault n 0 200000 = 0) : spcE ps qs n = sqE (unf ps) (unf qs) n.toNat:=by simp [spcE,h,h']
theorem spR_ok {ps qs : List (Int × Int)} {n : Int} (h : firstE [inFault ps,inFault qs] = 0) (h' : spanFault n 0 200000 = 0) : spR ps qs n = sqR (unf ps) (unf qs) n.toNat:=by simp [spR,h,h']
def dfE (ps qs : List (Int × Int)) : Int:=firstE [inFault ps,inFault qs]
def dfB (ps qs : List (Int × Int)) : Bool:=decide (dfE ps qs = 0) && decide (0 ≤ diffM (unf ps) (unf qs))
theorem dfB_ok {ps qs : List (Int × Int)} (h : dfE ps qs = 0) : dfB ps qs = decide (0 ≤ diffM (unf ps) (unf qs)):=by simp [dfB,h]
end Go.Proofs.YtkchacgkjdeiaaaGreatDoor
/- Plain laws of CutsKeepFrames: an input that is cut in two and spliced again is the same. No program in sight. -/
namespace Go.Proofs.YtkchacgkjdeiaaaGreatDoor

theorem unf_foldM (l : List Int) : unf (foldM l) = l:=by
 suffices H : ∀ out : List (Int × Int),(∀ p ∈ out,0 ≤ p.2) → unf (l.foldl (fun o h => fadd o h 1) out) = unf out ++ l from by simpa [unf,foldM] using H [] (by simp)
 induction l with
 | nil => intro out _; simp
 | cons x l ih =>
  intro out ho;rw [List.foldl_cons,ih _ (fadd_mem (by omega) ho)]
  have : unf (fadd out x 1) = unf out ++ [x]:=by
   unfold fadd;simp only [show ¬ (1 : Int) = 0 by omega,if_false]
   cases hl : out.getLast? with
   | none => simp at hl; subst hl; simp [unf]
   | some q =>
    by_cases hq : q.1 = x
    ·obtain ⟨r,rfl⟩:=List.getLast?_eq_some_iff.1 hl
     have hq2:=ho q (by simp);simp only [hq,if_true,List.dropLast_concat,unf_app];simp only [unf,List.flatMap_cons,List.flatMap_nil,List.append_nil,hq,List.append_assoc]
     congr 1
     rw [show (q.2 + 1).toNat = q.2.toNat + 1 by omega,List.replicate_succ']
    ·simp [hq,unf]
  rw [this]; simp
theorem foldM_mem (l : List Int) (P : Int → Prop) (h : ∀ x ∈ l,P x) : ∀ p ∈ foldM l,P p.1 ∧ 1 ≤ p.2:=by
 suffices H : ∀ out : List (Int × Int),(∀ p ∈ out,P p.1 ∧ 1 ≤ p.2) → ∀ p ∈ l.foldl (fun o h => fadd o h 1) out,P p.1 ∧ 1 ≤ p.2 from H [] (by simp)
 induction l with
 | nil => intro out ho; exact ho
 | cons x l ih =>
  intro out ho;rw [List.foldl_cons];refine ih (fun y hy => h y (by simp [hy])) _ ?_;intro p hp;unfold fadd at hp;simp only [show ¬ (1 : Int) = 0 by omega,if_false] at hp
  cases hl : out.getLast? with
  | none => rw [hl] at hp; simp at hl; subst hl; simp at hp; subst hp; exact ⟨h x (by simp),by simp⟩
  | some q =>
   rw [hl] at hp;have hq : q ∈ out:=List.mem_of_getLast? hl;simp only at hp
   split at hp
   ·rcases List.mem_append.1 hp with hp | hp
    ·exact ho p (List.dropLast_subset _ hp)
    ·simp at hp; subst hp; have:=ho q hq; exact ⟨this.1,by simp; omega⟩
   ·rcases List.mem_append.1 hp with hp | hp
    ·exact ho p hp
    ·simp at hp; subst hp; exact ⟨h x (by simp),by simp⟩
theorem foldM_ok (l : List Int) (h : ∀ x ∈ l,0 ≤ x ∧ x ≤ 63) (hl : l.length ≤ 5000) : inFault (foldM l) = 0:=by
 have h1:=foldM_len l;have h2:=foldM_psum l;have h3:=foldM_mem l (fun x => 0 ≤ x ∧ x ≤ 63) h;have h4:=mem_le_psum (foldM l) (fun p hp => by have:=(h3 p hp).2; omega);rw [inFault_good _ (by omega)]
 ·rw [if_neg (by omega)]
 ·intro p hp
  have a:=h3 p hp;have b:=h4 p hp;rw [vld_iff];exact ⟨a.1.1,a.1.2,a.2,by omega⟩
theorem pieces_ok (ps : List (Int × Int)) (h : ∀ p ∈ ps,0 ≤ p.1 ∧ p.1 ≤ 63 ∧ 1 ≤ p.2 ∧ p.2 ≤ 20) (hl : ps.length ≤ 8) : inFault ps = 0 ∧ (unf ps).length ≤ 160 ∧ ∀ x ∈ unf ps,0 ≤ x ∧ x ≤ 63:=by
 have h1:=psum_le ps 20 (by omega) (fun p hp => by have:=h p hp; omega);have h2:=unf_len ps (fun p hp => by have:=h p hp; omega);refine ⟨?_,by omega,?_⟩
 ·rw [inFault_good _ (by omega)]
  ·rw [if_neg (by omega)]
  ·intro p hp
   have:=h p hp;rw [vld_iff];exact ⟨by omega,by omega,by omega,by omega⟩
 ·intro x hx
  obtain ⟨p,hp,hq⟩:=List.mem_flatMap.1 hx;rw [List.eq_of_mem_replicate hq];have:=h p hp;omega
structure Kept (ps : List (Int × Int)) (at_ : Nat) : Prop where
  fa : inFault ps = 0
  a1 : cutE ps 0 at_ = 0
  b1 : cutE ps at_ (unf ps).length = 0
  s1 : spcE (cutR ps 0 at_) (cutR ps at_ (unf ps).length) at_ = 0
  s2 : spR (cutR ps 0 at_) (cutR ps at_ (unf ps).length) at_ = tidyR ps
  d1 : dfE ps (tidyR ps) = 0
  d2 : dfB ps (tidyR ps) = false
  la : (cutR ps 0 at_).length ≤ 160
  lb : (cutR ps at_ (unf ps).length).length ≤ 160
  lt : (tidyR ps).length ≤ 160
theorem kept (ps : List (Int × Int)) (at_ : Nat) (h : ∀ p ∈ ps,0 ≤ p.1 ∧ p.1 ≤ 63 ∧ 1 ≤ p.2 ∧ p.2 ≤ 20) (hl : ps.length ≤ 8) (hat : at_ ≤ (unf ps).length) : Kept ps at_:=by
 obtain ⟨f0,f1,f2⟩:=pieces_ok ps h hl
 have c1 : cutOk 0 at_ = true:=by rw [cutOk_iff]; omega
 have c2 : cutOk at_ (unf ps).length = true:=by rw [cutOk_iff]; omega
 have r1 : cutR ps 0 at_ = foldM ((unf ps).take at_):=by rw [cutR_ok f0 c1]; simp [cutL]
 have r2 : cutR ps at_ (unf ps).length = foldM ((unf ps).drop at_):=by rw [cutR_ok f0 c2]; simp [cutL]
 have t1 : tidyR ps = foldM (unf ps):=tidyR_ok f0;have l1:=foldM_len ((unf ps).take at_);have l2:=foldM_len ((unf ps).drop at_);have l3:=foldM_len (unf ps)
 have fa : inFault (cutR ps 0 at_) = 0:=by rw [r1]; exact foldM_ok _ (fun x hx => f2 x (List.mem_of_mem_take hx)) (by simp; omega)
 have fb : inFault (cutR ps at_ (unf ps).length) = 0:=by rw [r2]; exact foldM_ok _ (fun x hx => f2 x (List.mem_of_mem_drop hx)) (by simp; omega)
 have ft : inFault (tidyR ps) = 0:=by rw [t1]; exact foldM_ok _ f2 (by omega)
 have two : firstE [inFault (cutR ps 0 at_),inFault (cutR ps at_ (unf ps).length)] = 0:=by rw [fa,fb]; rfl
 have sp : spanFault at_ 0 200000 = 0:=span_ok (by omega)
 have e1 : spliced (unf (cutR ps 0 at_)) (unf (cutR ps at_ (unf ps).length)) at_ = unf ps:=by
  rw [r1,r2,unf_foldM,unf_foldM,spliced,firsts_eq]
  have z : at_ - ((unf ps).take at_).length = 0:=by simp; omega
  rw [z];simp only [List.replicate_zero,List.append_nil];rw [List.take_take,Nat.min_self,List.take_append_drop]
 have s0 : sqE (unf (cutR ps 0 at_)) (unf (cutR ps at_ (unf ps).length)) at_ = 0:=by
  refine sqE_ok ?_ ?_
  ·rw [r2,unf_foldM]; simp; omega
  ·rw [e1]; omega
 refine ⟨f0,?_,?_,?_,?_,?_,?_,by rw [r1]; simp at l1; omega,by rw [r2]; simp at l2; omega,by rw [t1]; omega⟩
 ·simp [cutE,f0,c1]
 ·simp [cutE,f0,c2]
 ·rw [spcE_ok two sp]; simpa using s0
 ·rw [spR_ok two sp,Int.toNat_natCast,sqR_ok s0,e1,t1]
 ·unfold dfE; rw [f0,ft]; rfl
 ·have hd : dfE ps (tidyR ps) = 0:=by unfold dfE; rw [f0,ft]; rfl
  rw [dfB_ok hd,t1,unf_foldM,diffM_none _ _ (fun i _ => rfl)];rfl
end Go.Proofs.YtkchacgkjdeiaaaGreatDoor
/- A row of rows of bytes, all of the call's own; and what 'make' of a variable size leaves. -/
namespace Go.Proofs.YtkchacgkjdeiaaaGreatDoor
open Go.RowKit

structure NestU (tI tS : TypeId) (w : World) (base g : Nat) (rows : List (List Int)) : Prop where
  ne : tI ≠ tS
  has : ∃ cs : Array Value, Blk w g tS cs ∧ (∀ i (h : i < rows.length), ∃ A c, cs[i]? = some (.slice A rows[i].length c) ∧ w.ownsRow base tI 1 (.slice A rows[i].length c) rows[i].length (u8s rows[i])) ∧
    (∀ (i j : Nat) (u v : Value) (b : Nat), i < rows.length → j < rows.length → i ≠ j → cs[i]? = some u → cs[j]? = some v → u.ownBlock = some b → v.ownBlock ≠ some b)
section
variable {tI tS : TypeId} {w w' : World} {base g : Nat} {rows : List (List Int)}
theorem NestU.lt (h : NestU tI tS w base g rows) : g < w.heap.size:=by obtain ⟨cs,h1,_⟩:=h.has; exact h1.lt
theorem NestU.frz (h : NestU tI tS w base g rows) (i : Nat) : w.frozen? ⟨g,i,none⟩ = false:=by obtain ⟨cs,h1,_⟩:=h.has; exact h1.thaw i
theorem NestU.below (h : NestU tI tS w base g rows) (hb : Below w.heap.size w w') : NestU tI tS w' base g rows:=by
 obtain ⟨ne,cs,h1,h2,h3⟩:=h;exact ⟨ne,cs,h1.below hb,fun i hi => let ⟨A,c,a,b⟩:=h2 i hi; ⟨A,c,a,own_keep b hb⟩,h3⟩
theorem NestU.alloc (h : NestU tI tS w base g rows) (o : Obj) : NestU tI tS (w.alloc o) base g rows:=h.below ((Below.refl _ _).alloc (Nat.le_refl _) o)
theorem NestU.drewN (h : NestU tI tS w base g rows) (q : Nat) : NestU tI tS (w.drewN q) base g rows:=by
 obtain ⟨ne,cs,h1,h2,h3⟩:=h;exact ⟨ne,cs,h1,fun i hi => let ⟨A,c,a,b⟩:=h2 i hi; ⟨A,c,a,b⟩,h3⟩
theorem NestU.row (h : NestU tI tS w base g rows) {i : Nat} (hi : i < rows.length) : ∃ A c,w.cell? ⟨g,i,none⟩ = some (.slice A rows[i].length c) ∧ w.ownsRow base tI 1 (.slice A rows[i].length c) rows[i].length (u8s rows[i]):=by
 obtain ⟨ne,cs,h1,h2,h3⟩:=h;obtain ⟨A,c,a,b⟩:=h2 i hi;exact ⟨A,c,by rw [h1.cell]; exact a,b⟩
theorem NestU.push (h : NestU tI tS w base g rows) {i : Nat} (hi : i < rows.length) {A A' : Option Addr} {c c' : Nat} (hc : w.cell? ⟨g,i,none⟩ = some (.slice A rows[i].length c)) {xs : List Int}
  (hg : w.grownBy w' (Value.slice A rows[i].length c).ownBlock) (ho : w'.ownsRow base tI 1 (.slice A' xs.length c') xs.length (u8s xs))
  (hb : (Value.slice A' xs.length c').ownBlock = (Value.slice A rows[i].length c).ownBlock ∨ (Value.slice A' xs.length c').ownBlock = some w.heap.size) : NestU tI tS (w'.setCell ⟨g,i,none⟩ (.slice A' xs.length c')) base g (rows.set i xs):=by
 obtain ⟨ne,cs,h1,h2,h3⟩:=h;rw [h1.cell] at hc;obtain ⟨A1,c1,a1,b1⟩:=h2 i hi;rw [a1] at hc;injection hc with hc;injection hc with e1 _ e2;subst e1 e2;have k1:=Blk.app b1 h1 hg ne;have hs : i < cs.size:=(Array.getElem?_eq_some_iff.1 a1).1
 have hget : ∀ j,(cs.setIfInBounds i (.slice A' xs.length c'))[j]? = if i = j then some (.slice A' xs.length c') else cs[j]?:=by
  intro j;rw [Array.getElem?_setIfInBounds]
  by_cases e : i = j
  ·subst e; simp [hs]
  ·simp [e]
 -- the other rows stand behind other blocks
 have hfar : ∀ j (hj : j < rows.length),i ≠ j → ∀ v b,cs[j]? = some v → v.ownBlock = some b → (Value.slice A' xs.length c').ownBlock ≠ some b:=by
  intro j hj e v b hv hvb hx;rcases hb with hb | hb
  ·rw [hb] at hx
   exact h3 i j _ _ b hi hj e a1 hv hx hvb
  ·rw [hb] at hx
   injection hx with hx;obtain ⟨A2,c2,a2,b2⟩:=h2 j hj;rw [hv] at a2;injection a2 with a2;subst a2;have:=(b2.lt b hvb).2;omega
 refine ⟨ne,_,Blk.poke k1 i _,fun j hj => ?_,fun i' j' u v b hi' hj' hne hu hv hub => ?_⟩
 ·have hj' : j < rows.length:=by simpa using hj
  rw [hget]
  by_cases e : i = j
  ·subst e
   have : (rows.set i xs)[i] = xs:=by simp
   rw [this,if_pos rfl];exact ⟨A',c',rfl,own_past ho k1 ne i _⟩
  ·have : (rows.set i xs)[j] = rows[j]:=by simp [List.getElem_set,e]
   rw [this,if_neg e];obtain ⟨A2,c2,a2,b2⟩:=h2 j hj';refine ⟨A2,c2,a2,own_past (b2.kept hg ?_) k1 ne i _⟩
   cases hv : (Value.slice A2 rows[j].length c2).ownBlock with
   | none => exact .inl rfl
   | some b =>
    right
    intro he;exact h3 i j _ _ b hi hj' e a1 a2 he.symm hv
 ·have hi2 : i' < rows.length:=by simpa using hi'
  have hj2 : j' < rows.length:=by simpa using hj'
  rw [hget] at hu hv
  by_cases e1 : i = i'
  ·subst e1
   rw [if_pos rfl] at hu;injection hu with hu;subst hu;rw [if_neg hne] at hv;intro hvb;exact hfar j' hj2 hne v b hv hvb hub
  ·rw [if_neg e1] at hu
   by_cases e2 : i = j'
   ·subst e2
    rw [if_pos rfl] at hv;injection hv with hv;subst hv;exact hfar i' hi2 e1 u b hu hub
   ·rw [if_neg e2] at hv
    exact h3 i' j' u v b hi2 hj2 hne hu hv hub
theorem NestU.made {n : Nat} (hne : tI ≠ tS) {cs : Array Value} (h : Blk w g tS cs) (hc : ∀ i,i < n → cs[i]? = some (.slice none 0 0)) : NestU tI tS w base g (List.replicate n []):=by
 refine ⟨hne,cs,h,fun i hi => ?_,fun i j u v b hi hj _ hu hv hub => ?_⟩
 ·have hi' : i < n:=by simpa using hi
  have : (List.replicate n ([] : List Int))[i] = []:=by simp
  rw [this];exact ⟨none,0,hc i hi',World.ownsRow_nil _ _ _ _⟩
 ·rw [hc i (by simpa using hi)] at hu
  injection hu with hu;subst hu
  cases hub
theorem NestU.grown_ (h : NestU tI tS w base g rows) {i : Nat} (hi : i < rows.length) {A : Option Addr} {c : Nat} (hc : w.cell? ⟨g,i,none⟩ = some (.slice A rows[i].length c)) (hg : w.grownBy w' (Value.slice A rows[i].length c).ownBlock) : (∃ cs,Blk w' g tS cs) ∧ ∀ j,w'.cell? ⟨g,j,none⟩ = w.cell? ⟨g,j,none⟩:=by
 obtain ⟨ne,cs,h1,h2,h3⟩:=h;rw [h1.cell] at hc;obtain ⟨A1,c1,a1,b1⟩:=h2 i hi;rw [a1] at hc;injection hc with hc;injection hc with e1 _ e2;subst e1 e2;have k1:=Blk.app b1 h1 hg ne;exact ⟨⟨cs,k1⟩,fun j => by rw [k1.cell,h1.cell]⟩
theorem NestU.app {e : TypeId} {size n : Nat} {v : Value} {xs : List Value} {b2 : Nat} (h : NestU tI tS w base g rows) (hown : w.ownsRow b2 e size v n xs) (hg : w.grownBy w' v.ownBlock) (he : e ≠ tS) (hlt : ∀ k,v.ownBlock = some k → k < base) : NestU tI tS w' base g rows:=by
 obtain ⟨ne,cs,h1,h2,h3⟩:=h;refine ⟨ne,cs,Blk.app hown h1 hg he,fun i hi => ?_,h3⟩;obtain ⟨A,c,a,b⟩:=h2 i hi;refine ⟨A,c,a,b.kept hg ?_⟩
 cases hv : (Value.slice A rows[i].length c).ownBlock with
 | none => exact .inl rfl
 | some k =>
  right
  intro he;have:=hlt k he.symm;have:=(b.lt k hv).1;omega
end
end Go.Proofs.YtkchacgkjdeiaaaGreatDoor
/- A row of rows of integers, all of the call's own; and what 'make' of a variable size leaves. -/
namespace Go.Proofs.YtkchacgkjdeiaaaGreatDoor
open Go.RowKit

structure Nest (tI tS : TypeId) (w : World) (base g : Nat) (rows : List (List Int)) : Prop where
  ne : tI ≠ tS
  has : ∃ cs : Array Value, Blk w g tS cs ∧ (∀ i (h : i < rows.length), ∃ A c, cs[i]? = some (.slice A rows[i].length c) ∧ w.ownsRow base tI 1 (.slice A rows[i].length c) rows[i].length (ints rows[i])) ∧
    (∀ (i j : Nat) (u v : Value) (b : Nat), i < rows.length → j < rows.length → i ≠ j → cs[i]? = some u → cs[j]? = some v → u.ownBlock = some b → v.ownBlock ≠ some b)
section
variable {tI tS : TypeId} {w w' : World} {base g : Nat} {rows : List (List Int)}
theorem Nest.lt (h : Nest tI tS w base g rows) : g < w.heap.size:=by obtain ⟨cs,h1,_⟩:=h.has; exact h1.lt
theorem Nest.frz (h : Nest tI tS w base g rows) (i : Nat) : w.frozen? ⟨g,i,none⟩ = false:=by obtain ⟨cs,h1,_⟩:=h.has; exact h1.thaw i
theorem Nest.below (h : Nest tI tS w base g rows) (hb : Below w.heap.size w w') : Nest tI tS w' base g rows:=by
 obtain ⟨ne,cs,h1,h2,h3⟩:=h;exact ⟨ne,cs,h1.below hb,fun i hi => let ⟨A,c,a,b⟩:=h2 i hi; ⟨A,c,a,own_keep b hb⟩,h3⟩
theorem Nest.alloc (h : Nest tI tS w base g rows) (o : Obj) : Nest tI tS (w.alloc o) base g rows:=h.below ((Below.refl _ _).alloc (Nat.le_refl _) o)
theorem Nest.drewN (h : Nest tI tS w base g rows) (q : Nat) : Nest tI tS (w.drewN q) base g rows:=by
 obtain ⟨ne,cs,h1,h2,h3⟩:=h;exact ⟨ne,cs,h1,fun i hi => let ⟨A,c,a,b⟩:=h2 i hi; ⟨A,c,a,b⟩,h3⟩
theorem Nest.row (h : Nest tI tS w base g rows) {i : Nat} (hi : i < rows.length) : ∃ A c,w.cell? ⟨g,i,none⟩ = some (.slice A rows[i].length c) ∧ w.ownsRow base tI 1 (.slice A rows[i].length c) rows[i].length (ints rows[i]):=by
 obtain ⟨ne,cs,h1,h2,h3⟩:=h;obtain ⟨A,c,a,b⟩:=h2 i hi;exact ⟨A,c,by rw [h1.cell]; exact a,b⟩
theorem Nest.push (h : Nest tI tS w base g rows) {i : Nat} (hi : i < rows.length) {A A' : Option Addr} {c c' : Nat} (hc : w.cell? ⟨g,i,none⟩ = some (.slice A rows[i].length c)) {xs : List Int}
  (hg : w.grownBy w' (Value.slice A rows[i].length c).ownBlock) (ho : w'.ownsRow base tI 1 (.slice A' xs.length c') xs.length (ints xs))
  (hb : (Value.slice A' xs.length c').ownBlock = (Value.slice A rows[i].length c).ownBlock ∨ (Value.slice A' xs.length c').ownBlock = some w.heap.size) : Nest tI tS (w'.setCell ⟨g,i,none⟩ (.slice A' xs.length c')) base g (rows.set i xs):=by
 obtain ⟨ne,cs,h1,h2,h3⟩:=h;rw [h1.cell] at hc;obtain ⟨A1,c1,a1,b1⟩:=h2 i hi;rw [a1] at hc;injection hc with hc;injection hc with e1 _ e2;subst e1 e2;have k1:=Blk.app b1 h1 hg ne;have hs : i < cs.size:=(Array.getElem?_eq_some_iff.1 a1).1
 have hget : ∀ j,(cs.setIfInBounds i (.slice A' xs.length c'))[j]? = if i = j then some (.slice A' xs.length c') else cs[j]?:=by
  intro j;rw [Array.getElem?_setIfInBounds]
  by_cases e : i = j
  ·subst e; simp [hs]
  ·simp [e]
 -- the other rows stand behind other blocks
 have hfar : ∀ j (hj : j < rows.length),i ≠ j → ∀ v b,cs[j]? = some v → v.ownBlock = some b → (Value.slice A' xs.length c').ownBlock ≠ some b:=by
  intro j hj e v b hv hvb hx;rcases hb with hb | hb
  ·rw [hb] at hx
   exact h3 i j _ _ b hi hj e a1 hv hx hvb
  ·rw [hb] at hx
   injection hx with hx;obtain ⟨A2,c2,a2,b2⟩:=h2 j hj;rw [hv] at a2;injection a2 with a2;subst a2;have:=(b2.lt b hvb).2;omega
 refine ⟨ne,_,Blk.poke k1 i _,fun j hj => ?_,fun i' j' u v b hi' hj' hne hu hv hub => ?_⟩
 ·have hj' : j < rows.length:=by simpa using hj
  rw [hget]
  by_cases e : i = j
  ·subst e
   have : (rows.set i xs)[i] = xs:=by simp
   rw [this,if_pos rfl];exact ⟨A',c',rfl,own_past ho k1 ne i _⟩
  ·have : (rows.set i xs)[j] = rows[j]:=by simp [List.getElem_set,e]
   rw [this,if_neg e];obtain ⟨A2,c2,a2,b2⟩:=h2 j hj';refine ⟨A2,c2,a2,own_past (b2.kept hg ?_) k1 ne i _⟩
   cases hv : (Value.slice A2 rows[j].length c2).ownBlock with
   | none => exact .inl rfl
   | some b =>
    right
    intro he;exact h3 i j _ _ b hi hj' e a1 a2 he.symm hv
 ·have hi2 : i' < rows.length:=by simpa using hi'
  have hj2 : j' < rows.length:=by simpa using hj'
  rw [hget] at hu hv
  by_cases e1 : i = i'
  ·subst e1
   rw [if_pos rfl] at hu;injection hu with hu;subst hu;rw [if_neg hne] at hv;intro hvb;exact hfar j' hj2 hne v b hv hvb hub
  ·rw [if_neg e1] at hu
   by_cases e2 : i = j'
   ·subst e2
    rw [if_pos rfl] at hv;injection hv with hv;subst hv;exact hfar i' hi2 e1 u b hu hub
   ·rw [if_neg e2] at hv
    exact h3 i' j' u v b hi2 hj2 hne hu hv hub
theorem Nest.made {n : Nat} (hne : tI ≠ tS) {cs : Array Value} (h : Blk w g tS cs) (hc : ∀ i,i < n → cs[i]? = some (.slice none 0 0)) : Nest tI tS w base g (List.replicate n []):=by
 refine ⟨hne,cs,h,fun i hi => ?_,fun i j u v b hi hj _ hu hv hub => ?_⟩
 ·have hi' : i < n:=by simpa using hi
  have : (List.replicate n ([] : List Int))[i] = []:=by simp
  rw [this];exact ⟨none,0,hc i hi',World.ownsRow_nil _ _ _ _⟩
 ·rw [hc i (by simpa using hi)] at hu
  injection hu with hu;subst hu
  cases hub
structure NestT (tI tS : TypeId) (w : World) (base g : Nat) (rows : List (List Int)) (v : Value) (n : Nat) (xs : List Value) : Prop where
  nest : Nest tI tS w base g rows
  own : w.ownsRow base tI 1 v n xs
  free : ∀ i, i < rows.length → ∀ u, w.cell? ⟨g, i, none⟩ = some u → u.ownBlock = none ∨ u.ownBlock ≠ v.ownBlock
theorem NestT.cellEq {w w' : World} {i : Nat} (h : Nest tI tS w base g rows) (hb : w'.heap[g]? = w.heap[g]?) : w'.cell? ⟨g,i,none⟩ = w.cell? ⟨g,i,none⟩:=World.cell?_of_block (w:=w) hb
theorem NestT.below {v : Value} {n : Nat} {xs : List Value} (h : NestT tI tS w base g rows v n xs) (hb : Below w.heap.size w w') : NestT tI tS w' base g rows v n xs :=
 ⟨h.nest.below hb,own_keep h.own hb,fun i hi u hu => h.free i hi u (by rw [← NestT.cellEq h.nest (hb.block g h.nest.lt)]; exact hu)⟩
theorem NestT.alloc {v : Value} {n : Nat} {xs : List Value} (h : NestT tI tS w base g rows v n xs) (o : Obj) : NestT tI tS (w.alloc o) base g rows v n xs:=h.below ((Below.refl _ _).alloc (Nat.le_refl _) o)
theorem NestT.begin {v : Value} {n : Nat} {xs : List Value} (h : Nest tI tS w base g rows) (hb : Below w.heap.size w w') (ho : w'.ownsRow w.heap.size tI 1 v n xs) (hB : base ≤ w.heap.size) : NestT tI tS w' base g rows v n xs:=by
 refine ⟨h.below hb,own_weak ho hB,fun i hi u hu => ?_⟩;rw [NestT.cellEq h (hb.block g h.lt)] at hu;obtain ⟨A,c,h1,h2⟩:=h.row hi;rw [h1] at hu;injection hu with hu;subst hu
 cases hv : (Value.slice A rows[i].length c).ownBlock with
 | none => exact .inl rfl
 | some b =>
  right
  intro he;have h3:=(h2.lt b hv).2;have h4:=(ho.lt b he.symm).1;omega
theorem Nest.grown_ (h : Nest tI tS w base g rows) {i : Nat} (hi : i < rows.length) {A : Option Addr} {c : Nat} (hc : w.cell? ⟨g,i,none⟩ = some (.slice A rows[i].length c)) (hg : w.grownBy w' (Value.slice A rows[i].length c).ownBlock) : (∃ cs,Blk w' g tS cs) ∧ ∀ j,w'.cell? ⟨g,j,none⟩ = w.cell? ⟨g,j,none⟩:=by
 obtain ⟨ne,cs,h1,h2,h3⟩:=h;rw [h1.cell] at hc;obtain ⟨A1,c1,a1,b1⟩:=h2 i hi;rw [a1] at hc;injection hc with hc;injection hc with e1 _ e2;subst e1 e2;have k1:=Blk.app b1 h1 hg ne;exact ⟨⟨cs,k1⟩,fun j => by rw [k1.cell,h1.cell]⟩
theorem NestT.push {v : Value} {n : Nat} {ys : List Value} (h : NestT tI tS w base g rows v n ys) {i : Nat} (hi : i < rows.length) {A A' : Option Addr} {c c' : Nat} (hc : w.cell? ⟨g,i,none⟩ = some (.slice A rows[i].length c)) {xs : List Int}
  (hg : w.grownBy w' (Value.slice A rows[i].length c).ownBlock) (ho : w'.ownsRow base tI 1 (.slice A' xs.length c') xs.length (ints xs))
  (hb : (Value.slice A' xs.length c').ownBlock = (Value.slice A rows[i].length c).ownBlock ∨ (Value.slice A' xs.length c').ownBlock = some w.heap.size) : NestT tI tS (w'.setCell ⟨g,i,none⟩ (.slice A' xs.length c')) base g (rows.set i xs) v n ys:=by
 obtain ⟨⟨cs,k1⟩,hcell⟩:=h.nest.grown_ hi hc hg
 have hs : i < cs.size:=by
  have e:=hcell i;rw [hc,k1.cell] at e;exact (Array.getElem?_eq_some_iff.1 e).1
 refine ⟨h.nest.push hi hc hg ho hb,own_past (h.own.kept hg ?_) k1 h.nest.ne i _,fun j hj u hu => ?_⟩
 ·rcases h.free i hi _ hc with e | e
  ·rw [e]
   cases v.ownBlock <;> simp
  ·exact .inr (fun e2 => e e2.symm)
 ·have hj' : j < rows.length:=by simpa using hj
  have k2:=Blk.poke k1 i (.slice A' xs.length c');rw [k2.cell,Array.getElem?_setIfInBounds] at hu
  by_cases e : i = j
  ·subst e
   simp only [if_true,if_pos hs] at hu;injection hu with hu;subst hu;rcases hb with hb | hb
   ·rw [hb]; exact h.free i hi _ hc
   ·rw [hb]
    right
    intro he;have:=(h.own.lt _ he.symm).2;omega
  ·rw [if_neg e,← k1.cell,hcell j] at hu
   exact h.free j hj' u hu
theorem Nest.app {e : TypeId} {size n : Nat} {v : Value} {xs : List Value} {b2 : Nat} (h : Nest tI tS w base g rows) (hown : w.ownsRow b2 e size v n xs) (hg : w.grownBy w' v.ownBlock) (he : e ≠ tS) (hlt : ∀ k,v.ownBlock = some k → k < base) : Nest tI tS w' base g rows:=by
 obtain ⟨ne,cs,h1,h2,h3⟩:=h;refine ⟨ne,cs,Blk.app hown h1 hg he,fun i hi => ?_,h3⟩;obtain ⟨A,c,a,b⟩:=h2 i hi;refine ⟨A,c,a,b.kept hg ?_⟩
 cases hv : (Value.slice A rows[i].length c).ownBlock with
 | none => exact .inl rfl
 | some k =>
  right
  intro he;have:=hlt k he.symm;have:=(b.lt k hv).1;omega
end
end Go.Proofs.YtkchacgkjdeiaaaGreatDoor
/- copy at elements of more than one cell; the walk of slices.Repeat at one pair of numbers. -/
namespace Go.Proofs.YtkchacgkjdeiaaaGreatDoor
open Go.RowKit

theorem run_copy_rowN {P : Program} (w : World) (dT sT ty elem : TypeId) (g o dLen dCap : Nat) (a : Addr) (sLen sCap : Nat) (cur : Array Value) (t : TypeId) (cs : List Value) (size m : Nat)
  (hu : P.underlying dT = some (.slice elem)) (hs : (P.info? elem).map (·.size) = some size)
  (hg : w.heap[g]? = some (.cells cur t (0,0))) (hm : m = Nat.min sLen dLen) (hn : cs.length = m * size)
  (hsrc : ∀ j v,cs[j]? = some v → w.cell? (a.add j) = some v) (hfit : o + cs.length ≤ cur.size) (h1 : ∀ v ∈ cs,v.oneCell' = true) :
  (Builtin.copy_ #[dT,sT] ty #[.slice (some ⟨g,o,none⟩) dLen dCap,.slice (some a) sLen sCap]).run P w =
   .ok (goInt m) (w.setRow g (cur.toList.take o ++ cs ++ cur.toList.drop (o + cs.length)).toArray):=by
 have hl:=run_loadCells_list (P:=P) w a cs hsrc;have hst:=run_storeCells_at P g o t cs 0 cur w hg (by simpa using hfit) h1
 cases hq : P.info? elem with
 | none => simp [hq] at hs
 | some i =>
  have hi : i.size = size:=by simpa [hq] using hs
  rw [hn] at hl;subst hm
  simp [Builtin.copy_,run_underlying hu,Builtin.lenOf,Builtin.firstCells,sizeOf,typeInfo,hq,hi,hl,hst]

theorem wpList_copyN {P : Program} {w : World} {ops : Array Oper} {rest : List Oper} {o : Oper} {a : Act} {Q : Exit → Act → World → Prop} (hgd : o.guard = none) (d s : Operand) (dT sT : TypeId)
  (ho : o.op = .call { callee:=.builtin .copy,args:=#[d,s],argTypes:=#[dT,sT] }) (elem : TypeId) (size m : Nat) (hu : P.underlying dT = some (.slice elem)) (hsz : (P.info? elem).map (·.size) = some size)
  (g off dLen dCap : Nat) (ad : Addr) (sLen sCap : Nat) (hd : a.eval d = .slice (some ⟨g,off,none⟩) dLen dCap) (hs : a.eval s = .slice (some ad) sLen sCap)
  (cur : List Value) (t : TypeId) (hg : w.heap[g]? = some (.cells cur.toArray t (0,0))) (cs : List Value) (hm : m = Nat.min sLen dLen) (hn : cs.length = m * size)
  (hsrc : ∀ j v,cs[j]? = some v → w.cell? (ad.add j) = some v) (hfit : off + cs.length ≤ cur.length) (h1 : ∀ v ∈ cs,v.oneCell' = true) (B : Nat) (w0 : World) (hb : Below B w0 w) (hBg : B ≤ g)
  (h : ∀ w',Hid (w'.heap[g]? = some (.cells (splice cur off cs).toArray t (0,0))) → Below B w0 w' → wpList P ops Q rest (a.put o.dst (goInt m)) w') : wpList P ops Q (o :: rest) a w:=by
 refine wpList_plain hgd fun K hK => ?_
 have hrun:=run_copy_rowN (P:=P) w dT sT o.type elem g off dLen dCap ad sLen sCap cur.toArray t cs size m hu hsz hg hm hn hsrc (by simpa using hfit) h1;unfold Oper.wp
 simp [execOp,ho,resolve,invoke,builtin,hd,hs,hrun,Result.andThen]
 exact hK _ _ (h _ (show _ = _ by simpa [splice] using setRow_heap w g _ _ t _ hg) (below_setRow hb hBg _))
theorem step_copyN {P : Program} {ops : Array Oper} {o : Oper} {a : Act} {w : World} {K : Act → World → Prop} {Q : Exit → Act → World → Prop} {E : Prop} (hgd : o.guard = none) (d s : Operand) (dT sT : TypeId)
  (ho : o.op = .call { callee:=.builtin .copy,args:=#[d,s],argTypes:=#[dT,sT] }) (elem : TypeId) (size m : Nat) (hu : P.underlying dT = some (.slice elem)) (hsz : (P.info? elem).map (·.size) = some size)
  (g off dLen dCap : Nat) (ad : Addr) (sLen sCap : Nat) (hd : a.eval d = .slice (some ⟨g,off,none⟩) dLen dCap) (hs : a.eval s = .slice (some ad) sLen sCap)
  (cur : List Value) (t : TypeId) (hg : w.heap[g]? = some (.cells cur.toArray t (0,0))) (cs : List Value) (hm : m = Nat.min sLen dLen) (hn : cs.length = m * size)
  (hsrc : ∀ j v,cs[j]? = some v → w.cell? (ad.add j) = some v) (hfit : off + cs.length ≤ cur.length) (h1 : ∀ v ∈ cs,v.oneCell' = true) (B : Nat) (w0 : World) (hb : Below B w0 w) (hBg : B ≤ g)
  (h : ∀ w',Hid (w'.heap[g]? = some (.cells (splice cur off cs).toArray t (0,0))) → Below B w0 w' → K (a.put o.dst (goInt m)) w') :
  if Region.wanted o (yielded ops a.tmps) = true then Oper.wp P o a w K Q else E:=by
 have hw : Region.wanted o (yielded ops a.tmps) = true:=by simp [Region.wanted,hgd]
 rw [if_pos hw];have hrun:=run_copy_rowN (P:=P) w dT sT o.type elem g off dLen dCap ad sLen sCap cur.toArray t cs size m hu hsz hg hm hn hsrc (by simpa using hfit) h1;unfold Oper.wp
 simp [execOp,ho,resolve,invoke,builtin,hd,hs,hrun,Result.andThen]
 exact h _ (show _ = _ by simpa [splice] using setRow_heap w g _ _ t _ hg) (below_setRow hb hBg _)

theorem prs_cons (p : Int × Int) (ps : List (Int × Int)) : prs (p :: ps) = .int .i64 p.1 :: .int .i64 p.2 :: prs ps:=rfl
theorem prs_take (ps : List (Int × Int)) (k : Nat) : (prs ps).take (k * 2) = prs (ps.take k):=by
 induction ps generalizing k with
 | nil => simp [prs]
 | cons p ps ih =>
  cases k with
  | zero => rfl
  | succ k =>
   have e : (k + 1) * 2 = k * 2 + 1 + 1:=by omega
   rw [prs_cons,e,List.take_succ_cons,List.take_succ_cons,ih,List.take_succ_cons,prs_cons]
theorem prs_drop (ps : List (Int × Int)) (k : Nat) : (prs ps).drop (k * 2) = prs (ps.drop k):=by
 induction ps generalizing k with
 | nil => simp [prs]
 | cons p ps ih =>
  cases k with
  | zero => rfl
  | succ k =>
   have e : (k + 1) * 2 = k * 2 + 1 + 1:=by omega
   rw [prs_cons,e,List.drop_succ_cons,List.drop_succ_cons,ih,List.drop_succ_cons]
theorem prs_splice (ps qs : List (Int × Int)) (k : Nat) : splice (prs ps) (k * 2) (prs qs) = prs (splice ps k qs):=by
 unfold splice;rw [prs_take,prs_len,← Nat.add_mul,prs_drop,prs_app,prs_app]
def repP (p : Int × Int) (n k : Nat) : List (Int × Int):=List.replicate k p ++ List.replicate (n - k) (0,0)
theorem repP_len (p : Int × Int) (n k : Nat) (hk : k ≤ n) : (repP p n k).length = n:=by simp [repP]; omega
theorem repP_splice (p : Int × Int) (n k m : Nat) (_ : k + m ≤ n) : splice (repP p n k) k (List.replicate m p) = repP p n (k + m):=by
 unfold splice repP;rw [List.take_left' (by simp),List.length_replicate,List.drop_append,List.drop_replicate,List.drop_replicate,List.length_replicate]
 have e1 : k - (k + m) = 0:=by omega
 have e2 : k + m - k = m:=by omega
 have e3 : n - k - m = n - (k + m):=by omega
 rw [e1,e2,e3,List.replicate_zero,List.nil_append,← List.append_assoc,List.replicate_append_replicate]
theorem repP_full (p : Int × Int) (n : Nat) : repP p n n = List.replicate n p:=by simp [repP]
def repC (p : Int × Int) (n k : Nat) : List Value:=prs (repP p n k)
def repS (p : Int × Int) (m : Nat) : List Value:=prs (List.replicate m p)
theorem repC_len (p : Int × Int) (n k : Nat) (hk : k ≤ n) : (repC p n k).length = n * 2:=by rw [repC,prs_len,repP_len p n k hk]
theorem repS_len (p : Int × Int) (m : Nat) : (repS p m).length = m * 2:=by rw [repS,prs_len,List.length_replicate]
theorem repC_splice (p : Int × Int) (n k m : Nat) (h : k + m ≤ n) : splice (repC p n k) (k * 2) (repS p m) = repC p n (k + m):=by rw [repC,repS,prs_splice,repP_splice p n k m h,repC]
theorem repC_none (p : Int × Int) (n : Nat) : repC p n 0 = (madeCells #[.int .i64 0,.int .i64 0] (n * 2)).toList:=by
 apply List.ext_getElem?;intro j
 by_cases hj : j < n * 2
 ·have h1 : (repC p n 0)[j]? = some (.int .i64 0):=by
   have h0 : repC p n 0 = List.replicate (n * 2) (.int .i64 0):=by
    rw [repC,repP];simp only [List.replicate_zero,List.nil_append,Nat.sub_zero];clear hj
    induction n with
    | zero => rfl
    | succ n ih =>
     have e : (n + 1) * 2 = n * 2 + 1 + 1:=by omega
     rw [List.replicate_succ,prs_cons,ih,e,List.replicate_succ,List.replicate_succ]
   rw [h0,List.getElem?_replicate,if_pos hj]
  rw [h1]
  have h2 : ((madeCells #[Value.int .i64 0,Value.int .i64 0] (n * 2)).toList)[j]? = some (#[Value.int .i64 0,Value.int .i64 0][j % 2]!):=by
   simp [madeCells,hj]
  rw [h2]
  have : j % 2 = 0 ∨ j % 2 = 1:=by omega
  rcases this with h | h <;> rw [h] <;> rfl
 ·rw [List.getElem?_eq_none (by rw [repC_len p n 0 (by omega)]; omega),List.getElem?_eq_none (by simp [size_madeCells]; omega)]
theorem own_wholeN {w : World} {base : Nat} {e : TypeId} {g n size : Nat} {xs : List Value} (h : w.ownsRow base e size (.slice (some ⟨g,0,none⟩) n n) n xs) : w.heap[g]? = some (.cells xs.toArray e (0,0)):=by
 rcases h.2 with ⟨h0,_⟩ | ⟨g',cap,cur,hv,hg,hh,hcap,hm,hcs,ht⟩
 ·cases h0
 ·injection hv with h1 _ h3
  injection h1 with h1;injection h1 with h1;subst h1 h3;rw [hh];rw [List.take_of_length_le (by simp [hcs])] at ht;subst ht
  simp
theorem own_of_wholeN {w : World} {base : Nat} {e : TypeId} {g n size : Nat} {xs : List Value} (h : w.heap[g]? = some (.cells xs.toArray e (0,0))) (hx : xs.length = n * size) (hb : base ≤ g) (hm : n ≤ 9223372036854775807) : w.ownsRow base e size (.slice (some ⟨g,0,none⟩) n n) n xs :=
 ⟨hx,.inr ⟨g,n,xs.toArray,rfl,hb,h,Nat.le_refl _,by simp only [maxLen]; omega,by simp [hx],by rw [List.take_of_length_le (by simp [hx])]⟩⟩
theorem repC_src {w : World} {g : Nat} {e : TypeId} (p : Int × Int) (n k j : Nat) (v : Value) (m : Nat) (hm : m ≤ k) (hr : w.heap[g]? = some (.cells (repC p n k).toArray e (0,0))) (hv : (repS p m)[j]? = some v) : w.cell? ((⟨g,0,none⟩ : Addr).add j) = some v:=by
 refine World.news_of_block hr j v ?_
 have e1 : repS p m = (repC p n k).take (m * 2):=by
  rw [repS,repC,prs_take,repP,List.take_append_of_le_length (by simp; omega),List.take_replicate]
  congr 2
  omega
 rw [e1] at hv;have:=(List.getElem?_eq_some_iff.1 hv).1;rw [List.getElem?_take_of_lt (by simp at this; omega)] at hv
 simpa using hv
theorem sz_far : (Tryz.prog.info? 238).map (·.size) = some 2:=by kernel_rfl
theorem ty_fars : SliceTy Tryz.prog 241 238 2 16:=.mk' Tryz.underlying241 (z:=.agg #[.int .i64 0,.int .i64 0]) (by kernel_rfl) rfl (by decide)
set_option maxRecDepth 100000 in
set_option maxHeartbeats 1000000 in
theorem repeatF_any (A : Option Addr) (c lo : Nat) (p : Int × Int) (n : Nat) (w : World) (hr : Row w lo 2 A 1 (prs [p])) (hn : n ≤ 1000000000) (hn1 : 1 ≤ n) :
  Calls Tryz.prog 202 #[.slice A 1 c,.int .i64 n] w fun e w' => ∃ A' c',e = .returned (.slice A' n c') ∧ w'.ownsRow w.heap.size 238 2 (.slice A' n c') n (prs (List.replicate n p)) ∧ Below w.heap.size w w':=by
 obtain ⟨und,⟨i0,z0,hi0,hz0,hz1,hz2,hz3⟩,_⟩:=ty_fars
 have hz0' : z0 = .agg #[.int .i64 0,.int .i64 0]:=by
  have : (Tryz.prog.info? 238).map (fun i => i.zero) = some (some (.agg #[.int .i64 0,.int .i64 0])):=by kernel_rfl
  rw [hi0] at this
  simp [hz0] at this
  exact this
 subst hz0';obtain ⟨sb,so,rfl,_,hsb,hsc⟩:=hr.2 (by omega)
 have hd0 : decide ((n : Int) < 0) = false:=by simp
 have hd1 : decide ((9223372036854775807 : Int) < (n : Int)) = false:=by simp; omega
 go_enter Tryz.func202,Tryz.ntmps202
 go_wp2_with fail;refine (mul_one' n hn _).mono ?_;rintro e w' ⟨rfl,rfl⟩
 go_wp2_with (first | (at_make; go_must (refine wpList_make_full _ rfl _ _ 241 rfl w.heap.size 238 i0 _ 2 und hi0 hz0 hz1 .i64 .i64 _ _ n rfl rfl rfl rfl (by rw [hz2]; omega) (by simp only [maxLen]; omega) (Nat.le_refl _) ?_)))
 intro w1 hown1 hg1;rw [← repC_none p n] at hown1;have HR0:=Lib.hid (own_wholeN hown1);have hb1 : Below w.heap.size w w1:=below_of_grown hg1 (Nat.le_refl _) (fun k hk => by cases hk);have hr1:=hr.below hb1;have hl0:=repC_len p n 0 (by omega)
 have hs1 : ∀ j v,(repS p 1)[j]? = some v → w1.cell? ((⟨sb,so,none⟩ : Addr).add j) = some v:=by
  intro j v hv
  have e : (⟨sb,so,none⟩ : Addr).add j = ⟨sb,so + j,none⟩:=by unfold Addr.add; split <;> simp_all
  rw [e,World.cell?_of_block (hb1.block sb hsb)];exact hsc j v hv
 have HS:=Lib.hid hs1;clear hown1 hs1 hsc
 go_wp2_with (refine wpList_copyN rfl (.tmp 31) (.tmp 32) 241 241 rfl 238 2 1 und sz_far w.heap.size 0 n n ⟨sb,so,none⟩ 1 c rfl rfl (repC p n 0) 238 HR0.out (repS p 1) (by simp only [Nat.min_def]; split <;> omega) (repS_len _ _) HS.out (by rw [repS_len]; omega) (prs_one _) w.heap.size w hb1 (Nat.le_refl _) ?_)
 intro w2 HR1 hb2
 have HR2 : Hid (w2.heap[w.heap.size]? = some (.cells (repC p n 1).toArray 238 (0,0))):=by
  have h1:=HR1.out;rw [show (0 : Nat) = 0 * 2 from rfl,repC_splice p n 0 1 (by omega),Nat.zero_add] at h1;exact Lib.hid h1
 clear HR1 HR0 hl0 HS hr hr1;go_wp2_with fail
 go_loopw [8] (fun i wr => ∃ k : Nat,k ≤ n ∧ 0 < k ∧ i = .int .i64 k ∧ Hid (wr.heap[w.heap.size]? = some (.cells (repC p n k).toArray 238 (0,0))) ∧ Below w.heap.size w wr) (fun i _ => n - (intOf i).toNat)
 case atStart => exact ⟨1,by omega,by omega,rfl,HR2,hb2⟩
 case round =>
  obtain ⟨k,hk,hk1,rfl,HR,hbw⟩:=hrel
  by_cases hlt : k < n
  ·have hl1:=repC_len p n k hk
   have HL1:=Lib.hid hl1;clear hl1
   have hnk : ¬ n = k:=by omega
   have hw1 : IntKind.i64.wrap ((k : Int) + ((min k (n - k) : Nat) : Int)) = (k : Int) + ((min k (n - k) : Nat) : Int):=IntWalk.i64_in _ ⟨by omega,by omega⟩;generalize hm : min k (n - k) = m at hw1;have HM:=Lib.hid hm;clear hm;go_wp2_with fail
   go_region_law (refine step_copyN rfl (.tmp 41) (.tmp 44) 241 241 rfl 238 2 m und sz_far w.heap.size (k * 2) (n - k) (n - k) ⟨w.heap.size,0,none⟩ k n (by simp [Act.eval,Act.put,hnk]) (by simp [Act.eval,Act.put]) (repC p n k) 238 HR.out (repS p m) (by have:=HM.out; simp only [Nat.min_def] at this ⊢; exact this.symm) (repS_len _ _) (fun j v hv => repC_src p n k j v m (by have:=HM.out; omega) HR.out hv) (by rw [repS_len,HL1.out]; have:=HM.out; omega) (prs_one _) w.heap.size w hbw.drew (Nat.le_refl _) ?_; intro w3 HR3 hb3)
   have HR4 : Hid (w3.heap[w.heap.size]? = some (.cells (repC p n (k + m)).toArray 238 (0,0))):=by
    have h1:=HR3.out;rw [repC_splice p n k m (by have:=HM.out; omega)] at h1;exact Lib.hid h1
   clear HR3;go_wp2_with fail
   go_frame
   clear hw1;have:=HM.out;go_roundw
   case rel =>
    refine ⟨_,_,_,_,_,_,_,_,_,_,_,_,_,_,?_,rfl⟩;exact ⟨k + m,by omega,by omega,by simp,HR4,hb3⟩
   case measure => simp [intOf]; omega
  ·have hkn : k = n:=by omega
   subst hkn;go_wp2_with fail;go_ret;refine ⟨_,_,rfl,?_,hbw⟩;have:=own_of_wholeN (base:=w.heap.size) (size:=2) HR.out (repC_len _ _ _ (Nat.le_refl _)) (Nat.le_refl _) (by omega);rw [repC,repP_full] at this;exact this
end Go.Proofs.YtkchacgkjdeiaaaGreatDoor
/- The walks of what checks a video: greatest common divisors, multiples, frames, CheckVideo and its reference. -/
namespace Go.Proofs.YtkchacgkjdeiaaaGreatDoor
open Go.RowKit

set_option maxHeartbeats 400000 in
theorem gcd_any (x y : Nat) (w : World) (hx : x ≤ 9223372036854775807) (hy : y ≤ 9223372036854775807) :
  Calls Tryz.prog 163 #[.int .i64 x,.int .i64 y] w fun e w' => e = .returned (.int .i64 (Nat.gcd x y : Int)) ∧ ∃ q,w' = w.drewN q:=by
 go_enter Tryz.func163,Tryz.ntmps163
 go_wp2_with fail
 go_loopw [0,1] (fun a b wr => ∃ (p r q : Nat),a = .int .i64 p ∧ b = .int .i64 r ∧ p ≤ 9223372036854775807 ∧ r ≤ 9223372036854775807 ∧ Hid (Nat.gcd p r = Nat.gcd x y) ∧ wr = w.drewN q) (fun _ b _ => (intOf b).toNat)
 case atStart => exact ⟨x,y,0,rfl,rfl,hx,hy,Lib.hid rfl,rfl⟩
 case round =>
  obtain ⟨p,r,q,rfl,rfl,hp,hr,hg,rfl⟩:=hrel
  by_cases h0 : r = 0
  ·have h0' : ((r : Int) != 0) = false:=by simp [h0]
   have HG : Hid (p = Nat.gcd x y):=Lib.hid (by rw [← hg.out,h0,Nat.gcd_zero_right]);clear h0;go_wp2_with fail;go_ret;exact ⟨ret_int' (by rw [← HG.out]),_,rfl⟩
  ·have h0' : ((r : Int) != 0) = true:=by simp; omega
   have h0'' : ((r : Int) == 0) = false:=by simp; omega
   have HG : Hid (Nat.gcd r (p % r) = Nat.gcd x y):=Lib.hid (by rw [← hg.out,Nat.gcd_comm r (p % r),← Nat.gcd_rec r p,Nat.gcd_comm]);have hm : p % r < r:=Nat.mod_lt _ (by omega)
   have hr1 : 1 ≤ (r : Int):=by omega
   go_wp2_with fail
   go_quiet (fail)
   go_wp2_with fail;go_roundw
   case rel => exact ⟨r,p % r,_,rfl,by simp,hr,by omega,HG,World.drewN_drewN _ _ _⟩
   case measure => simp [intOf]; omega

set_option maxHeartbeats 400000 in
theorem lowest_any (x y : Nat) (w : World) (hx : x ≤ 9223372036854775807) (hy : y ≤ 9223372036854775807) :
  Calls Tryz.prog 162 #[.agg #[.int .i64 x,.int .i64 y]] w fun e w' => e = .returned (.bool (Nat.gcd x y == 1)) ∧ Below w.heap.size w w':=by
 go_enter Tryz.func162,Tryz.ntmps162
 go_wp2_with fail
 go_quiet (fail)
 go_wp2_with fail
 go_loopw [3,4] (fun a b wr => ∃ (p r : Nat),a = .int .u64 p ∧ b = .int .u64 r ∧ p ≤ 9223372036854775807 ∧ r ≤ 9223372036854775807 ∧ Hid (Nat.gcd p r = Nat.gcd x y) ∧ Below w.heap.size w wr) (fun _ b _ => (intOf b).toNat)
 case atStart => exact ⟨x,y,rfl,rfl,hx,hy,Lib.hid rfl,below_drewN' ((Below.refl _ _).alloc (Nat.le_refl _) _) _⟩
 case round =>
  obtain ⟨p,r,rfl,rfl,hp,hr,hg,hbw⟩:=hrel
  by_cases h0 : r = 0
  ·have h0' : ((r : Int) != 0) = false:=by simp [h0]
   have HG : Hid (p = Nat.gcd x y):=Lib.hid (by rw [← hg.out,h0,Nat.gcd_zero_right]);clear h0;go_wp2_with fail;go_ret;refine ⟨ret_bool' ?_,hbw⟩;rw [← HG.out,Bool.eq_iff_iff]
   simp
   omega
  ·have h0' : ((r : Int) != 0) = true:=by simp; omega
   have h0'' : ((r : Int) == 0) = false:=by simp; omega
   have HG : Hid (Nat.gcd r (p % r) = Nat.gcd x y):=Lib.hid (by rw [← hg.out,Nat.gcd_comm r (p % r),← Nat.gcd_rec r p,Nat.gcd_comm]);have hm : p % r < r:=Nat.mod_lt _ (by omega)
   have hr1 : 1 ≤ (r : Int):=by omega
   go_wp2_with fail
   go_quiet (fail)
   go_wp2_with fail;go_roundw
   case rel => exact ⟨r,p % r,rfl,by simp,hr,by omega,HG,below_drewN' hbw _⟩
   case measure => simp [intOf]; omega

set_option maxHeartbeats 1000000 in
theorem multiple_any (A : Option Addr) (c lo : Nat) (v : List St) (w : World) (hr : Row w lo 3 A v.length (trs v)) (hl : v.length ≤ 1000000000) (hf : ∀ s ∈ v,1 ≤ s.2.1 ∧ s.2.1 ≤ 1001000) :
  Calls Tryz.prog 131 #[.slice A v.length c] w fun e w' => e = .returned (.int .i64 (multK v)) ∧ Below w.heap.size w w':=by
 have HF:=Lib.hid hf;clear hf
 go_enter Tryz.func131,Tryz.ntmps131
 go_wp2_with fail
 go_loopw [3,8] (fun n i wr => ∃ k : Nat,k ≤ v.length ∧ i = .int .i64 k ∧ n = .int .i64 (multK (v.take k)) ∧ Below w.heap.size w wr) (fun _ i _ => v.length - (intOf i).toNat)
 case atStart => exact ⟨0,Nat.zero_le _,rfl,rfl,Below.refl _ _⟩
 case round =>
  obtain ⟨k,hk,rfl,rfl,hbw⟩:=hrel
  by_cases hlt : k < v.length
  ·obtain ⟨b,off,rfl,_,hbs,c0,c1,c2⟩:=(hr.below hbw).tr_at hlt
   have HT:=Lib.hid (multK_take v k hlt)
   obtain ⟨m1,m2⟩:=multK_bd (v.take k) fun s hs => HF.out s (List.mem_of_mem_take hs)
   obtain ⟨n1,n2⟩:=HF.out v[k] (List.getElem_mem _);have hbd:=mstep_bd m1 m2 n1 n2;generalize multK (v.take k) = M at *;obtain ⟨x,rfl⟩:=Int.eq_ofNat_of_zero_le (show 0 ≤ M by omega);obtain ⟨y,hy⟩:=Int.eq_ofNat_of_zero_le (show 0 ≤ v[k].2.1 by omega);rw [hy] at c1 n1 n2
   by_cases hx : x ≤ 100000000
   ·have HE : Hid (mstep x v[k] = (x : Int) / (Nat.gcd x y : Int) * (y : Int)):=Lib.hid (by
     unfold mstep gcdI
     rw [if_pos (by omega),hy,Int.toNat_natCast,Int.toNat_natCast])
    rw [HE.out] at hbd;obtain ⟨b1,b2⟩:=hbd;have g1 : 1 ≤ Nat.gcd x y:=Nat.gcd_pos_of_pos_left _ (by omega)
    have g1' : (1 : Int) ≤ (Nat.gcd x y : Int):=by omega
    have g0 : ((Nat.gcd x y : Int) == 0) = false:=by simp; omega
    have q0 : 0 ≤ (x : Int) / (Nat.gcd x y : Int):=Int.ediv_nonneg (by omega) (by omega);have q1 : (x : Int) / (Nat.gcd x y : Int) ≤ (x : Int):=Int.ediv_le_self _ (by omega);have wr1 : IntKind.i64.wrap ((x : Int) / (Nat.gcd x y : Int)) = (x : Int) / (Nat.gcd x y : Int):=IntWalk.i64_in _ ⟨by omega,by omega⟩;have wr2 : IntKind.i64.wrap ((x : Int) / (Nat.gcd x y : Int) * (y : Int)) = (x : Int) / (Nat.gcd x y : Int) * (y : Int):=IntWalk.i64_in _ ⟨by omega,by omega⟩;clear hy;go_wp2_with fail
    go_quiet ((go_at_call 163; exact Calls.quiet_of (gcd_any x y _ (by omega) (by omega))))
    clear wr1 wr2;go_wp2_with fail;go_roundw
    case rel => exact ⟨k + 1,by omega,by go_num,by rw [HT.out,HE.out],below_drewN' (hbw.alloc hbw.size _) _⟩
    case measure => simp [intOf]; omega
   ·have HE : Hid (mstep x v[k] = x):=Lib.hid (mstep_mono (by omega))
    clear hbd hy;go_wp2_with fail;go_roundw
    case rel => exact ⟨k + 1,by omega,by go_num,by rw [HT.out,HE.out],hbw.alloc hbw.size _⟩
    case measure => simp [intOf]; omega
  ·go_wp2_with fail
   go_ret;exact ⟨ret_int' (by rw [List.take_of_length_le (by omega)]),hbw⟩

set_option maxHeartbeats 400000 in
theorem vframes_any (A : Option Addr) (c lo : Nat) (v : List St) (w : World) (hr : Row w lo 3 A v.length (trs v)) (hl : v.length ≤ 1000000000) (hb : ∀ s ∈ v,0 ≤ s.1) (hs : fsum v ≤ 1000000000000000) :
  Calls Tryz.prog 129 #[.slice A v.length c] w fun e w' => e = .returned (.int .i64 (fsum v)) ∧ Below w.heap.size w w':=by
 go_enter Tryz.func129,Tryz.ntmps129
 go_wp2_with fail
 go_loopw [3,8] (fun n i wr => ∃ k : Nat,k ≤ v.length ∧ i = .int .i64 k ∧ n = .int .i64 (fsum (v.take k)) ∧ Below w.heap.size w wr) (fun _ i _ => v.length - (intOf i).toNat)
 case atStart => exact ⟨0,Nat.zero_le _,rfl,rfl,Below.refl _ _⟩
 case round =>
  obtain ⟨k,hk,rfl,rfl,hbw⟩:=hrel
  by_cases hlt : k < v.length
  ·obtain ⟨b,off,rfl,_,hbs,c0,c1,c2⟩:=(hr.below hbw).tr_at hlt
   have ht:=fsum_take v k hlt;have h1:=fsum_take_le v k hb;have h2:=fsum_take_le v (k + 1) hb;have HT:=Lib.hid ht;rw [ht] at h2;clear ht;go_wp2_with fail;go_roundw
   case rel => exact ⟨k + 1,by omega,by go_num,by rw [HT.out],hbw.alloc hbw.size _⟩
   case measure => simp [intOf]; omega
  ·go_wp2_with fail
   go_ret;exact ⟨ret_int' (by rw [List.take_of_length_le (by omega)]),hbw⟩

end Go.Proofs.YtkchacgkjdeiaaaGreatDoor
/- The walks of CheckVideo and of its reference VideoFault, and of FramesOf. -/
namespace Go.Proofs.YtkchacgkjdeiaaaGreatDoor
open Go.RowKit

theorem sFault_arg {s : St} (h : ¬ (1 ≤ s.1 ∧ s.1 ≤ 10000000)) : sFault s = 1:=by
 have : argOk s = false:=by rw [Bool.eq_false_iff,Ne,argOk_iff]; exact h
 simp [sFault,this]
theorem sFault_form {s : St} (h : 1 ≤ s.1 ∧ s.1 ≤ 10000000) (h' : ¬ (1 ≤ s.2.2 ∧ s.2.2 ≤ 1001 ∧ s.2.2 ≤ s.2.1 ∧ s.2.1 ≤ 1000 * s.2.2 ∧ gcdI s.2.1 s.2.2 = 1)) : sFault s = 3:=by
 have a : argOk s = true:=(argOk_iff s).2 h
 have : formOk s = false:=by rw [Bool.eq_false_iff,Ne,formOk_iff]; exact h'
 simp [sFault,this,a]
theorem sFault_good {s : St} (h : 1 ≤ s.1 ∧ s.1 ≤ 10000000) (h' : 1 ≤ s.2.2 ∧ s.2.2 ≤ 1001 ∧ s.2.2 ≤ s.2.1 ∧ s.2.1 ≤ 1000 * s.2.2 ∧ gcdI s.2.1 s.2.2 = 1) : sFault s = 0:=by
 have a : argOk s = true:=(argOk_iff s).2 h;have : formOk s = true:=(formOk_iff s).2 h'
 simp [sFault,this,a]
theorem all_right {v : List St} (h : ∀ s ∈ v,sFault s = 0) : (∀ s ∈ v,1 ≤ s.1 ∧ s.1 ≤ 10000000) ∧ ∀ s ∈ v,1 ≤ s.2.1 ∧ s.2.1 ≤ 1001000 :=
 ⟨fun s hs => (argOk_iff s).1 (sFault_ok (h s hs)).1,fun s hs => by have:=(formOk_iff s).1 (sFault_ok (h s hs)).2; omega⟩

set_option maxHeartbeats 1000000 in
theorem checkVideo_any (A : Option Addr) (c lo : Nat) (v : List St) (w : World) (hr : Row w lo 3 A v.length (trs v)) (hl : v.length ≤ 1000000000) (hi : ∀ s ∈ v,s.2.1 ≤ 9223372036854775807) :
  Calls Tryz.prog 128 #[.slice A v.length c] w fun e w' => e = .returned (.int .i64 (vFault v)) ∧ Below w.heap.size w w':=by
 have HI:=Lib.hid hi;clear hi
 by_cases hlong : 500 < v.length
 ·have HF:=Lib.hid (vFault_long v hlong)
  go_enter Tryz.func128,Tryz.ntmps128
  go_wp2_with fail;go_ret;exact ⟨ret_int' HF.out.symm,Below.refl _ _⟩
 ·go_enter Tryz.func128,Tryz.ntmps128
  go_wp2_with fail
  go_loopw [11] (fun i wr => ∃ k : Nat,k ≤ v.length ∧ i = .int .i64 k ∧ Hid (∀ s ∈ v.take k,sFault s = 0) ∧ Below w.heap.size w wr) (fun i _ => v.length - (intOf i).toNat)
  case atStart => exact ⟨0,Nat.zero_le _,rfl,Lib.hid (by simp),Below.refl _ _⟩
  case round =>
   obtain ⟨k,hk,rfl,hv,hbw⟩:=hrel;have zw:=hbw.size
   by_cases hlt : k < v.length
   ·obtain ⟨b,off,rfl,_,hbs,c0,c1,c2⟩:=(hr.below hbw).tr_at hlt
    have hbad:=vFault_bad v k (by omega) hlt hv.out;have HBAD:=Lib.hid hbad;have HTK:=Lib.hid (sFault_take hv.out hlt);have hnum:=HI.out v[k] (List.getElem_mem _);clear hbad;generalize hsk : v[k] = s at *;clear hsk;go_wp2_with fail;refine (out_any _ _ _ _).mono ?_;rintro e w1 ⟨rfl,rfl⟩
    by_cases h1 : 1 ≤ s.1 ∧ s.1 ≤ 10000000
    ·have h1' : (decide (s.1 < 1) || decide (10000000 < s.1)) = false:=by simp; omega
     rw [h1'];go_wp2_with fail;refine (out_any _ _ _ _).mono ?_;rintro e w1 ⟨rfl,rfl⟩
     by_cases h2 : 1 ≤ s.2.2 ∧ s.2.2 ≤ 1001
     ·have h2' : (decide (s.2.2 < 1) || decide (1001 < s.2.2)) = false:=by simp; omega
      rw [h2'];obtain ⟨h21,h22⟩:=h2;go_wp2_with fail;refine (out_any _ _ _ _).mono ?_;rintro e w1 ⟨rfl,rfl⟩
      by_cases h3 : s.2.2 ≤ s.2.1 ∧ s.2.1 ≤ 1000 * s.2.2
      ·have h3' : (decide (s.2.1 < s.2.2) || decide (1000 * s.2.2 < s.2.1)) = false:=by simp; omega
       rw [h3'];obtain ⟨x,hx⟩:=Int.eq_ofNat_of_zero_le (show 0 ≤ s.2.1 by omega);obtain ⟨y,hy⟩:=Int.eq_ofNat_of_zero_le (show 0 ≤ s.2.2 by omega)
       have hG : gcdI s.2.1 s.2.2 = (Nat.gcd x y : Int):=by unfold gcdI; rw [hx,hy,Int.toNat_natCast,Int.toNat_natCast]
       have HG:=Lib.hid hG;have HX:=Lib.hid hx;have HY:=Lib.hid hy;go_wp2_with fail;clear hx hy hG;refine (lowest_any x y _ (by have:=HX.out; omega) (by have:=HY.out; omega)).mono ?_;rintro e w1 ⟨rfl,hb1⟩
       by_cases h4 : Nat.gcd x y = 1
       ·have h4' : (Nat.gcd x y == 1) = true:=by simpa using h4
        have HN:=Lib.hid (HTK.out (sFault_good h1 ⟨h21,h22,h3.1,h3.2,by rw [HG.out,h4]; rfl⟩));rw [h4'];clear h4 h4';go_wp2_with fail;go_roundw
        case rel => exact ⟨k + 1,by omega,by go_num,HN,below_up (by repeat (first | exact hbw | refine Below.alloc ?_ (by first | omega | (simp; omega)) _ | refine below_drewN' ?_ _ | refine Below.drew ?_)) hb1⟩
        case measure => simp [intOf]; omega
       ·have h4' : (Nat.gcd x y == 1) = false:=by simpa using h4
        have HF3 : Hid (sFault s = 3):=Lib.hid (sFault_form h1 (by rw [HG.out]; omega));have HF:=Lib.hid (HBAD.out (by rw [HF3.out]; omega));rw [h4'];clear h4 h4';go_wp2_with fail;go_ret;exact ⟨ret_int' (by rw [HF.out,HF3.out]),below_up (by repeat (first | exact hbw | refine Below.alloc ?_ (by first | omega | (simp; omega)) _ | refine below_drewN' ?_ _ | refine Below.drew ?_)) hb1⟩
      ·have h3' : (decide (s.2.1 < s.2.2) || decide (1000 * s.2.2 < s.2.1)) = true:=by simp; omega
       have HF3 : Hid (sFault s = 3):=Lib.hid (sFault_form h1 (by omega));have HF:=Lib.hid (HBAD.out (by rw [HF3.out]; omega));rw [h3'];go_wp2_with fail;go_ret;exact ⟨ret_int' (by rw [HF.out,HF3.out]),(by repeat (first | exact hbw | refine Below.alloc ?_ (by first | omega | (simp; omega)) _ | refine below_drewN' ?_ _ | refine Below.drew ?_))⟩
     ·have h2' : (decide (s.2.2 < 1) || decide (1001 < s.2.2)) = true:=by simp; omega
      have HF3 : Hid (sFault s = 3):=Lib.hid (sFault_form h1 (by omega));have HF:=Lib.hid (HBAD.out (by rw [HF3.out]; omega));rw [h2'];go_wp2_with fail;go_ret;exact ⟨ret_int' (by rw [HF.out,HF3.out]),(by repeat (first | exact hbw | refine Below.alloc ?_ (by first | omega | (simp; omega)) _ | refine below_drewN' ?_ _ | refine Below.drew ?_))⟩
    ·have h1' : (decide (s.1 < 1) || decide (10000000 < s.1)) = true:=by simp; omega
     have HF3 : Hid (sFault s = 1):=Lib.hid (sFault_arg h1);have HF:=Lib.hid (HBAD.out (by rw [HF3.out]; omega));rw [h1'];go_wp2_with fail;go_ret;exact ⟨ret_int' (by rw [HF.out,HF3.out]),(by repeat (first | exact hbw | refine Below.alloc ?_ (by first | omega | (simp; omega)) _ | refine below_drewN' ?_ _ | refine Below.drew ?_))⟩
   ·have hv' : ∀ s ∈ v,sFault s = 0:=by have:=hv.out; rwa [List.take_of_length_le (by omega)] at this
    obtain ⟨ha,hb⟩:=all_right hv';have HF:=Lib.hid (vFault_good v (by omega) hv')
    have hsum:=fsum_le v 10000000 fun s hs => (ha s hs).2
    clear hv';go_wp2_with fail;refine (vframes_any _ _ _ v _ (hr.below hbw) hl (fun s hs => by have:=ha s hs; omega) (by omega)).mono ?_;rintro e w1 ⟨rfl,hb1⟩;have hbw1:=below_up hbw hb1;clear ha
    by_cases h2 : 10000000 < fsum v
    ·clear hb
     go_wp2_with fail;go_ret;exact ⟨ret_int' (by rw [HF.out,if_pos (.inl h2)]),hbw1⟩
    ·have h2' : decide (10000000 < fsum v) = false:=by simpa using h2
     go_wp2_with fail;refine (multiple_any _ _ _ v _ (hr.below hbw1) hl hb).mono ?_;rintro e w2 ⟨rfl,hb2⟩;clear hb
     by_cases h3 : 100000000 < multK v
     ·go_wp2_with fail
      go_ret;exact ⟨ret_int' (by rw [HF.out,if_pos (.inr h3)]),below_up hbw1 hb2⟩
     ·go_wp2_with fail
      go_ret;exact ⟨ret_int' (by rw [HF.out,if_neg (by omega)]),below_up hbw1 hb2⟩

end Go.Proofs.YtkchacgkjdeiaaaGreatDoor
/- The walk of the stream's function that draws a video. -/
namespace Go.Proofs.YtkchacgkjdeiaaaGreatDoor
open Go.RowKit

theorem Blk.grown {w w' : World} {g k : Nat} {t : TypeId} {cs : Array Value} (h : Blk w k t cs) (hb : w.grownBy w' (some g)) (hg : k ≠ g) : Blk w' k t cs:=(hb.block k h.lt (fun e => hg (by injection e))).trans h

def rates : List (Int × Int):=[(60,1),(30000,1001),(25,1),(1,1),(1000,1),(7,3)]
end Go.Proofs.YtkchacgkjdeiaaaGreatDoor
/- The walks of film.long, film.begin, ticks, Fraction and Lowest. -/
namespace Go.Proofs.YtkchacgkjdeiaaaGreatDoor
open Go.RowKit

def Film (w : World) (g lo : Nat) (A : Option Addr) (c : Nat) (v : List St) : Prop :=
 Blk w g 224 #[.slice A v.length c,.int .i64 (multK v),.int .i64 (fsum v)] ∧ Row w lo 3 A v.length (trs v)
theorem Film.below {w w' : World} {g lo c : Nat} {A : Option Addr} {v : List St} (h : Film w g lo A c v) (hb : Below w.heap.size w w') : Film w' g lo A c v:=⟨h.1.below hb,h.2.below hb⟩
theorem Film.cells {w : World} {g lo c : Nat} {A : Option Addr} {v : List St} (h : Film w g lo A c v) : w.cell? ⟨g,0,none⟩ = some (.slice A v.length c) ∧ w.cell? ⟨g,1,none⟩ = some (.int .i64 (multK v)) ∧ w.cell? ⟨g,2,none⟩ = some (.int .i64 (fsum v)) :=
 ⟨h.1.cell 0,h.1.cell 1,h.1.cell 2⟩
theorem tdiv_ediv {a b : Int} (ha : 0 ≤ a) : a.tdiv b = a / b:=Int.tdiv_eq_ediv_of_nonneg ha
theorem Good.at_ {v : List St} (h : Good v) (k : Nat) (hk : k < v.length) : 1 ≤ v[k].2.1 ∧ v[k].2.1 ≤ 1001000 ∧ 1 ≤ v[k].2.2 ∧ v[k].2.2 ≤ 1001 ∧ 1 ≤ v[k].1 ∧ v[k].1 ≤ 10000000 ∧ 0 ≤ multK v / v[k].2.1 ∧ multK v / v[k].2.1 ≤ 100000000 ∧ 1 ≤ longM (multK v) v[k] ∧ longM (multK v) v[k] ≤ 100000000:=by
 have h1:=h.form v[k] (List.getElem_mem _);have h2:=h.pos v[k] (List.getElem_mem _);have h3:=h.long v[k] (List.getElem_mem _);have h4:=h.mbd;have h5:=h.mul;have h6 : 0 ≤ multK v / v[k].2.1:=Int.ediv_nonneg (by omega) (by omega);have h7 : multK v / v[k].2.1 ≤ multK v:=Int.ediv_le_self _ (by omega);omega

set_option maxHeartbeats 400000 in
theorem long_any (g lo c : Nat) (A : Option Addr) (v : List St) (k : Nat) (hk : k < v.length) (w : World) (hf : Film w g lo A c v) (hg : Good v) :
  Calls Tryz.prog 196 #[.pointer (some ⟨g,0,none⟩),.agg #[.int .i64 v[k].1,.int .i64 v[k].2.1,.int .i64 v[k].2.2]] w fun e w' => e = .returned (.int .i64 (longM (multK v) v[k])) ∧ Below w.heap.size w w':=by
 obtain ⟨f0,f1,f2⟩:=hf.cells;obtain ⟨a1,a2,b1,b2,_,_,q1,q2,l1,l2⟩:=hg.at_ k hk;have m1:=hg.mbd;have m2:=hg.mul;have hlt:=hf.1.lt;have HL : Hid (longM (multK v) v[k] = v[k].2.2 * (multK v / v[k].2.1)):=Lib.hid rfl;rw [HL.out] at l1 l2;rw [HL.out];clear HL hf hg f0 f2;generalize multK v = M at *;generalize v[k] = s at *
 have n0 : (s.2.1 == 0) = false:=by simp; omega
 have td : Hid (M.tdiv s.2.1 = M / s.2.1):=Lib.hid (tdiv_ediv (by omega));have w1 : IntKind.i64.wrap (M / s.2.1) = M / s.2.1:=IntWalk.i64_in _ ⟨by omega,by omega⟩;have w2 : IntKind.i64.wrap (s.2.2 * (M / s.2.1)) = s.2.2 * (M / s.2.1):=IntWalk.i64_in _ ⟨by omega,by omega⟩;have f1':=cell_al f1
 go_enter Tryz.func196,Tryz.ntmps196
 go_wp2_with fail
 go_quiet (fail)
 clear w1 w2;go_wp2_with fail;go_ret;exact ⟨rfl,(by repeat (first | exact Below.refl _ _ | refine Below.alloc ?_ (by first | omega | (simp; omega)) _ | refine below_drewN' ?_ _ | refine Below.drew ?_))⟩

def remM (v : List St) (f : Int) (k : Nat) : Int:=max (f - fsum (v.take k)) 0
theorem used_eq (v : List St) (f : Int) (k : Nat) (hk : k < v.length) : usedM v f k = min (remM v f k) v[k].1:=by
 unfold usedM remM; rw [List.getD_eq_getElem?_getD,List.getElem?_eq_getElem hk]; rfl
theorem rem_next (v : List St) (f : Int) (k : Nat) (hk : k < v.length) (h : 0 ≤ v[k].1) : remM v f (k + 1) = remM v f k - min (remM v f k) v[k].1:=by
 unfold remM; rw [fsum_take v k hk]; omega
theorem beg_next (m : Int) (v : List St) (f : Int) (k : Nat) (hk : k < v.length) : begK m v f (k + 1) = begK m v f k + min (remM v f k) v[k].1 * longM m v[k]:=by
 rw [begK,used_eq v f k hk,List.getD_eq_getElem?_getD,List.getElem?_eq_getElem hk]; rfl
theorem rem_bd (v : List St) (hg : Good v) (f : Int) (k : Nat) : 0 ≤ remM v f k ∧ (0 ≤ f → remM v f k ≤ f):=by
 have:=(fsum_take_le v k hg.nonneg).1;unfold remM; omega
theorem Good.round {v : List St} (h : Good v) (f : Int) (k : Nat) (hk : k < v.length) (n : Int) (hn : n = min (remM v f k) v[k].1) :
  0 ≤ n ∧ n ≤ v[k].1 ∧ 0 ≤ begK (multK v) v f k ∧ begK (multK v) v f k ≤ 1000000000000000 ∧ 0 ≤ n * longM (multK v) v[k] ∧ n * longM (multK v) v[k] ≤ 1000000000000000 ∧ 0 ≤ n * v[k].2.2 ∧ n * v[k].2.2 ≤ 10010000000 ∧ n * v[k].2.2 * (multK v / v[k].2.1) = n * longM (multK v) v[k]:=by
 have h1:=h.at_ k hk;have h2:=rem_bd v h f k;have h3:=begK_bd h f k (by omega);have h4:=fsum_take_le v k h.nonneg;have h5:=h.sum
 have n0 : 0 ≤ n:=by omega
 have n1 : n ≤ v[k].1:=by omega
 have a1 : 0 ≤ n * longM (multK v) v[k]:=Int.mul_nonneg n0 (by omega);have a2 : n * longM (multK v) v[k] ≤ 10000000 * 100000000:=Int.mul_le_mul (by omega) (by omega) (by omega) (by omega);have a3 : 0 ≤ n * v[k].2.2:=Int.mul_nonneg n0 (by omega);have a4 : n * v[k].2.2 ≤ 10000000 * 1001:=Int.mul_le_mul (by omega) (by omega) (by omega) (by omega);refine ⟨n0,n1,h3.1,by omega,a1,by omega,a3,by omega,?_⟩;unfold longM;rw [Int.mul_assoc]

set_option maxHeartbeats 1000000 in
theorem begin_any (g lo c : Nat) (A : Option Addr) (v : List St) (f : Int) (w : World) (hf : Film w g lo A c v) (hg : Good v) (hf0 : 0 ≤ f) (hf1 : f ≤ 1000000000000) :
  Calls Tryz.prog 164 #[.pointer (some ⟨g,0,none⟩),.int .i64 f] w fun e w' => e = .returned (.int .i64 (begM v f)) ∧ Below w.heap.size w w':=by
 have hlen:=hg.len;have HG:=Lib.hid hg;obtain ⟨f0,f1,f2⟩:=hf.cells
 have hR : remM v f 0 = f:=by simp [remM,fsum]; omega
 have HR:=Lib.hid hR;clear hg hR f1 f2
 go_enter Tryz.func164,Tryz.ntmps164
 go_wp2_with fail;clear f0
 go_loopw [1,5,14] (fun r a i wr => ∃ k : Nat,k ≤ v.length ∧ i = .int .i64 k ∧ r = .int .i64 (remM v f k) ∧ a = .int .i64 (begK (multK v) v f k) ∧ Below w.heap.size w wr) (fun _ _ i _ => v.length - (intOf i).toNat)
 case atStart => exact ⟨0,Nat.zero_le _,rfl,by rw [HR.out],rfl,Below.refl _ _⟩
 case round =>
  obtain ⟨k,hk,rfl,rfl,rfl,hbw⟩:=hrel;clear HR
  by_cases hlt : k < v.length
  ·have hfw:=hf.below hbw
   obtain ⟨b,off,rfl,_,hbs,c0,c1,c2⟩:=hfw.2.tr_at hlt;have HN:=Lib.hid (beg_next (multK v) v f k hlt);have HM:=Lib.hid (rem_next v f k hlt (by have:=HG.out.at_ k hlt; omega));have hr:=HG.out.round f k hlt _ rfl;have hrb:=rem_bd v HG.out f k;have hrb2:=hrb.2 hf0;obtain ⟨n0,n1,b0,b1,p0,p1,_,_,_⟩:=hr;have zw:=hbw.size;rcases (Int.lt_or_le v[k].1 (remM v f k)).symm with hm | hm
   ·have em : min (remM v f k) v[k].1 = remM v f k:=by omega
    rw [em] at n0 n1 p0 p1;rw [em] at HN HM;clear em;go_wp2_with fail;refine (long_any g lo c _ v k hlt _ (hfw.below (by repeat (first | exact Below.refl _ _ | refine Below.alloc ?_ (by first | omega | (simp; omega)) _ | refine below_drewN' ?_ _ | refine Below.drew ?_))) HG.out).mono ?_;rintro e w1 ⟨rfl,hb1⟩;have hb2 : Below w.heap.size w w1:=below_up (by repeat (first | exact hbw | refine Below.alloc ?_ (by first | omega | (simp; omega)) _ | refine below_drewN' ?_ _ | refine Below.drew ?_)) hb1;have z1:=hb2.size;clear hb1 c0 c1 c2;go_wp2_with fail;go_roundw
    case rel => exact ⟨k + 1,by omega,by go_num,by (rw [HM.out]; try go_num),by (rw [HN.out]; try go_num),(by repeat (first | exact hb2 | refine Below.alloc ?_ (by first | omega | (simp; omega)) _ | refine below_drewN' ?_ _ | refine Below.drew ?_))⟩
    case measure => simp [intOf]; omega
   ·have em : min (remM v f k) v[k].1 = v[k].1:=by omega
    rw [em] at n0 n1 p0 p1;rw [em] at HN HM;clear em;go_wp2_with fail;refine (long_any g lo c _ v k hlt _ (hfw.below (by repeat (first | exact Below.refl _ _ | refine Below.alloc ?_ (by first | omega | (simp; omega)) _ | refine below_drewN' ?_ _ | refine Below.drew ?_))) HG.out).mono ?_;rintro e w1 ⟨rfl,hb1⟩;have hb2 : Below w.heap.size w w1:=below_up (by repeat (first | exact hbw | refine Below.alloc ?_ (by first | omega | (simp; omega)) _ | refine below_drewN' ?_ _ | refine Below.drew ?_)) hb1;have z1:=hb2.size;clear hb1 c0 c1 c2;go_wp2_with fail;go_roundw
    case rel => exact ⟨k + 1,by omega,by go_num,by (rw [HM.out]; try go_num),by (rw [HN.out]; try go_num),(by repeat (first | exact hb2 | refine Below.alloc ?_ (by first | omega | (simp; omega)) _ | refine below_drewN' ?_ _ | refine Below.drew ?_))⟩
    case measure => simp [intOf]; omega
  ·have hkk : k = v.length:=by omega
   subst hkk;go_wp2_with fail;go_ret;exact ⟨ret_int' rfl,hbw⟩

end Go.Proofs.YtkchacgkjdeiaaaGreatDoor
/- The walks of Fraction, Lowest, newFilm, MomentOf and its reference. -/
namespace Go.Proofs.YtkchacgkjdeiaaaGreatDoor
open Go.RowKit

theorem Blk.out_ {w : World} {g : Nat} {t : TypeId} {cs : Array Value} (h : Blk w g t cs) : w.heap[g]? = some (.cells cs t (0,0)):=h
theorem Blk.set {w : World} {g : Nat} {t : TypeId} {cs : Array Value} (h : Blk w g t cs) (i : Nat) (u : Value) : Blk (w.setCell ⟨g,i,none⟩ u) g t (cs.setIfInBounds i u):=by
 have:=h.out_;unfold Blk
 simp [World.setCell,Array.getElem?_modify,this]
theorem Blk.two {w : World} {g : Nat} {t : TypeId} {a b : Value} (h : Blk w g t #[a,b]) (x y : Value) :
  (w.setCell ⟨g,0,none⟩ x).cell? ⟨g,0,none⟩ = some x ∧ ((w.setCell ⟨g,0,none⟩ x).setCell ⟨g,1,none⟩ y).cell? ⟨g,1,none⟩ = some y ∧ ((w.setCell ⟨g,0,none⟩ x).setCell ⟨g,1,none⟩ y).cell? ⟨g,0,none⟩ = some x :=
 ⟨(h.set 0 x).cell 0,((h.set 0 x).set 1 y).cell 1,((h.set 0 x).set 1 y).cell 0⟩
set_option maxHeartbeats 400000 in
theorem newFilm_any (lo c : Nat) (A : Option Addr) (v : List St) (w : World) (hr : Row w lo 3 A v.length (trs v)) (hg : Good v) :
  Calls Tryz.prog 96 #[.slice A v.length c] w fun e w' => ∃ g,e = .returned (.pointer (some ⟨g,0,none⟩)) ∧ Film w' g lo A c v ∧ Below w.heap.size w w':=by
 have hlen:=hg.len;have HS:=hg.sum;have HN:=Lib.hid hg.nonneg
 have HF:=Lib.hid fun s (hs : s ∈ v) => by have:=hg.form s hs; exact (⟨by omega,by omega⟩ : 1 ≤ s.2.1 ∧ s.2.1 ≤ 1001000)
 clear hg
 go_enter Tryz.func96,Tryz.ntmps96
 go_wp2_with fail;refine (multiple_any _ _ _ v _ hr (by omega) HF.out).mono ?_;rintro e w1 ⟨rfl,hb1⟩;have hr1:=hr.below hb1;go_wp2_with fail;refine (vframes_any _ _ _ v _ hr1 (by omega) HN.out (by omega)).mono ?_;rintro e w2 ⟨rfl,hb2⟩;have hr2:=hr1.below hb2;have hb:=below_up hb1 hb2;have zz:=hb.size;clear hb1 hb2 hr1;go_wp2_with fail;go_ret;exact ⟨_,rfl,⟨Blk.new _ _ _,hr2.alloc _⟩,(by repeat (first | exact hb | refine Below.alloc ?_ (by first | omega | (simp; omega)) _ | refine below_drewN' ?_ _ | refine Below.drew ?_))⟩

end Go.Proofs.YtkchacgkjdeiaaaGreatDoor
/- The walks of film.milliseconds, film.times and film.end. -/
namespace Go.Proofs.YtkchacgkjdeiaaaGreatDoor
open Go.RowKit

theorem ms_bd (m n : Int) (hm : 1 ≤ m) (hn : 0 ≤ n) (hn' : n ≤ 10000000000 * m) : 0 ≤ n / m ∧ n / m ≤ 10000000000 ∧ 0 ≤ n % m ∧ n % m < m ∧ 0 ≤ (2000 * (n % m) + m) / (2 * m) ∧ (2000 * (n % m) + m) / (2 * m) ≤ 2000 * (n % m) + m:=by
 have r1:=Int.emod_nonneg n (show m ≠ 0 by omega);have r2:=Int.emod_lt_of_pos n (show 0 < m by omega);refine ⟨Int.ediv_nonneg hn (by omega),?_,r1,r2,Int.ediv_nonneg (by omega) (by omega),Int.ediv_le_self _ (by omega)⟩;have:=Int.ediv_le_ediv (show 0 < m by omega) hn'
 rwa [Int.mul_ediv_cancel _ (by omega)] at this

set_option maxHeartbeats 1000000 in
theorem milliseconds_any (g lo c : Nat) (A : Option Addr) (v : List St) (n : Int) (w : World) (hf : Film w g lo A c v) (hg : Good v) (hn : 0 ≤ n) (hn' : n ≤ 10000000000 * multK v) :
  Calls Tryz.prog 165 #[.pointer (some ⟨g,0,none⟩),.int .i64 n] w fun e w' => e = .returned (.int .i64 (msM (multK v) n)) ∧ Below w.heap.size w w':=by
 obtain ⟨f0,f1,f2⟩:=hf.cells;have m1:=hg.mbd;have m2:=hg.mul;obtain ⟨q0,q1,r0,r1,d0,d1⟩:=ms_bd _ _ m1 hn hn';have HM : Hid (n / multK v * 1000 + (2000 * (n % multK v) + multK v) / (2 * multK v) = msM (multK v) n):=Lib.hid rfl;clear f0 f2 hf hg;generalize multK v = m at *
 have m0 : (m == 0) = false:=by simp; omega
 have m0' : (2 * m == 0) = false:=by simp; omega
 have hm0 : ¬ m = 0:=by omega
 have tm0 : n.tdiv m = n / m:=tdiv_ediv (by omega);have tm1 : n.tmod m = n % m:=Int.tmod_eq_emod_of_nonneg (by omega);have tm2 : (2000 * (n % m) + m).tdiv (2 * m) = (2000 * (n % m) + m) / (2 * m):=tdiv_ediv (by omega);have wr0 : IntKind.i64.wrap (n / m) = n / m:=IntWalk.i64_in _ ⟨by omega,by omega⟩;have wr1 : IntKind.i64.wrap (n / m * 1000) = n / m * 1000:=IntWalk.i64_in _ ⟨by omega,by omega⟩;have wr2 : IntKind.i64.wrap (n % m) = n % m:=IntWalk.i64_in _ ⟨by omega,by omega⟩;have wr3 : IntKind.i64.wrap (2000 * (n % m)) = 2000 * (n % m):=IntWalk.i64_in _ ⟨by omega,by omega⟩;have wr4 : IntKind.i64.wrap (2000 * (n % m) + m) = 2000 * (n % m) + m:=IntWalk.i64_in _ ⟨by omega,by omega⟩;have wr5 : IntKind.i64.wrap (2 * m) = 2 * m:=IntWalk.i64_in _ ⟨by omega,by omega⟩;have wr6 : IntKind.i64.wrap ((2000 * (n % m) + m) / (2 * m)) = (2000 * (n % m) + m) / (2 * m):=IntWalk.i64_in _ ⟨by omega,by omega⟩;have wr7 : IntKind.i64.wrap (n / m * 1000 + (2000 * (n % m) + m) / (2 * m)) = n / m * 1000 + (2000 * (n % m) + m) / (2 * m):=IntWalk.i64_in _ ⟨by omega,by omega⟩
 go_enter Tryz.func165,Tryz.ntmps165
 go_wp2_with fail
 go_quiet (fail)
 clear wr0 wr1 wr2 wr3 wr4 wr5 wr6 wr7 tm0 tm1 tm2;go_wp2_with fail;go_ret;exact ⟨ret_int' HM.out,(by repeat (first | exact Below.refl _ _ | refine Below.alloc ?_ (by first | omega | (simp; omega)) _ | refine below_drewN' ?_ _ | refine Below.drew ?_))⟩

set_option maxHeartbeats 2000000 in
theorem times_any (g lo lo' c d : Nat) (A B : Option Addr) (v : List St) (l : List Mk) (w : World) (hf : Film w g lo A c v) (hr : Row w lo' 2 B l.length (prs l)) (hg : Good v) (hl : l.length ≤ 500) (hR : Rises l) (hb : ∀ x ∈ l,0 ≤ x.1 ∧ x.1 ≤ 1000000000000) :
  Calls Tryz.prog 132 #[.pointer (some ⟨g,0,none⟩),.slice B l.length d] w fun e w' => ∃ A' c',e = .returned (.slice A' (tS v l).2.2.length c') ∧ w'.ownsRow w.heap.size 3 1 (.slice A' (tS v l).2.2.length c') (tS v l).2.2.length (ints (tS v l).2.2) ∧ Below w.heap.size w w':=by
 have HG:=Lib.hid hg;have HR:=Lib.hid hR;have HB:=Lib.hid hb;have m1:=hg.mbd;have m2:=hg.mul;clear hg hR hb
 go_enter Tryz.func132,Tryz.ntmps132
 go_wp2_with fail
 go_loopw [5,6,7,13] (fun o fr su i wr => ∃ (k : Nat) (A' : Option Addr) (c' : Nat),k ≤ l.length ∧ i = .int .i64 k ∧ fr = .int .i64 (tS v (l.take k)).1 ∧ su = .int .i64 (tS v (l.take k)).2.1 ∧ o = .slice A' (tS v (l.take k)).2.2.length c' ∧ wr.ownsRow w.heap.size 3 1 (.slice A' (tS v (l.take k)).2.2.length c') (tS v (l.take k)).2.2.length (ints (tS v (l.take k)).2.2) ∧ Below w.heap.size w wr) (fun _ _ _ i _ => l.length - (intOf i).toNat)
 case atStart => exact ⟨0,none,0,Nat.zero_le _,rfl,rfl,rfl,rfl,World.ownsRow_nil _ _ _ _,Below.refl _ _⟩
 case round =>
  obtain ⟨k,A',c',hk,rfl,rfl,rfl,rfl,hown,hbw⟩:=hrel;have zw:=hbw.size
  by_cases hlt : k < l.length
  ·obtain ⟨b,off,rfl,_,hbs,c0,c1⟩:=(hr.below hbw).pr_at hlt
   have hfw:=hf.below hbw;have HT:=Lib.hid (tS_take v l k hlt);obtain ⟨a0,a1,b0,b1,cl⟩:=tS_bd HG.out l HR.out k hk;have a2:=a1 hlt;obtain ⟨e0,e1⟩:=begM_bd' HG.out l[k].1;obtain ⟨x0,x1⟩:=HB.out l[k] (List.getElem_mem _);have b2 : (k : Int) * (10000000 * multK v) ≤ 500 * (10000000 * multK v):=Int.mul_le_mul_of_nonneg_right (by omega) (by omega);have HON:=Lib.hid (tstep_on v (tS v (l.take k)) l[k]);have HOF:=Lib.hid (tstep_off v (tS v (l.take k)) l[k]);have HOU:=Lib.hid (tstep_out v (tS v (l.take k)) l[k]);clear a1;generalize tS v (l.take k) = s at *;generalize hxk : l[k] = x at *;clear hxk;go_wp2_with fail;refine (begin_any g lo c A v x.1 _ (hfw.below (by repeat (first | exact Below.refl _ _ | refine Below.alloc ?_ (by first | omega | (simp; omega)) _ | refine below_drewN' ?_ _ | refine Below.drew ?_))) HG.out x0 x1).mono ?_;rintro e w1 ⟨rfl,hb1⟩;have hb2 : Below w.heap.size w w1:=below_up (by repeat (first | exact hbw | refine Below.alloc ?_ (by first | omega | (simp; omega)) _ | refine below_drewN' ?_ _ | refine Below.drew ?_)) hb1;have kb1:=(Blk.new wr 127 #[.int .i64 x.1,.int .i64 x.2]).below hb1;have kc : w1.cell? ⟨wr.heap.size,1,none⟩ = some (.int .i64 x.2):=kb1.cell 1;have hown1:=own_keep (own_keep hown ((Below.refl _ _).alloc (Nat.le_refl _) (.cells #[.int .i64 x.1,.int .i64 x.2] 127))) hb1;have z1:=hb2.size;clear hb1 kb1 c0 c1 hown;generalize begM v x.1 = a at *
   by_cases h1 : x.2 = 1
   ·have HE:=HON.out (.inl h1)
    have t1 : (x.2 == 1) = true:=by simpa using h1
    clear HON HOF HOU;go_wp2_with fail;go_roundw
    case rel => exact ⟨k + 1,A',c',by omega,by go_num,by rw [HT.out,HE],by rw [HT.out,HE],by rw [HT.out,HE],by rw [HT.out,HE]; exact hown1,hb2⟩
    case measure => simp [intOf]; omega
   ·have t1 : (x.2 == 1) = false:=by simpa using h1
    by_cases h4 : x.2 = 4
    ·have HE:=HON.out (.inr h4)
     have t4 : (x.2 == 4) = true:=by simpa using h4
     clear HON HOF HOU;go_wp2_with fail;go_roundw
     case rel => exact ⟨k + 1,A',c',by omega,by go_num,by rw [HT.out,HE],by rw [HT.out,HE],by rw [HT.out,HE],by rw [HT.out,HE]; exact hown1,hb2⟩
     case measure => simp [intOf]; omega
    ·have t4 : (x.2 == 4) = false:=by simpa using h4
     by_cases h3 : x.2 = 3
     ·have HE:=HOF.out h3
      have t3 : (x.2 == 3) = true:=by simpa using h3
      clear HON HOF HOU;go_wp2_with fail;go_roundw
      case rel => exact ⟨k + 1,A',c',by omega,by go_num,by rw [HT.out,HE],by rw [HT.out,HE],by rw [HT.out,HE],by rw [HT.out,HE]; exact hown1,hb2⟩
      case measure => simp [intOf]; omega
     ·have t3 : (x.2 == 3) = false:=by simpa using h3
      have HE:=HOU.out (by omega) h3;have hfw1:=hf.below hb2;clear HON HOF HOU;go_wp2_with fail;refine (milliseconds_any g lo c A v _ _ hfw1 HG.out (by omega) (by omega)).mono ?_;rintro e w2 ⟨rfl,hb3⟩;have hb4:=below_up hb2 hb3;have hown2:=own_keep hown1 hb3;have z2:=hb4.size;clear hb3 hown1;generalize hMS : msM (multK v) (s.2.1 + a - s.1) = q at *;generalize hxs : s.2.2 = xs at *
      go_wp2_with (at_builtin; go_must (refine wpList_app (lo:=w.heap.size) (base:=w.heap.size) (n:=xs.length) (xs:=ints xs) _ _ rfl _ _ ty_ints rfl (by repeat (first | exact hown2 | refine World.ownsRow.alloc ?_ _ | refine own_drewN ?_ _ | refine World.ownsRow.drew ?_)) rfl (by first | exact row_new' _ (by first | rfl | simp) (by first | omega | (simp; omega)) rfl | exact row_newN _ _ (by first | rfl | simp) (by first | omega | (simp; omega)) rfl | exact row_newD _ (by first | rfl | simp) (by first | omega | (simp; omega)) rfl) rfl rfl (by first | omega | decide) (by first | omega | decide) (by first | omega | (simp; omega)) ?_))
      intro A5 c5 w5 hown5 hg5 _;go_wp2_with fail;go_roundw
      case rel => exact ⟨k + 1,A5,c5,by omega,by go_num,by rw [HT.out,HE],by rw [HT.out,HE],by rw [HT.out,HE]; simp,by rw [HT.out,HE]; simpa [ints] using hown5,below_app hown2 (by repeat (first | exact hb4 | refine Below.alloc ?_ (by first | omega | (simp; omega)) _ | refine below_drewN' ?_ _ | refine Below.drew ?_)) hg5 (Nat.le_refl _) (by simp; omega)⟩
      case measure => simp [intOf]; omega
  ·have hkk : k = l.length:=by omega
   subst hkk;rw [List.take_length] at hown;rw [List.take_length];go_wp2_with fail;go_ret;exact ⟨A',c',rfl,hown,hbw⟩

set_option maxHeartbeats 400000 in
theorem end_any (g lo lo' c d : Nat) (A B : Option Addr) (v : List St) (l : List Mk) (w : World) (hf : Film w g lo A c v) (hr : Row w lo' 2 B l.length (prs l)) (hg : Good v) (hl : l.length ≤ 500) (hR : Rises l) (hb : ∀ x ∈ l,0 ≤ x.1 ∧ x.1 ≤ 1000000000000) (hne : 0 < (tS v l).2.2.length) :
  Calls Tryz.prog 97 #[.pointer (some ⟨g,0,none⟩),.slice B l.length d] w fun e w' => e = .returned (.int .i64 ((tS v l).2.2.getLastD 0)) ∧ Below w.heap.size w w':=by
 have hln:=(tS_bd hg l hR l.length (Nat.le_refl _)).2.2.2.2;rw [List.take_length] at hln;have HG:=Lib.hid hg;have HR:=Lib.hid hR;have HB:=Lib.hid hb;clear hg hR hb
 go_enter Tryz.func97,Tryz.ntmps97
 go_wp2_with fail;refine (times_any g lo lo' c d A B v l w hf hr HG.out hl HR.out HB.out).mono ?_;rintro e w1 ⟨A',c',rfl,hown,hb1⟩;generalize hxs : (tS v l).2.2 = xs at *;have HX:=Lib.hid hxs;clear hxs
 have hlast : xs.getLastD 0 = xs[xs.length - 1]:=by
  rw [List.getLastD_eq_getLast?,List.getLast?_eq_getElem?,List.getElem?_eq_getElem (by omega)]; rfl
 obtain ⟨b,off,rfl,_,_,c0⟩:=(Row.of_own hown).int_at (k:=xs.length - 1) (by omega);rw [← hlast] at c0;clear hlast hown;generalize hz : xs.getLastD 0 = z at *;have HZ:=Lib.hid hz;clear hz
 obtain ⟨n,hn⟩ : ∃ n,xs.length = n + 1:=⟨xs.length - 1,by omega⟩
 rw [hn] at c0 hln ⊢;rw [show n + 1 - 1 = n by omega] at c0;clear hn hne;go_wp2_with fail;go_ret;exact ⟨ret_int' (by rw [HX.out,HZ.out]),hb1⟩
end Go.Proofs.YtkchacgkjdeiaaaGreatDoor
/- What is wrong with marks: plain, and the walks of misplaced and CheckMarks. -/
namespace Go.Proofs.YtkchacgkjdeiaaaGreatDoor
open Go.RowKit

def misB (kind last : Int) : Bool:=if last = 0 ∨ kind = 1 then decide (last ≠ 0 ∨ kind ≠ 1) else if last = 2 then true else if last = 3 then decide (kind ≠ 4) else decide (kind = 4)
def lastM (l : List Mk) : Int:=l.foldl (fun a x => if x.2 = 5 then a else x.2) 0
theorem lastM_take (l : List Mk) (k : Nat) (h : k < l.length) : lastM (l.take (k + 1)) = if l[k].2 = 5 then lastM (l.take k) else l[k].2:=by
 unfold lastM; rw [List.take_succ_eq_append_getElem h,List.foldl_append]; rfl
def mX (all : Int) (x : Mk) (p : Option Mk) (last : Int) : Int :=
 if 1 ≤ x.2 ∧ x.2 ≤ 5 then (if 0 ≤ x.1 ∧ x.1 ≤ all then (if (p.any fun q => decide (x.1 < q.1)) = true then 7 else if misB x.2 last = true then 16 else 0) else 1) else 4
def prevM (l : List Mk) (k : Nat) : Option Mk:=if k = 0 then none else l[k - 1]?
def mF (all : Int) (l : List Mk) (k : Nat) : Int:=mX all (l.getD k (0,0)) (prevM l k) (lastM (l.take k))
theorem mF_at (all : Int) (l : List Mk) (k : Nat) (h : k < l.length) : mF all l k = mX all l[k] (prevM l k) (lastM (l.take k)):=by
 unfold mF; rw [List.getD_eq_getElem?_getD,List.getElem?_eq_getElem h]; rfl
theorem mX_kind {all : Int} {x : Mk} {p : Option Mk} {last : Int} (h : ¬ (1 ≤ x.2 ∧ x.2 ≤ 5)) : mX all x p last = 4:=by simp only [mX,h,if_false]
theorem mX_arg {all : Int} {x : Mk} {p : Option Mk} {last : Int} (h : 1 ≤ x.2 ∧ x.2 ≤ 5) (h1 : ¬ (0 ≤ x.1 ∧ x.1 ≤ all)) : mX all x p last = 1:=by simp only [mX,h,h1,if_false]; rfl
theorem mX_rest {all : Int} {x : Mk} {p : Option Mk} {last : Int} (h : 1 ≤ x.2 ∧ x.2 ≤ 5) (h1 : 0 ≤ x.1 ∧ x.1 ≤ all) : mX all x p last = if (p.any fun q => decide (x.1 < q.1)) = true then 7 else if misB x.2 last = true then 16 else 0:=by
 unfold mX; rw [if_pos h,if_pos h1]
def mkF (all : Int) (l : List Mk) : Int:=if 200 < l.length then 2 else if firstE ((List.range l.length).map (mF all l)) = 0 then (if lastM l = 2 then 0 else 8) else firstE ((List.range l.length).map (mF all l))
theorem mkF_long {all : Int} {l : List Mk} (h : 200 < l.length) : mkF all l = 2:=by simp [mkF,h]
theorem mkF_bad {all : Int} {l : List Mk} (k : Nat) (h : l.length ≤ 200) (hk : k < l.length) (h0 : ∀ j,j < k → mF all l j = 0) (hv : mF all l k ≠ 0) : mkF all l = mF all l k:=by
 have e : firstE ((List.range l.length).map (mF all l)) = mF all l k:=by
  have:=firstE_hit ((List.range l.length).map (mF all l)) k (by simpa using hk) (by
   intro y hy;rw [← List.map_take] at hy;obtain ⟨j,hj,rfl⟩:=List.mem_map.1 hy;rw [List.take_range,List.mem_range] at hj
   exact h0 j (by omega)) (by simpa using hv)
  simpa using this
 unfold mkF;rw [e,if_neg (by omega),if_neg hv]
theorem mkF_good {all : Int} {l : List Mk} (h : l.length ≤ 200) (h0 : ∀ j,j < l.length → mF all l j = 0) : mkF all l = if lastM l = 2 then 0 else 8:=by
 have e : firstE ((List.range l.length).map (mF all l)) = 0:=firstE_none _ (by
  intro y hy;obtain ⟨j,hj,rfl⟩:=List.mem_map.1 hy
  exact h0 j (List.mem_range.1 hj))
 unfold mkF;rw [e,if_neg (by omega)]; rfl
theorem mkF_all {all : Int} {l : List Mk} (h : mkF all l = 0) : l.length ≤ 200 ∧ (∀ j,j < l.length → mF all l j = 0) ∧ lastM l = 2:=by
 have hl : l.length ≤ 200:=by
  rcases Nat.lt_or_ge 200 l.length with h1 | h1
  ·rw [mkF_long h1] at h; omega
  ·exact h1
 have h0 : ∀ k,k ≤ l.length → ∀ j,j < k → mF all l j = 0:=by
  intro k
  induction k with
  | zero => intro _ j hj; omega
  | succ k ih =>
   intro hk j hj;have hi:=ih (by omega);rcases Nat.lt_or_ge j k with h1 | h1
   ·exact hi j h1
   ·have : j = k:=by omega
    subst this;rcases Classical.em (mF all l j = 0) with h2 | h2
    ·exact h2
    ·rw [mkF_bad j hl (by omega) hi h2] at h; exact absurd h h2
 refine ⟨hl,h0 _ (Nat.le_refl _),?_⟩;rw [mkF_good hl (h0 _ (Nat.le_refl _))] at h
 by_cases h2 : lastM l = 2
 ·exact h2
 ·rw [if_neg h2] at h; omega
theorem mkF_ok {all : Int} {l : List Mk} (h : mkF all l = 0) : l.length ≤ 200 ∧ lastM l = 2 ∧ (∀ x ∈ l,1 ≤ x.2 ∧ x.2 ≤ 5 ∧ 0 ≤ x.1 ∧ x.1 ≤ all) ∧ Rises l ∧ ∀ k,(hk : k < l.length) → misB l[k].2 (lastM (l.take k)) = false:=by
 obtain ⟨h1,h2,h3⟩:=mkF_all h
 have key : ∀ k,(hk : k < l.length) → (1 ≤ l[k].2 ∧ l[k].2 ≤ 5) ∧ (0 ≤ l[k].1 ∧ l[k].1 ≤ all) ∧ ((prevM l k).any fun q => decide (l[k].1 < q.1)) = false ∧ misB l[k].2 (lastM (l.take k)) = false:=by
  intro k hk;have e:=h2 k hk;rw [mF_at all l k hk] at e
  by_cases a1 : 1 ≤ l[k].2 ∧ l[k].2 ≤ 5
  ·by_cases a2 : 0 ≤ l[k].1 ∧ l[k].1 ≤ all
   ·rw [mX_rest a1 a2] at e
    by_cases a3 : ((prevM l k).any fun q => decide (l[k].1 < q.1)) = true
    ·rw [if_pos a3] at e; omega
    ·rw [if_neg a3] at e
     by_cases a4 : misB l[k].2 (lastM (l.take k)) = true
     ·rw [if_pos a4] at e; omega
     ·exact ⟨a1,a2,by simpa using a3,by simpa using a4⟩
   ·rw [mX_arg a1 a2] at e; omega
  ·rw [mX_kind a1] at e; omega
 refine ⟨h1,h3,fun x hx => ?_,fun k hk => ?_,fun k hk => (key k hk).2.2.2⟩
 ·obtain ⟨k,hk,rfl⟩:=List.getElem_of_mem hx
  have:=key k hk;omega
 ·have:=(key (k + 1) hk).2.2.1
  simp only [prevM,Nat.add_one_ne_zero,if_false,Nat.add_sub_cancel] at this;rw [List.getElem?_eq_getElem (by omega)] at this
  simpa using this
def mkFault (v : List St) (l : List Mk) : Int:=if vFault v = 0 then mkF (fsum v) l else vFault v
theorem mkFault_ok {v : List St} {l : List Mk} (h : vFault v = 0) : mkFault v l = mkF (fsum v) l:=by simp [mkFault,h]
theorem mkFault_bad {v : List St} {l : List Mk} (h : ¬ vFault v = 0) : mkFault v l = vFault v:=by simp [mkFault,h]

set_option maxHeartbeats 400000 in
theorem misplaced_any (kind last : Int) (w : World) : Calls Tryz.prog 130 #[.int .i64 kind,.int .i64 last] w fun e w' => e = .returned (.bool (misB kind last)) ∧ w = w':=by
 by_cases h0 : last = 0
 ·subst h0
  by_cases h1 : kind = 1
  ·subst h1
   go_enter Tryz.func130,Tryz.ntmps130
   go_wp2_with fail;go_ret;exact ⟨rfl,rfl⟩
  ·have t1 : (kind != 1) = true:=by simpa using h1
   have HM : Hid (true = misB kind 0):=Lib.hid (by simp [misB,h1]);clear h1
   go_enter Tryz.func130,Tryz.ntmps130
   go_wp2_with fail;go_ret;exact ⟨ret_bool' HM.out,rfl⟩
 ·have t0 : (last == 0) = false:=by simpa using h0
  have t0' : (last != 0) = true:=by simpa using h0
  by_cases h1 : kind = 1
  ·subst h1
   have HM : Hid (true = misB 1 last):=Lib.hid (by simp [misB,h0]);clear h0
   go_enter Tryz.func130,Tryz.ntmps130
   go_wp2_with fail;go_ret;exact ⟨ret_bool' HM.out,rfl⟩
  ·have t1 : (kind == 1) = false:=by simpa using h1
   by_cases h2 : last = 2
   ·subst h2
    have HM : Hid (true = misB kind 2):=Lib.hid (by simp [misB,h1]);clear h1
    go_enter Tryz.func130,Tryz.ntmps130
    go_wp2_with fail;go_ret;exact ⟨ret_bool' HM.out,rfl⟩
   ·have t2 : (last == 2) = false:=by simpa using h2
    by_cases h3 : last = 3
    ·subst h3
     have HM : Hid ((kind != 4) = misB kind 3):=Lib.hid (by simp [misB,h1]; rfl);clear h1
     go_enter Tryz.func130,Tryz.ntmps130
     go_wp2_with fail;go_ret;exact ⟨ret_bool' HM.out,rfl⟩
    ·have t3 : (last == 3) = false:=by simpa using h3
     have HM : Hid ((kind == 4) = misB kind last):=Lib.hid (by simp [misB,h0,h1,h2,h3]; rfl);clear h0 h1 h2 h3
     go_enter Tryz.func130,Tryz.ntmps130
     go_wp2_with fail;go_ret;exact ⟨ret_bool' HM.out,rfl⟩
end Go.Proofs.YtkchacgkjdeiaaaGreatDoor
/- The walks of CheckMarks, Timed and filmed. -/
namespace Go.Proofs.YtkchacgkjdeiaaaGreatDoor
open Go.RowKit

set_option maxHeartbeats 2000000 in
theorem checkMarks_any (lo lo' c d : Nat) (A B : Option Addr) (v : List St) (l : List Mk) (w : World) (hr : Row w lo 3 A v.length (trs v)) (hrm : Row w lo' 2 B l.length (prs l)) (hl : v.length ≤ 1000000000) (hlm : l.length ≤ 1000000000) (hi : ∀ s ∈ v,s.2.1 ≤ 9223372036854775807) :
  Calls Tryz.prog 95 #[.slice A v.length c,.slice B l.length d] w fun e w' => e = .returned (.int .i64 (mkFault v l)) ∧ Below w.heap.size w w':=by
 have HI:=Lib.hid hi;clear hi
 go_enter Tryz.func95,Tryz.ntmps95
 go_wp2_with fail;refine (checkVideo_any _ _ _ v _ hr hl HI.out).mono ?_;rintro e w1 ⟨rfl,hb1⟩
 by_cases h0 : vFault v = 0
 ·have h0' : (vFault v != 0) = false:=by simpa using h0
  have HE:=Lib.hid (mkFault_ok (l:=l) h0);have HG:=Lib.hid (vFault_ok h0);clear h0
  by_cases hlong : 200 < l.length
  ·have HF:=Lib.hid (mkF_long (all:=fsum v) hlong)
   go_wp2_with fail;go_ret;exact ⟨ret_int' (by rw [HE.out,HF.out]),hb1⟩
  ·have s1:=HG.out.sum
   have s0:=fsum_nonneg v HG.out.nonneg;go_wp2_with fail;refine (vframes_any _ _ _ v _ (hr.below hb1) hl HG.out.nonneg (by omega)).mono ?_;rintro e w2 ⟨rfl,hb2⟩;have hx:=below_up hb1 hb2;clear hb1 hb2 h0';go_wp2_with fail
   go_loopw [7,22] (fun la i wr => ∃ k : Nat,k ≤ l.length ∧ i = .int .i64 k ∧ la = .int .i64 (lastM (l.take k)) ∧ Hid (∀ j,j < k → mF (fsum v) l j = 0) ∧ Below w.heap.size w wr) (fun _ i _ => l.length - (intOf i).toNat)
   case atStart => exact ⟨0,Nat.zero_le _,rfl,rfl,Lib.hid (fun j hj => absurd hj (by omega)),hx⟩
   case round =>
    obtain ⟨k,hk,rfl,rfl,hv,hbw⟩:=hrel;have zw:=hbw.size
    by_cases hlt : k < l.length
    ·have hrw:=hrm.below hbw
     obtain ⟨b,off,hB,_,hbs,c0,c1⟩:=hrw.pr_at hlt;have HBAD:=Lib.hid (mkF_bad (all:=fsum v) k (by omega) hlt hv.out);have HAT:=Lib.hid (mF_at (fsum v) l k hlt);have HLT:=Lib.hid (lastM_take l k hlt)
     have HP : Hid (∀ j,k = j + 1 → prevM l k = some (l.getD j (0,0))):=Lib.hid (by
      rintro j rfl;simp only [prevM,Nat.add_one_ne_zero,if_false,Nat.add_sub_cancel]
      rw [List.getD_eq_getElem?_getD,List.getElem?_eq_getElem (by omega)]; rfl)
     have HCP : Hid (∀ j,k = j + 1 → wr.cell? ⟨b,off + j * 2,none⟩ = some (.int .i64 (l.getD j (0,0)).1)):=Lib.hid (by
      rintro j rfl;obtain ⟨b',off',hB',_,_,c0',_⟩:=hrw.pr_at (k:=j) (by omega);rw [hB] at hB';injection hB' with hB';injection hB' with e1 e2;subst e1 e2;rw [List.getD_eq_getElem?_getD,List.getElem?_eq_getElem (by omega)]
      exact c0')
     subst hB;generalize lastM (l.take k) = la at *;generalize hxk : l[k] = x at *;clear hxk hrw;go_wp2_with fail;refine (out_any _ _ _ _).mono ?_;rintro e w3 ⟨rfl,rfl⟩
     by_cases h1 : 1 ≤ x.2 ∧ x.2 ≤ 5
     ·have h1' : (decide (x.2 < 1) || decide (5 < x.2)) = false:=by simp; omega
      rw [h1'];clear h1';go_wp2_with fail;refine (out_any _ _ _ _).mono ?_;rintro e w3 ⟨rfl,rfl⟩
      by_cases h2 : 0 ≤ x.1 ∧ x.1 ≤ fsum v
      ·have h2' : (decide (x.1 < 0) || decide (fsum v < x.1)) = false:=by simp; omega
       rw [h2'];clear h2';have HRE:=Lib.hid (mX_rest (p:=prevM l k) (last:=la) h1 h2);clear h1 h2;rcases Nat.eq_zero_or_pos k with hk0 | hk0
       ·subst hk0
        have HRX : Hid (mF (fsum v) l 0 = if misB x.2 la = true then 16 else 0):=Lib.hid (by rw [HAT.out,HRE.out]; rfl);go_wp2_with fail
        go_quiet (fail)
        go_wp2_with fail;refine (misplaced_any _ _ _).mono ?_;rintro e w4 ⟨rfl,rfl⟩
        by_cases h4 : misB x.2 la = true
        ·rw [h4]
         have HF:=Lib.hid (HBAD.out (by rw [HRX.out,if_pos h4]; omega));go_wp2_with fail;go_ret;exact ⟨ret_int' (by rw [HE.out,HF.out,HRX.out,if_pos h4]),(by repeat (first | exact hbw | refine Below.alloc ?_ (by first | omega | (simp; omega)) _ | refine below_drewN' ?_ _ | refine Below.drew ?_))⟩
        ·have h4' : misB x.2 la = false:=by simpa using h4
         have HN : Hid (∀ j,j < 0 + 1 → mF (fsum v) l j = 0):=Lib.hid (by
          intro j hj
          have : j = 0:=by omega
          subst this
          rw [HRX.out,if_neg h4])
         rw [h4'];clear h4 h4'
         by_cases h5 : x.2 = 5
         ·have t5 : (x.2 != 5) = false:=by simpa using h5
          have HLX : Hid (lastM (l.take (0 + 1)) = la):=Lib.hid (by rw [HLT.out,if_pos h5]);clear h5;go_wp2_with fail;go_roundw
          case rel => exact ⟨0 + 1,by omega,by go_num,by rw [HLX.out],HN,(by repeat (first | exact hbw | refine Below.alloc ?_ (by first | omega | (simp; omega)) _ | refine below_drewN' ?_ _ | refine Below.drew ?_))⟩
          case measure => simp [intOf]; omega
         ·have t5 : (x.2 != 5) = true:=by simpa using h5
          have HLX : Hid (lastM (l.take (0 + 1)) = x.2):=Lib.hid (by rw [HLT.out,if_neg h5]);clear h5;go_wp2_with fail;go_roundw
          case rel => exact ⟨0 + 1,by omega,by go_num,by rw [HLX.out],HN,(by repeat (first | exact hbw | refine Below.alloc ?_ (by first | omega | (simp; omega)) _ | refine below_drewN' ?_ _ | refine Below.drew ?_))⟩
          case measure => simp [intOf]; omega
       ·obtain ⟨j,rfl⟩ : ∃ j,k = j + 1:=⟨k - 1,by omega⟩
        have hcp:=cell_al (HCP.out j rfl) (.cells #[.int .i64 x.1,.int .i64 x.2] 127);have HRX : Hid (mF (fsum v) l (j + 1) = if x.1 < (l.getD j (0,0)).1 then 7 else if misB x.2 la = true then 16 else 0):=Lib.hid (by rw [HAT.out,HRE.out,HP.out j rfl]; simp);generalize (l.getD j (0,0)).1 = y at *
        have wj : IntKind.i64.wrap ((j : Int) + 1 - 1) = j:=by rw [show (j : Int) + 1 - 1 = j by omega]; exact IntWalk.i64_in _ ⟨by omega,by omega⟩
        by_cases h3 : x.1 < y
        ·have t3 : decide (x.1 < y) = true:=by simpa using h3
         have HF:=Lib.hid (HBAD.out (by rw [HRX.out,if_pos h3]; omega));go_wp2_with fail
         go_quiet (fail)
         clear wj;go_wp2_with fail;go_ret;exact ⟨ret_int' (by rw [HE.out,HF.out,HRX.out,if_pos h3]),(by repeat (first | exact hbw | refine Below.alloc ?_ (by first | omega | (simp; omega)) _ | refine below_drewN' ?_ _ | refine Below.drew ?_))⟩
        ·have t3 : decide (x.1 < y) = false:=by simpa using h3
         have H3:=Lib.hid h3;clear h3;go_wp2_with fail
         go_quiet (fail)
         clear wj;go_wp2_with fail;refine (misplaced_any _ _ _).mono ?_;rintro e w4 ⟨rfl,rfl⟩
         by_cases h4 : misB x.2 la = true
         ·rw [h4]
          have HF:=Lib.hid (HBAD.out (by rw [HRX.out,if_neg (by have:=H3.out; omega : ¬ x.1 < y),if_pos h4]; omega));go_wp2_with fail;go_ret;exact ⟨ret_int' (by rw [HE.out,HF.out,HRX.out,if_neg (by have:=H3.out; omega : ¬ x.1 < y),if_pos h4]),(by repeat (first | exact hbw | refine Below.alloc ?_ (by first | omega | (simp; omega)) _ | refine below_drewN' ?_ _ | refine Below.drew ?_))⟩
         ·have h4' : misB x.2 la = false:=by simpa using h4
          have HN : Hid (∀ i,i < j + 1 + 1 → mF (fsum v) l i = 0):=Lib.hid (by
           intro i hi;rcases Nat.lt_or_ge i (j + 1) with h | h
           ·exact hv.out i h
           ·have : i = j + 1:=by omega
            subst this
            rw [HRX.out,if_neg (by have:=H3.out; omega : ¬ x.1 < y),if_neg h4])
          rw [h4'];clear h4 h4'
          by_cases h5 : x.2 = 5
          ·have t5 : (x.2 != 5) = false:=by simpa using h5
           have HLX : Hid (lastM (l.take (j + 1 + 1)) = la):=Lib.hid (by rw [HLT.out,if_pos h5]);clear h5;go_wp2_with fail;go_roundw
           case rel => exact ⟨j + 1 + 1,by omega,by go_num,by rw [HLX.out],HN,(by repeat (first | exact hbw | refine Below.alloc ?_ (by first | omega | (simp; omega)) _ | refine below_drewN' ?_ _ | refine Below.drew ?_))⟩
           case measure => simp [intOf]; omega
          ·have t5 : (x.2 != 5) = true:=by simpa using h5
           have HLX : Hid (lastM (l.take (j + 1 + 1)) = x.2):=Lib.hid (by rw [HLT.out,if_neg h5]);clear h5;go_wp2_with fail;go_roundw
           case rel => exact ⟨j + 1 + 1,by omega,by go_num,by rw [HLX.out],HN,(by repeat (first | exact hbw | refine Below.alloc ?_ (by first | omega | (simp; omega)) _ | refine below_drewN' ?_ _ | refine Below.drew ?_))⟩
           case measure => simp [intOf]; omega
      ·have h2' : (decide (x.1 < 0) || decide (fsum v < x.1)) = true:=by simp; omega
       have HA:=Lib.hid (mX_arg (p:=prevM l k) (last:=la) h1 h2);have HF:=Lib.hid (HBAD.out (by rw [HAT.out,HA.out]; omega));rw [h2'];go_wp2_with fail;go_ret;exact ⟨ret_int' (by rw [HE.out,HF.out,HAT.out,HA.out]),(by repeat (first | exact hbw | refine Below.alloc ?_ (by first | omega | (simp; omega)) _ | refine below_drewN' ?_ _ | refine Below.drew ?_))⟩
     ·have h1' : (decide (x.2 < 1) || decide (5 < x.2)) = true:=by simp; omega
      have HA:=Lib.hid (mX_kind (all:=fsum v) (p:=prevM l k) (last:=la) h1);have HF:=Lib.hid (HBAD.out (by rw [HAT.out,HA.out]; omega));rw [h1'];go_wp2_with fail;go_ret;exact ⟨ret_int' (by rw [HE.out,HF.out,HAT.out,HA.out]),(by repeat (first | exact hbw | refine Below.alloc ?_ (by first | omega | (simp; omega)) _ | refine below_drewN' ?_ _ | refine Below.drew ?_))⟩
    ·have hkk : k = l.length:=by omega
     subst hkk;have HF:=Lib.hid (mkF_good (by omega) hv.out);rw [List.take_length]
     by_cases h2 : lastM l = 2
     ·have t2 : (lastM l != 2) = false:=by simpa using h2
      have HF2 : Hid (mkF (fsum v) l = 0):=Lib.hid (by rw [HF.out,if_pos h2]);clear h2;go_wp2_with fail;go_ret;exact ⟨ret_int' (by rw [HE.out,HF2.out]),hbw⟩
     ·have t2 : (lastM l != 2) = true:=by simpa using h2
      have HF2 : Hid (mkF (fsum v) l = 8):=Lib.hid (by rw [HF.out,if_neg h2]);clear h2;go_wp2_with fail;go_ret;exact ⟨ret_int' (by rw [HE.out,HF2.out]),hbw⟩
 ·have h0' : (vFault v != 0) = true:=by simpa using h0
  have HE:=Lib.hid (mkFault_bad (l:=l) h0);clear h0;go_wp2_with fail;go_ret;exact ⟨ret_int' HE.out.symm,hb1⟩

def tmE (v : List St) (l : List Mk) : Int:=if mkFault v l = 0 then (tS v l).2.2.getLastD 0 else 0
theorem tmE_ok {v : List St} {l : List Mk} (h : mkFault v l = 0) : tmE v l = (tS v l).2.2.getLastD 0:=by simp [tmE,h]
theorem tmE_bad {v : List St} {l : List Mk} (h : ¬ mkFault v l = 0) : tmE v l = 0:=by simp [tmE,h]
theorem mkFault_zero {v : List St} {l : List Mk} (h : mkFault v l = 0) : vFault v = 0 ∧ mkF (fsum v) l = 0:=by
 by_cases h0 : vFault v = 0
 ·exact ⟨h0,by rw [mkFault_ok h0] at h; exact h⟩
 ·rw [mkFault_bad h0] at h; exact absurd h h0
theorem tS_some (v : List St) (l : List Mk) (h : ∃ x ∈ l,x.2 = 2) : 0 < (tS v l).2.2.length:=by
 suffices H : ∀ s : Int × Int × List Int,(0 < s.2.2.length ∨ ∃ x ∈ l,x.2 = 2) → 0 < (l.foldl (tstep v) s).2.2.length from H _ (.inr h)
 clear h
 induction l with
 | nil => intro s h; rcases h with h | ⟨x,hx,_⟩; exact h; simp at hx
 | cons y l ih =>
  intro s h;rw [List.foldl_cons];apply ih
  by_cases h1 : y.2 = 1 ∨ y.2 = 4
  ·rw [tstep_on _ _ _ h1]
   rcases h with h | ⟨x,hx,h2⟩
   ·exact .inl h
   ·rcases List.mem_cons.1 hx with rfl | hx
    ·omega
    ·exact .inr ⟨x,hx,h2⟩
  ·by_cases h3 : y.2 = 3
   ·rw [tstep_off _ _ _ h3]
    rcases h with h | ⟨x,hx,h2⟩
    ·exact .inl h
    ·rcases List.mem_cons.1 hx with rfl | hx
     ·omega
     ·exact .inr ⟨x,hx,h2⟩
   ·rw [tstep_out _ _ _ h1 h3]
    exact .inl (by simp)
theorem last_mem (l : List Mk) (h : lastM l = 2) : ∃ x ∈ l,x.2 = 2:=by
 suffices H : ∀ a : Int,l.foldl (fun a (x : Mk) => if x.2 = 5 then a else x.2) a = 2 → a = 2 ∨ ∃ x ∈ l,x.2 = 2 from by
  rcases H 0 h with h | h
  ·omega
  ·exact h
 clear h
 induction l with
 | nil => intro a h; exact .inl h
 | cons y l ih =>
  intro a h;rw [List.foldl_cons] at h;rcases ih _ h with h | ⟨x,hx,h2⟩
  ·by_cases h5 : y.2 = 5
   ·rw [if_pos h5] at h; exact .inl h
   ·rw [if_neg h5] at h; exact .inr ⟨y,by simp,h⟩
  ·exact .inr ⟨x,by simp [hx],h2⟩

set_option maxHeartbeats 1000000 in
theorem timed_any (lo lo' c d : Nat) (A B : Option Addr) (v : List St) (l : List Mk) (w : World) (hr : Row w lo 3 A v.length (trs v)) (hrm : Row w lo' 2 B l.length (prs l)) (hl : v.length ≤ 1000000000) (hlm : l.length ≤ 1000000000) (hi : ∀ s ∈ v,s.2.1 ≤ 9223372036854775807) :
  Calls Tryz.prog 57 #[.slice A v.length c,.slice B l.length d] w fun e w' => e = .returned (.tuple #[.int .i64 (tmE v l),.int .i64 (mkFault v l)]) ∧ Below w.heap.size w w':=by
 go_enter Tryz.func57,Tryz.ntmps57
 go_wp2_with fail;refine (checkMarks_any lo lo' _ _ _ _ v l _ hr hrm hl hlm hi).mono ?_;rintro e w1 ⟨rfl,hb1⟩;clear hi
 by_cases h0 : mkFault v l = 0
 ·have h0' : (mkFault v l != 0) = false:=by simpa using h0
  obtain ⟨hv,hm⟩:=mkFault_zero h0;have HG:=Lib.hid (vFault_ok hv);have HM:=Lib.hid (mkF_ok hm);have H0:=Lib.hid h0;clear h0 hv hm;have hln:=HM.out.1;have hsum:=HG.out.sum;go_wp2_with fail;refine (newFilm_any _ _ _ v _ (hr.below hb1) HG.out).mono ?_;rintro e w2 ⟨g,rfl,hfm,hb2⟩;have hx:=below_up hb1 hb2;go_wp2_with fail;refine (end_any g lo lo' _ _ _ _ v l _ hfm (hrm.below hx) HG.out (by omega) HM.out.2.2.2.1 (fun x hx => by have:=HM.out.2.2.1 x hx; omega) (tS_some v l (last_mem l HM.out.2.1))).mono ?_;rintro e w3 ⟨rfl,hb3⟩;go_wp2_with fail;go_ret2;exact ⟨ret2_is (by rw [tmE_ok H0.out,List.getLastD_eq_getLast?]; rfl) (by rw [H0.out]; rfl),below_up hx hb3⟩
 ·have h0' : (mkFault v l != 0) = true:=by simpa using h0
  have H0:=Lib.hid h0;clear h0;go_wp2_with fail;go_ret2;exact ⟨ret2_is (by rw [tmE_bad H0.out]; rfl) rfl,hb1⟩

theorem film_ex : mkFault [(100,60,1)] [(10,1),(70,2)] = 0:=by decide
theorem time_ex : tmE [(100,60,1)] [(10,1),(70,2)] = 1000:=by decide

end Go.Proofs.YtkchacgkjdeiaaaGreatDoor
