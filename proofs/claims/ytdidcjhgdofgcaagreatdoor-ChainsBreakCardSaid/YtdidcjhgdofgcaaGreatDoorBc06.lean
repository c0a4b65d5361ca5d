/- Texts of this seat, laid together: Chk. -/
import Derived.BigRegionIn
import Derived.Test.YtdidcjhgdofgcaaGreatDoorBc03
import Derived.Test.YtdidcjhgdofgcaaGreatDoorBc05
/- The library's iterator that cuts a slice of bytes into blocks of 60: its contract for every loop body that keeps what lay below a bound. -/
namespace Go.Proofs.YtdidcjhgdofgcaaGreatDoor
set_option linter.unusedVariables false
set_option linter.unusedSimpArgs false
open Go.RowKit Go.Shelf

attribute [local go_sem] Oper.semAt_some

/-- A block as the iterator hands it out. -/
def chV (b off len x : Nat) : Value := .slice (some ⟨b, off + 60 * x, none⟩) (min 60 (len - 60 * x)) (min 60 (len - 60 * x))
def upK (nb k : Nat) : List (Fin nb) := (List.finRange nb).take k
theorem upK_succ {nb k : Nat} (h : k < nb) : upK nb (k + 1) = upK nb k ++ [⟨k, h⟩] := by
  unfold upK
  rw [List.take_succ_eq_append_getElem (by rw [List.length_finRange]; exact h)]
  simp
theorem upK_len {nb k : Nat} (h : k ≤ nb) : (upK nb k).length = k := by
  unfold upK
  rw [List.length_take, List.length_finRange]; omega
/-- What a round may do: what lay below a bound stays, but for boxes that are not the iterator's own. -/
structure KeptC (n₀ Bs Bn : Nat) (w w' : World) : Prop where
  os : w'.os = w.os
  tape : w'.tape = w.tape
  output : w'.output = w.output
  size : w.heap.size ≤ w'.heap.size
  low : ∀ k, k < n₀ → w'.heap[k]? = w.heap[k]?
  b1 : w'.heap[Bs]? = w.heap[Bs]?
  b2 : w'.heap[Bn]? = w.heap[Bn]?
theorem KeptC.refl (n₀ Bs Bn : Nat) (w : World) : KeptC n₀ Bs Bn w w := ⟨rfl, rfl, rfl, Nat.le_refl _, fun _ _ => rfl, rfl, rfl⟩
theorem KeptC.trans {n₀ Bs Bn : Nat} {a b c : World} (h : KeptC n₀ Bs Bn a b) (k : KeptC n₀ Bs Bn b c) : KeptC n₀ Bs Bn a c :=
  ⟨k.os.trans h.os, k.tape.trans h.tape, k.output.trans h.output, Nat.le_trans h.size k.size, fun i hi => (k.low i hi).trans (h.low i hi), k.b1.trans h.b1, k.b2.trans h.b2⟩
theorem KeptC.drew {n₀ Bs Bn : Nat} {a b : World} (h : KeptC n₀ Bs Bn a b) : KeptC n₀ Bs Bn a b.drew := ⟨h.os, h.tape, h.output, h.size, h.low, h.b1, h.b2⟩
theorem KeptC.c1 {n₀ Bs Bn : Nat} {a b : World} (h : KeptC n₀ Bs Bn a b) : b.cell? ⟨Bs, 0, none⟩ = a.cell? ⟨Bs, 0, none⟩ := World.cell?_of_block h.b1
theorem KeptC.c2 {n₀ Bs Bn : Nat} {a b : World} (h : KeptC n₀ Bs Bn a b) : b.cell? ⟨Bn, 0, none⟩ = a.cell? ⟨Bn, 0, none⟩ := World.cell?_of_block h.b2
theorem KeptC.of {n₀ Bs Bn : Nat} {w w' : World} (h : Below n₀ w w') (h1 : w'.heap[Bs]? = w.heap[Bs]?) (h2 : w'.heap[Bn]? = w.heap[Bn]?) : KeptC n₀ Bs Bn w w' := ⟨h.os, h.tape, h.output, h.size, h.block, h1, h2⟩
theorem KeptC.below {n₀ Bs Bn : Nat} {w w' : World} (h : KeptC n₀ Bs Bn w w') : Below n₀ w w' := ⟨h.os, h.tape, h.output, h.size, h.low⟩
set_option maxRecDepth 100000 in
set_option maxHeartbeats 2000000 in
theorem chunk1_in (F : Fence) (n : Nat) (hf : F.fn 108) (hro : F.round = none) (hn : 1 ≤ n) (l Bs Bn n₀ b off len cap nb : Nat) (hlen : len ≤ 1000000) (hlc : len ≤ cap) (hnb : nb = (len + 59) / 60) (J Jx : List (Fin nb) → World → Prop)
    (hY : ∀ (pre : List (Fin nb)) (x : Fin nb) (W : World), J pre W → pre.length < nb → YieldAt F (n - 1) Tryz.prog l #[chV b off len x.val] W fun e W' =>
      (e = .returned (.bool true) ∧ J (pre ++ [x]) W' ∧ KeptC n₀ Bs Bn W W') ∨ (e = .returned (.bool false) ∧ Jx (pre ++ [x]) W'))
    (W : World) (hJ : AbidesFrom W.heap.size J) (hBs : W.cell? ⟨Bs, 0, none⟩ = some (.slice (some ⟨b, off, none⟩) len cap)) (hBi : W.cell? ⟨Bn, 0, none⟩ = some (.int .i64 60)) (h0 : J [] W) :
    CallsIn F n Tryz.prog 108 #[.func (.yield l) #[] #[], .pointer (some ⟨Bs, 0, none⟩), .pointer (some ⟨Bn, 0, none⟩)] W fun e W' => (∃ v, e = .returned v) ∧
      ((∃ ys, ys = upK nb nb ∧ J ys W') ∨ (∃ pre, (∃ k, k ≤ nb ∧ pre = upK nb k) ∧ Jx pre W')) := by
  refine callsIn_of_wp Tryz.func108 rfl hf ?_ hro
  simp only [Tryz.ntmps108, List.size_toArray, List.length_cons, List.length_nil, Nat.reduceAdd, Nat.reduceSub, Array.replicate_succ, Array.replicate_zero, List.push_toArray, List.append_toArray, List.nil_append, List.cons_append]
  gi_wp2
  gi_loopw [4] (fun i wr => ∃ k : Nat, k ≤ nb ∧ i = .int .i64 ((60 * k : Nat) : Int) ∧ J (upK nb k) wr ∧ KeptC n₀ Bs Bn W wr)
    (fun i _ => 60 * nb - (intOf i).toNat)
  case atStart => exact ⟨0, Nat.zero_le _, by simp, h0, KeptC.refl _ _ _ _⟩
  case round =>
    obtain ⟨k, hk, rfl, hJs, hnx⟩ := hrel
    have hbx := hnx.c1.trans hBs
    have hbi := hnx.c2.trans hBi
    by_cases hlt : k < nb
    · have hml : 60 * k < len := by omega
      have HU := Lib.hid (upK_succ hlt)
      have hJd : J (upK nb k) wr.drew := hJ _ _ _ none hJs ⟨rfl, rfl, rfl, Nat.le_refl _, fun _ _ _ => rfl⟩ (fun r e => by cases e)
      have hY := hY _ ⟨k, hlt⟩ wr.drew hJd (by rw [upK_len hk]; exact hlt)
      obtain ⟨n1, hn1⟩ : ∃ n1 : Nat, n1 = min 60 (len - 60 * k) := ⟨_, rfl⟩
      have hC : chV b off len k = .slice (some ⟨b, off + 60 * k, none⟩) n1 n1 := by unfold chV; rw [← hn1]
      rw [show (⟨k, hlt⟩ : Fin nb).val = k from rfl, hC] at hY
      have hmin : min (60 : Int) ((len - 60 * k : Nat) : Int) = (n1 : Int) := by omega
      have hn2 : 60 * k + n1 ≤ len := by omega
      have hn3 : 0 < n1 := by omega
      clear hC hn1
      have HK : Hid (60 * (k + 1) = 60 * k + 60) := Lib.hid (by omega)
      have HM : Hid (60 * nb ≤ len + 59) := Lib.hid (by omega)
      clear hnb
      generalize hm : 60 * k = m at *
      have HMM := Lib.hid hm
      clear hm
      have hdl : decide ((m : Int) < (len : Int)) = true := decide_eq_true (by omega)
      have hdl' : decide (m < len) = true := decide_eq_true (by omega)
      have hce : ¬ cap = m := by omega
      have hml' : m ≤ len := by omega
      have hif : (if ((len - m : Nat) : Int) < 60 then ((len - m : Nat) : Int) else 60) = (n1 : Int) := by split <;> omega
      clear hmin
      gi_wp2
      obtain ⟨fn, tmps, assign, body, hy, hR⟩ := hY
      have hbd : KeptC n₀ Bs Bn W wr.drew := hnx.drew
      generalize hwd : wr.drew = wd at *
      have HD := Lib.hid hwd
      clear hwd
      gi_region
      all_goals
        rw [HD.out]
        have hbx2 := hbd.c1.trans hBs
        have hbi2 := hbd.c2.trans hBi
        have wm : IntKind.i64.wrap ((m : Int) + (n1 : Int)) = ((m + n1 : Nat) : Int) := by rw [IntWalk.i64_in _ ⟨by omega, by omega⟩]; omega
        clear hif hce hbx hbi hdl hdl' HD
        gi_wp2
        refine hR.mono ?_
        rintro e W3 (⟨rfl, hJ3, hk3⟩ | ⟨rfl, hJx3⟩)
        · have hbi3 := hk3.c2.trans hbi2
          gi_wp2
          go_roundw
          case rel => exact ⟨k + 1, by omega, by rw [HK.out]; go_num, by rw [HU.out]; exact hJ3, hbd.trans hk3⟩
          case measure => have := HM.out; have := HMM.out; simp [intOf]; omega
        · gi_wp2
          refine bodyPost_ret (results_none rfl _ _ _) rfl ?_
          exact ⟨⟨_, rfl⟩, .inr ⟨_, ⟨k + 1, by omega, by rw [HU.out]⟩, hJx3⟩⟩
    · obtain rfl : k = nb := by omega
      have hml : ¬ 60 * k < len := by omega
      gi_wp2
      go_end0
      exact ⟨⟨_, rfl⟩, .inl ⟨_, rfl, hJs⟩⟩
set_option maxRecDepth 100000 in
set_option maxHeartbeats 1000000 in
theorem chunk1_nil (F : Fence) (n : Nat) (hf : F.fn 108) (hro : F.round = none) (l Bs Bn cap : Nat) (A : Option Addr) (J : List (Fin 0) → World → Prop) (W : World) (hBs : W.cell? ⟨Bs, 0, none⟩ = some (.slice A 0 cap)) (h0 : J [] W) :
    CallsIn F n Tryz.prog 108 #[.func (.yield l) #[] #[], .pointer (some ⟨Bs, 0, none⟩), .pointer (some ⟨Bn, 0, none⟩)] W fun e W' => (∃ v, e = .returned v) ∧ J [] W' := by
  refine callsIn_of_wp Tryz.func108 rfl hf ?_ hro
  simp only [Tryz.ntmps108, List.size_toArray, List.length_cons, List.length_nil, Nat.reduceAdd, Nat.reduceSub, Array.replicate_succ, Array.replicate_zero, List.push_toArray, List.append_toArray, List.nil_append, List.cons_append]
  gi_wp2
  gi_loopw [4] (fun i wr => i = .int .i64 0 ∧ wr = W) (fun _ _ => 0)
  case atStart => exact ⟨rfl, rfl⟩
  case round =>
    obtain ⟨rfl, rfl⟩ := hrel
    gi_wp2
    go_end0
    exact ⟨⟨_, rfl⟩, h0⟩
theorem chunk_stops (F : Fence) (n : Nat) (hf : F.fn 108) (hro : F.round = none) (hn : 1 ≤ n) (Bs Bn n₀ len cap b off nb : Nat) (A : Option Addr) (hlen : len ≤ 1000000) (hlc : len ≤ cap) (hnb : nb = (len + 59) / 60) (w : World) (hBn : Bs < w.heap.size) (hBm : Bn < w.heap.size)
    (hBs : w.cell? ⟨Bs, 0, none⟩ = some (.slice A len cap)) (hBi : w.cell? ⟨Bn, 0, none⟩ = some (.int .i64 60)) (hA : 0 < len → A = some ⟨b, off, none⟩) :
    SeqStopsK F n Tryz.prog 108 #[.pointer (some ⟨Bs, 0, none⟩), .pointer (some ⟨Bn, 0, none⟩)] (fun x : Fin nb => #[chV b off len x.val]) (KeptC n₀ Bs Bn) (fun ys => ys = upK nb nb) (fun pre => ∃ k, k ≤ nb ∧ pre = upK nb k) nb w := fun l J Jx W hW hJ _ hY h0 => by
  have hBs' := (hW.cell (p := ⟨Bs, 0, none⟩) hBn).trans hBs
  have hBi' := (hW.cell (p := ⟨Bn, 0, none⟩) hBm).trans hBi
  rcases Nat.eq_zero_or_pos len with hz | hz
  · subst hz
    obtain rfl : nb = 0 := by omega
    exact (chunk1_nil F n hf hro l Bs Bn cap A J W hBs' h0).mono fun e W' ⟨he, hj⟩ => ⟨he, .inl ⟨_, rfl, hj⟩⟩
  · obtain rfl := hA hz
    exact chunk1_in F n hf hro hn l Bs Bn n₀ b off len cap nb hlen hlc hnb J Jx hY W hJ hBs' hBi' h0
theorem chunk_any (A : Option Addr) (len cap : Nat) (w : World) :
    Calls Tryz.prog 75 #[.slice A len cap, .int .i64 60] w fun e w' => e = .returned (.func (.func 108) #[] #[.pointer (some ⟨w.heap.size, 0, none⟩), .pointer (some ⟨w.heap.size + 1, 0, none⟩)]) ∧ w' = (w.alloc (.cells #[.slice A len cap] 74)).alloc (.cells #[.int .i64 60] 3) := by
  go_enter Tryz.func75, Tryz.ntmps75
  go_wp2_with fail
  go_ret
  exact ⟨rfl, rfl⟩
end Go.Proofs.YtdidcjhgdofgcaaGreatDoor
