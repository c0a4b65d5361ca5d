/- The walks of First, Or, when, part, Cut and CutOf. -/
import Derived.Test.YtnlblgkoecnfmaaDoorInpF
import Derived.Test.YtnlblgkoecnfmaaDoorInpQ
namespace Go.Proofs.YtnlblgkoecnfmaaDoor
set_option linter.unusedVariables false
set_option linter.unusedSimpArgs false
open Go.RowKit

theorem take_zero_snoc {l : List Int} {k : Nat} (h : ∀ y ∈ l.take k, y = 0) (hk : k < l.length) (hv : l[k] = 0) : ∀ y ∈ l.take (k + 1), y = 0 := by
  intro y hy
  rw [List.take_succ_eq_append_getElem hk] at hy
  rcases List.mem_append.1 hy with h1 | h1
  · exact h y h1
  · simp at h1; subst h1; exact hv

set_option maxHeartbeats 400000 in
theorem first_any (A : Option Addr) (c lo : Nat) (l : List Int) (w : World) (hr : Row w lo 1 A l.length (ints l)) (hl : l.length ≤ 1000000000) :
    Calls Tryd.prog 58 #[.slice A l.length c] w fun e w' => e = .returned (.int .i64 (firstE l)) ∧ w = w' := by
  go_enter Tryd.func58, Tryd.ntmps58
  go_wp2_with fail
  go_loop [7] (fun i => ∃ k : Nat, k ≤ l.length ∧ i = .int .i64 k ∧ Hid (∀ y ∈ l.take k, y = 0)) (fun i => l.length - (intOf i).toNat)
  case atStart => exact ⟨0, Nat.zero_le _, rfl, Lib.hid (by simp)⟩
  case round =>
    obtain ⟨k, hk, rfl, hno⟩ := hrel
    by_cases hlt : k < l.length
    · obtain ⟨b, off, rfl, _, hbs, c0⟩ := hr.int_at hlt
      by_cases he : l[k] = 0
      · have he' : (l[k] != 0) = false := by simpa using he
        have HN := Lib.hid (take_zero_snoc hno.out hlt he)
        clear he
        go_wp2_with fail
        go_round
        case rel => exact ⟨k + 1, by omega, by go_num, HN⟩
        case measure => simp [intOf]; omega
      · have he' : (l[k] != 0) = true := by simpa using he
        have HV := Lib.hid (firstE_hit l k hlt hno.out he)
        clear he
        go_wp2_with fail
        go_ret
        exact ⟨ret_int' HV.out.symm, rfl⟩
    · have HV := Lib.hid (firstE_none l (by have := hno.out; rwa [List.take_of_length_le (by omega)] at this))
      go_wp2_with fail
      go_ret
      exact ⟨ret_int' HV.out.symm, rfl⟩

set_option maxHeartbeats 400000 in
theorem or_any (A : Option Addr) (c lo : Nat) (l : List Int) (w : World) (hr : Row w lo 1 A l.length (ints l)) (hl : l.length ≤ 1000000000) :
    Calls Tryd.prog 10 #[.slice A l.length c] w fun e w' => e = .returned (.int .i64 (firstE l)) ∧ w = w' := by
  go_enter Tryd.func10, Tryd.ntmps10
  go_wp2_with fail
  go_loop [8] (fun i => ∃ k : Nat, k ≤ l.length ∧ i = .int .i64 k ∧ Hid (∀ y ∈ l.take k, y = 0)) (fun i => l.length - (intOf i).toNat)
  case atStart => exact ⟨0, Nat.zero_le _, rfl, Lib.hid (by simp)⟩
  case round =>
    obtain ⟨k, hk, rfl, hno⟩ := hrel
    by_cases hlt : k < l.length
    · obtain ⟨b, off, rfl, _, hbs, c0⟩ := hr.int_at hlt
      by_cases he : l[k] = 0
      · have he' : (l[k] != 0) = false := by simpa using he
        have HN := Lib.hid (take_zero_snoc hno.out hlt he)
        clear he
        go_wp2_with fail
        go_round
        case rel => exact ⟨k + 1, by omega, by go_num, HN⟩
        case measure => simp [intOf]; omega
      · have he' : (l[k] != 0) = true := by simpa using he
        have HV := Lib.hid (firstE_hit l k hlt hno.out he)
        clear he
        go_wp2_with fail
        go_ret
        exact ⟨ret_int' HV.out.symm, rfl⟩
    · have HV := Lib.hid (firstE_none l (by have := hno.out; rwa [List.take_of_length_le (by omega)] at this))
      go_wp2_with fail
      go_ret
      exact ⟨ret_int' HV.out.symm, rfl⟩

theorem own_cap {w : World} {base : Nat} {e : TypeId} {size : Nat} {A : Option Addr} {n c : Nat} {xs : List Value} (h : w.ownsRow base e size (.slice A n c) n xs) : n ≤ c := by
  rcases h.2 with ⟨h0, h1⟩ | ⟨g, cap, cur, hv, _, _, hc, _⟩
  · omega
  · injection hv with _ _ h3; omega
theorem Row.cut {w : World} {lo : Nat} {A A' : Option Addr} {n : Nat} {xs : List Value} (h : Row w lo 1 A n xs) {i j c : Nat} (hij : i ≤ j) (hj : j ≤ n) (hc : n ≤ c) (hA : (A' = A ∧ c = i) ∨ A' = A.map (·.add i)) : Row w lo 1 A' (j - i) ((xs.take j).drop i) := by
  have hl := h.1
  refine ⟨by simp; omega, fun hn => ?_⟩
  obtain ⟨b, off, rfl, h1, h2, h3⟩ := h.2 (by omega)
  rcases hA with ⟨_, h4⟩ | h4
  · omega
  · have ha : (⟨b, off, none⟩ : Addr).add i = ⟨b, off + i, none⟩ := by unfold Addr.add; split <;> simp_all
    refine ⟨b, off + i, by rw [h4]; simp [ha], h1, h2, fun k u hu => ?_⟩
    rw [Nat.add_assoc]
    refine h3 _ u ?_
    rw [List.getElem?_drop, List.getElem?_take] at hu
    split at hu
    · exact hu
    · cases hu
theorem own_cast {w : World} {base : Nat} {e : TypeId} {size : Nat} {v : Value} {n : Nat} {xs ys : List Value} (h : xs = ys) (ho : w.ownsRow base e size v n xs) : w.ownsRow base e size v n ys := h ▸ ho
theorem clipN_bd (at_ m f t : Int) (h : 0 ≤ at_) (hm : 0 ≤ m) (hf : 0 ≤ f) (ht : 0 ≤ t) : clipN at_ m f t ≤ m ∧ -(at_ + f) ≤ clipN at_ m f t := by unfold clipN; omega

/-- What Cut hands back. -/
def cutOk (f t : Int) : Bool := decide (0 ≤ f) && decide (f ≤ t) && decide (t ≤ 200000)
def cutR (ps : List (Int × Int)) (f t : Int) : List (Int × Int) := if inFault ps = 0 ∧ cutOk f t = true then foldM (cutL (unf ps) f.toNat t.toNat) else []
def cutE (ps : List (Int × Int)) (f t : Int) : Int := if inFault ps = 0 then (if cutOk f t = true then 0 else 1) else inFault ps
theorem cutOk_iff (f t : Int) : cutOk f t = true ↔ 0 ≤ f ∧ f ≤ t ∧ t ≤ 200000 := by simp [cutOk, and_assoc]
theorem cutR_ok {ps : List (Int × Int)} {f t : Int} (h : inFault ps = 0) (h' : cutOk f t = true) : cutR ps f t = foldM (cutL (unf ps) f.toNat t.toNat) := by simp [cutR, h, h']
theorem cutR_bad {ps : List (Int × Int)} {f t : Int} (h : ¬ (inFault ps = 0 ∧ cutOk f t = true)) : cutR ps f t = [] := by simp only [cutR, h, if_false]

end Go.Proofs.YtnlblgkoecnfmaaDoor
