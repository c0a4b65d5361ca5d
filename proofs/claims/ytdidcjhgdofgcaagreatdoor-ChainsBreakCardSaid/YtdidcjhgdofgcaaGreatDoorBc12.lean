/- Texts of this seat, laid together: Smu. -/
import Derived.Lib.Repeat
import Derived.Laws.Bits64
import Derived.Handy
import Derived.Test.YtdidcjhgdofgcaaGreatDoorBc11
import Derived.Test.YtdidcjhgdofgcaaGreatDoorBc02
import Derived.Test.YtdidcjhgdofgcaaGreatDoorBc04
import Derived.Test.YtdidcjhgdofgcaaGreatDoorBc09
/- The walks of base.Sum and splitref1.sumOf: the sum of bytes, in 16 signs. -/
namespace Go.Proofs.YtdidcjhgdofgcaaGreatDoor
set_option linter.unusedVariables false
set_option linter.unusedSimpArgs false
open Go.RowKit Go.Sort

def fnvS (h : Nat) (x : Int) : Nat := ((h ^^^ x.toNat) * 1099511628211) % 18446744073709551616
def fnvK (xs : List Int) : Nat → Nat
  | 0 => 14695981039346656037
  | k + 1 => fnvS (fnvK xs k) (xs.getD k 0)
theorem fnvK_next {xs : List Int} {k : Nat} (h : k < xs.length) : fnvK xs (k + 1) = fnvS (fnvK xs k) xs[k] := by
  show fnvS (fnvK xs k) (xs.getD k 0) = _
  rw [List.getD_eq_getElem?_getD, List.getElem?_eq_getElem h]; rfl
theorem fnvK_lt (xs : List Int) : ∀ k, fnvK xs k < 18446744073709551616
  | 0 => by show 14695981039346656037 < 18446744073709551616; decide
  | k + 1 => Nat.mod_lt _ (by decide)
/-- The sum of bytes as text. -/
def sumT (xs : List Int) : List UInt8 := Lib.repeatL [48] (16 - (hexT (fnvK xs xs.length)).length) ++ hexT (fnvK xs xs.length)
set_option maxHeartbeats 2000000 in
set_option maxRecDepth 100000 in
theorem sum_any (A : Option Addr) (c lo : Nat) (xs : List Int) (w : World) (hr : Row w lo 1 A xs.length (u8s xs)) (hl : xs.length ≤ 1000000000) (hx : ∀ x ∈ xs, 0 ≤ x ∧ x ≤ 255) (hT : Tz w) :
    Calls Tryz.prog 76 #[.slice A xs.length c] w fun e w' => e = .returned (encStr (sumT xs)) ∧ Below w.heap.size w w' := by
  have HX := Lib.hid hx
  have HT := Lib.hid hT
  clear hx hT
  go_enter Tryz.func76, Tryz.ntmps76
  go_wp2_with fail
  go_loopw [3, 9] (fun h i wr => ∃ k : Nat, k ≤ xs.length ∧ i = .int .i64 k ∧ h = .int .u64 ((fnvK xs k : Nat) : Int) ∧ wr = w) (fun _ i _ => xs.length - (intOf i).toNat)
  case atStart => exact ⟨0, Nat.zero_le _, rfl, rfl, rfl⟩
  case round =>
    obtain ⟨k, hk, rfl, rfl, rfl⟩ := hrel
    by_cases hlt : k < xs.length
    · obtain ⟨b, off, rfl, _, hbs, c0⟩ := hr.u8_at hlt
      obtain ⟨x0, x1⟩ := HX.out xs[k] (List.getElem_mem _)
      have HN := Lib.hid (fnvK_next hlt)
      have hfl := fnvK_lt xs k
      generalize xs[k] = x at *
      generalize fnvK xs k = h at *
      obtain ⟨n, rfl⟩ := Int.eq_ofNat_of_zero_le x0
      have hw8 : IntKind.u64.wrap (n : Int) = (n : Int) := by rw [IntKind.wrap_u64]; omega
      have hxr : bits BinOp.xor IntKind.u64 (h : Int) (n : Int) = ((h ^^^ n : Nat) : Int) := bits_xor_u64_nat h n hfl (by omega)
      go_wp2_with fail
      go_roundw
      case rel => exact ⟨k + 1, by omega, by go_num, by rw [HN.out]; simp [fnvS, IntKind.wrap_u64], by first | rfl | trivial⟩
      case measure => simp [intOf]; omega
    · have hkk : k = xs.length := by omega
      subst hkk
      have hfl := fnvK_lt xs xs.length
      have HS : Hid (sumT xs = Lib.repeatL [48] (16 - (hexT (fnvK xs xs.length)).length) ++ hexT (fnvK xs xs.length)) := Lib.hid rfl
      have hhl := hexT_le _ hfl
      generalize fnvK xs xs.length = h at *
      go_wp2_with fail
      refine (formatUint_any h hfl _ HT.out).mono ?_
      rintro e w1 ⟨rfl, hb⟩
      obtain ⟨q, hq⟩ : ∃ q : Nat, q = 16 - (hexT h).length := ⟨_, rfl⟩
      have hq2 : (16 : Int) - ((hexT h).length : Int) = (q : Int) := by omega
      have hq3 : IntKind.i64.wrap (16 - ((hexT h).length : Int)) = (q : Int) := by rw [hq2]; exact IntWalk.i64_in _ ⟨by omega, by omega⟩
      rw [← hq] at HS
      have hql : (Lib.repeatL [48] q).length ≤ 16 := by rw [Lib.repeatL_length]; simp; omega
      have hq16 : q ≤ 16 := by omega
      clear hq
      have REP := Tryz.strings_Repeat ⟨#[48]⟩ q w1 (by omega) (by show 1 * q ≤ _; omega)
      have er : Lib.repeatL (⟨#[48]⟩ : ByteArray).data.toList q = Lib.repeatL [48] q := rfl
      rw [er] at REP
      clear er
      generalize Lib.repeatL [48] q = rp at *
      generalize hexT h = hx at *
      go_wp2_with fail
      refine REP.mono ?_
      rintro e w2 ⟨rfl, hb2⟩
      go_wp2_with fail
      go_ret
      exact ⟨by rw [HS.out]; exact congrArg Ending.returned (congrArg Value.string (ba_app rp hx)), below_up hb hb2⟩
set_option maxHeartbeats 2000000 in
set_option maxRecDepth 100000 in
theorem sumOf_any (A : Option Addr) (c lo : Nat) (xs : List Int) (w : World) (hr : Row w lo 1 A xs.length (u8s xs)) (hl : xs.length ≤ 1000000000) (hx : ∀ x ∈ xs, 0 ≤ x ∧ x ≤ 255) (hT : Tz w) :
    Calls Tryz.prog 43 #[.slice A xs.length c] w fun e w' => e = .returned (encStr (sumT xs)) ∧ Below w.heap.size w w' := by
  have HX := Lib.hid hx
  have HT := Lib.hid hT
  clear hx hT
  go_enter Tryz.func43, Tryz.ntmps43
  go_wp2_with fail
  go_loopw [3, 9] (fun h i wr => ∃ k : Nat, k ≤ xs.length ∧ i = .int .i64 k ∧ h = .int .u64 ((fnvK xs k : Nat) : Int) ∧ wr = w) (fun _ i _ => xs.length - (intOf i).toNat)
  case atStart => exact ⟨0, Nat.zero_le _, rfl, rfl, rfl⟩
  case round =>
    obtain ⟨k, hk, rfl, rfl, rfl⟩ := hrel
    by_cases hlt : k < xs.length
    · obtain ⟨b, off, rfl, _, hbs, c0⟩ := hr.u8_at hlt
      obtain ⟨x0, x1⟩ := HX.out xs[k] (List.getElem_mem _)
      have HN := Lib.hid (fnvK_next hlt)
      have hfl := fnvK_lt xs k
      generalize xs[k] = x at *
      generalize fnvK xs k = h at *
      obtain ⟨n, rfl⟩ := Int.eq_ofNat_of_zero_le x0
      have hw8 : IntKind.u64.wrap (n : Int) = (n : Int) := by rw [IntKind.wrap_u64]; omega
      have hxr : bits BinOp.xor IntKind.u64 (h : Int) (n : Int) = ((h ^^^ n : Nat) : Int) := bits_xor_u64_nat h n hfl (by omega)
      go_wp2_with fail
      go_roundw
      case rel => exact ⟨k + 1, by omega, by go_num, by rw [HN.out]; simp [fnvS, IntKind.wrap_u64], by first | rfl | trivial⟩
      case measure => simp [intOf]; omega
    · have hkk : k = xs.length := by omega
      subst hkk
      have hfl := fnvK_lt xs xs.length
      have HS : Hid (sumT xs = Lib.repeatL [48] (16 - (hexT (fnvK xs xs.length)).length) ++ hexT (fnvK xs xs.length)) := Lib.hid rfl
      have hhl := hexT_le _ hfl
      generalize fnvK xs xs.length = h at *
      go_wp2_with fail
      refine (formatUint_any h hfl _ HT.out).mono ?_
      rintro e w1 ⟨rfl, hb⟩
      obtain ⟨q, hq⟩ : ∃ q : Nat, q = 16 - (hexT h).length := ⟨_, rfl⟩
      have hq2 : (16 : Int) - ((hexT h).length : Int) = (q : Int) := by omega
      have hq3 : IntKind.i64.wrap (16 - ((hexT h).length : Int)) = (q : Int) := by rw [hq2]; exact IntWalk.i64_in _ ⟨by omega, by omega⟩
      rw [← hq] at HS
      have hql : (Lib.repeatL [48] q).length ≤ 16 := by rw [Lib.repeatL_length]; simp; omega
      have hq16 : q ≤ 16 := by omega
      clear hq
      have REP := Tryz.strings_Repeat ⟨#[48]⟩ q w1 (by omega) (by show 1 * q ≤ _; omega)
      have er : Lib.repeatL (⟨#[48]⟩ : ByteArray).data.toList q = Lib.repeatL [48] q := rfl
      rw [er] at REP
      clear er
      generalize Lib.repeatL [48] q = rp at *
      generalize hexT h = hx at *
      go_wp2_with fail
      refine REP.mono ?_
      rintro e w2 ⟨rfl, hb2⟩
      go_wp2_with fail
      go_ret
      exact ⟨by rw [HS.out]; exact congrArg Ending.returned (congrArg Value.string (ba_app rp hx)), below_up hb hb2⟩
end Go.Proofs.YtdidcjhgdofgcaaGreatDoor
