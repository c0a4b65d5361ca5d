/- Texts of this seat, laid together: Hex. -/
import Derived.Laws.Bits64b
import Derived.Laws.IdiomStrings
import Derived.Handy
import Derived.Test.YtdidcjhgdofgcaaGreatDoorBc08
import Derived.Test.YtdidcjhgdofgcaaGreatDoorBc10
import Derived.Test.YtdidcjhgdofgcaaGreatDoorBc02
/- The walk of strconv.FormatUint at base 16: the digits of a number. -/
namespace Go.Proofs.YtdidcjhgdofgcaaGreatDoor
set_option linter.unusedVariables false
set_option linter.unusedSimpArgs false
open Go.RowKit Go.Sort

/-- The k-th digit from the end. -/
def hexD (u k : Nat) : UInt8 := hexs.getD (u / 16 ^ k % 16) 0
/-- How many digits stand ahead of the last one. -/
def hexN : Nat → Nat → Nat
  | 0, _ => 0
  | f + 1, u => if u < 16 then 0 else hexN f (u / 16) + 1
/-- The last digits, from the k-th on. -/
def hexL (u : Nat) : Nat → List UInt8
  | 0 => []
  | k + 1 => hexD u k :: hexL u k
def hexT (u : Nat) : List UInt8 := hexL u (hexN 16 u + 1)
theorem hexL_len (u : Nat) : ∀ k, (hexL u k).length = k
  | 0 => rfl
  | k + 1 => by show (hexL u k).length + 1 = _; rw [hexL_len u k]
theorem hexL_at (u : Nat) : ∀ k j (h : j < (hexL u k).length), (hexL u k)[j] = hexD u (k - 1 - j)
  | 0, j, h => absurd h (by simp [hexL])
  | k + 1, 0, h => rfl
  | k + 1, j + 1, h => by
    have hj : j < (hexL u k).length := by simpa [hexL] using h
    have := hexL_at u k j hj
    have hl := hexL_len u k
    show (hexL u k)[j] = _
    rw [this]
    congr 1
    omega
theorem hexN_le : ∀ f u, hexN f u ≤ f
  | 0, _ => Nat.le_refl _
  | f + 1, u => by
    show (if u < 16 then 0 else hexN f (u / 16) + 1) ≤ f + 1
    have := hexN_le f (u / 16)
    split <;> omega
theorem dig_all : ∀ d : Fin 36, d.val < 16 → ((⟨#[48, 49, 50, 51, 52, 53, 54, 55, 56, 57, 97, 98, 99, 100, 101, 102, 103, 104, 105, 106, 107, 108, 109, 110, 111, 112, 113, 114, 115, 116, 117, 118, 119, 120, 121, 122]⟩ : ByteArray)[d.val]'(d.isLt)) = hexs.getD d.val 0 := by decide +kernel
theorem dig_at {d : Nat} (h : d < 16) (h2 : d < (⟨#[48, 49, 50, 51, 52, 53, 54, 55, 56, 57, 97, 98, 99, 100, 101, 102, 103, 104, 105, 106, 107, 108, 109, 110, 111, 112, 113, 114, 115, 116, 117, 118, 119, 120, 121, 122]⟩ : ByteArray).size) : ((⟨#[48, 49, 50, 51, 52, 53, 54, 55, 56, 57, 97, 98, 99, 100, 101, 102, 103, 104, 105, 106, 107, 108, 109, 110, 111, 112, 113, 114, 115, 116, 117, 118, 119, 120, 121, 122]⟩ : ByteArray)[d]) = hexs.getD d 0 := dig_all ⟨d, by omega⟩ h
theorem hexN_next {f u : Nat} (h : 16 ≤ u) : hexN (f + 1) u = hexN f (u / 16) + 1 := by
  show (if u < 16 then 0 else hexN f (u / 16) + 1) = _
  rw [if_neg (by omega)]
theorem hexN_stop {f u : Nat} (h : u < 16) : hexN (f + 1) u = 0 := by
  show (if u < 16 then 0 else hexN f (u / 16) + 1) = _
  rw [if_pos h]
theorem arr_slice (ba m : Nat) (hm : m ≤ 64) (w : World) : (Instr.sliceAt 262 (.pointer (some ⟨ba, 0, none⟩)) (some (.int .i64 (m : Int))) none none).run Tryz.prog w = .ok (.slice (some ⟨ba, m, none⟩) (65 - m) (65 - m)) w := by
  have hu : Tryz.prog.underlying 262 = some (.array (Tryz.prog.arrayLen 262) (Tryz.prog.elem 262)) := by kernel_rfl
  have hl : Tryz.prog.arrayLen 262 = 65 := by kernel_rfl
  have he : Tryz.prog.elem 262 = 5 := by kernel_rfl
  have hi : (Tryz.prog.info? 5).map (·.size) = some 1 := by kernel_rfl
  rw [run_sliceAt_array_l w 262 ⟨ba, 0, none⟩ hu .i64 (m : Int) (by omega) (by rw [hl]; omega), he]
  have hs : (sizeOf 5).run Tryz.prog w = .ok 1 w := by
    simp [go_sem]
  rw [hs, Result.andThen_ok]
  unfold slicedAt
  rw [hl, if_neg (by omega), Int.toNat_natCast]
  simp [Addr.add]
  exact fun h => h.symm
theorem hexT_len (u : Nat) : (hexT u).length = hexN 16 u + 1 := hexL_len u _
theorem hexT_at {u j : Nat} (h : j < (hexT u).length) : (hexT u)[j] = hexD u (hexN 16 u - j) := by
  have := hexL_at u (hexN 16 u + 1) j h
  rwa [Nat.add_sub_cancel] at this
theorem hex_last {u : Nat} (hu : u < 18446744073709551616) : u / 16 ^ 15 < 16 := by
  have e : (16 : Nat) ^ 15 = 1152921504606846976 := by decide
  rw [e]; omega
set_option maxHeartbeats 2000000 in
set_option maxRecDepth 100000 in
theorem formatBits_any (u : Nat) (hu : u < 18446744073709551616) (w : World) (hT : Tz w) :
    Calls Tryz.prog 151 #[.slice none 0 0, .int .u64 u, .int .i64 16, .bool false, .bool false] w fun e w' => e = .returned (.tuple #[.slice none 0 0, encStr (hexT u)]) ∧ Below w.heap.size w w' := by
  have HT := Lib.hid hT
  clear hT
  go_enter Tryz.func151, Tryz.ntmps151
  go_wp2_with fail
  have kA : Blk (w.alloc (.cells Tryz.zeroCells262 262)) w.heap.size 262 Tryz.zeroCells262 := Blk.new _ _ _
  have hx : Below w.heap.size w (w.alloc (.cells Tryz.zeroCells262 262)) := (Below.refl _ _).alloc (Nat.le_refl _) _
  have hT1 := HT.out.below hx
  generalize w.alloc (.cells Tryz.zeroCells262 262) = w0 at *
  refine (pow2_any _).mono ?_
  rintro e w' ⟨rfl, rfl⟩
  go_wp2_with fail
  refine (tz16_any _ hT1).mono ?_
  rintro e w' ⟨rfl, rfl⟩
  go_wp2_with fail
  have hlt0 := kA.lt
  generalize hba : w.heap.size = ba at *
  have HBA := Lib.hid hba
  clear hba
  go_loopw [1, 13] (fun v i wr => ∃ (k m : Nat) (cs : Array Value), m + k = 64 ∧ k ≤ 15 ∧ v = .int .u64 ((u / 16 ^ k : Nat) : Int) ∧ i = .int .i64 ((m : Int) + 1) ∧ hexN 16 u = k + hexN (16 - k) (u / 16 ^ k) ∧ Blk wr ba 262 cs ∧ cs.size = 65 ∧ Hid (∀ j, j < k → cs[64 - j]? = some (.int .u8 ((hexD u j).toNat : Int))) ∧ Below ba w wr) (fun v _ _ => (intOf v).toNat)
  case atStart => exact ⟨0, 64, _, rfl, by omega, by simp, rfl, by simp, kA, by kernel_rfl, Lib.hid (fun j h => absurd h (Nat.not_lt_zero _)), hx⟩
  case round =>
    clear kA hx hT1
    obtain ⟨k, m, cs, hmk, hk, rfl, rfl, hN, hA, hcs, hd, hx⟩ := hrel
    have hub : u / 16 ^ k < 18446744073709551616 := Nat.lt_of_le_of_lt (Nat.div_le_self _ _) hu
    have hbit : bits BinOp.and IntKind.u64 ((u / 16 ^ k : Nat) : Int) 15 = ((u / 16 ^ k % 16 : Nat) : Int) := by
      have := bits_and_u64_nat (u / 16 ^ k) 15 hub (by decide)
      rw [show ((15 : Nat) : Int) = 15 from rfl] at this
      rw [this, show (15 : Nat) = 2 ^ 4 - 1 from rfl, Nat.and_two_pow_sub_one_eq_mod]
    have hm16 : u / 16 ^ k % 16 < 16 := Nat.mod_lt _ (by decide)
    have HDG : Hid (hexD u k = hexs.getD (u / 16 ^ k % 16) 0) := Lib.hid rfl
    generalize huk : u / 16 ^ k = uk at *
    by_cases hge : 16 ≤ uk
    · generalize uk % 16 = dg at *
      have c0 := hA.lt
      have cf := hA.thaw m
      have hm65 : m < cs.size := by omega
      obtain ⟨c1, hc1⟩ : ∃ c1, wr.cell? ⟨ba, m, none⟩ = some c1 := ⟨cs[m], by rw [hA.cell m]; simp [hm65]⟩
      have hk14 : k ≤ 14 := by
        rcases Nat.lt_or_ge k 15 with h | h
        · omega
        · have h15 : k = 15 := by omega
          have := hex_last hu
          rw [h15] at huk
          omega
      have HB := Lib.hid hA
      have HX := Lib.hid hx
      have HHN := Lib.hid hN
      have HUK := Lib.hid huk
      have HCS := Lib.hid hcs
      clear hA hx hN huk hub hm65 hcs
      go_wp2_with fail
      rw [dig_at hm16, ← HDG.out]
      go_roundw
      case rel =>
        obtain ⟨m', rfl⟩ : ∃ m', m = m' + 1 := ⟨m - 1, by omega⟩
        have hdv : uk / 16 = u / 16 ^ (k + 1) := by rw [← HUK.out, Nat.div_div_eq_div_mul, Nat.pow_succ]
        refine ⟨k + 1, m', cs.setIfInBounds (m' + 1) (.int .u8 ((hexD u k).toNat : Int)), by omega, by omega, by rw [← hdv]; rfl, by go_num, ?_, HB.out.poke (m' + 1) _, by rw [Array.size_setIfInBounds]; exact HCS.out, Lib.hid (fun j hj => ?_), Below.setCell (p := ⟨ba, m' + 1, none⟩) HX.out (Nat.le_refl _) _⟩
        · rw [HHN.out, show 16 - k = (16 - (k + 1)) + 1 by omega, hexN_next hge, hdv]; omega
        · rcases Nat.lt_or_ge j k with h | h
          · rw [Array.getElem?_setIfInBounds_ne (by omega)]; exact hd.out j h
          · have hjk : j = k := by omega
            subst hjk
            rw [show 64 - j = m' + 1 by omega, Array.getElem?_setIfInBounds_self_of_lt (by have := HCS.out; omega)]
      case measure => simp [intOf]; omega
    · have c0 := hA.lt
      have cf := hA.thaw m
      have hm65 : m < cs.size := by omega
      obtain ⟨c1, hc1⟩ : ∃ c1, wr.cell? ⟨ba, m, none⟩ = some c1 := ⟨cs[m], by rw [hA.cell m]; simp [hm65]⟩
      have hu16 : uk < 16 := by omega
      have hkn : hexN 16 u = k := by rw [hN, show 16 - k = (15 - k) + 1 by omega, hexN_stop hu16]; omega
      have hm64 : m ≤ 64 := by omega
      have hsl := arr_slice ba m hm64
      have h36 : uk < (⟨#[48, 49, 50, 51, 52, 53, 54, 55, 56, 57, 97, 98, 99, 100, 101, 102, 103, 104, 105, 106, 107, 108, 109, 110, 111, 112, 113, 114, 115, 116, 117, 118, 119, 120, 121, 122]⟩ : ByteArray).size := Nat.lt_of_lt_of_le hu16 (by decide)
      have hdig : (⟨#[48, 49, 50, 51, 52, 53, 54, 55, 56, 57, 97, 98, 99, 100, 101, 102, 103, 104, 105, 106, 107, 108, 109, 110, 111, 112, 113, 114, 115, 116, 117, 118, 119, 120, 121, 122]⟩ : ByteArray)[uk]'h36 = hexD u k := by rw [dig_at hu16 h36, HDG.out, Nat.mod_eq_of_lt hu16]
      have hlen : (hexT u).length = 65 - m := by rw [hexT_len, hkn]; omega
      have hW := hA.poke m (.int .u8 (((⟨#[48, 49, 50, 51, 52, 53, 54, 55, 56, 57, 97, 98, 99, 100, 101, 102, 103, 104, 105, 106, 107, 108, 109, 110, 111, 112, 113, 114, 115, 116, 117, 118, 119, 120, 121, 122]⟩ : ByteArray)[uk]'h36).toNat : Int))
      have hcv := run_convert_bytes_back (P := Tryz.prog) (wr.setCell ⟨ba, m, none⟩ (.int .u8 (((⟨#[48, 49, 50, 51, 52, 53, 54, 55, 56, 57, 97, 98, 99, 100, 101, 102, 103, 104, 105, 106, 107, 108, 109, 110, 111, 112, 113, 114, 115, 116, 117, 118, 119, 120, 121, 122]⟩ : ByteArray)[uk]'h36).toNat : Int))) 74 9 5 ⟨ba, m, none⟩ (65 - m) (hexT u) (by kernel_rfl) (by kernel_rfl) (by kernel_rfl) (fun j hj => by
        have e : (⟨ba, m, none⟩ : Addr).add j = ⟨ba, m + j, none⟩ := by simp [Addr.add]
        rw [e, hW.cell (m + j), hexT_at hj, hkn]
        rw [hlen] at hj
        by_cases h0 : j = 0
        · subst h0
          rw [Nat.add_zero, Array.getElem?_setIfInBounds_self_of_lt hm65, hdig, Nat.sub_zero]
        · rw [Array.getElem?_setIfInBounds_ne (by omega), show m + j = 64 - (k - j) by omega]
          exact hd.out (k - j) (by omega))
      rw [hlen] at hcv
      have HX := Lib.hid hx
      clear hA hx hN hW hd hkn hlen hdig hm65 hk hcs hub
      go_wp2_with fail
      go_returns
      exact ⟨rfl, by rw [HBA.out]; exact Below.setCell (p := ⟨ba, m, none⟩) HX.out (Nat.le_refl _) _⟩
set_option maxHeartbeats 1000000 in
theorem formatI_any (u : Nat) (hu : u < 18446744073709551616) (w : World) (hT : Tz w) :
    Calls Tryz.prog 110 #[.int .u64 u, .int .i64 16] w fun e w' => e = .returned (encStr (hexT u)) ∧ Below w.heap.size w w' := by
  go_enter Tryz.func110, Tryz.ntmps110
  go_wp2_with fail
  refine (formatBits_any u hu _ hT).mono ?_
  rintro e w1 ⟨rfl, hb⟩
  go_wp2_with fail
  go_ret
  exact ⟨rfl, hb⟩
set_option maxHeartbeats 1000000 in
theorem formatUint_any (u : Nat) (hu : u < 18446744073709551616) (w : World) (hT : Tz w) :
    Calls Tryz.prog 78 #[.int .u64 u, .int .i64 16] w fun e w' => e = .returned (encStr (hexT u)) ∧ Below w.heap.size w w' := by
  go_enter Tryz.func78, Tryz.ntmps78
  go_wp2_with fail
  refine (formatI_any u hu _ hT).mono ?_
  rintro e w1 ⟨rfl, hb⟩
  go_wp2_with fail
  go_ret
  exact ⟨rfl, hb⟩
theorem hexT_le (u : Nat) (hu : u < 18446744073709551616) : 1 ≤ (hexT u).length ∧ (hexT u).length ≤ 16 := by
  have h : ∀ f v, v < 16 ^ (f + 1) → hexN (f + 1) v ≤ f := by
    intro f
    induction f with
    | zero =>
      intro v hv
      rw [hexN_stop (by simpa using hv)]; exact Nat.le_refl _
    | succ f ih =>
      intro v hv
      by_cases h16 : v < 16
      · rw [hexN_stop h16]; omega
      · rw [hexN_next (by omega)]
        have : v / 16 < 16 ^ (f + 1) := by
          rw [Nat.div_lt_iff_lt_mul (by decide)]
          rwa [Nat.pow_succ] at hv
        have := ih (v / 16) this
        omega
  have e16 : (16 : Nat) ^ (15 + 1) = 18446744073709551616 := by decide
  have h15 : hexN 16 u ≤ 15 := h 15 u (by rw [e16]; exact hu)
  rw [hexT_len]
  omega
end Go.Proofs.YtdidcjhgdofgcaaGreatDoor
