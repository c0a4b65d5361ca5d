/- The walks of film.milliseconds, film.times and film.end. -/
import Derived.Test.YtlnencloodlnbaaDoorMk
import Derived.Test.YtlnencloodlnbaaDoorEvE
namespace Go.Proofs.YtlnencloodlnbaaDoor
open Go.RowKit

theorem ms_bd (m n : Int) (hm : 1 ≤ m) (hn : 0 ≤ n) (hn' : n ≤ 10000000000 * m) : 0 ≤ n / m ∧ n / m ≤ 10000000000 ∧ 0 ≤ n % m ∧ n % m < m ∧ 0 ≤ (2000 * (n % m) + m) / (2 * m) ∧ (2000 * (n % m) + m) / (2 * m) ≤ 2000 * (n % m) + m := by
  have r1 := Int.emod_nonneg n (show m ≠ 0 by omega)
  have r2 := Int.emod_lt_of_pos n (show 0 < m by omega)
  refine ⟨Int.ediv_nonneg hn (by omega), ?_, r1, r2, Int.ediv_nonneg (by omega) (by omega), Int.ediv_le_self _ (by omega)⟩
  have := Int.ediv_le_ediv (show 0 < m by omega) hn'
  rwa [Int.mul_ediv_cancel _ (by omega)] at this

set_option maxHeartbeats 1000000 in
theorem milliseconds_any (g lo c : Nat) (A : Option Addr) (v : List St) (n : Int) (w : World) (hf : Film w g lo A c v) (hg : Good v) (hn : 0 ≤ n) (hn' : n ≤ 10000000000 * multK v) :
    Calls Tryd.prog 79 #[.pointer (some ⟨g, 0, none⟩), .int .i64 n] w fun e w' => e = .returned (.int .i64 (msM (multK v) n)) ∧ Below w.heap.size w w' := by
  obtain ⟨f0, f1, f2⟩ := hf.cells
  have m1 := hg.mbd
  have m2 := hg.mul
  obtain ⟨q0, q1, r0, r1, d0, d1⟩ := ms_bd _ _ m1 hn hn'
  have HM : Hid (n / multK v * 1000 + (2000 * (n % multK v) + multK v) / (2 * multK v) = msM (multK v) n) := Lib.hid rfl
  clear f0 f2 hf hg
  generalize multK v = m at *
  have m0 : (m == 0) = false := by simp; omega
  have m0' : (2 * m == 0) = false := by simp; omega
  have hm0 : ¬ m = 0 := by omega
  have tm0 : n.tdiv m = n / m := tdiv_ediv (by omega)
  have tm1 : n.tmod m = n % m := Int.tmod_eq_emod_of_nonneg (by omega)
  have tm2 : (2000 * (n % m) + m).tdiv (2 * m) = (2000 * (n % m) + m) / (2 * m) := tdiv_ediv (by omega)
  have wr0 : IntKind.i64.wrap (n / m) = n / m := IntWalk.i64_in _ ⟨by omega, by omega⟩
  have wr1 : IntKind.i64.wrap (n / m * 1000) = n / m * 1000 := IntWalk.i64_in _ ⟨by omega, by omega⟩
  have wr2 : IntKind.i64.wrap (n % m) = n % m := IntWalk.i64_in _ ⟨by omega, by omega⟩
  have wr3 : IntKind.i64.wrap (2000 * (n % m)) = 2000 * (n % m) := IntWalk.i64_in _ ⟨by omega, by omega⟩
  have wr4 : IntKind.i64.wrap (2000 * (n % m) + m) = 2000 * (n % m) + m := IntWalk.i64_in _ ⟨by omega, by omega⟩
  have wr5 : IntKind.i64.wrap (2 * m) = 2 * m := IntWalk.i64_in _ ⟨by omega, by omega⟩
  have wr6 : IntKind.i64.wrap ((2000 * (n % m) + m) / (2 * m)) = (2000 * (n % m) + m) / (2 * m) := IntWalk.i64_in _ ⟨by omega, by omega⟩
  have wr7 : IntKind.i64.wrap (n / m * 1000 + (2000 * (n % m) + m) / (2 * m)) = n / m * 1000 + (2000 * (n % m) + m) / (2 * m) := IntWalk.i64_in _ ⟨by omega, by omega⟩
  go_enter Tryd.func79, Tryd.ntmps79
  go_wp2_with fail
  go_quiet (fail)
  clear wr0 wr1 wr2 wr3 wr4 wr5 wr6 wr7 tm0 tm1 tm2
  go_wp2_with fail
  go_ret
  exact ⟨ret_int' HM.out, (by repeat (first | exact Below.refl _ _ | refine Below.alloc ?_ (by first | omega | (simp; omega)) _ | refine below_drewN' ?_ _ | refine Below.drew ?_))⟩

set_option maxHeartbeats 2000000 in
theorem times_any (g lo lo' c d : Nat) (A B : Option Addr) (v : List St) (l : List Mk) (w : World) (hf : Film w g lo A c v) (hr : Row w lo' 2 B l.length (prs l)) (hg : Good v) (hl : l.length ≤ 500) (hR : Rises l) (hb : ∀ x ∈ l, 0 ≤ x.1 ∧ x.1 ≤ 1000000000000) :
    Calls Tryd.prog 65 #[.pointer (some ⟨g, 0, none⟩), .slice B l.length d] w fun e w' => ∃ A' c', e = .returned (.slice A' (tS v l).2.2.length c') ∧ w'.ownsRow w.heap.size 3 1 (.slice A' (tS v l).2.2.length c') (tS v l).2.2.length (ints (tS v l).2.2) ∧ Below w.heap.size w w' := by
  have HG := Lib.hid hg
  have HR := Lib.hid hR
  have HB := Lib.hid hb
  have m1 := hg.mbd
  have m2 := hg.mul
  clear hg hR hb
  go_enter Tryd.func65, Tryd.ntmps65
  go_wp2_with fail
  go_loopw [5, 6, 7, 13] (fun o fr su i wr => ∃ (k : Nat) (A' : Option Addr) (c' : Nat), k ≤ l.length ∧ i = .int .i64 k ∧ fr = .int .i64 (tS v (l.take k)).1 ∧ su = .int .i64 (tS v (l.take k)).2.1 ∧ o = .slice A' (tS v (l.take k)).2.2.length c' ∧ wr.ownsRow w.heap.size 3 1 (.slice A' (tS v (l.take k)).2.2.length c') (tS v (l.take k)).2.2.length (ints (tS v (l.take k)).2.2) ∧ Below w.heap.size w wr) (fun _ _ _ i _ => l.length - (intOf i).toNat)
  case atStart => exact ⟨0, none, 0, Nat.zero_le _, rfl, rfl, rfl, rfl, World.ownsRow_nil _ _ _ _, Below.refl _ _⟩
  case round =>
    obtain ⟨k, A', c', hk, rfl, rfl, rfl, rfl, hown, hbw⟩ := hrel
    have zw := hbw.size
    by_cases hlt : k < l.length
    · obtain ⟨b, off, rfl, _, hbs, c0, c1⟩ := (hr.below hbw).pr_at hlt
      have hfw := hf.below hbw
      have HT := Lib.hid (tS_take v l k hlt)
      obtain ⟨a0, a1, b0, b1, cl⟩ := tS_bd HG.out l HR.out k hk
      have a2 := a1 hlt
      obtain ⟨e0, e1⟩ := begM_bd' HG.out l[k].1
      obtain ⟨x0, x1⟩ := HB.out l[k] (List.getElem_mem _)
      have b2 : (k : Int) * (10000000 * multK v) ≤ 500 * (10000000 * multK v) := Int.mul_le_mul_of_nonneg_right (by omega) (by omega)
      have HON := Lib.hid (tstep_on v (tS v (l.take k)) l[k])
      have HOF := Lib.hid (tstep_off v (tS v (l.take k)) l[k])
      have HOU := Lib.hid (tstep_out v (tS v (l.take k)) l[k])
      clear a1
      generalize tS v (l.take k) = s at *
      generalize hxk : l[k] = x at *
      clear hxk
      go_wp2_with fail
      refine (begin_any g lo c A v x.1 _ (hfw.below (by repeat (first | exact Below.refl _ _ | refine Below.alloc ?_ (by first | omega | (simp; omega)) _ | refine below_drewN' ?_ _ | refine Below.drew ?_))) HG.out x0 x1).mono ?_
      rintro e w1 ⟨rfl, hb1⟩
      have hb2 : Below w.heap.size w w1 := below_up (by repeat (first | exact hbw | refine Below.alloc ?_ (by first | omega | (simp; omega)) _ | refine below_drewN' ?_ _ | refine Below.drew ?_)) hb1
      have kb1 := (Blk.new wr 66 #[.int .i64 x.1, .int .i64 x.2]).below hb1
      have kc : w1.cell? ⟨wr.heap.size, 1, none⟩ = some (.int .i64 x.2) := kb1.cell 1
      have hown1 := own_keep (own_keep hown ((Below.refl _ _).alloc (Nat.le_refl _) (.cells #[.int .i64 x.1, .int .i64 x.2] 66))) hb1
      have z1 := hb2.size
      clear hb1 kb1 c0 c1 hown
      generalize begM v x.1 = a at *
      by_cases h1 : x.2 = 1
      · have HE := HON.out (.inl h1)
        have t1 : (x.2 == 1) = true := by simpa using h1
        clear HON HOF HOU
        go_wp2_with fail
        go_roundw
        case rel => exact ⟨k + 1, A', c', by omega, by go_num, by rw [HT.out, HE], by rw [HT.out, HE], by rw [HT.out, HE], by rw [HT.out, HE]; exact hown1, hb2⟩
        case measure => simp [intOf]; omega
      · have t1 : (x.2 == 1) = false := by simpa using h1
        by_cases h4 : x.2 = 4
        · have HE := HON.out (.inr h4)
          have t4 : (x.2 == 4) = true := by simpa using h4
          clear HON HOF HOU
          go_wp2_with fail
          go_roundw
          case rel => exact ⟨k + 1, A', c', by omega, by go_num, by rw [HT.out, HE], by rw [HT.out, HE], by rw [HT.out, HE], by rw [HT.out, HE]; exact hown1, hb2⟩
          case measure => simp [intOf]; omega
        · have t4 : (x.2 == 4) = false := by simpa using h4
          by_cases h3 : x.2 = 3
          · have HE := HOF.out h3
            have t3 : (x.2 == 3) = true := by simpa using h3
            clear HON HOF HOU
            go_wp2_with fail
            go_roundw
            case rel => exact ⟨k + 1, A', c', by omega, by go_num, by rw [HT.out, HE], by rw [HT.out, HE], by rw [HT.out, HE], by rw [HT.out, HE]; exact hown1, hb2⟩
            case measure => simp [intOf]; omega
          · have t3 : (x.2 == 3) = false := by simpa using h3
            have HE := HOU.out (by omega) h3
            have hfw1 := hf.below hb2
            clear HON HOF HOU
            go_wp2_with fail
            refine (milliseconds_any g lo c A v _ _ hfw1 HG.out (by omega) (by omega)).mono ?_
            rintro e w2 ⟨rfl, hb3⟩
            have hb4 := below_up hb2 hb3
            have hown2 := own_keep hown1 hb3
            have z2 := hb4.size
            clear hb3 hown1
            generalize hMS : msM (multK v) (s.2.1 + a - s.1) = q at *
            generalize hxs : s.2.2 = xs at *
            go_wp2_with (at_builtin; go_must (refine wpList_app (lo := w.heap.size) (base := w.heap.size) (n := xs.length) (xs := ints xs) _ _ rfl _ _ ty_ints rfl (by repeat (first | exact hown2 | refine World.ownsRow.alloc ?_ _ | refine own_drewN ?_ _ | refine World.ownsRow.drew ?_)) rfl (by first | exact row_new' _ (by first | rfl | simp) (by first | omega | (simp; omega)) rfl | exact row_newN _ _ (by first | rfl | simp) (by first | omega | (simp; omega)) rfl | exact row_newD _ (by first | rfl | simp) (by first | omega | (simp; omega)) rfl) rfl rfl (by first | omega | decide) (by first | omega | decide) (by first | omega | (simp; omega)) ?_))
            intro A5 c5 w5 hown5 hg5 _
            go_wp2_with fail
            go_roundw
            case rel => exact ⟨k + 1, A5, c5, by omega, by go_num, by rw [HT.out, HE], by rw [HT.out, HE], by rw [HT.out, HE]; simp, by rw [HT.out, HE]; simpa [ints] using hown5, below_app hown2 (by repeat (first | exact hb4 | refine Below.alloc ?_ (by first | omega | (simp; omega)) _ | refine below_drewN' ?_ _ | refine Below.drew ?_)) hg5 (Nat.le_refl _) (by simp; omega)⟩
            case measure => simp [intOf]; omega
    · have hkk : k = l.length := by omega
      subst hkk
      rw [List.take_length] at hown
      rw [List.take_length]
      go_wp2_with fail
      go_ret
      exact ⟨A', c', rfl, hown, hbw⟩

set_option maxHeartbeats 400000 in
theorem end_any (g lo lo' c d : Nat) (A B : Option Addr) (v : List St) (l : List Mk) (w : World) (hf : Film w g lo A c v) (hr : Row w lo' 2 B l.length (prs l)) (hg : Good v) (hl : l.length ≤ 500) (hR : Rises l) (hb : ∀ x ∈ l, 0 ≤ x.1 ∧ x.1 ≤ 1000000000000) (hne : 0 < (tS v l).2.2.length) :
    Calls Tryd.prog 42 #[.pointer (some ⟨g, 0, none⟩), .slice B l.length d] w fun e w' => e = .returned (.int .i64 ((tS v l).2.2.getLastD 0)) ∧ Below w.heap.size w w' := by
  have hln := (tS_bd hg l hR l.length (Nat.le_refl _)).2.2.2.2
  rw [List.take_length] at hln
  have HG := Lib.hid hg
  have HR := Lib.hid hR
  have HB := Lib.hid hb
  clear hg hR hb
  go_enter Tryd.func42, Tryd.ntmps42
  go_wp2_with fail
  refine (times_any g lo lo' c d A B v l w hf hr HG.out hl HR.out HB.out).mono ?_
  rintro e w1 ⟨A', c', rfl, hown, hb1⟩
  generalize hxs : (tS v l).2.2 = xs at *
  have HX := Lib.hid hxs
  clear hxs
  have hlast : xs.getLastD 0 = xs[xs.length - 1] := by
    rw [List.getLastD_eq_getLast?, List.getLast?_eq_getElem?, List.getElem?_eq_getElem (by omega)]; rfl
  obtain ⟨b, off, rfl, _, _, c0⟩ := (Row.of_own hown).int_at (k := xs.length - 1) (by omega)
  rw [← hlast] at c0
  clear hlast hown
  generalize hz : xs.getLastD 0 = z at *
  have HZ := Lib.hid hz
  clear hz
  obtain ⟨n, hn⟩ : ∃ n, xs.length = n + 1 := ⟨xs.length - 1, by omega⟩
  rw [hn] at c0 hln ⊢
  rw [show n + 1 - 1 = n by omega] at c0
  clear hn hne
  go_wp2_with fail
  go_ret
  exact ⟨ret_int' (by rw [HX.out, HZ.out]), hb1⟩
end Go.Proofs.YtlnencloodlnbaaDoor
