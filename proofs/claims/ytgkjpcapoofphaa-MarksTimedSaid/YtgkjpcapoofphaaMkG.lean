/- The walks of slices.Equal over integers and marks, of rounded, playedTo, TimeOf and SplitsBy. -/
import Derived.Test.YtgkjpcapoofphaaMkP
namespace Go.Proofs.Ytgkjpcapoofphaa
open Go.RowKit

set_option maxHeartbeats 1000000 in
theorem equalM_any (A B : Option Addr) (c d lo lo' : Nat) (ps qs : List (Int × Int)) (w : World) (hr : Row w lo 2 A ps.length (prs ps)) (hr' : Row w lo' 2 B qs.length (prs qs)) (hl : ps.length ≤ 1000000000) (hl' : qs.length ≤ 1000000000) :
    Calls Try.prog 46 #[.slice A ps.length c, .slice B qs.length d] w fun e w' => e = .returned (.bool (decide (ps = qs))) ∧ ∃ q, w' = w.drewN q := by
  by_cases hlen : ps.length = qs.length
  · have h0 : ((ps.length : Int) != (qs.length : Int)) = false := by simp [hlen]
    have HLEN := Lib.hid hlen
    clear hlen
    go_enter Try.func46, Try.ntmps46
    go_wp2_with fail
    go_loopw [13] (fun i wr => ∃ (k : Nat) (q : Nat), k ≤ ps.length ∧ i = .int .i64 k ∧ Hid (ps.take k = qs.take k) ∧ wr = w.drewN q) (fun i _ => ps.length - (intOf i).toNat)
    case atStart => exact ⟨0, 0, Nat.zero_le _, rfl, Lib.hid rfl, rfl⟩
    case round =>
      obtain ⟨k, q, hk, rfl, htk, rfl⟩ := hrel
      by_cases hlt : k < ps.length
      · obtain ⟨b, off, rfl, _, hbs, c0, c1⟩ := hr.pr_at hlt
        have hlt' : k < qs.length := by have := HLEN.out; omega
        obtain ⟨b', off', rfl, _, hbs', d0, d1⟩ := hr'.pr_at hlt'
        by_cases he : ps[k] = qs[k]
        · have HN : Hid (ps.take (k + 1) = qs.take (k + 1)) := Lib.hid (by rw [List.take_succ_eq_append_getElem hlt, List.take_succ_eq_append_getElem hlt', htk.out, he])
          rw [← he] at d0 d1
          clear he
          go_wp2_with fail
          go_quiet (fail)
          go_wp2_with fail
          go_roundw
          case rel => exact ⟨k + 1, _, by omega, by go_num, HN, rfl⟩
          case measure => simp [intOf]; omega
        · have HN : Hid (¬ ps = qs) := Lib.hid (fun h => he (by subst h; rfl))
          by_cases he1 : ps[k].1 = qs[k].1
          · have e1 : (ps[k].1 == qs[k].1) = true := by simpa using he1
            have e2 : (ps[k].2 == qs[k].2) = false := by simpa using fun h => he (Prod.ext he1 h)
            clear he he1
            go_wp2_with fail
            go_quiet (fail)
            go_wp2_with fail
            go_ret
            exact ⟨ret_bool' (by simp [HN.out]), _, World.drewN_drewN _ _ _⟩
          · have e1 : (ps[k].1 == qs[k].1) = false := by simpa using he1
            clear he he1
            go_wp2_with fail
            go_quiet (fail)
            go_wp2_with fail
            go_ret
            exact ⟨ret_bool' (by simp [HN.out]), _, World.drewN_drewN _ _ _⟩
      · have HN : Hid (ps = qs) := Lib.hid (by
          have := htk.out
          have hh := HLEN.out
          rwa [List.take_of_length_le (by omega), List.take_of_length_le (by omega)] at this)
        go_wp2_with fail
        go_ret
        exact ⟨ret_bool' (by simp [HN.out]), _, rfl⟩
  · have h0 : ((ps.length : Int) != (qs.length : Int)) = true := by rw [bne_iff_ne]; omega
    have HN : Hid (¬ ps = qs) := Lib.hid (fun h => hlen (by rw [h]))
    clear hlen
    go_enter Try.func46, Try.ntmps46
    go_wp2_with fail
    go_ret
    exact ⟨ret_bool' (by simp [HN.out]), 0, rfl⟩

set_option maxHeartbeats 1000000 in
theorem equalI_any (A B : Option Addr) (c d lo lo' : Nat) (ps qs : List Int) (w : World) (hr : Row w lo 1 A ps.length (ints ps)) (hr' : Row w lo' 1 B qs.length (ints qs)) (hl : ps.length ≤ 1000000000) (hl' : qs.length ≤ 1000000000) :
    Calls Try.prog 44 #[.slice A ps.length c, .slice B qs.length d] w fun e w' => e = .returned (.bool (decide (ps = qs))) ∧ ∃ q, w' = w.drewN q := by
  by_cases hlen : ps.length = qs.length
  · have h0 : ((ps.length : Int) != (qs.length : Int)) = false := by simp [hlen]
    have HLEN := Lib.hid hlen
    clear hlen
    go_enter Try.func44, Try.ntmps44
    go_wp2_with fail
    go_loopw [13] (fun i wr => ∃ (k : Nat) (q : Nat), k ≤ ps.length ∧ i = .int .i64 k ∧ Hid (ps.take k = qs.take k) ∧ wr = w.drewN q) (fun i _ => ps.length - (intOf i).toNat)
    case atStart => exact ⟨0, 0, Nat.zero_le _, rfl, Lib.hid rfl, rfl⟩
    case round =>
      obtain ⟨k, q, hk, rfl, htk, rfl⟩ := hrel
      by_cases hlt : k < ps.length
      · obtain ⟨b, off, rfl, _, hbs, c0⟩ := hr.int_at hlt
        have hlt' : k < qs.length := by have := HLEN.out; omega
        obtain ⟨b', off', rfl, _, hbs', d0⟩ := hr'.int_at hlt'
        by_cases he : ps[k] = qs[k]
        · have HN : Hid (ps.take (k + 1) = qs.take (k + 1)) := Lib.hid (by rw [List.take_succ_eq_append_getElem hlt, List.take_succ_eq_append_getElem hlt', htk.out, he])
          rw [← he] at d0
          clear he
          go_wp2_with fail
          go_quiet (fail)
          go_wp2_with fail
          go_roundw
          case rel => exact ⟨k + 1, _, by omega, by go_num, HN, rfl⟩
          case measure => simp [intOf]; omega
        · have HN : Hid (¬ ps = qs) := Lib.hid (fun h => he (by subst h; rfl))
          have e1 : (ps[k] != qs[k]) = true := by simpa using he
          clear he
          go_wp2_with fail
          go_quiet (fail)
          go_wp2_with fail
          go_ret
          exact ⟨ret_bool' (by simp [HN.out]), _, World.drewN_drewN _ _ _⟩
      · have HN : Hid (ps = qs) := Lib.hid (by
          have := htk.out
          have hh := HLEN.out
          rwa [List.take_of_length_le (by omega), List.take_of_length_le (by omega)] at this)
        go_wp2_with fail
        go_ret
        exact ⟨ret_bool' (by simp [HN.out]), _, rfl⟩
  · have h0 : ((ps.length : Int) != (qs.length : Int)) = true := by rw [bne_iff_ne]; omega
    have HN : Hid (¬ ps = qs) := Lib.hid (fun h => hlen (by rw [h]))
    clear hlen
    go_enter Try.func44, Try.ntmps44
    go_wp2_with fail
    go_ret
    exact ⟨ret_bool' (by simp [HN.out]), 0, rfl⟩

set_option maxHeartbeats 1000000 in
theorem rounded_any (n m : Int) (w : World) (m1 : 1 ≤ m) (m2 : m ≤ 100000000) (hn : 0 ≤ n) (hn' : n ≤ 10000000000 * m) :
    Calls Try.prog 92 #[.int .i64 n, .int .i64 m] w fun e w' => e = .returned (.int .i64 (msM m n)) ∧ ∃ q, w' = w.drewN q := by
  obtain ⟨q0, q1, r0, r1, d0, d1⟩ := ms_bd _ _ m1 hn hn'
  have HM : Hid (n / m * 1000 + (n % m * 2000 + m) / (2 * m) = msM m n) := Lib.hid (by unfold msM; rw [Int.mul_comm (n % m) 2000])
  rw [Int.mul_comm 2000 (n % m)] at d0 d1
  have m0 : (m == 0) = false := by simp; omega
  have m0' : (2 * m == 0) = false := by simp; omega
  have hm0 : ¬ m = 0 := by omega
  have tm0 : n.tdiv m = n / m := tdiv_ediv (by omega)
  have tm1 : n.tmod m = n % m := Int.tmod_eq_emod_of_nonneg (by omega)
  have tm2 : (n % m * 2000 + m).tdiv (2 * m) = (n % m * 2000 + m) / (2 * m) := tdiv_ediv (by omega)
  have wr0 : IntKind.i64.wrap (n / m) = n / m := IntWalk.i64_in _ ⟨by omega, by omega⟩
  have wr1 : IntKind.i64.wrap (n / m * 1000) = n / m * 1000 := IntWalk.i64_in _ ⟨by omega, by omega⟩
  have wr2 : IntKind.i64.wrap (n % m) = n % m := IntWalk.i64_in _ ⟨by omega, by omega⟩
  have wr3 : IntKind.i64.wrap (n % m * 2000) = n % m * 2000 := IntWalk.i64_in _ ⟨by omega, by omega⟩
  have wr4 : IntKind.i64.wrap (n % m * 2000 + m) = n % m * 2000 + m := IntWalk.i64_in _ ⟨by omega, by omega⟩
  have wr5 : IntKind.i64.wrap (2 * m) = 2 * m := IntWalk.i64_in _ ⟨by omega, by omega⟩
  have wr6 : IntKind.i64.wrap ((n % m * 2000 + m) / (2 * m)) = (n % m * 2000 + m) / (2 * m) := IntWalk.i64_in _ ⟨by omega, by omega⟩
  have wr7 : IntKind.i64.wrap (n / m * 1000 + (n % m * 2000 + m) / (2 * m)) = n / m * 1000 + (n % m * 2000 + m) / (2 * m) := IntWalk.i64_in _ ⟨by omega, by omega⟩
  go_enter Try.func92, Try.ntmps92
  go_wp2_with fail
  go_quiet (fail)
  clear wr0 wr1 wr2 wr3 wr4 wr5 wr6 wr7 tm0 tm1 tm2
  go_wp2_with fail
  go_ret
  exact ⟨ret_int' HM.out, _, rfl⟩

set_option maxHeartbeats 2000000 in
theorem playedTo_any (lo lo' c d : Nat) (A B : Option Addr) (v : List St) (l : List Mk) (n : Nat) (loads : Bool) (w : World) (hr : Row w lo 3 A v.length (trs v)) (hrm : Row w lo' 2 B l.length (prs l)) (hg : Good v) (hlm : l.length ≤ 500) (hR : Rises l) (hb : ∀ x ∈ l, 0 ≤ x.1 ∧ x.1 ≤ 1000000000000) (hn : n < l.length) :
    Calls Try.prog 93 #[.slice A v.length c, .slice B l.length d, .int .i64 n, .bool loads] w fun e w' => e = .returned (.int .i64 (pS v l loads n)) ∧ Below w.heap.size w w' := by
  have HG := Lib.hid hg
  have HR := Lib.hid hR
  have HB := Lib.hid hb
  have m1 := hg.mbd
  have m2 := hg.mul
  clear hg hR hb
  go_enter Try.func93, Try.ntmps93
  go_wp2_with fail
  go_loopw [9, 12] (fun s i wr => ∃ (k : Nat), k ≤ n ∧ i = .int .i64 k ∧ s = .int .i64 (pS v l loads k) ∧ Below w.heap.size w wr) (fun _ i _ => n - (intOf i).toNat)
  case atStart => exact ⟨0, Nat.zero_le _, rfl, rfl, Below.refl _ _⟩
  case round =>
    obtain ⟨k, hk, rfl, rfl, hbw⟩ := hrel
    by_cases hlt : k < n
    · have hk1 : k + 1 < l.length := by omega
      obtain ⟨b, off, hB, _, hbs, c0, c1⟩ := (hrm.below hbw).pr_at (show k < l.length by omega)
      obtain ⟨b', off', hB', _, hbs', d0, d1⟩ := (hrm.below hbw).pr_at hk1
      rw [hB] at hB'
      injection hB' with hB'
      injection hB' with e1 e2
      subst e1 e2 hB
      obtain ⟨x0, x1⟩ := HB.out l[k] (List.getElem_mem _)
      obtain ⟨y0, y1⟩ := HB.out l[k + 1] (List.getElem_mem _)
      obtain ⟨p0, p1⟩ := pS_bd HG.out l HR.out loads k (by omega)
      obtain ⟨f0, f1⟩ := begM_bd' HG.out l[k].1
      obtain ⟨g0, g1⟩ := begM_bd' HG.out l[k + 1].1
      have HON := Lib.hid (pS_on v l loads k hk1)
      have HOF := Lib.hid (pS_off v l k hk1)
      have hrw := hr.below hbw
      generalize l[k] = x at *
      generalize l[k + 1] = y at *
      clear d1
      by_cases hc : loads = true ∨ x.2 ≠ 3
      · have HS := Lib.hid (HON.out hc)
        clear HON HOF
        have hrd : Row wr.drew lo 3 A v.length (trs v) := hrw
        have hbd : Below w.heap.size w wr.drew := hbw.drew
        have c0d : wr.drew.cell? ⟨b, off + k * 2, none⟩ = some (.int .i64 x.1) := c0
        have d0d : wr.drew.cell? ⟨b, off + (k + 1) * 2, none⟩ = some (.int .i64 y.1) := d0
        have kd : ∀ w2, Below wr.drew.heap.size wr.drew w2 → w2.cell? ⟨b, off + k * 2, none⟩ = some (.int .i64 x.1) ∧ w2.cell? ⟨b, off + (k + 1) * 2, none⟩ = some (.int .i64 y.1) := fun w2 h2 => ⟨(World.cell?_of_block (h2.block b hbs)).trans c0d, (World.cell?_of_block (h2.block b hbs)).trans d0d⟩
        have HKD := Lib.hid kd
        clear kd
        have wk : IntKind.i64.wrap ((k : Int) + 1) = (k : Int) + 1 := IntWalk.i64_in _ ⟨by omega, by omega⟩
        have tn : ((k : Int) + 1).toNat = k + 1 := by omega
        have i0 : (0 : Int) ≤ k := by omega
        have i1 : (k : Int) < l.length := by omega
        have i2 : (0 : Int) ≤ (k : Int) + 1 := by omega
        have i3 : (k : Int) + 1 < l.length := by omega
        have wr1 : IntKind.i64.wrap (begM v y.1 - begM v x.1) = begM v y.1 - begM v x.1 := IntWalk.i64_in _ ⟨by omega, by omega⟩
        have wr2 : IntKind.i64.wrap (pS v l loads k + (begM v y.1 - begM v x.1)) = pS v l loads k + (begM v y.1 - begM v x.1) := IntWalk.i64_in _ ⟨by omega, by omega⟩
        cases loads
        · have t3 : (x.2 != 3) = true := by rcases hc with h | h; cases h; simpa using h
          clear hc
          go_wp2_with fail
          go_region_held3 (fun w' => w'.cell? ⟨b, off + k * 2, none⟩ = some (.int .i64 x.1) ∧ w'.cell? ⟨b, off + (k + 1) * 2, none⟩ = some (.int .i64 y.1)) (first | exact ⟨k51, k52⟩ | exact ⟨c0d, d0d⟩) (first | (go_at_call 82; refine (ticks_any lo c A v _ _ (by first | exact hr5 | exact hrd) HG.out (by first | exact x0 | exact y0) (by first | exact x1 | exact y1)).mono ?_; rintro e w5 ⟨rfl, hb5⟩; have hbk5 : Below wr.drew.heap.size wr.drew w5 := (by first | exact below_up hbk5 hb5 | exact hb5); obtain ⟨k51, k52⟩ := HKD.out w5 hbk5; have hr5 := hrd.below hbk5))
          all_goals
            have hbx5 : Below w.heap.size w w5 := below_up hbd hbk5
            clear wk tn wr1 wr2 i0 i1 i2 i3
            go_wp2_with fail
            go_roundw
            case rel => exact ⟨k + 1, by omega, by go_num, by rw [HS.out], hbx5⟩
            case measure => simp [intOf]; omega
        · clear hc
          go_wp2_with fail
          go_region_held3 (fun w' => w'.cell? ⟨b, off + k * 2, none⟩ = some (.int .i64 x.1) ∧ w'.cell? ⟨b, off + (k + 1) * 2, none⟩ = some (.int .i64 y.1)) (first | exact ⟨k51, k52⟩ | exact ⟨c0d, d0d⟩) (first | (go_at_call 82; refine (ticks_any lo c A v _ _ (by first | exact hr5 | exact hrd) HG.out (by first | exact x0 | exact y0) (by first | exact x1 | exact y1)).mono ?_; rintro e w5 ⟨rfl, hb5⟩; have hbk5 : Below wr.drew.heap.size wr.drew w5 := (by first | exact below_up hbk5 hb5 | exact hb5); obtain ⟨k51, k52⟩ := HKD.out w5 hbk5; have hr5 := hrd.below hbk5))
          all_goals
            have hbx5 : Below w.heap.size w w5 := below_up hbd hbk5
            clear wk tn wr1 wr2 i0 i1 i2 i3
            go_wp2_with fail
            go_roundw
            case rel => exact ⟨k + 1, by omega, by go_num, by rw [HS.out], hbx5⟩
            case measure => simp [intOf]; omega
      · have h3 : x.2 = 3 := by
          rcases Classical.em (x.2 = 3) with h | h
          · exact h
          · exact absurd (.inr h) hc
        have hl0 : loads = false := by cases loads; rfl; exact absurd (.inl rfl) hc
        subst hl0
        have HS := Lib.hid (HOF.out h3)
        have t3 : (x.2 != 3) = false := by simpa using h3
        clear HON HOF hc h3
        go_wp2_with fail
        go_roundw
        case rel => exact ⟨k + 1, by omega, by go_num, by rw [HS.out], (by repeat (first | exact hbw | refine Below.alloc ?_ (by first | omega | (simp; omega)) _ | refine below_drewN' ?_ _ | refine Below.drew ?_))⟩
        case measure => simp [intOf]; omega
    · have hkk : k = n := by omega
      subst hkk
      go_wp2_with fail
      go_ret
      exact ⟨rfl, hbw⟩

set_option maxHeartbeats 1000000 in
theorem timeOf_any (lo lo' c d : Nat) (A B : Option Addr) (v : List St) (l : List Mk) (loads : Bool) (w : World) (hr : Row w lo 3 A v.length (trs v)) (hrm : Row w lo' 2 B l.length (prs l)) (hg : Good v) (hlm : l.length ≤ 500) (hR : Rises l) (hb : ∀ x ∈ l, 0 ≤ x.1 ∧ x.1 ≤ 1000000000000) (hn : 0 < l.length) :
    Calls Try.prog 43 #[.slice A v.length c, .slice B l.length d, .bool loads] w fun e w' => e = .returned (.int .i64 (msM (multK v) (pS v l loads (l.length - 1)))) ∧ Below w.heap.size w w' := by
  obtain ⟨p0, p1⟩ := pS_bd hg l hR loads (l.length - 1) (by omega)
  have p2 := (begM_bd' hg l[l.length - 1].1).2
  have HG := Lib.hid hg
  have HR := Lib.hid hR
  have HB := Lib.hid hb
  have HL := Lib.hid hlm
  have m1 := hg.mbd
  have m2 := hg.mul
  have hv := hg.len
  have HF := Lib.hid fun s (hs : s ∈ v) => by have := hg.form s hs; exact (⟨by omega, by omega⟩ : 1 ≤ s.2.1 ∧ s.2.1 ≤ 1001000)
  have HP : Hid (0 ≤ pS v l loads (l.length - 1) ∧ pS v l loads (l.length - 1) ≤ 10000000000 * multK v) := Lib.hid ⟨p0, by omega⟩
  clear hg hR hb p0 p1 p2
  obtain ⟨n, hn'⟩ : ∃ n, l.length = n + 1 := ⟨l.length - 1, by omega⟩
  have hp := playedTo_any lo lo' c d A B v l n loads w hr hrm HG.out HL.out HR.out HB.out (by omega)
  rw [hn'] at hp HP ⊢
  rw [Nat.add_sub_cancel] at HP ⊢
  rw [hn'] at hlm
  clear hn' hn
  go_enter Try.func43, Try.ntmps43
  go_wp2_with fail
  refine hp.mono ?_
  clear hp
  rintro e w1 ⟨rfl, hb1⟩
  go_wp2_with fail
  refine (common_any _ _ _ v _ (hr.below hb1) (by omega) HF.out).mono ?_
  rintro e w2 ⟨rfl, hb2⟩
  have hx2 := below_up hb1 hb2
  go_wp2_with fail
  refine (rounded_any _ _ _ m1 m2 HP.out.1 HP.out.2).mono ?_
  rintro e w3 ⟨rfl, q, rfl⟩
  go_wp2_with fail
  go_ret
  exact ⟨rfl, (by repeat (first | exact hx2 | refine Below.alloc ?_ (by first | omega | (simp; omega)) _ | refine below_drewN' ?_ _ | refine Below.drew ?_))⟩

set_option maxHeartbeats 2000000 in
theorem splitsBy_any (lo lo' c d : Nat) (A B : Option Addr) (v : List St) (l : List Mk) (w : World) (hr : Row w lo 3 A v.length (trs v)) (hrm : Row w lo' 2 B l.length (prs l)) (hg : Good v) (hlm : l.length ≤ 500) (hR : Rises l) (hb : ∀ x ∈ l, 0 ≤ x.1 ∧ x.1 ≤ 1000000000000) :
    Calls Try.prog 45 #[.slice A v.length c, .slice B l.length d] w fun e w' => ∃ A' c', e = .returned (.slice A' (spl v l l.length).length c') ∧ w'.ownsRow w.heap.size 3 1 (.slice A' (spl v l l.length).length c') (spl v l l.length).length (ints (spl v l l.length)) ∧ Below w.heap.size w w' := by
  have HG := Lib.hid hg
  have HR := Lib.hid hR
  have HB := Lib.hid hb
  have m1 := hg.mbd
  have m2 := hg.mul
  have hv := hg.len
  have HF := Lib.hid fun s (hs : s ∈ v) => by have := hg.form s hs; exact (⟨by omega, by omega⟩ : 1 ≤ s.2.1 ∧ s.2.1 ≤ 1001000)
  clear hg hR hb
  go_enter Try.func45, Try.ntmps45
  go_wp2_with fail
  go_loopw [5, 10] (fun o i wr => ∃ (k : Nat) (A' : Option Addr) (c' : Nat), k ≤ l.length ∧ i = .int .i64 k ∧ o = .slice A' (spl v l k).length c' ∧ wr.ownsRow w.heap.size 3 1 (.slice A' (spl v l k).length c') (spl v l k).length (ints (spl v l k)) ∧ Below w.heap.size w wr) (fun _ i _ => l.length - (intOf i).toNat)
  case atStart => exact ⟨0, none, 0, Nat.zero_le _, rfl, rfl, World.ownsRow_nil _ _ _ _, Below.refl _ _⟩
  case round =>
    obtain ⟨k, A', c', hk, rfl, rfl, hown, hbw⟩ := hrel
    have zw := hbw.size
    by_cases hlt : k < l.length
    · obtain ⟨b, off, hB, _, hbs, c0, c1⟩ := (hrm.below hbw).pr_at hlt
      have hls := spl_len v l k hk
      have HO := Lib.hid (spl_out v l k hlt)
      have HNO := Lib.hid (spl_not v l k hlt)
      have HP : Hid (0 ≤ pS v l false k ∧ pS v l false k ≤ 10000000000 * multK v) := Lib.hid (by
        have := pS_bd HG.out l HR.out false k hlt
        have := (begM_bd' HG.out l[k].1).2
        omega)
      have hrv := (hr.below hbw).alloc (.cells #[.int .i64 l[k].1, .int .i64 l[k].2] 76)
      have hrmw := (hrm.below hbw).alloc (.cells #[.int .i64 l[k].1, .int .i64 l[k].2] 76)
      subst hB
      have hka : Hid (k < l.length) := Lib.hid hlt
      generalize l[k] = x at *
      generalize hxs : spl v l k = xs at *
      by_cases h : x.2 = 5 ∨ x.2 = 2
      · have HE := Lib.hid (HO.out h)
        clear HO HNO hxs
        have hown1 := own_keep hown ((Below.refl _ _).alloc (Nat.le_refl _) (.cells #[.int .i64 x.1, .int .i64 x.2] 76))
        have hbw1 : Below w.heap.size w (wr.alloc (.cells #[.int .i64 x.1, .int .i64 x.2] 76)) := (by repeat (first | exact hbw | refine Below.alloc ?_ (by first | omega | (simp; omega)) _ | refine below_drewN' ?_ _ | refine Below.drew ?_))
        have key : ∀ t5 t2 : Bool, (x.2 == 5) = t5 → (x.2 == 2) = t2 → (t5 || t2) = true := by
          rintro _ _ rfl rfl; simpa using h
        by_cases h5 : x.2 = 5
        · have t5 : (x.2 == 5) = true := by simpa using h5
          clear h h5 key
          go_wp2_with fail
          refine (playedTo_any lo lo' _ _ _ _ v l k false _ hrv hrmw HG.out hlm HR.out HB.out hka.out).mono ?_
          rintro e w1 ⟨rfl, hb1⟩
          have hbw2 := below_up hbw1 hb1
          have hown2 := own_keep hown1 hb1
          go_wp2_with fail
          refine (common_any _ _ _ v _ (hrv.below hb1) (by omega) HF.out).mono ?_
          rintro e w2 ⟨rfl, hb2⟩
          have hbw3 := below_up hbw2 hb2
          have hown3 := own_keep hown2 hb2
          go_wp2_with fail
          refine (rounded_any _ _ _ m1 m2 HP.out.1 HP.out.2).mono ?_
          rintro e w3 ⟨rfl, q, rfl⟩
          have z3 := hbw3.size
          clear hb1 hb2 hown1 hown2 hbw1 hbw2
          generalize hMS : msM (multK v) (pS v l false k) = ms at *
          go_wp2_with (at_builtin; go_must (refine wpList_app (lo := w.heap.size) (base := w.heap.size) (n := xs.length) (xs := ints xs) _ _ rfl _ _ ty_ints rfl (by repeat (first | exact hown3 | refine World.ownsRow.alloc ?_ _ | refine own_drewN ?_ _ | refine World.ownsRow.drew ?_)) rfl (by first | exact row_new' _ (by first | rfl | simp) (by first | omega | (simp; omega)) rfl | exact row_newN _ _ (by first | rfl | simp) (by first | omega | (simp; omega)) rfl | exact row_newD _ (by first | rfl | simp) (by first | omega | (simp; omega)) rfl) rfl rfl (by first | omega | decide) (by first | omega | decide) (by first | omega | (simp; omega)) ?_))
          intro A5 c5 w5 hown5 hg5 _
          go_wp2_with fail
          go_roundw
          case rel => exact ⟨k + 1, A5, c5, by omega, by go_num, by rw [HE.out]; simp, by rw [HE.out]; simpa [ints] using hown5, below_app hown3 (by repeat (first | exact hbw3 | refine Below.alloc ?_ (by first | omega | (simp; omega)) _ | refine below_drewN' ?_ _ | refine Below.drew ?_)) hg5 (Nat.le_refl _) (by simp; omega)⟩
          case measure => simp [intOf]; omega
        · have t5 : (x.2 == 5) = false := by simpa using h5
          have t2 : (x.2 == 2) = true := by simp; omega
          clear h h5 key
          go_wp2_with fail
          refine (playedTo_any lo lo' _ _ _ _ v l k false _ hrv hrmw HG.out hlm HR.out HB.out hka.out).mono ?_
          rintro e w1 ⟨rfl, hb1⟩
          have hbw2 := below_up hbw1 hb1
          have hown2 := own_keep hown1 hb1
          go_wp2_with fail
          refine (common_any _ _ _ v _ (hrv.below hb1) (by omega) HF.out).mono ?_
          rintro e w2 ⟨rfl, hb2⟩
          have hbw3 := below_up hbw2 hb2
          have hown3 := own_keep hown2 hb2
          go_wp2_with fail
          refine (rounded_any _ _ _ m1 m2 HP.out.1 HP.out.2).mono ?_
          rintro e w3 ⟨rfl, q, rfl⟩
          have z3 := hbw3.size
          clear hb1 hb2 hown1 hown2 hbw1 hbw2
          generalize hMS : msM (multK v) (pS v l false k) = ms at *
          go_wp2_with (at_builtin; go_must (refine wpList_app (lo := w.heap.size) (base := w.heap.size) (n := xs.length) (xs := ints xs) _ _ rfl _ _ ty_ints rfl (by repeat (first | exact hown3 | refine World.ownsRow.alloc ?_ _ | refine own_drewN ?_ _ | refine World.ownsRow.drew ?_)) rfl (by first | exact row_new' _ (by first | rfl | simp) (by first | omega | (simp; omega)) rfl | exact row_newN _ _ (by first | rfl | simp) (by first | omega | (simp; omega)) rfl | exact row_newD _ (by first | rfl | simp) (by first | omega | (simp; omega)) rfl) rfl rfl (by first | omega | decide) (by first | omega | decide) (by first | omega | (simp; omega)) ?_))
          intro A5 c5 w5 hown5 hg5 _
          go_wp2_with fail
          go_roundw
          case rel => exact ⟨k + 1, A5, c5, by omega, by go_num, by rw [HE.out]; simp, by rw [HE.out]; simpa [ints] using hown5, below_app hown3 (by repeat (first | exact hbw3 | refine Below.alloc ?_ (by first | omega | (simp; omega)) _ | refine below_drewN' ?_ _ | refine Below.drew ?_)) hg5 (Nat.le_refl _) (by simp; omega)⟩
          case measure => simp [intOf]; omega
      · have HE := Lib.hid (HNO.out h)
        have t5 : (x.2 == 5) = false := by simp; omega
        have t2 : (x.2 == 2) = false := by simp; omega
        clear HO HNO hxs h
        go_wp2_with fail
        go_roundw
        case rel => exact ⟨k + 1, A', c', by omega, by go_num, by rw [HE.out], by rw [HE.out]; exact (by repeat (first | exact hown | refine World.ownsRow.alloc ?_ _ | refine own_drewN ?_ _ | refine World.ownsRow.drew ?_)), (by repeat (first | exact hbw | refine Below.alloc ?_ (by first | omega | (simp; omega)) _ | refine below_drewN' ?_ _ | refine Below.drew ?_))⟩
        case measure => simp [intOf]; omega
    · have hkk : k = l.length := by omega
      subst hkk
      go_wp2_with fail
      go_ret
      exact ⟨A', c', rfl, hown, hbw⟩
end Go.Proofs.Ytgkjpcapoofphaa
