/- Texts of this seat, laid together: Chb. -/
import Derived.Test.YtdidcjhgdofgcaaGreatDoorBc44
import Derived.Test.YtdidcjhgdofgcaaGreatDoorBc45
/- What the laws on chains find: plain mathematics. -/
namespace Go.Proofs.YtdidcjhgdofgcaaGreatDoor
set_option linter.unusedVariables false
set_option linter.unusedSimpArgs false

theorem cut_first {ps : List (Int × Int)} {t : Nat} (h0 : inFault ps = 0) (ht : t ≤ 200000) : cutE ps 0 t = 0 ∧ cutR ps 0 t = foldM ((unf ps).take t) := by
  have c1 : cutOk 0 t = true := by rw [cutOk_iff]; omega
  refine ⟨by simp [cutE, h0, c1], ?_⟩
  rw [cutR_ok h0 c1]; simp [cutL]
theorem cut_last {ps : List (Int × Int)} {t : Nat} (h0 : inFault ps = 0) (ht : t ≤ (unf ps).length) : cutE ps t (unf ps).length = 0 ∧ cutR ps t (unf ps).length = foldM ((unf ps).drop t) := by
  have := unf_200 h0
  have c1 : cutOk t (unf ps).length = true := by rw [cutOk_iff]; omega
  refine ⟨by simp [cutE, h0, c1], ?_⟩
  rw [cutR_ok h0 c1]; simp [cutL]
theorem splice_fold {xs ys : List Int} {qs : List (Int × Int)} (hx : ∀ x ∈ xs, 0 ≤ x ∧ x ≤ 63) (hy : ∀ y ∈ ys, 0 ≤ y ∧ y ≤ 63) (hl : xs.length + ys.length ≤ 5000) (hq : inFault qs = 0) (hu : unf qs = ys) :
    spcE (foldM xs) qs xs.length = 0 ∧ spR (foldM xs) qs xs.length = foldM (xs ++ ys) := by
  have fa : inFault (foldM xs) = 0 := foldM_ok _ hx (by omega)
  have two : firstE [inFault (foldM xs), inFault qs] = 0 := by rw [fa, hq]; rfl
  have sp : spanFault xs.length 0 200000 = 0 := span_ok (by omega)
  have e1 : spliced (unf (foldM xs)) (unf qs) xs.length = xs ++ ys := by
    rw [unf_foldM, hu, spliced, firsts_eq, Nat.sub_self]
    simp
  have l3 := foldM_len (xs ++ ys)
  have s0 : sqE (unf (foldM xs)) (unf qs) xs.length = 0 := by
    refine sqE_ok ?_ ?_
    · rw [hu]; omega
    · rw [e1]; simp at l3 ⊢; omega
  exact ⟨by rw [spcE_ok two sp]; simpa using s0, by rw [spR_ok two sp, Int.toNat_natCast, sqR_ok s0, e1]⟩
/-- What TopChainsProve finds. -/
structure TopC (ps : List (Int × Int)) (st : List UInt8) (k : Nat) : Prop where
  e : cutE ps 0 ((k : Int) * 60) = 0
  f0 : inFault (cutR ps 0 ((k : Int) * 60)) = 0
  l : (cutR ps 0 ((k : Int) * 60)).length ≤ 5000
  c : chainA (unf (cutR ps 0 ((k : Int) * 60))) st = (chainA (unf ps) st).take k
theorem topC {ps : List (Int × Int)} {st : List UInt8} {k : Nat} (h : ∀ p ∈ ps, 0 ≤ p.1 ∧ p.1 ≤ 63 ∧ 1 ≤ p.2 ∧ p.2 ≤ 20) (hl : ps.length ≤ 8) (hk : k ≤ (chainA (unf ps) st).length) : TopC ps st k := by
  obtain ⟨f0, f1, f2⟩ := pieces_ok ps h hl
  rw [chainA_len] at hk
  have hk2 : k ≤ 3 := by unfold nBlk at hk; omega
  have e60 : (k : Int) * 60 = ((60 * k : Nat) : Int) := by omega
  obtain ⟨c1, c2⟩ := cut_first (t := 60 * k) f0 (by omega)
  have hm : ∀ x ∈ (unf ps).take (60 * k), 0 ≤ x ∧ x ≤ 63 := fun x hx => f2 x (List.mem_of_mem_take hx)
  have hlen : ((unf ps).take (60 * k)).length ≤ 160 := by rw [List.length_take]; omega
  have fl := foldM_len ((unf ps).take (60 * k))

  refine ⟨by rw [e60]; exact c1, by rw [e60, c2]; exact foldM_ok _ hm (by omega), by rw [e60, c2]; omega, ?_⟩
  rw [e60, c2, unf_foldM, chainA_take hk]
theorem top_miss {a : List Sm} {k : Nat} (hk : k ≤ a.length) (ha : ∀ s ∈ a, isSum s = true) (hl : a.length ≤ 4000) :
    msF a (a.take k) = 0 ∧ msC a (a.take k) = true ∧ msR a (a.take k) = if k < a.length then [((k : Int), (a.length : Int))] else [] := by
  have h0 : msF a (a.take k) = 0 := by
    unfold msF
    rw [if_neg (by rw [List.length_take]; omega), sF_chain ha, if_pos rfl, sF_chain (fun s hs => ha s (List.mem_of_mem_take hs))]
  obtain ⟨h1, h2⟩ := msR_ok h0
  obtain ⟨h3, h4⟩ := miss_take hk
  exact ⟨h0, by rw [h2, h3], by rw [h1, h4]⟩
theorem flip_held : ∀ h : Fin 64, ∃ v : Fin 64, bits BinOp.xor IntKind.i64 (h.val : Int) 32 = (v.val : Int) ∧ v ≠ h := by decide +kernel
/-- What ChainsBreak finds at a frame. -/
structure Brk (ps : List (Int × Int)) (st : List UInt8) (j : Nat) (v : Int) : Prop where
  x : bits BinOp.xor IntKind.i64 (heldR ps j) 32 = v
  e0 : heldE ps j = 0
  b0 : 0 ≤ heldR ps j
  b1 : heldR ps j ≤ 63
  v0 : 0 ≤ v
  v1 : v ≤ 63
  c1 : cutE ps 0 j = 0
  c2 : cutE ps ((j : Int) + 1) (unf ps).length = 0
  l1 : (cutR ps 0 j).length ≤ 5000
  l2 : (cutR ps ((j : Int) + 1) (unf ps).length).length ≤ 5000
  s1 : spcE (cutR ps 0 j) [(v, 1)] j = 0
  l3 : (spR (cutR ps 0 j) [(v, 1)] j).length ≤ 5000
  s2 : spcE (spR (cutR ps 0 j) [(v, 1)] j) (cutR ps ((j : Int) + 1) (unf ps).length) ((j : Int) + 1) = 0
  l4 : (spR (spR (cutR ps 0 j) [(v, 1)] j) (cutR ps ((j : Int) + 1) (unf ps).length) ((j : Int) + 1)).length ≤ 5000
  f4 : inFault (spR (spR (cutR ps 0 j) [(v, 1)] j) (cutR ps ((j : Int) + 1) (unf ps).length) ((j : Int) + 1)) = 0
  r : verN (chainA (unf (spR (spR (cutR ps 0 j) [(v, 1)] j) (cutR ps ((j : Int) + 1) (unf ps).length) ((j : Int) + 1))) st) (chainA (unf ps) st) 0 = ((j / 60 : Nat) : Int)
theorem brk {ps : List (Int × Int)} (st : List UInt8) {j : Nat} (h : ∀ p ∈ ps, 0 ≤ p.1 ∧ p.1 ≤ 63 ∧ 1 ≤ p.2 ∧ p.2 ≤ 20) (hl : ps.length ≤ 8) (hj : j < (unf ps).length) : ∃ v, Brk ps st j v := by
  obtain ⟨f0, f1, f2⟩ := pieces_ok ps h hl
  have hsp : spanFault (j : Int) 0 200000 = 0 := span_ok (by omega)
  have hh : heldR ps j = (unf ps)[j] := by
    rw [heldR_ok f0 hsp]
    unfold heldL
    rw [if_neg (by omega), Int.toNat_natCast, List.getD_eq_getElem?_getD, List.getElem?_eq_getElem hj]; rfl
  have hb := f2 _ (List.getElem_mem hj)
  obtain ⟨v, hv, hne⟩ := flip_held ⟨((unf ps)[j]).toNat, by omega⟩
  have e1 : (((unf ps)[j]).toNat : Int) = (unf ps)[j] := Int.toNat_of_nonneg hb.1
  have hv' : bits BinOp.xor IntKind.i64 (unf ps)[j] 32 = (v.val : Int) := by rw [← hv]; show _ = bits BinOp.xor IntKind.i64 ((((unf ps)[j]).toNat : Nat) : Int) 32; rw [e1]
  have hvn : ((v.val : Nat) : Int) ≠ (unf ps)[j] := fun e => hne (Fin.ext (by show v.val = ((unf ps)[j]).toNat; omega))
  have vlt := v.isLt
  generalize hvv : ((v.val : Nat) : Int) = vv at *
  have hv0 : 0 ≤ vv ∧ vv ≤ 63 := by omega
  clear hvv hv hne
  obtain ⟨c1, c2⟩ := cut_first (t := j) f0 (by omega)
  obtain ⟨d1, d2⟩ := cut_last (t := j + 1) f0 (by omega)
  rw [show ((j + 1 : Nat) : Int) = (j : Int) + 1 by omega] at d1 d2
  have tl : ((unf ps).take j).length = j := by rw [List.length_take]; omega
  have m1 : ∀ x ∈ (unf ps).take j, 0 ≤ x ∧ x ≤ 63 := fun x hx => f2 x (List.mem_of_mem_take hx)
  have m2 : ∀ x ∈ (unf ps).drop (j + 1), 0 ≤ x ∧ x ≤ 63 := fun x hx => f2 x (List.mem_of_mem_drop hx)
  have mv : ∀ x ∈ [vv], 0 ≤ x ∧ x ≤ 63 := fun x hx => by rw [List.mem_singleton.1 hx]; exact hv0
  have u1 : unf [(vv, 1)] = [vv] := rfl
  have q1 : inFault [(vv, 1)] = 0 := by
    have e : [(vv, (1 : Int))] = foldM [vv] := by simp [foldM, fadd]
    rw [e]; exact foldM_ok _ mv (by simp)
  obtain ⟨s1, s2⟩ := splice_fold m1 mv (by rw [tl]; simp; omega) q1 u1
  rw [tl] at s1 s2
  have m3 : ∀ x ∈ (unf ps).take j ++ [vv], 0 ≤ x ∧ x ≤ 63 := fun x hx => by
    rcases List.mem_append.1 hx with hx | hx
    · exact m1 x hx
    · exact mv x hx
  have tl3 : ((unf ps).take j ++ [vv]).length = j + 1 := by rw [List.length_append, tl]; rfl
  obtain ⟨t1, t2⟩ := splice_fold (qs := foldM ((unf ps).drop (j + 1))) m3 m2 (by rw [tl3, List.length_drop]; omega) (foldM_ok _ m2 (by rw [List.length_drop]; omega)) (unf_foldM _)
  rw [tl3, show ((j + 1 : Nat) : Int) = (j : Int) + 1 by omega] at t1 t2
  have es : (unf ps).take j ++ [vv] ++ (unf ps).drop (j + 1) = (unf ps).set j vv := by
    rw [set_split hj]; simp
  rw [es] at t2
  have g1 := foldM_len ((unf ps).take j)
  have g2 := foldM_len ((unf ps).drop (j + 1))
  have g3 := foldM_len ((unf ps).take j ++ [vv])
  have g4 := foldM_len ((unf ps).set j vv)
  rw [tl] at g1
  rw [tl3] at g3
  rw [List.length_drop] at g2
  rw [List.length_set] at g4
  have m4 : ∀ x ∈ (unf ps).set j vv, 0 ≤ x ∧ x ≤ 63 := fun x hx => by
    rw [← es] at hx
    rcases List.mem_append.1 hx with hx | hx
    · exact m3 x hx
    · exact m2 x hx
  refine ⟨vv, ⟨by rw [hh]; exact hv', by simp [heldE, f0, hsp], by rw [hh]; exact hb.1, by rw [hh]; exact hb.2, hv0.1, hv0.2, c1, d1, by rw [c2]; omega, by rw [d2]; omega, by rw [c2]; exact s1, by rw [c2, s2]; omega, by rw [c2, s2, d2]; exact t1, by rw [c2, s2, d2, t2]; omega, by rw [c2, s2, d2, t2]; exact foldM_ok _ m4 (by rw [List.length_set]; omega), ?_⟩⟩
  rw [c2, s2, d2, t2, unf_foldM]
  exact chain_breaks hj (fun x hx => by have := f2 x hx; omega) hv0.1 (by omega) hvn
end Go.Proofs.YtdidcjhgdofgcaaGreatDoor
