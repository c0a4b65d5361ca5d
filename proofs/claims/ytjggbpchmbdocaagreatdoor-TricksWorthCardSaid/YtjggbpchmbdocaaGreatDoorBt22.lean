/- Texts of this seat, laid together: Hk. -/
import Derived.Lib.Bytealg
import Derived.Shelf.Strings.SlTrimAscii
import Derived.Test.YtjggbpchmbdocaaGreatDoorBt21
import Derived.Test.YtjggbpchmbdocaaGreatDoorBt20
import Derived.Test.YtjggbpchmbdocaaGreatDoorBt03
/- What is a key, by strings.Trim and strings.IndexByte: the walk of splitref1.Key. -/
namespace Go.Proofs.YtjggbpchmbdocaaGreatDoor
set_option linter.unusedVariables false
set_option linter.unusedSimpArgs false
open Go.RowKit Go.Sort

def smallL : List UInt8:=[97,98,99,100,101,102,103,104,105,106,107,108,109,110,111,112,113,114,115,116,117,118,119,120,121,122]
def keyChars : List UInt8:=smallL ++ [48,49,50,51,52,53,54,55,56,57,45,95]
set_option maxRecDepth 100000 in
theorem keyChars_all (c : UInt8) : keyChars.contains c = keyC c:=by
 have h : ∀ n : Fin 256,keyChars.contains (UInt8.ofNat n.val) = keyC (UInt8.ofNat n.val):=by decide
 have:=h ⟨c.toNat,c.toNat_lt⟩
 simpa using this
set_option maxRecDepth 100000 in
theorem small_all (c : UInt8) : decide (0 ≤ Lib.indexByte smallL c) = (decide (97 ≤ c.toNat) && decide (c.toNat ≤ 122)):=by
 have h : ∀ n : Fin 256,decide (0 ≤ Lib.indexByte smallL (UInt8.ofNat n.val)) = (decide (97 ≤ (UInt8.ofNat n.val).toNat) && decide ((UInt8.ofNat n.val).toNat ≤ 122)):=by decide
 have:=h ⟨c.toNat,c.toNat_lt⟩
 simpa using this
theorem mem_dropWhile {p : UInt8 → Bool} {x : UInt8} : ∀ {l : List UInt8},x ∈ l → p x = false → x ∈ l.dropWhile p
 | [],h,_ => by cases h
 | a :: l,h,hp => by
  rw [List.dropWhile_cons]
  split
  ·rename_i ha
   rcases List.mem_cons.1 h with rfl | h
   ·rw [hp] at ha; cases ha
   ·exact mem_dropWhile h hp
  ·exact h
theorem dropWhile_nil {p : UInt8 → Bool} : ∀ {l : List UInt8},(∀ x ∈ l,p x = true) → l.dropWhile p = []
 | [],_ => rfl
 | a :: l,h => by
  rw [List.dropWhile_cons,if_pos (h a (by simp))];exact dropWhile_nil (fun x hx => h x (by simp [hx]))
theorem trimS_empty (l cs : List UInt8) : (Lib.trimS l cs).isEmpty = l.all (cs.contains ·):=by
 by_cases h : ∀ x ∈ l,cs.contains x = true
 ·have e1 : Lib.trimRightS l cs = []:=by
   unfold Lib.trimRightS;rw [dropWhile_nil (fun x hx => h x (by simpa using hx))]; rfl
  have e2 : Lib.trimS l cs = []:=by unfold Lib.trimS; rw [e1]; rfl
  rw [e2,List.all_eq_true.2 h]; rfl
 ·have h2 : l.all (cs.contains ·) = false:=by
   cases hq : l.all (cs.contains ·)
   ·rfl
   ·exact absurd (fun x hx => List.all_eq_true.1 hq x hx) h
  obtain ⟨x,hx,hp⟩ : ∃ x ∈ l,cs.contains x = false:=by
   rw [List.all_eq_false] at h2;obtain ⟨x,hx,hp⟩:=h2;exact ⟨x,hx,by simpa using hp⟩
  have e1 : x ∈ Lib.trimRightS l cs:=by
   unfold Lib.trimRightS;rw [List.mem_reverse];exact mem_dropWhile (by simpa using hx) hp
  have e2 : x ∈ Lib.trimS l cs:=mem_dropWhile e1 hp;rw [h2]
  cases hq : Lib.trimS l cs with
  | nil => rw [hq] at e2; cases e2
  | cons a r => rfl
theorem trimKey_any (s : List UInt8) (w : World) (hs : s.length ≤ 9223372036854775807) :
  Calls Tryz.prog 165 #[encStr s,.string ⟨#[97,98,99,100,101,102,103,104,105,106,107,108,109,110,111,112,113,114,115,116,117,118,119,120,121,122,48,49,50,51,52,53,54,55,56,57,45,95]⟩] w fun e w' => e = .returned (encStr (Lib.trimS s keyChars)) ∧ Below w.heap.size w w':=by
 refine (Any.strings_Trim_laid Tryz.lays160 (by kernel_rfl) ⟨s.toArray⟩ ⟨#[97,98,99,100,101,102,103,104,105,106,107,108,109,110,111,112,113,114,115,116,117,118,119,120,121,122,48,49,50,51,52,53,54,55,56,57,45,95]⟩ w hs (by decide) (ascii_of_all (by decide))).mono ?_;rintro e w' ⟨rfl,hb⟩;exact ⟨rfl,hb⟩
theorem keyB_parts (z : List UInt8) (h1 : 1 ≤ z.length) (h2 : z.length ≤ 40) : keyB z = ((Lib.trimS z keyChars).isEmpty && decide (0 ≤ Lib.indexByte smallL (z.headD 0))):=by
 have e : (fun c => keyChars.contains c) = keyC:=funext keyChars_all;rw [trimS_empty,small_all,e];unfold keyB;rw [decide_eq_true (show 0 < z.length by omega),decide_eq_true h2];simp only [Bool.true_and];rw [Bool.and_comm]
theorem keyB_long {z : List UInt8} (h : ¬ (1 ≤ z.length ∧ z.length ≤ 40)) : keyB z = false:=by
 unfold keyB
 by_cases h0 : 0 < z.length
 ·rw [decide_eq_false (p:=z.length ≤ 40) (by omega)]; simp
 ·rw [decide_eq_false h0]; simp
set_option maxHeartbeats 1000000 in
theorem rkey_any (z : List UInt8) (w : World) (hz : z.length ≤ 1000000000) :
  Calls Tryz.prog 136 #[encStr z] w fun e w' => e = .returned (.bool (keyB z)) ∧ Below w.heap.size w w':=by
 have ez : (⟨z.toArray⟩ : ByteArray).size = z.length:=by simp [ByteArray.size]
 by_cases h : 1 ≤ z.length ∧ z.length ≤ 40
 ·have HP:=Lib.hid (keyB_parts z h.1 h.2)
  have dd : (decide ((1 : Int) ≤ (z.length : Int)) && decide ((z.length : Int) ≤ 40)) = true:=by simp; omega
  have h0 : 0 < z.length:=h.1
  have hd : z.headD 0 = z[0]:=by rw [List.headD_eq_head?_getD,List.head?_eq_getElem?,List.getElem?_eq_getElem h0]; rfl
  rw [hd] at HP;clear h hd
  go_enter Tryz.func136,Tryz.ntmps136
  go_wp2_with fail;refine (rin_any _ _ _ _).mono ?_;rintro e w1 ⟨rfl,rfl⟩;rw [dd];clear dd;go_wp2_with fail;refine (trimKey_any z _ (by omega)).mono ?_;rintro e w1 ⟨rfl,hb1⟩;generalize Lib.trimS z keyChars = t at *
  cases t with
  | nil =>
   go_wp2_with fail;refine (Tryz.strings_IndexByte ⟨#[97,98,99,100,101,102,103,104,105,106,107,108,109,110,111,112,113,114,115,116,117,118,119,120,121,122]⟩ (z[0].toNat : Int) _).mono ?_;rintro e w2 ⟨rfl,rfl⟩;have HI : Hid (decide (0 ≤ Lib.indexByte smallL z[0]) = keyB z):=Lib.hid (by rw [HP.out]; simp)
   have e9 : ((z[0].toNat : Int).toNat.toUInt8) = z[0]:=by simp
   rw [e9];have e8 : (⟨#[97,98,99,100,101,102,103,104,105,106,107,108,109,110,111,112,113,114,115,116,117,118,119,120,121,122]⟩ : ByteArray).data.toList = smallL:=rfl;rw [e8];generalize Lib.indexByte smallL z[0] = r at *;go_wp2_with fail;go_ret;exact ⟨ret_bool' (by rw [← HI.out]; rfl),hb1⟩
  | cons x t =>
   have HI : Hid (keyB z = false):=Lib.hid (by rw [HP.out]; rfl);go_wp2_with fail;go_ret;exact ⟨ret_bool' HI.out.symm,hb1⟩
 ·have HP:=Lib.hid (keyB_long h)
  have dd : (decide ((1 : Int) ≤ (z.length : Int)) && decide ((z.length : Int) ≤ 40)) = false:=by simp; omega
  clear h
  go_enter Tryz.func136,Tryz.ntmps136
  go_wp2_with fail;refine (rin_any _ _ _ _).mono ?_;rintro e w1 ⟨rfl,rfl⟩;rw [dd];clear dd;go_wp2_with fail;go_ret;exact ⟨ret_bool' (by rw [HP.out]),Below.refl _ _⟩
end Go.Proofs.YtjggbpchmbdocaaGreatDoor
