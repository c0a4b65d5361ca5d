/- Texts of this seat, laid together: MqT. -/
import Derived.Test.YtgeaeockmadhcaaGreatDoorBp36
import Derived.Test.YtgeaeockmadhcaaGreatDoorBp37
import Derived.Test.YtgeaeockmadhcaaGreatDoorBp38
import Derived.Test.YtgeaeockmadhcaaGreatDoorBp34
/- The walks of once, things, tricks, ThingsOf and TricksOf. -/
namespace Go.Proofs.YtgeaeockmadhcaaGreatDoor
set_option linter.unusedVariables false
set_option linter.unusedSimpArgs false
open Go.RowKit

theorem onceT_eq (l : List (List UInt8)) : onceT l = Lib.compact (sortT l):=rfl
theorem onceT_le (l : List (List UInt8)) : (onceT l).length ≤ l.length:=by rw [onceT_eq]; exact Nat.le_trans (compact_le _) (by rw [sortT_len]; exact Nat.le_refl _)
set_option maxHeartbeats 1000000 in
theorem onceR_any (A : Option Addr) (c lo : Nat) (l : List (List UInt8)) (w : World) (hr : Row w lo 1 A l.length (strs l)) (hl : l.length ≤ 1000000000) :
  Calls Tryz.prog 62 #[.slice A l.length c] w fun e w' => ∃ A' c',e = .returned (.slice A' (onceT l).length c') ∧ w'.ownsRow w.heap.size 9 1 (.slice A' (onceT l).length c') (onceT l).length (strs (onceT l)) ∧ Below w.heap.size w w':=by
 have HS:=Lib.hid (sortT_len l)
 have HO:=Lib.hid (onceT_eq l)
 go_enter Tryz.func62,Tryz.ntmps62
 go_wp2_with fail
 refine (cloneS_any A c lo l _ hr hl).mono ?_
 rintro e w1 ⟨A1,c1,rfl,ho1,hb1⟩
 have hz1:=hb1.size
 go_wp2_with fail
 refine (sortT_any A1 c1 w.heap.size l _ ho1 hl).mono ?_
 rintro e w2 ⟨rfl,ho2,hg2⟩
 have hb2 : Below w.heap.size w w2:=hb1.grown hg2 hz1 (fun k hk => (ho1.lt k hk).1)
 have hz2:=hb2.size
 go_wp2_with fail
 have ho2' : w2.ownsRow w.heap.size 9 1 (.slice A1 (sortT l).length c1) (sortT l).length (strs (sortT l)):=by rw [HS.out]; exact ho2
 have hcm:=compactT_any A1 c1 w.heap.size (sortT l) _ ho2' (by rw [HS.out]; exact hl)
 rw [HS.out,← HO.out] at hcm
 refine hcm.mono ?_
 rintro e w3 ⟨rfl,ho3,hg3⟩
 have hb3 : Below w.heap.size w w3:=hb2.grown hg3 hz2 (fun k hk => (ho2.lt k hk).1)
 have HO3:=Lib.hid ho3
 clear ho1 ho2 ho2' ho3 hg2 hg3 hb1 hb2
 go_wp2_with fail
 go_ret
 exact ⟨A1,c1,rfl,HO3.out,hb3⟩
end Go.Proofs.YtgeaeockmadhcaaGreatDoor
