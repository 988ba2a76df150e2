/- Part 10 of the lemmas behind the claim. -/
import Derived.Test.YtacpdfjcepkgcaaGreatDoorZA01
import Derived.Test.YtacpdfjcepkgcaaGreatDoorZA08
import Derived.Test.YtacpdfjcepkgcaaGreatDoorZA09
set_option linter.unusedSimpArgs false
set_option linter.unusedVariables false
set_option linter.constructorNameAsVariable false
set_option linter.unusedSectionVars false
set_option linter.defProp false
set_option maxRecDepth 100000
set_option maxHeartbeats 40000000
namespace Go.Proofs.YtacpdfjcepkgcaaGreatDoor
open Go.CE Go.GV
noncomputable def gty_6:T (Option TI):=(.n (.n (.n (.n (.n .e (some Ap) .e) (some Ap) .e) (some ti62) (.n (.n .e (some ti5) .e) (some Ap) .e)) (some ti31) (.n (.n (.n .e (some Ap) .e) none .e) (some Ap) (.n .e (some Ap) .e))) (some Ds) (.n (.n (.n (.n .e (some Ap) .e) (some Ap) .e) (some Ap) (.n .e (some Ap) .e)) (some ti47) (.n (.n (.n .e (some Ap) .e) (some Ap) .e) (some Ap) (.n .e (some Ap) .e))))
noncomputable def gty_7:T (Option TI):=(.n gty_6 (some ti7) (.n (.n (.n (.n (.n .e (some Ap) .e) (some Ap) .e) (some Ap) (.n .e (some Ds) .e)) (some ti38) (.n (.n (.n .e (some Ap) .e) (some ti2) .e) (some Ap) (.n .e (some W3) .e))) (some ti22) (.n (.n (.n (.n .e (some ti2) .e) (some Ap) .e) none (.n .e (some Ds) .e)) none (.n (.n (.n .e (some Wy) .e) (some Ap) .e) (some Ap) (.n .e (some Ap) .e)))))
noncomputable def gty_8:T (Option TI):=(.n (.n (.n (.n (.n .e (some Ap) .e) (some Xb) .e) (some Qm) (.n (.n .e (some Ww) .e) (some Ap) .e)) (some Ap) (.n (.n (.n .e (some Ds) .e) (some W7) .e) (some ti99) (.n .e (some Ap) .e))) (some ti18) (.n (.n (.n (.n .e (some Wz) .e) (some Ap) .e) (some R7) (.n .e (some Ap) .e)) (some Ap) (.n (.n (.n .e (some Ap) .e) (some Ap) .e) none (.n .e (some Ap) .e))))
noncomputable def gty_9:T (Option TI):=(.n gty_7 (some ti2) (.n gty_8 (some ti9) (.n (.n (.n (.n (.n .e (some Ap) .e) (some Ap) .e) (some Ap) (.n .e (some Ap) .e)) (some Ds) (.n (.n (.n .e (some R8) .e) (some W5) .e) (some Xe) (.n .e (some Yu) .e))) (some Ap) (.n (.n (.n (.n .e (some Ap) .e) (some W8) .e) (some ti91) (.n .e (some W4) .e)) (some ti59) (.n (.n .e (some Ap) .e) (some Ap) (.n .e (some Ap) .e))))))
noncomputable def gty_10:T (Option TI):=(.n (.n (.n (.n (.n (.n .e (some Ap) .e) (some Ap) .e) (some ti65) (.n (.n .e (some Yt) .e) (some R8) .e)) (some Ap) (.n (.n (.n .e (some Ap) .e) (some Ap) .e) (some ti97) (.n .e (some Qm) .e))) (some Ds) (.n (.n (.n (.n .e (some ti273) .e) none .e) (some Ap) (.n .e (some Ap) .e)) (some ti49) (.n (.n (.n .e (some Ap) .e) (some Ap) .e) (some Ap) .e))) (some ti9) (.n (.n (.n (.n .e (some Ap) .e) (some ti73) (.n .e (some Pi) .e)) none (.n (.n .e (some W6) .e) (some ti105) (.n .e (some W0) .e))) (some ti2) (.n (.n (.n (.n .e (some Ap) .e) (some Ds) .e) (some Ds) (.n .e (some ti217) .e)) (some Ap) (.n (.n (.n .e (some Wx) .e) (some Ap) .e) (some Xd) (.n .e (some Ap) .e)))))
noncomputable def gty_11:T (Option TI):=(.n (.n (.n (.n (.n (.n .e (some Ap) .e) (some Xa) .e) (some Ap) (.n .e (some Ap) .e)) (some Ap) (.n (.n .e (some ti165) .e) (some R7) (.n .e (some Ds) .e))) (some Yt) (.n (.n (.n (.n .e (some Ap) .e) (some Ap) .e) (some Ap) .e) (some ti53) (.n .e (some Ap) .e))) (some ti13) (.n (.n (.n (.n (.n .e (some Ds) .e) (some W9) .e) (some ti77) (.n .e (some Ap) .e)) (some ti45) (.n (.n (.n .e (some Ap) .e) (some Rt) .e) (some R8) .e)) (some ti28) (.n (.n (.n (.n .e (some Ap) .e) (some Ap) .e) (some Ap) (.n .e (some Ap) .e)) (some ti61) (.n (.n .e (some Ap) .e) (some Xc) (.n .e (some Ap) .e)))))
noncomputable def gty_12:T (Option TI):=(.n (.n (.n (.n (.n (.n .e (some Ap) .e) (some Ap) .e) (some Ap) (.n (.n .e (some Ap) .e) (some Ap) .e)) none (.n (.n (.n .e (some Ap) .e) (some Ap) .e) (some ti96) (.n .e (some Qm) .e))) (some Ds) (.n (.n (.n (.n .e (some Ap) .e) (some Ap) .e) (some Ap) (.n .e (some Ap) .e)) (some ti47) (.n (.n (.n .e (some Ap) .e) none .e) none (.n .e (some Ap) .e)))) (some ti7) (.n (.n (.n (.n .e (some Ap) .e) (some Ap) (.n .e (some Ds) .e)) (some ti40) (.n (.n (.n .e (some Ap) .e) (some W6) .e) (some ti59) (.n .e (some Ds) .e))) (some ti24) (.n (.n (.n .e (some Ds) .e) (some Ap) (.n .e (some ti216) .e)) (some Ap) (.n (.n (.n .e (some ti312) .e) none .e) (some ti120) .e))))
noncomputable def gty_13:T (Option TI):=(.n (.n (.n (.n (.n .e (some Ap) .e) (some Xb) .e) (some Qm) (.n (.n .e (some Ww) .e) (some Ap) .e)) (some ti36) (.n (.n (.n .e (some Ap) .e) (some W7) .e) (some Ap) (.n .e (some Ap) .e))) (some Yu) (.n (.n (.n (.n .e (some Ap) .e) (some Ap) .e) (some Ap) (.n .e (some Ap) .e)) (some Ap) (.n (.n (.n .e (some Ap) .e) (some Ap) .e) (some Ap) (.n .e (some Ap) .e))))
noncomputable def gty_14:T (Option TI):=(.n gty_12 (some ti4) (.n gty_13 (some R8) (.n (.n (.n (.n (.n .e (some Ap) .e) (some Ap) .e) (some ti76) (.n .e (some Ap) .e)) (some Ap) (.n (.n (.n .e (some Ap) .e) (some Rt) .e) (some Ap) (.n .e (some Yu) .e))) (some ti28) (.n (.n (.n (.n .e (some Ap) .e) (some W8) .e) none (.n .e (some Ap) .e)) (some ti60) (.n (.n .e (some Ap) .e) (some Ap) (.n .e (some Ap) .e))))))
noncomputable def gty_15:T (Option TI):=(.n (.n (.n (.n (.n .e (some Ap) .e) (some Ap) .e) (some ti65) (.n (.n .e (some Yt) .e) (some Ap) .e)) none (.n (.n (.n .e (some Ap) .e) (some Ap) .e) (some ti97) (.n .e (some Ap) .e))) (some ti18) (.n (.n (.n (.n .e (some Wz) .e) (some Ap) .e) (some R7) (.n .e (some ti210) .e)) (some ti49) (.n (.n (.n .e (some Ds) .e) (some Ap) .e) (some ti114) (.n .e (some Ap) .e))))
noncomputable def gty_16:T (Option TI):=(.n (.n (.n (.n (.n (.n .e (some Ap) .e) (some Xa) .e) (some Ap) (.n .e (some Ap) .e)) (some ti38) (.n (.n (.n .e (some Ap) .e) (some Ap) .e) (some R7) (.n .e (some W3) .e))) (some ti22) (.n (.n (.n (.n .e (some Ap) .e) (some Ap) .e) (some Ap) (.n .e (some Ap) .e)) (some ti53) (.n (.n (.n .e (some Wy) .e) (some Ap) .e) (some Ap) (.n .e (some Ap) .e)))) (some ti13) (.n (.n (.n (.n (.n .e (some Ds) .e) (some W9) .e) (some ti77) (.n .e (some Ap) .e)) (some ti46) (.n (.n (.n .e (some Ap) .e) (some Ap) .e) none (.n .e (some Ap) .e))) (some ti30) (.n (.n (.n (.n .e (some ti286) .e) (some Ap) .e) (some Ds) (.n .e (some Ap) .e)) (some ti62) (.n (.n (.n .e (some ti5) .e) (some Ap) .e) (some Xc) (.n .e (some Ap) .e)))))
noncomputable def gty_17:T (Option TI):=(.n gty_14 (some ti2) (.n (.n gty_15 (some ti9) (.n (.n (.n (.n .e (some Ap) .e) none (.n .e (some Pi) .e)) (some Ap) (.n (.n (.n .e (some Ap) .e) (some W5) .e) (some Xe) (.n .e (some W0) .e))) none (.n (.n (.n (.n .e (some Ap) .e) (some Ds) .e) (some Ap) (.n .e (some W4) .e)) (some Ds) (.n (.n (.n .e (some Wx) .e) (some Ap) .e) (some Xd) .e)))) (some ti5) gty_16))
noncomputable def gty:T (Option TI):=(.n (.n gty_9 (some Ap) (.n gty_10 (some ti5) gty_11)) none gty_17)
noncomputable def gmp:T (Option (Nat×Nat)):=(.n (.n (.n .e none (.n .e none (.n .e none (.n .e (some (9,3)) .e)))) none .e) none (.n (.n (.n .e none (.n (.n .e none (.n .e (some (9,273)) .e)) none .e)) none .e) none .e))
noncomputable def gpt_20:T (Option Nat):=(.n (.n (.n (.n .e (some 314) .e) none (.n (.n (.n .e none (.n .e (some 122) .e)) none .e) none (.n (.n .e none (.n .e (some 219) .e)) none .e))) none (.n .e none (.n (.n .e (some 107) .e) none .e))) none (.n (.n (.n .e (some 324) .e) none (.n .e none (.n (.n (.n .e (some 3) .e) (some 39) .e) none .e))) none (.n (.n (.n .e none (.n .e none (.n .e (some 231) .e))) none .e) none (.n (.n (.n (.n (.n .e (some 265) .e) none .e) none .e) none .e) none .e))))
noncomputable def gpt_21:T (Option Nat):=(.n (.n (.n .e none (.n (.n (.n .e none (.n .e (some 63) .e)) none (.n .e none (.n .e (some 234) .e))) none (.n (.n (.n .e (some 23) .e) none .e) none .e))) none .e) none (.n (.n (.n .e none (.n .e none (.n (.n (.n .e (some 299) .e) none .e) none .e))) none (.n .e none (.n (.n (.n .e (some 4) .e) none .e) (some 66) .e))) none (.n .e none (.n (.n (.n (.n (.n .e (some 5) .e) none .e) none .e) none .e) none (.n (.n .e (some 164) .e) none .e)))))
noncomputable def gpt:T (Option Nat):=(.n gpt_20 none gpt_21)
noncomputable def gbt_23:T (Option Nat):=(.n (.n (.n (.n (.n (.n .e (some 8) .e) (some 8) .e) (some 64) (.n (.n .e (some 1) .e) (some 8) .e)) (some 24) (.n (.n (.n .e (some 8) .e) none .e) (some 8) (.n .e (some 8) .e))) (some 8) (.n (.n (.n (.n .e (some 8) .e) (some 8) .e) (some 8) (.n .e (some 8) .e)) (some 80) (.n (.n (.n .e (some 8) .e) (some 8) .e) (some 8) (.n .e (some 8) .e)))) (some 24) (.n (.n (.n (.n (.n .e (some 8) .e) (some 8) .e) (some 8) (.n .e (some 8) .e)) (some 48) (.n (.n (.n .e (some 8) .e) (some 8) .e) (some 8) (.n .e (some 200) .e))) (some 128) (.n (.n (.n (.n .e (some 8) .e) (some 8) .e) none (.n .e (some 8) .e)) none (.n (.n (.n .e (some 2) .e) (some 8) .e) (some 8) (.n .e (some 8) .e)))))
noncomputable def gbt_24:T (Option Nat):=(.n (.n (.n (.n (.n (.n .e (some 8) .e) (some 32) .e) (some 16) (.n (.n .e (some 48) .e) (some 8) .e)) (some 8) (.n (.n (.n .e (some 8) .e) (some 176) .e) (some 24) (.n .e (some 8) .e))) (some 8) (.n (.n (.n (.n .e (some 16) .e) (some 8) .e) (some 24) (.n .e (some 8) .e)) (some 8) (.n (.n (.n .e (some 8) .e) (some 8) .e) none (.n .e (some 8) .e)))) (some 16) (.n (.n (.n (.n (.n .e (some 8) .e) (some 8) .e) (some 8) (.n .e (some 8) .e)) (some 8) (.n (.n (.n .e (some 8) .e) (some 40) .e) (some 40) (.n .e (some 16) .e))) (some 8) (.n (.n (.n (.n .e (some 8) .e) (some 56) .e) (some 24) (.n .e (some 120) .e)) (some 8) (.n (.n .e (some 8) .e) (some 8) (.n .e (some 8) .e)))))
noncomputable def gbt_25:T (Option Nat):=(.n (.n (.n (.n (.n (.n .e (some 8) .e) (some 8) .e) (some 120) (.n (.n .e (some 4) .e) (some 8) .e)) (some 8) (.n (.n (.n .e (some 8) .e) (some 8) .e) (some 72) (.n .e (some 16) .e))) (some 8) (.n (.n (.n (.n .e (some 24) .e) none .e) (some 8) (.n .e (some 8) .e)) (some 40) (.n (.n (.n .e (some 8) .e) (some 8) .e) (some 8) .e))) (some 16) (.n (.n (.n (.n .e (some 8) .e) (some 24) (.n .e (some 32) .e)) none (.n (.n .e (some 16) .e) (some 24) (.n .e (some 32) .e))) (some 8) (.n (.n (.n (.n .e (some 8) .e) (some 8) .e) (some 8) (.n .e (some 24) .e)) (some 8) (.n (.n (.n .e (some 40) .e) (some 8) .e) (some 56) (.n .e (some 8) .e)))))
noncomputable def gbt_26:T (Option Nat):=(.n (.n (.n (.n (.n (.n .e (some 8) .e) (some 8) .e) (some 8) (.n .e (some 8) .e)) (some 8) (.n (.n .e (some 24) .e) (some 24) (.n .e (some 8) .e))) (some 4) (.n (.n (.n (.n .e (some 8) .e) (some 8) .e) (some 8) .e) (some 24) (.n .e (some 8) .e))) (some 24) (.n (.n (.n (.n (.n .e (some 8) .e) (some 32) .e) (some 24) (.n .e (some 8) .e)) (some 24) (.n (.n (.n .e (some 8) .e) (some 32) .e) (some 8) .e)) (some 48) (.n (.n (.n (.n .e (some 8) .e) (some 8) .e) (some 8) (.n .e (some 8) .e)) (some 24) (.n (.n .e (some 8) .e) (some 24) (.n .e (some 8) .e)))))
noncomputable def gbt_27:T (Option Nat):=(.n (.n (.n (.n (.n (.n .e (some 8) .e) (some 8) .e) (some 8) (.n (.n .e (some 8) .e) (some 8) .e)) none (.n (.n (.n .e (some 8) .e) (some 8) .e) (some 24) (.n .e (some 16) .e))) (some 8) (.n (.n (.n (.n .e (some 8) .e) (some 8) .e) (some 8) (.n .e (some 8) .e)) (some 80) (.n (.n (.n .e (some 8) .e) none .e) none (.n .e (some 8) .e)))) (some 24) (.n (.n (.n (.n .e (some 8) .e) (some 8) (.n .e (some 8) .e)) (some 24) (.n (.n (.n .e (some 8) .e) (some 16) .e) (some 8) (.n .e (some 8) .e))) (some 24) (.n (.n (.n .e (some 8) .e) (some 8) (.n .e (some 24) .e)) (some 8) (.n (.n (.n .e (some 32) .e) none .e) (some 24) .e))))
noncomputable def gbt_28:T (Option Nat):=(.n (.n (.n (.n (.n (.n .e (some 8) .e) (some 32) .e) (some 16) (.n (.n .e (some 48) .e) (some 8) .e)) (some 24) (.n (.n (.n .e (some 8) .e) (some 176) .e) (some 8) (.n .e (some 8) .e))) (some 16) (.n (.n (.n (.n .e (some 8) .e) (some 8) .e) (some 8) (.n .e (some 8) .e)) (some 8) (.n (.n (.n .e (some 8) .e) (some 8) .e) (some 8) (.n .e (some 8) .e)))) (some 8) (.n (.n (.n (.n (.n .e (some 8) .e) (some 8) .e) (some 24) (.n .e (some 8) .e)) (some 8) (.n (.n (.n .e (some 8) .e) (some 32) .e) (some 8) (.n .e (some 16) .e))) (some 48) (.n (.n (.n (.n .e (some 8) .e) (some 56) .e) none (.n .e (some 8) .e)) (some 24) (.n (.n .e (some 8) .e) (some 8) (.n .e (some 8) .e)))))
noncomputable def gbt_29:T (Option Nat):=(.n (.n (.n (.n (.n (.n .e (some 8) .e) (some 8) .e) (some 120) (.n (.n .e (some 4) .e) (some 8) .e)) none (.n (.n (.n .e (some 8) .e) (some 8) .e) (some 72) (.n .e (some 8) .e))) (some 8) (.n (.n (.n (.n .e (some 16) .e) (some 8) .e) (some 24) (.n .e (some 24) .e)) (some 40) (.n (.n (.n .e (some 8) .e) (some 8) .e) (some 24) (.n .e (some 8) .e)))) (some 16) (.n (.n (.n (.n .e (some 8) .e) none (.n .e (some 32) .e)) (some 8) (.n (.n (.n .e (some 8) .e) (some 40) .e) (some 40) (.n .e (some 32) .e))) none (.n (.n (.n (.n .e (some 8) .e) (some 8) .e) (some 8) (.n .e (some 120) .e)) (some 8) (.n (.n (.n .e (some 40) .e) (some 8) .e) (some 56) .e))))
noncomputable def gbt_30:T (Option Nat):=(.n (.n (.n (.n (.n (.n .e (some 8) .e) (some 8) .e) (some 8) (.n .e (some 8) .e)) (some 48) (.n (.n (.n .e (some 8) .e) (some 8) .e) (some 24) (.n .e (some 200) .e))) (some 128) (.n (.n (.n (.n .e (some 8) .e) (some 8) .e) (some 8) (.n .e (some 8) .e)) (some 24) (.n (.n (.n .e (some 2) .e) (some 8) .e) (some 8) (.n .e (some 8) .e)))) (some 24) (.n (.n (.n (.n (.n .e (some 8) .e) (some 32) .e) (some 24) (.n .e (some 8) .e)) (some 24) (.n (.n (.n .e (some 8) .e) (some 8) .e) none (.n .e (some 8) .e))) (some 24) (.n (.n (.n (.n .e (some 4) .e) (some 8) .e) (some 8) (.n .e (some 8) .e)) (some 64) (.n (.n (.n .e (some 1) .e) (some 8) .e) (some 24) (.n .e (some 8) .e)))))
noncomputable def gbt:T (Option Nat):=(.n (.n (.n gbt_23 (some 8) gbt_24) (some 8) (.n gbt_25 (some 1) gbt_26)) none (.n (.n gbt_27 (some 1) gbt_28) (some 8) (.n gbt_29 (some 1) gbt_30)))
noncomputable def gcm:T (Option Nat):=(.n (.n (.n .e none (.n (.n .e none (.n (.n .e (some 0) .e) none .e)) none .e)) none .e) none .e)
noncomputable def gus:T (Option Nat):=(.n (.n (.n .e none (.n (.n (.n .e none (.n (.n (.n .e (some 0) .e) none .e) none .e)) none .e) none .e)) none .e) none .e)
noncomputable def gfn_34:T (Option Func):=(.n (.n (.n (.n (.n .e (some Tryz.f127) .e) (some Tryz.f63) (.n .e (some Tryz.f191) .e)) (some Tryz.f31) (.n (.n .e (some Tryz.f159) .e) (some Tryz.f95) (.n .e (some Tryz.f223) .e))) (some Tryz.f15) (.n (.n (.n .e (some Tryz.f143) .e) (some Tryz.f79) (.n .e (some Tryz.f207) .e)) (some Tryz.f47) (.n (.n .e (some Tryz.f175) .e) (some Tryz.f111) (.n .e (some Tryz.f239) .e)))) (some Tryz.f7) (.n (.n (.n (.n .e (some Tryz.f135) .e) (some Tryz.f71) (.n .e (some Tryz.f199) .e)) (some Tryz.f39) (.n (.n .e (some Tryz.f167) .e) (some Tryz.f103) (.n .e (some Tryz.f231) .e))) (some Tryz.f23) (.n (.n (.n .e (some Tryz.f151) .e) (some Tryz.f87) (.n .e (some Tryz.f215) .e)) (some Tryz.f55) (.n (.n .e (some Tryz.f183) .e) (some Tryz.f119) .e))))
noncomputable def gfn_35:T (Option Func):=(.n (.n (.n (.n (.n .e (some Tryz.f131) .e) (some Tryz.f67) (.n .e (some Tryz.f195) .e)) (some Tryz.f35) (.n (.n .e (some Tryz.f163) .e) (some Tryz.f99) (.n .e (some Tryz.f227) .e))) (some Tryz.f19) (.n (.n (.n .e (some Tryz.f147) .e) (some Tryz.f83) (.n .e (some Tryz.f211) .e)) (some Tryz.f51) (.n (.n .e (some Tryz.f179) .e) (some Tryz.f115) .e))) (some Tryz.f11) (.n (.n (.n (.n .e (some Tryz.f139) .e) (some Tryz.f75) (.n .e (some Tryz.f203) .e)) (some Tryz.f43) (.n (.n .e (some Tryz.f171) .e) (some Tryz.f107) (.n .e (some Tryz.f235) .e))) (some Tryz.f27) (.n (.n (.n .e (some Tryz.f155) .e) (some Tryz.f91) (.n .e (some Tryz.f219) .e)) (some Tryz.f59) (.n (.n .e (some Tryz.f187) .e) (some Tryz.f123) .e))))
noncomputable def gfn_36:T (Option Func):=(.n (.n (.n (.n (.n .e (some Tryz.f129) .e) (some Tryz.f65) (.n .e (some Tryz.f193) .e)) (some Tryz.f33) (.n (.n .e (some Tryz.f161) .e) (some Tryz.f97) (.n .e (some Tryz.f225) .e))) (some Tryz.f17) (.n (.n (.n .e (some Tryz.f145) .e) (some Tryz.f81) (.n .e (some Tryz.f209) .e)) (some Tryz.f49) (.n (.n .e (some Tryz.f177) .e) (some Tryz.f113) (.n .e (some Tryz.f241) .e)))) (some Tryz.f9) (.n (.n (.n (.n .e (some Tryz.f137) .e) (some Tryz.f73) (.n .e (some Tryz.f201) .e)) (some Tryz.f41) (.n (.n .e (some Tryz.f169) .e) (some Tryz.f105) (.n .e (some Tryz.f233) .e))) (some Tryz.f25) (.n (.n (.n .e (some Tryz.f153) .e) (some Tryz.f89) (.n .e (some Tryz.f217) .e)) (some Tryz.f57) (.n (.n .e (some Tryz.f185) .e) (some Tryz.f121) .e))))
noncomputable def gfn_37:T (Option Func):=(.n (.n (.n (.n (.n .e (some Tryz.f133) .e) (some Tryz.f69) (.n .e (some Tryz.f197) .e)) (some Tryz.f37) (.n (.n .e (some Tryz.f165) .e) (some Tryz.f101) (.n .e (some Tryz.f229) .e))) (some Tryz.f21) (.n (.n (.n .e (some Tryz.f149) .e) (some Tryz.f85) (.n .e (some Tryz.f213) .e)) (some Tryz.f53) (.n (.n .e (some Tryz.f181) .e) (some Tryz.f117) .e))) (some Tryz.f13) (.n (.n (.n (.n .e (some Tryz.f141) .e) (some Tryz.f77) (.n .e (some Tryz.f205) .e)) (some Tryz.f45) (.n (.n .e (some Tryz.f173) .e) (some Tryz.f109) (.n .e (some Tryz.f237) .e))) (some Tryz.f29) (.n (.n (.n .e (some Tryz.f157) .e) (some Tryz.f93) (.n .e (some Tryz.f221) .e)) (some Tryz.f61) (.n (.n .e (some Tryz.f189) .e) (some Tryz.f125) .e))))
noncomputable def gfn_38:T (Option Func):=(.n (.n (.n (.n (.n .e (some Tryz.f128) .e) (some Tryz.f64) (.n .e (some Tryz.f192) .e)) (some Tryz.f32) (.n (.n .e (some Tryz.f160) .e) (some Tryz.f96) (.n .e (some Tryz.f224) .e))) (some Tryz.f16) (.n (.n (.n .e (some Tryz.f144) .e) (some Tryz.f80) (.n .e (some Tryz.f208) .e)) (some Tryz.f48) (.n (.n .e (some Tryz.f176) .e) (some Tryz.f112) (.n .e (some Tryz.f240) .e)))) (some Tryz.f8) (.n (.n (.n (.n .e (some Tryz.f136) .e) (some Tryz.f72) (.n .e (some Tryz.f200) .e)) (some Tryz.f40) (.n (.n .e (some Tryz.f168) .e) (some Tryz.f104) (.n .e (some Tryz.f232) .e))) (some Tryz.f24) (.n (.n (.n .e (some Tryz.f152) .e) (some Tryz.f88) (.n .e (some Tryz.f216) .e)) (some Tryz.f56) (.n (.n .e (some Tryz.f184) .e) (some Tryz.f120) .e))))
noncomputable def gfn_39:T (Option Func):=(.n (.n (.n (.n (.n .e (some Tryz.f132) .e) (some Tryz.f68) (.n .e (some Tryz.f196) .e)) (some Tryz.f36) (.n (.n .e (some Tryz.f164) .e) (some Tryz.f100) (.n .e (some Tryz.f228) .e))) (some Tryz.f20) (.n (.n (.n .e (some Tryz.f148) .e) (some Tryz.f84) (.n .e (some Tryz.f212) .e)) (some Tryz.f52) (.n (.n .e (some Tryz.f180) .e) (some Tryz.f116) .e))) (some Tryz.f12) (.n (.n (.n (.n .e (some Tryz.f140) .e) (some Tryz.f76) (.n .e (some Tryz.f204) .e)) (some Tryz.f44) (.n (.n .e (some Tryz.f172) .e) (some Tryz.f108) (.n .e (some Tryz.f236) .e))) (some Tryz.f28) (.n (.n (.n .e (some Tryz.f156) .e) (some Tryz.f92) (.n .e (some Tryz.f220) .e)) (some Tryz.f60) (.n (.n .e (some Tryz.f188) .e) (some Tryz.f124) .e))))
noncomputable def gfn_40:T (Option Func):=(.n (.n (.n (.n (.n .e (some Tryz.f130) .e) (some Tryz.f66) (.n .e (some Tryz.f194) .e)) (some Tryz.f34) (.n (.n .e (some Tryz.f162) .e) (some Tryz.f98) (.n .e (some Tryz.f226) .e))) (some Tryz.f18) (.n (.n (.n .e (some Tryz.f146) .e) (some Tryz.f82) (.n .e (some Tryz.f210) .e)) (some Tryz.f50) (.n (.n .e (some Tryz.f178) .e) (some Tryz.f114) .e))) (some Tryz.f10) (.n (.n (.n (.n .e (some Tryz.f138) .e) (some Tryz.f74) (.n .e (some Tryz.f202) .e)) (some Tryz.f42) (.n (.n .e (some Tryz.f170) .e) (some Tryz.f106) (.n .e (some Tryz.f234) .e))) (some Tryz.f26) (.n (.n (.n .e (some Tryz.f154) .e) (some Tryz.f90) (.n .e (some Tryz.f218) .e)) (some Tryz.f58) (.n (.n .e (some Tryz.f186) .e) (some Tryz.f122) .e))))
noncomputable def gfn_41:T (Option Func):=(.n (.n (.n (.n (.n .e (some Tryz.f134) .e) (some Tryz.f70) (.n .e (some Tryz.f198) .e)) (some Tryz.f38) (.n (.n .e (some Tryz.f166) .e) (some Tryz.f102) (.n .e (some Tryz.f230) .e))) (some Tryz.f22) (.n (.n (.n .e (some Tryz.f150) .e) (some Tryz.f86) (.n .e (some Tryz.f214) .e)) (some Tryz.f54) (.n (.n .e (some Tryz.f182) .e) (some Tryz.f118) .e))) (some Tryz.f14) (.n (.n (.n (.n .e (some Tryz.f142) .e) (some Tryz.f78) (.n .e (some Tryz.f206) .e)) (some Tryz.f46) (.n (.n .e (some Tryz.f174) .e) (some Tryz.f110) (.n .e (some Tryz.f238) .e))) (some Tryz.f30) (.n (.n (.n .e (some Tryz.f158) .e) (some Tryz.f94) (.n .e (some Tryz.f222) .e)) (some Tryz.f62) (.n (.n .e (some Tryz.f190) .e) (some Tryz.f126) .e))))
noncomputable def gfn:T (Option Func):=(.n (.n (.n gfn_34 (some Tryz.f3) gfn_35) none (.n gfn_36 (some Tryz.f5) gfn_37)) none (.n (.n gfn_38 (some Tryz.f4) gfn_39) none (.n gfn_40 (some Tryz.f6) gfn_41)))
noncomputable def glv_43:T (Option LV):=(.n (.n (.n (.n .e (some .e) .e) (some (.n (.n .e none (.n (.n .e (some [6,8,9,10,46,47,48]) .e) none .e)) none .e)) .e) (some .e) (.n (.n .e (some .e) .e) (some (.n (.n (.n .e (some [0,2,3]) .e) none .e) none .e)) (.n .e (some .e) .e))) (some .e) (.n (.n (.n .e (some (.n .e none (.n .e none (.n .e (some [0,3]) .e)))) .e) (some .e) (.n .e (some .e) .e)) (some .e) (.n (.n .e (some (.n (.n .e (some [0,1]) .e) none .e)) .e) (some .e) (.n .e (some (.n (.n (.n .e (some [0]) .e) none .e) none .e)) .e))))
noncomputable def glv_44:T (Option LV):=(.n glv_43 (some .e) (.n (.n (.n (.n .e (some .e) .e) none (.n .e (some (.n (.n .e (some [0,1,2,3,8]) .e) none (.n (.n .e (some [0,1,2,3,8,9]) .e) none .e))) .e)) (some .e) (.n (.n .e (some .e) .e) (some .e) (.n .e (some .e) .e))) (some (.n (.n (.n .e (some [4,7,8,9]) .e) none .e) none .e)) (.n (.n (.n .e (some .e) .e) (some .e) (.n .e (some .e) .e)) (some .e) (.n (.n .e (some .e) .e) (some .e) .e))))
noncomputable def glv_45:T (Option LV):=(.n (.n (.n (.n .e (some (.n .e none (.n .e none (.n .e (some [0,2]) .e)))) .e) (some .e) (.n .e (some (.n .e none (.n .e (some [0,8,9]) .e))) .e)) (some .e) (.n (.n .e (some .e) .e) (some .e) (.n .e (some .e) .e))) (some (.n (.n .e none (.n .e (some [5,6,23,24,25]) .e)) none .e)) (.n (.n (.n .e (some (.n (.n (.n (.n .e (some [0,5]) .e) none .e) none .e) none .e)) .e) (some .e) (.n .e (some .e) .e)) (some .e) (.n (.n .e (some .e) .e) (some .e) .e)))
noncomputable def glv_46:T (Option LV):=(.n glv_44 (some (.n (.n (.n .e none (.n (.n .e (some [5,10,13,14,16,17]) .e) none .e)) none .e) none (.n (.n (.n .e none (.n .e (some [5,10,13,14,17,18]) .e)) none .e) none .e))) (.n (.n (.n (.n (.n .e (some (.n .e (some [0,1,2]) .e)) .e) (some .e) (.n .e (some .e) .e)) (some .e) (.n (.n .e (some .e) .e) (some .e) (.n .e (some .e) .e))) (some (.n .e none (.n (.n .e (some [1,3,4,5]) .e) none .e))) (.n (.n (.n .e (some .e) .e) (some .e) .e) (some .e) (.n .e (some .e) .e))) (some .e) glv_45))
noncomputable def glv_47:T (Option LV):=(.n (.n (.n (.n .e (some .e) .e) (some .e) (.n .e (some (.n (.n (.n .e none (.n .e (some [0,1,5,6,7,8,10]) .e)) none (.n .e (some [0,1,5,6,7,8,9]) .e)) none .e)) .e)) (some .e) (.n (.n .e (some .e) .e) (some .e) (.n .e (some .e) .e))) (some .e) (.n (.n (.n .e (some .e) .e) (some .e) (.n .e (some .e) .e)) (some .e) (.n (.n .e (some (.n (.n .e (some [0,1]) .e) none .e)) .e) (some .e) (.n .e (some .e) .e))))
noncomputable def glv_48:T (Option LV):=(.n (.n (.n (.n .e (some .e) .e) (some .e) (.n .e (some (.n (.n .e none (.n .e (some [0,1,8,9,10,11]) .e)) none .e)) .e)) (some .e) (.n (.n .e (some .e) .e) (some .e) (.n .e (some .e) .e))) (some .e) (.n (.n (.n .e (some (.n .e none (.n (.n .e none (.n .e (some [0,6,7,8]) .e)) none .e))) .e) (some (.n .e none (.n .e (some [0,3]) .e))) (.n .e (some .e) .e)) (some .e) (.n (.n .e (some .e) .e) (some .e) .e)))
noncomputable def glv_49:T (Option LV):=(.n (.n (.n .e (some (.n (.n (.n .e (some [0,1,5,6]) .e) none .e) none .e)) .e) (some .e) (.n .e (some (.n .e none (.n (.n .e (some [0,29,30,31]) .e) none .e))) .e)) (some .e) (.n (.n .e (some .e) .e) (some .e) (.n .e (some (.n (.n .e none (.n (.n .e none (.n .e (some [0,7,8,9,14,15]) .e)) (some [0,1,7,8,9,10]) (.n .e none (.n .e (some [0,7,8,9,14,15,16]) .e)))) none (.n (.n .e none (.n .e (some [0,1,7,8,9,10,12]) .e)) none (.n .e none (.n (.n (.n .e (some [175]) .e) none .e) none .e))))) .e)))
noncomputable def glv_50:T (Option LV):=(.n (.n (.n (.n .e (some .e) .e) (some .e) (.n .e (some (.n (.n (.n .e (some [0,1,4,11,12]) .e) none (.n .e (some [0,1,4,11,12]) .e)) none .e)) .e)) (some .e) (.n (.n .e (some .e) .e) (some .e) (.n .e (some .e) .e))) (some (.n .e none (.n .e none (.n .e (some [0,2,3,5,8,9,10,11,12]) .e)))) (.n (.n (.n .e (some (.n .e none (.n .e (some [0,3,4,5,10,11,12]) .e))) .e) (some .e) (.n .e (some (.n (.n .e (some [0,2,3,4,10]) .e) none .e)) .e)) (some (.n (.n (.n .e (some [0,3,6,7,8]) .e) none .e) none .e)) (.n (.n .e (some (.n .e none (.n .e (some [0,2]) .e))) .e) (some .e) .e)))
noncomputable def glv_51:T (Option LV):=(.n (.n (.n (.n .e (some (.n (.n .e (some [0,1,5,6]) .e) none .e)) .e) (some .e) (.n .e (some .e) .e)) (some .e) (.n (.n .e (some .e) .e) (some .e) (.n .e (some .e) .e))) (some .e) (.n (.n (.n .e (some .e) .e) (some (.n .e none (.n .e (some [0]) .e))) (.n .e (some .e) .e)) (some .e) (.n (.n .e (some (.n .e none (.n .e (some [0,2,4]) .e))) .e) (some .e) (.n .e (some (.n .e none (.n (.n .e (some [0]) .e) none .e))) .e))))
noncomputable def glv_52:T (Option LV):=(.n (.n (.n (.n .e (some .e) .e) (some .e) (.n .e (some (.n .e none (.n (.n (.n .e (some [0,3,8,9,12]) .e) (some [0,3,8,9,10,11]) .e) none .e))) .e)) (some (.n .e none (.n (.n .e (some [0,1,4,5,6,7]) .e) none .e))) (.n (.n .e (some (.n .e none (.n .e (some [0,3,4]) .e))) .e) (some .e) (.n .e (some (.n (.n .e (some [0,3]) .e) none .e)) .e))) (some .e) (.n (.n (.n .e (some (.n (.n (.n (.n (.n .e (some [0,1,5,6,7,8,9,10]) .e) none .e) none .e) none .e) none .e)) .e) (some .e) (.n .e (some .e) .e)) (some .e) (.n (.n .e (some .e) .e) (some .e) .e)))
noncomputable def glv_53:T (Option LV):=(.n (.n (.n (.n .e (some .e) .e) (some .e) (.n .e (some (.n (.n (.n .e (some [0,1,2,3,9,10]) .e) none (.n .e (some [0,1,2,3,9,10]) .e)) none (.n (.n .e none (.n (.n .e (some [0,1,2,3,9,10,12]) .e) none .e)) none (.n .e none (.n .e (some [0,1,2,3,9,10,11]) .e))))) .e)) (some (.n .e (some [0,1]) .e)) (.n (.n .e (some .e) .e) (some .e) (.n .e (some .e) .e))) (some (.n (.n (.n .e (some [0,3,5,18,19]) .e) none .e) none (.n .e none (.n (.n .e (some [5,8,54,55,56]) .e) none .e)))) (.n (.n (.n .e (some (.n .e none (.n .e (some [0,1,5]) .e))) .e) (some (.n .e none (.n .e (some [0,1,4]) .e))) (.n .e (some (.n (.n (.n .e (some [0,4,5]) .e) none .e) none (.n (.n (.n .e (some [4,6,7,8]) .e) none .e) none .e))) .e)) (some (.n .e none (.n (.n (.n (.n .e (some [2,9,70,71,72]) .e) (some [2,7,41,42]) .e) none .e) none .e))) (.n (.n .e (some .e) .e) (some .e) .e)))
noncomputable def glv_54:T (Option LV):=(.n (.n (.n (.n (.n .e (some .e) .e) (some .e) (.n .e (some .e) .e)) (some .e) (.n (.n .e (some (.n .e none (.n .e (some [0,1,2,3,4,10,11]) .e))) .e) (some (.n (.n .e (some [0,1,3]) .e) none .e)) (.n .e (some .e) .e))) (some .e) (.n (.n (.n .e (some (.n (.n (.n .e (some [0,2]) .e) none .e) none .e)) .e) (some .e) (.n .e (some .e) .e)) (some .e) (.n (.n .e (some .e) .e) (some .e) .e))) (some (.n (.n (.n .e (some [3,6,7,8]) .e) none .e) none .e)) glv_53)
noncomputable def glv_55:T (Option LV):=(.n (.n (.n (.n .e (some .e) .e) (some .e) (.n .e (some .e) .e)) (some .e) (.n (.n .e (some .e) .e) (some (.n .e none (.n .e (some [0,1,4,5]) .e))) (.n .e (some (.n .e none (.n .e (some [0,2,4,5,6]) .e))) .e))) (some .e) (.n (.n (.n .e (some .e) .e) (some .e) (.n .e (some .e) .e)) (some (.n .e none (.n .e (some [0,1,3,4]) .e))) (.n (.n .e (some (.n (.n .e (some [0,1]) .e) none .e)) .e) (some .e) .e)))
noncomputable def glv_56:T (Option LV):=(.n (.n (.n (.n .e (some .e) .e) (some .e) (.n .e (some .e) .e)) (some (.n .e none (.n .e (some [0,10,11,12]) .e))) (.n (.n .e (some .e) .e) (some (.n .e none (.n .e (some [0,79,80,81]) .e))) (.n .e (some .e) .e))) (some (.n .e none (.n (.n .e none (.n .e (some [1,6,7,8,10,11,13,42,43]) .e)) none (.n .e (some [1,6,7,8]) .e)))) (.n (.n (.n .e (some (.n .e none (.n (.n .e (some [0,5]) .e) none .e))) .e) (some .e) (.n .e (some .e) .e)) (some (.n (.n (.n .e (some [3,11,12,13]) .e) none .e) none .e)) (.n (.n .e (some .e) .e) (some .e) .e)))
noncomputable def glv_57:T (Option LV):=(.n (.n (.n (.n .e (some (.n .e none (.n .e (some [0,2]) .e))) .e) (some .e) (.n .e (some (.n .e none (.n .e (some [0,2,4,5]) .e))) .e)) (some (.n (.n (.n .e (some [0,1,4,5,6,7]) .e) none .e) none .e)) (.n (.n .e (some .e) .e) (some (.n .e none (.n (.n (.n .e (some [0,5,6]) .e) none .e) none .e))) (.n .e (some .e) .e))) (some .e) (.n (.n (.n .e (some .e) .e) (some (.n (.n (.n (.n .e (some [0,2]) .e) none .e) none .e) none .e)) (.n .e (some .e) .e)) (some (.n .e none (.n .e (some [0,1,3,6,7,8]) .e))) (.n (.n .e (some .e) .e) (some .e) .e)))
noncomputable def glv_58:T (Option LV):=(.n (.n (.n (.n .e (some .e) .e) (some .e) (.n .e (some (.n (.n (.n (.n (.n .e (some [0,1,4,12,13]) .e) none .e) (some [0,1,4,12,13]) .e) none (.n .e (some [0,1,4,12,13]) (.n .e (some [0,1,4,12,13]) .e))) none .e)) .e)) (some .e) (.n (.n .e (some .e) .e) (some .e) (.n .e (some .e) .e))) (some .e) (.n (.n (.n .e (some .e) .e) (some (.n .e none (.n .e (some [0,2]) .e))) (.n .e (some .e) .e)) (some (.n (.n (.n .e (some [7,18,19]) .e) none .e) none .e)) (.n (.n .e (some .e) .e) (some .e) .e)))
noncomputable def glv_59:T (Option LV):=(.n (.n (.n glv_51 (some (.n .e none (.n (.n (.n (.n .e (some [11,12,14,15,35,36,37,56,57,58]) .e) none .e) none .e) none (.n (.n .e (some [11,12,35,36,37]) .e) none .e)))) glv_52) (some (.n .e none (.n (.n .e (some [6,16,17,18]) .e) none .e))) glv_54) none (.n (.n glv_55 (some (.n .e none (.n (.n .e (some [3,4,7,8,9]) .e) none .e))) glv_56) (some (.n .e none (.n .e none (.n .e (some [2,3,4,6,26,27,28]) .e)))) (.n glv_57 (some (.n (.n .e (some [0,1]) .e) none .e)) glv_58)))
noncomputable def glv:T (Option LV):=(.n (.n glv_46 none (.n (.n glv_47 (some .e) glv_48) (some .e) (.n (.n glv_49 (some .e) (.n (.n (.n .e (some .e) .e) (some (.n (.n (.n (.n .e (some [0,2]) .e) none .e) none .e) none .e)) (.n .e (some (.n .e none (.n .e none (.n (.n .e (some [0,4,5,6]) .e) none .e)))) .e)) (some .e) (.n (.n .e (some .e) .e) (some .e) .e))) (some .e) glv_50))) none glv_59)
noncomputable def gg:G:=⟨gty,gmp,gpt,gbt,gcm,gus,gfn,glv,87,18⟩
end Go.Proofs.YtacpdfjcepkgcaaGreatDoor
namespace Go.CE
open Go.GV (TI Shp)
theorem F6 {β:Type} (n:Nat) (k:Nat→β):fN n k=k n:=rfl
theorem fZ_eq {β:Type} (z:Int) (k:Int→β):fZ z k=k z:=rfl
theorem fB_eq {β:Type} (b:Bool) (x y:β):fB b x y=if b=true then x else y:=by cases b<;>rfl
theorem C6 {b:Bool} {x y:Bool} (h:fB b x y=true):b=true∧x=true∨b=false∧y=true:=by cases b<;>simp_all [fB]
theorem Cm {b:Bool} {x:Bool} (h:fB b x false=true):b=true∧x=true:=by cases b<;>simp_all [fB]
theorem Jg {b:Bool} {y:Bool} (h:fB b false y=true):b=false∧y=true:=by cases b<;>simp_all [fB]
theorem Fb (a b:Int):N2 a b=true↔a=b:=by
 rw[zEq_un];cases a<;>cases b<;>simp[zEqC]<;>omega
theorem I3 (a b:Int):K0 a b=true↔a≤b:=by
 rw[zLe_un];cases a<;>cases b<;>simp only[zLeC,Nat.ble_eq,Aj]
 · omega
 · constructor
   · intro h;cases h
   · intro h;omega
 · constructor
   · intro _;omega
   · intro _;trivial
 · omega
def Pos.toN:Pos→Nat
 |.h=>1
 |.o p=>2*p.toN
 |.i p=>2*p.toN+1
theorem Pos.pos:∀p:Pos,1≤p.toN
 |.h=>Ag _
 |.o p=>by have:=Pos.pos p;simp only[toN];omega
 |.i p=>by have:=Pos.pos p;simp only[toN];omega
noncomputable def posF (f n:Nat):Pos:=
 Nat.rec (motive:=fun _=>Nat→Pos) (fun _=>.h)
  (fun _ ih n=>fB (Nat.ble n 1) .h (fB (Nat.beq (Nat.mod n 2) 0) (.o (ih (Nat.div n 2))) (.i (ih (Nat.div n 2))))) f n
theorem posF_toN:∀f n,1≤n→n≤f→(posF f n).toN=n
 |0,n,h,h'=>by omega
 |f+1,n,h,h'=>by
  show(fB (Nat.ble n 1) .h (fB (Nat.beq (Nat.mod n 2) 0) (.o (posF f (Nat.div n 2))) (.i (posF f (Nat.div n 2)))):Pos).toN=n
  by_cases h1:n≤1
  · have:n=1:=by omega
    subst this;rfl
  · have e1:Nat.ble n 1=false:=by cases hb:Nat.ble n 1 with
     |false=>rfl
     |true=>exact absurd (Aa hb) h1
    rw[e1]
    have ih:=posF_toN f (n / 2) (by omega) (by omega)
    by_cases h2:n%2=0
    · have e2:Nat.beq (Nat.mod n 2) 0=true:=by show Nat.beq (n%2) 0=true;rw[h2];rfl
      rw[e2]
      show 2 * (posF f (n / 2)).toN=n
      omega
    · have e2:Nat.beq (Nat.mod n 2) 0=false:=by cases hb:Nat.beq (Nat.mod n 2) 0 with
       |false=>rfl
       |true=>exact absurd (Ck hb) h2
      rw[e2]
      show 2 * (posF f (n / 2)).toN+1=n
      omega
theorem Mh {n:Nat} (h:1≤n):(Ay n).toN=n:=posF_toN n n h (Ag _)
theorem Mi {a b:Nat} (h:Ay (a+1)=Ay (b+1)):a=b:=by
 have:=congrArg Pos.toN h;rw[Mh (by omega),Mh (by omega)]at this;omega
def Ad:Pos→Pos
 |.h=>.o .h
 |.o p=>.i p
 |.i p=>.o (Ad p)
theorem sucK_eq {β:Type} (p:Pos):∀k:Pos→β,sucK p k=k (Ad p):=by
 induction p with
 |h=>intro k;rfl
 |o p ih=>intro k;rfl
 |i p ih=>intro k;exact ih fun s=>k (.o s)
theorem Hx:∀p:Pos,(Ad p).toN=p.toN+1
 |.h=>rfl
 |.o p=>rfl
 |.i p=>by have:=Hx p;simp only[Ad,Pos.toN,this];omega
theorem Jv:∀p q:Pos,Kq p q=true↔p=q:=by
 intro p
 induction p with
 |h=>intro q;cases q<;>simp[Kq]
 |o p ih=>intro q;cases q<;>simp[Kq]<;>exact ih _
 |i p ih=>intro q;cases q<;>simp[Kq]<;>exact ih _
theorem Db {α β:Type} (d:α) (t:T α):∀(p:Pos) (k:α→β),T.getK d t p k=k (T.get d t p):=by
 induction t with
 |e=>intro p k;cases p<;>rfl
 |n l v r hl hr=>intro p k;cases p with
  |h=>rfl
  |o p=>exact hl p k
  |i p=>exact hr p k
theorem Ni {α β:Type} (d x:α) (p:Pos):∀(t:T α) (k:T α→β),T.setK d x t p k=k (T.set d x t p):=by
 induction p with
 |h=>intro t k;cases t<;>rfl
 |o p ih=>intro t k;cases t with
  |e=>exact ih .e fun l=>k (.n l d .e)
  |n l v r=>exact ih l fun l=>k (.n l v r)
 |i p ih=>intro t k;cases t with
  |e=>exact ih .e fun r=>k (.n .e d r)
  |n l v r=>exact ih r fun r=>k (.n l v r)
theorem X4 {α:Type} (d:α) (p:Pos):T.get d .e p=d:=by cases p<;>rfl
theorem Lu {α:Type} (d x:α) (p:Pos):∀(t:T α) (q:Pos),T.get d (T.set d x t p) q=if q=p then x else T.get d t q:=by
 induction p with
 |h=>intro t q;cases t<;>cases q<;>simp[T.set,T.get,X4]
 |o p ih=>intro t q;cases t<;>cases q<;>simp[T.set,T.get,X4,ih]
 |i p ih=>intro t q;cases t<;>cases q<;>simp[T.set,T.get,X4,ih]
theorem get_same {α:Type} (d x:α) (t:T α) (p:Pos):T.get d (T.set d x t p) p=x:=by rw[Lu,if_pos rfl]
theorem get_ne {α:Type} {d x:α} {t:T α} {p q:Pos} (h:q≠p):T.get d (T.set d x t p) q=T.get d t q:=by rw[Lu,if_neg h]
structure Loc where
 blk:Nat
 base:Nat
 sz:Nat
abbrev Mp:=Pos→Option Loc
inductive VR (m:Mp):AV→Value→Prop where
 |b (x:Bool):VR m (.b x) (.bool x)
 |i (k:IntKind) (n:Int):VR m (.i k n) (.int k n)
 |s (b:ByteArray):VR m (.s (Ep b)) (.string b)
 |p0:VR m .p0 (.pointer none)
 |p {id:Pos} {l:Loc} (off:Nat) (h:m id=some l):VR m (.p id off) (.pointer (some ⟨l.blk,l.base+off,none⟩))
 |sl0:VR m .sl0 (.slice none 0 0)
 |slk {id:Pos} {l:Loc} (off n c:Nat) (h:m id=some l):VR m (.sl id off n (.k c)) (.slice (some ⟨l.blk,l.base+off,none⟩) n c)
 |slu {id:Pos} {l:Loc} (off n c es:Nat) (h:m id=some l) (h1:n≤c) (h2:l.base+off+c*es≤l.sz) :
   VR m (.sl id off n (.u es)) (.slice (some ⟨l.blk,l.base+off,none⟩) n c)
 |slz {id:Pos} {l:Loc} (off es:Nat) (a:Addr) (h:m id=some l):VR m (.sl id off 0 (.u es)) (.slice (some a) 0 0)
 |m0:VR m .m0 (.map none)
 |m {id:Pos} {l:Loc} (h:m id=some l):VR m (.m id) (.map (some l.blk))
 |fn (f:Nat) (l:List AV) (cs:Array Value) (hl:l.length=cs.size) (h:∀(i:Nat) (a:AV) (v:Value),l[i]?=some a→cs[i]?=some v→VR m a v) :
   VR m (.fn f l) (.func (.func f) #[] cs)
 |fb (f:Nat) (l:List AV) (cs:Array Value) (hl:l.length=cs.size) (h:∀(i:Nat) (a:AV) (v:Value),l[i]?=some a→cs[i]?=some v→VR m a v) :
   VR m (.fb f l) (.func (.func f) cs #[])
 |yl {id:Pos} {l:Loc} (h:m id=some l):VR m (.yl id) (.func (.yield l.blk) #[] #[])
 |nf:VR m .nf .nilFunc
 |ni:VR m .ni .nilIface
 |ag (l:List AV) (cs:Array Value) (hl:l.length=cs.size) (h:∀(i:Nat) (a:AV) (v:Value),l[i]?=some a→cs[i]?=some v→VR m a v):VR m (.ag l) (.agg cs)
 |tu (l:List AV) (cs:Array Value) (hl:l.length=cs.size) (h:∀(i:Nat) (a:AV) (v:Value),l[i]?=some a→cs[i]?=some v→VR m a v):VR m (.tu l) (.tuple cs)
 |x (v:Value):VR m .x v
def Mp.le (m m':Mp):Prop:=∀id l,m id=some l→m' id=some l
theorem Mp.le.refl (m:Mp):m.le m:=fun _ _ h=>h
theorem Mp.le.trans {a b c:Mp} (h:a.le b) (k:b.le c):a.le c:=fun id l e=>k id l (h id l e)
theorem VR.mono {m m':Mp} (hm:m.le m') {a:AV} {v:Value} (h:VR m a v):VR m' a v:=by
 induction h with
 |b x=>exact .b x
 |i k n=>exact .i k n
 |s b=>exact .s b
 |p0=>exact .p0
 |p off h=>exact .p off (hm _ _ h)
 |sl0=>exact .sl0
 |slk off n c h=>exact .slk off n c (hm _ _ h)
 |slu off n c es h h1 h2=>exact .slu off n c es (hm _ _ h) h1 h2
 |slz off es a h=>exact .slz off es a (hm _ _ h)
 |m0=>exact .m0
 |m h=>exact .m (hm _ _ h)
 |fn f l cs hl h ih=>exact .fn f l cs hl ih
 |fb f l cs hl h ih=>exact .fb f l cs hl ih
 |yl h=>exact .yl (hm _ _ h)
 |nf=>exact .nf
 |ni=>exact .ni
 |ag l cs hl h ih=>exact .ag l cs hl ih
 |tu l cs hl h ih=>exact .tu l cs hl ih
 |x v=>exact .x v
def VL (m:Mp) (l:List AV) (vs:List Value):Prop:=l.length=vs.length∧∀(i:Nat) (a:AV) (v:Value),l[i]?=some a→vs[i]?=some v→VR m a v
theorem VL.nil (m:Mp):VL m [] []:=⟨rfl,fun i a v h=>by simp at h⟩
theorem VL.cons {m:Mp} {a:AV} {v:Value} {l:List AV} {vs:List Value} (h:VR m a v) (k:VL m l vs):VL m (a::l) (v::vs):=
 ⟨by simp[k.1],fun i x y hx hy=>by
   cases i with
   |zero=>simp only[List.getElem?_cons_zero,Option.some.injEq]at hx hy;subst hx hy;exact h
   |succ i=>simp only[Ke]at hx hy;exact k.2 i x y hx hy⟩
theorem VL.mono {m m':Mp} (hm:m.le m') {l:List AV} {vs:List Value} (h:VL m l vs):VL m' l vs:=⟨h.1,fun i a v x y=>(h.2 i a v x y).mono hm⟩
theorem VL.inv {m:Mp} {a:AV} {l:List AV} {vs:List Value} (h:VL m (a::l) vs):∃v r,vs=v::r∧VR m a v∧VL m l r:=by
 cases vs with
 |nil=>have:=h.1;simp at this
 |cons v r=>exact⟨v,r,rfl,h.2 0 a v rfl rfl,by have:=h.1;simpa using this,fun i x y hx hy=>h.2 (i+1) x y (by simpa using hx) (by simpa using hy)⟩
theorem VL.nil_inv {m:Mp} {vs:List Value} (h:VL m [] vs):vs=[]:=by cases vs with
 |nil=>rfl
 |cons v r=>have:=h.1;simp at this
theorem VL.get {m:Mp} {l:List AV} {vs:List Value} (h:VL m l vs) {i:Nat} {a:AV} (ha:l[i]?=some a):∃v,vs[i]?=some v∧VR m a v:=by
 have hi:i<vs.length:=by rw[←h.1];exact(Gn.1 ha).1
 exact⟨vs[i],by simp,h.2 i a _ ha (by simp)⟩
theorem VL.append {m:Mp} {l k:List AV} {vs ws:List Value} (h:VL m l vs) (h':VL m k ws):VL m (l++k) (vs++ws):=by
 refine⟨by simp[h.1,h'.1],fun i a v ha hv=>?_⟩
 by_cases hi:i<l.length
 · rw[Ii hi]at ha
   rw[Ii (by rw[←h.1];exact hi)]at hv
   exact h.2 i a v ha hv
 · rw[Fy (by omega)]at ha
   rw[Fy (by rw[←h.1];omega),←h.1]at hv
   exact h'.2 _ a v ha hv
structure TR (m:Mp) (N:Nat) (t:T AV) (tm:Array Value):Prop where
 size:tm.size=N
 glob:∃s,m (Ay 2)=some ⟨0,0,s⟩
 get:∀i,VR m (T.get und t (Ay (i+1))) (tm.getD i undef)
theorem TR.mono {m m':Mp} (hm:m.le m') {N:Nat} {t:T AV} {tm:Array Value} (h:TR m N t tm):TR m' N t tm:=
 ⟨h.size,h.glob.elim fun s e=>⟨s,hm _ _ e⟩,fun i=>(h.get i).mono hm⟩
def Cs (m:Mp) (n:Nat) (cs:T AV) (base:Nat) (c:Array Value):Prop:=∀i,i<n→∃v,c[base+i]?=some v∧VR m (T.get .x cs (Ay (i+1))) v
structure LR (m:Mp) (L:AL) (c:Loop):Prop where
 st:c.state=L.st
 pend:c.pending=L.pend
 tm:TR m L.N L.tm c.tmps
 ps:c.params.toList=L.ps
 asg:c.assign=L.asg
 body:c.body=L.body
def ES (m:Mp):List (AV×AV×Nat)→List MapEntry→Prop
 |[],[]=>True
 |a::r,e::s=>VR m a.1 e.key∧VR m a.2.1 e.val∧a.2.2=e.born∧ES m r s
 |_,_=>False
def OR (m:Mp) (o:AO) (l:Loc) (w:World):Prop:=match o with
 |.dead=>True
 |.cells n cs fz ro ty=>∃c fr,w.heap[l.blk]?=some (.cells c ty fr)∧c.size=l.sz∧l.base+n≤c.size∧Cs m n cs l.base c∧(ro=false→fr.2≤l.base+fz)
 |.map es clk=>∃ces,w.heap[l.blk]?=some (.map ces clk)∧ES m es ces.toList
 |.iter s pos=>∃b,w.heap[l.blk]?=some (.stringIter b pos)∧Ep b=s∧l.base=0
 |.loop L=>∃c,w.heap[l.blk]?=some (.loop c)∧LR m L c
 |.marks=>w.heap[l.blk]?=some (.deferred (some []))
def N4:AO→Prop
 |.cells _ _ _ true _=>True
 |_=>False
theorem E9 (h:H) (id:Pos) (o:AO) (j:Pos):hg (hs h id o) j=if j=id then o else hg h j:=Lu _ _ _ _ _
theorem ES.mono {m m':Mp} (hm:m.le m'):∀ {es:List (AV×AV×Nat)} {cs:List MapEntry},ES m es cs→ES m' es cs
 |[],[],_=>trivial
 |_::_,_::_,h=>⟨h.1.mono hm,h.2.1.mono hm,h.2.2.1,ES.mono hm h.2.2.2⟩
theorem OR.mono {m m':Mp} (hm:m.le m') {o:AO} {l:Loc} {w w':World} (h:OR m o l w) (hw:w'.heap[l.blk]?=w.heap[l.blk]?):OR m' o l w':=by
 cases o with
 |dead=>trivial
 |cells n cs fz ro ty=>
  obtain⟨c,fr,h1,h2,h3,h4,h5⟩:=h
  exact⟨c,fr,hw.trans h1,h2,h3,fun i hi=>by obtain⟨v,a,b⟩:=h4 i hi;exact⟨v,a,b.mono hm⟩,h5⟩
 |map es clk=>obtain⟨c,h1,h2⟩:=h;exact⟨c,hw.trans h1,h2.mono hm⟩
 |iter s pos=>obtain⟨b,h1,h2⟩:=h;exact⟨b,hw.trans h1,h2⟩
 |loop L=>obtain⟨c,h1,h2⟩:=h;exact⟨c,hw.trans h1,⟨h2.st,h2.pend,h2.tm.mono hm,h2.ps,h2.asg,h2.body⟩⟩
 |marks=>exact hw.trans h
structure Mem (m:Mp) (h:H) (nx:Pos) (w:World):Prop where
 ob:∀id l,m id=some l→OR m (hg h id) l w
 ij:∀i j k l,m i=some k→m j=some l→k.blk=l.blk→i=j∨hg h i=.dead∨hg h j=.dead
 lt:∀id l,m id=some l→id.toN<nx.toN
 bl:∀id l,m id=some l→l.blk<w.heap.size
 bs:∀id l,m id=some l→l.base=0
structure Ext (m:Mp) (h:H) (nx:Pos) (w:World) (m':Mp) (h':H) (nx':Pos) (w':World):Prop where
 le:m.le m'
 nle:nx.toN≤nx'.toN
 virt:∀id,id.toN<nx.toN→m id=none→m' id=none∧hg h' id=hg h id
 old:∀b,b<w.heap.size→(∀id l,m id=some l→l.blk=b→N4 (hg h id))→w'.heap[b]?=w.heap[b]?
 size:w.heap.size≤w'.heap.size
 fresh:∀id l,m' id=some l→m id=none→w.heap.size≤l.blk∨∃j k,m j=some k∧k.blk=l.blk∧¬N4 (hg h j)
 ros:∀id l,m id=some l→(N4 (hg h id)→hg h' id=hg h id)∧(N4 (hg h' id)→N4 (hg h id))
 nro:∀id l,m' id=some l→m id=none→¬N4 (hg h' id)
 os:w'.os=w.os
 tape:w'.tape=w.tape
 output:w'.output=w.output
theorem Ext.refl (m:Mp) (h:H) (nx:Pos) (w:World):Ext m h nx w m h nx w:=
 ⟨.refl m,Ag _,fun _ _ h=>⟨h,rfl⟩,fun _ _ _=>rfl,Ag _,fun _ _ h k=>(by rw[k]at h;cases h),fun _ _ _=>⟨fun _=>rfl,id⟩,
  fun _ _ h k=>(by rw[k]at h;cases h),rfl,rfl,rfl⟩
theorem Ext.trans {m:Mp} {h:H} {nx:Pos} {w:World} {m1:Mp} {h1:H} {nx1:Pos} {w1:World} {m2:Mp} {h2:H} {nx2:Pos} {w2:World}
 (a:Ext m h nx w m1 h1 nx1 w1) (b:Ext m1 h1 nx1 w1 m2 h2 nx2 w2):Ext m h nx w m2 h2 nx2 w2:=by
 refine⟨a.le.trans b.le,Cr a.nle b.nle,?_,?_,Cr a.size b.size,?_,?_,?_,b.os.trans a.os,b.tape.trans a.tape,b.output.trans a.output⟩
 · intro id hi hn
   obtain⟨h1,h2⟩:=a.virt id hi hn
   obtain⟨h3,h4⟩:=b.virt id (Na hi a.nle) h1
   exact⟨h3,h4.trans h2⟩
 · intro x hx hr
   refine(b.old x (Na hx a.size) ?_).trans (a.old x hx hr)
   intro id l hl hb
   cases hm:m id with
   |some k=>
    have:=a.le _ _ hm
    rw[hl]at this;cases this
    have hro:=hr id l hm hb
    rw[((a.ros id l hm).1 hro)];exact hro
   |none=>
    rcases a.fresh id l hl hm with hge|⟨j,k,hj,hk,hn⟩
    · omega
    · exact absurd (hr j k hj (hk.trans hb)) hn
 · intro id l hl hn
   cases hm:m1 id with
   |some k=>
    have:=b.le _ _ hm
    rw[hl]at this;cases this
    exact a.fresh id l hm hn
   |none=>
    rcases b.fresh id l hl hm with hge|⟨j,k,hj,hk,hnr⟩
    · exact .inl (Cr a.size hge)
    · cases hmj:m j with
      |some k'=>
       have:=a.le _ _ hmj
       rw[hj]at this;cases this
       refine .inr ⟨j,k,hmj,hk,fun hro=>hnr ?_⟩
       rw[((a.ros j k hmj).1 hro)];exact hro
      |none=>
       rcases a.fresh j k hj hmj with hge|⟨j',k',hj',hk',hn'⟩
       · exact .inl (by omega)
       · exact .inr ⟨j',k',hj',hk'.trans hk,hn'⟩
 · intro id l hl
   obtain⟨x1,x2⟩:=a.ros id l hl
   obtain⟨y1,y2⟩:=b.ros id l (a.le _ _ hl)
   refine⟨fun hr=>?_,fun hr=>x2 (y2 hr)⟩
   have e:=x1 hr
   rw[y1 (by rw[e];exact hr),e]
 · intro id l hl hn
   cases hm:m1 id with
   |some k=>
    have:=b.le _ _ hm
    rw[hl]at this;cases this
    exact fun hr=>a.nro id l hm hn ((b.ros id l hm).2 hr)
   |none=>exact b.nro id l hl hm
end Go.CE
