/- Part 21 of the lemmas behind the claim. -/
import Derived.Test.YtacpdfjcepkgcaaGreatDoorZA01
import Derived.Test.YtacpdfjcepkgcaaGreatDoorZA09
import Derived.Test.YtacpdfjcepkgcaaGreatDoorRows
import Derived.ProofKit
import Derived.OpenShut
import Derived.ShutString
import Derived.ChangeOld
import Derived.Below
import Derived.SizedLaws
set_option linter.unusedSimpArgs false
set_option linter.unusedVariables false
set_option linter.constructorNameAsVariable false
set_option linter.unusedSectionVars false
set_option linter.defProp false
set_option maxRecDepth 100000
set_option maxHeartbeats 40000000
namespace Go.Proofs.YtacpdfjcepkgcaaGreatDoor
open Go.ChangeShapes Go.WideShapes Go.ChangeAt Go.RowKit Go.GV
theorem own:ownKnob Tryz.prog.godebug=none:=by kernel_rfl
theorem Z0:laidOutB Tryz.prog=true:=by kernel_rfl
theorem fMaps:mapsRowed Tryz.prog=true:=by kernel_rfl
theorem fHeard:Tryz.prog.stopsHeard=true:=by kernel_rfl
theorem fEnter:Tryz.prog.mayEnter=true:=by kernel_rfl
theorem fLifts:(Rows.topUnitRow.lifted==Tryz.prog.liftsFinal)=true:=by kernel_rfl
theorem fMake:(Tryz.prog.make==some Rows.topUnitRow.make)=true:=by kernel_rfl
theorem jmk {a0 a1 a2 a3 a4 a5 a6 a7 a8 a9 a10 a11 a12 a13 a14 a15 a16 a17 a18 a19 a20 a21 a22 a23 a24 a25 a26 a27 a28 a29 a30 a31:Bool} (h0:a0=true) (h1:a1=true) (h2:a2=true) (h3:a3=true) (h4:a4=true) (h5:a5=true) (h6:a6=true) (h7:a7=true) (h8:a8=true) (h9:a9=true) (h10:a10=true) (h11:a11=true) (h12:a12=true) (h13:a13=true) (h14:a14=true) (h15:a15=true) (h16:a16=true) (h17:a17=true) (h18:a18=true) (h19:a19=true) (h20:a20=true) (h21:a21=true) (h22:a22=true) (h23:a23=true) (h24:a24=true) (h25:a25=true) (h26:a26=true) (h27:a27=true) (h28:a28=true) (h29:a29=true) (h30:a30=true) (h31:a31=true) :
 (a0&&a1&&a2&&a3&&a4&&a5&&a6&&a7&&a8&&a9&&a10&&a11&&a12&&a13&&a14&&a15&&a16&&a17&&a18&&a19&&a20&&a21&&a22&&a23&&a24&&a25&&a26&&a27&&a28&&a29&&a30&&a31)=true:=by simp only[h0,h1,h2,h3,h4,h5,h6,h7,h8,h9,h10,h11,h12,h13,h14,h15,h16,h17,h18,h19,h20,h21,h22,h23,h24,h25,h26,h27,h28,h29,h30,h31,Bool.and_self]
end Go.Proofs.YtacpdfjcepkgcaaGreatDoor
