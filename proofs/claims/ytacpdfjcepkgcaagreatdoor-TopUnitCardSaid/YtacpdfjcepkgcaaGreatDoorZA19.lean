/- Part 19 of the lemmas behind the claim. -/
import Derived.Test.YtacpdfjcepkgcaaGreatDoorZA01
import Derived.Shelf.SlGeneric
import Derived.Shelf.Small.Strs
import Derived.Shelf.Strings.Search3
import Derived.Shelf.LaysM
import Derived.Shelf.Strings.SlTrimAscii
import Derived.Shelf.SlSortCmp.WholeK
import Derived.Shelf.Bits.Mul64
import Derived.Test.YtacpdfjcepkgcaaGreatDoorProg
import Derived.Test.YtacpdfjcepkgcaaGreatDoorZA18
set_option linter.unusedSimpArgs false
set_option linter.unusedVariables false
set_option linter.constructorNameAsVariable false
set_option linter.unusedSectionVars false
set_option linter.defProp false
set_option maxRecDepth 100000
set_option maxHeartbeats 40000000
namespace Go.Proofs
open Go.Shelf
def Tryz.lays137_ren:Go.Shelf.Ren:=⟨fun|137=>75|217=>130|266=>179|n=>n,fun|9=>9|5=>5|3=>3|n=>n,fun|n=>n⟩
theorem Tryz.lays137:Go.Proofs.Lays.n137 Tryz.prog Tryz.lays137_ren:={
 mixed:=by kernel_rfl
 f137:=Tryz.func75.trans (congrArg some (by kernel_rfl))
 f217:=Tryz.func130.trans (congrArg some (by kernel_rfl))
 f266:=Tryz.func179.trans (congrArg some (by kernel_rfl))
 t3:=Tryz.underlying3
 a3:=Tryz.isAgg3
 z3:=Tryz.sizeOf3
 v3:=Tryz.zeroValue3
 t5:=Tryz.underlying5
 a5:=Tryz.isAgg5
 z5:=Tryz.sizeOf5
 v5:=Tryz.zeroValue5
 t9:=Tryz.underlying9
 a9:=Tryz.isAgg9
 z9:=Tryz.sizeOf9
 v9:=Tryz.zeroValue9}
def Tryz.lays143_ren:Go.Shelf.Ren:=⟨fun|143=>104|219=>152|217=>130|225=>191|224=>192|267=>193|266=>179|314=>220|n=>n,fun|9=>9|3=>3|4=>4|5=>5|46=>193|146=>297|51=>286|n=>n,fun|1=>0|n=>n⟩
theorem Tryz.lays143:Go.Proofs.Lays.n143 Tryz.prog Tryz.lays143_ren:={
 mixed:=by kernel_rfl
 f143:=Tryz.func104.trans (congrArg some (by kernel_rfl))
 f217:=Tryz.func130.trans (congrArg some (by kernel_rfl))
 f219:=Tryz.func152.trans (congrArg some (by kernel_rfl))
 f224:=Tryz.func192.trans (congrArg some (by kernel_rfl))
 f225:=Tryz.func191.trans (congrArg some (by kernel_rfl))
 f266:=Tryz.func179.trans (congrArg some (by kernel_rfl))
 f267:=Tryz.func193.trans (congrArg some (by kernel_rfl))
 f314:=Tryz.func220.trans (congrArg some (by kernel_rfl))
 t3:=Tryz.underlying3
 a3:=Tryz.isAgg3
 z3:=Tryz.sizeOf3
 v3:=Tryz.zeroValue3
 t4:=Tryz.underlying4
 a4:=Tryz.isAgg4
 z4:=Tryz.sizeOf4
 v4:=Tryz.zeroValue4
 t5:=Tryz.underlying5
 a5:=Tryz.isAgg5
 z5:=Tryz.sizeOf5
 v5:=Tryz.zeroValue5
 t9:=Tryz.underlying9
 a9:=Tryz.isAgg9
 z9:=Tryz.sizeOf9
 v9:=Tryz.zeroValue9
 t46:=Tryz.underlying193
 a46:=Tryz.isAgg193
 z46:=Tryz.sizeOf193
 v46:=Tryz.zeroValue193
 t51:=Tryz.underlying286
 a51:=Tryz.isAgg286
 z51:=Tryz.sizeOf286
 v51:=Tryz.zeroValue286
 t146:=Tryz.underlying297
 a146:=Tryz.isAgg297
 z146:=Tryz.sizeOf297
 v146:=Tryz.zeroValue297
 g1:=by kernel_rfl}
def Tryz.lays162_ren:Go.Shelf.Ren:=⟨fun|162=>124|232=>175|227=>176|234=>177|236=>178|228=>212|271=>213|151=>214|120=>227|197=>228|152=>229|260=>236|137=>75|119=>237|224=>192|225=>191|217=>130|266=>179|n=>n,fun|9=>9|4=>4|3=>3|5=>5|117=>266|116=>265|0=>0|124=>269|21=>21|105=>293|46=>193|119=>309|139=>312|138=>311|n=>n,fun|3=>1|4=>2|n=>n⟩
theorem Tryz.lays162:Go.Proofs.Lays.n162 Tryz.prog Tryz.lays162_ren:={
 mixed:=by kernel_rfl
 f119:=Tryz.func237.trans (congrArg some (by kernel_rfl))
 f120:=Tryz.func227.trans (congrArg some (by kernel_rfl))
 f137:=Tryz.func75.trans (congrArg some (by kernel_rfl))
 f151:=Tryz.func214.trans (congrArg some (by kernel_rfl))
 f152:=Tryz.func229.trans (congrArg some (by kernel_rfl))
 f162:=Tryz.func124.trans (congrArg some (by kernel_rfl))
 f197:=Tryz.func228.trans (congrArg some (by kernel_rfl))
 f217:=Tryz.func130.trans (congrArg some (by kernel_rfl))
 f224:=Tryz.func192.trans (congrArg some (by kernel_rfl))
 f225:=Tryz.func191.trans (congrArg some (by kernel_rfl))
 f227:=Tryz.func176.trans (congrArg some (by kernel_rfl))
 f228:=Tryz.func212.trans (congrArg some (by kernel_rfl))
 f232:=Tryz.func175.trans (congrArg some (by kernel_rfl))
 f234:=Tryz.func177.trans (congrArg some (by kernel_rfl))
 f236:=Tryz.func178.trans (congrArg some (by kernel_rfl))
 f260:=Tryz.func236.trans (congrArg some (by kernel_rfl))
 f266:=Tryz.func179.trans (congrArg some (by kernel_rfl))
 f271:=Tryz.func213.trans (congrArg some (by kernel_rfl))
 t0:=Tryz.underlying0
 a0:=Tryz.isAgg0
 z0:=Tryz.sizeOf0
 v0:=Tryz.zeroValue0
 t3:=Tryz.underlying3
 a3:=Tryz.isAgg3
 z3:=Tryz.sizeOf3
 v3:=Tryz.zeroValue3
 t4:=Tryz.underlying4
 a4:=Tryz.isAgg4
 z4:=Tryz.sizeOf4
 v4:=Tryz.zeroValue4
 t5:=Tryz.underlying5
 a5:=Tryz.isAgg5
 z5:=Tryz.sizeOf5
 v5:=Tryz.zeroValue5
 t9:=Tryz.underlying9
 a9:=Tryz.isAgg9
 z9:=Tryz.sizeOf9
 v9:=Tryz.zeroValue9
 t21:=Tryz.underlying21
 a21:=Tryz.isAgg21
 z21:=Tryz.sizeOf21
 v21:=Tryz.zeroValue21
 t46:=Tryz.underlying193
 a46:=Tryz.isAgg193
 z46:=Tryz.sizeOf193
 v46:=Tryz.zeroValue193
 t105:=Tryz.underlying293
 a105:=Tryz.isAgg293
 z105:=Tryz.sizeOf293
 v105:=Tryz.zeroValue293
 t116:=Tryz.underlying265
 a116:=Tryz.isAgg265
 z116:=Tryz.sizeOf265
 t117:=Tryz.underlying266
 a117:=Tryz.isAgg266
 z117:=Tryz.sizeOf266
 v117:=Tryz.zeroValue266
 t119:=Tryz.underlying309
 a119:=Tryz.isAgg309
 z119:=Tryz.sizeOf309
 t124:=Tryz.underlying269
 a124:=Tryz.isAgg269
 z124:=Tryz.sizeOf269
 v124:=Tryz.zeroValue269
 t138:=Tryz.underlying311
 a138:=Tryz.isAgg311
 z138:=Tryz.sizeOf311
 v138:=Tryz.zeroValue311
 t139:=Tryz.underlying312
 a139:=Tryz.isAgg312
 z139:=Tryz.sizeOf312
 v139:=Tryz.zeroValue312
 g3:=by kernel_rfl
 g4:=by kernel_rfl}
def Tryz.lays264_ren:Go.Shelf.Ren:=⟨fun|264=>70|n=>n,fun|53=>109|46=>193|n=>n,fun|n=>n⟩
theorem Tryz.lays264:Go.Proofs.Lays.n264 Tryz.prog Tryz.lays264_ren:={
 mixed:=by kernel_rfl
 f264:=Tryz.func70.trans (congrArg some (by kernel_rfl))
 t46:=Tryz.underlying193
 a46:=Tryz.isAgg193
 z46:=Tryz.sizeOf193
 v46:=Tryz.zeroValue193
 t53:=Tryz.underlying109
 a53:=Tryz.isAgg109
 z53:=Tryz.sizeOf109
 v53:=Tryz.zeroValue109}
def Tryz.sortB_ren:Go.Shelf.Ren:=⟨fun|6=>116|15=>165|14=>164|28=>207|29=>208|20=>199|21=>200|22=>201|23=>202|24=>203|25=>204|26=>205|27=>206|46=>221|47=>222|48=>223|49=>224|50=>225|57=>235|n=>n,fun|22=>217|24=>225|25=>226|3=>3|39=>193|0=>0|53=>286|55=>109|4=>4|46=>280|45=>279|50=>176|5=>5|9=>9|66=>299|70=>153|76=>306|77=>250|n=>n,fun|n=>n⟩
theorem Tryz.sortB:Go.Proofs.SlLaysF0.n6 Tryz.prog Tryz.sortB_ren:={
 mixed:=by kernel_rfl
 f6:=⟨Tryz.f116.name,by decide,Tryz.func116.trans (congrArg some (by kernel_rfl))⟩
 f14:=⟨Tryz.f164.name,by decide,Tryz.func164.trans (congrArg some (by kernel_rfl))⟩
 f15:=Tryz.func165.trans (congrArg some (by kernel_rfl))
 f20:=⟨Tryz.f199.name,by decide,Tryz.func199.trans (congrArg some (by kernel_rfl))⟩
 f21:=⟨Tryz.f200.name,by decide,Tryz.func200.trans (congrArg some (by kernel_rfl))⟩
 f22:=⟨Tryz.f201.name,by decide,Tryz.func201.trans (congrArg some (by kernel_rfl))⟩
 f23:=⟨Tryz.f202.name,by decide,Tryz.func202.trans (congrArg some (by kernel_rfl))⟩
 f24:=⟨Tryz.f203.name,by decide,Tryz.func203.trans (congrArg some (by kernel_rfl))⟩
 f25:=⟨Tryz.f204.name,by decide,Tryz.func204.trans (congrArg some (by kernel_rfl))⟩
 f26:=⟨Tryz.f205.name,by decide,Tryz.func205.trans (congrArg some (by kernel_rfl))⟩
 f27:=⟨Tryz.f206.name,by decide,Tryz.func206.trans (congrArg some (by kernel_rfl))⟩
 f28:=Tryz.func207.trans (congrArg some (by kernel_rfl))
 f29:=Tryz.func208.trans (congrArg some (by kernel_rfl))
 f46:=⟨Tryz.f221.name,by decide,Tryz.func221.trans (congrArg some (by kernel_rfl))⟩
 f47:=Tryz.func222.trans (congrArg some (by kernel_rfl))
 f48:=Tryz.func223.trans (congrArg some (by kernel_rfl))
 f49:=⟨Tryz.f224.name,by decide,Tryz.func224.trans (congrArg some (by kernel_rfl))⟩
 f50:=⟨Tryz.f225.name,by decide,Tryz.func225.trans (congrArg some (by kernel_rfl))⟩
 f57:=⟨Tryz.f235.name,by decide,Tryz.func235.trans (congrArg some (by kernel_rfl))⟩
 t0:=Tryz.underlying0
 a0:=Tryz.isAgg0
 z0:=Tryz.sizeOf0
 v0:=Tryz.zeroValue0
 t3:=Tryz.underlying3
 a3:=Tryz.isAgg3
 z3:=Tryz.sizeOf3
 v3:=Tryz.zeroValue3
 t4:=Tryz.underlying4
 a4:=Tryz.isAgg4
 z4:=Tryz.sizeOf4
 v4:=Tryz.zeroValue4
 t5:=Tryz.underlying5
 a5:=Tryz.isAgg5
 z5:=Tryz.sizeOf5
 v5:=Tryz.zeroValue5
 t9:=Tryz.underlying9
 a9:=Tryz.isAgg9
 z9:=Tryz.sizeOf9
 v9:=Tryz.zeroValue9
 t22:=Tryz.underlying217
 a22:=Tryz.isAgg217
 z22:=Tryz.sizeOf217
 v22:=Tryz.zeroValue217
 t25:=Tryz.underlying226
 a25:=Tryz.isAgg226
 z25:=Tryz.sizeOf226
 v25:=Tryz.zeroValue226
 t39:=Tryz.underlying193
 a39:=Tryz.isAgg193
 z39:=Tryz.sizeOf193
 v39:=Tryz.zeroValue193
 t45:=Tryz.underlying279
 a45:=Tryz.isAgg279
 z45:=Tryz.sizeOf279
 v45:=Tryz.zeroValue279
 t46:=Tryz.underlying280
 a46:=Tryz.isAgg280
 z46:=Tryz.sizeOf280
 v46:=Tryz.zeroValue280
 t50:=Tryz.underlying176
 a50:=Tryz.isAgg176
 z50:=Tryz.sizeOf176
 v50:=Tryz.zeroValue176
 t53:=Tryz.underlying286
 a53:=Tryz.isAgg286
 z53:=Tryz.sizeOf286
 v53:=Tryz.zeroValue286
 t55:=Tryz.underlying109
 a55:=Tryz.isAgg109
 z55:=Tryz.sizeOf109
 v55:=Tryz.zeroValue109
 t66:=Tryz.underlying299
 a66:=Tryz.isAgg299
 z66:=Tryz.sizeOf299
 v66:=Tryz.zeroValue299
 t70:=Tryz.underlying153
 a70:=Tryz.isAgg153
 z70:=Tryz.sizeOf153
 v70:=Tryz.zeroValue153
 t76:=Tryz.underlying306
 a76:=Tryz.isAgg306
 z76:=Tryz.sizeOf306
 v76:=Tryz.zeroValue306
 t77:=Tryz.underlying250
 a77:=Tryz.isAgg250
 z77:=Tryz.sizeOf250
 v77:=Tryz.zeroValue250}
end Go.Proofs
namespace Go.CE
open Go Go.GV Go.Proofs Go.Proofs.YtacpdfjcepkgcaaGreatDoor Go.RowKit Go.Lib Go.Sort
theorem Me (s:ByteArray):(Ep s).map UInt8.ofNat=s.data.toList:=by
 rw[Fp,List.map_map]
 have:(UInt8.ofNat ∘ UInt8.toNat)=id:=by funext x;simp
 rw[this,List.map_id]
theorem upon_of {P:Program} {f:Nat} {args:Array Value} {w:World} {S:Value→World→Prop} (hen:(callFunc f args).run P w=.ok (.enter f args) w) (h:Calls P f args w fun e w'=>∃v,e=.returned v∧S v w'):Vk P S ((callFunc f args).run P w):=by
 rw[hen]
 show CallsIn (FR none) 0 P f args w _
 refine CallsIn.mono (F:=FR none) (callsIn_wide.2 h) fun e w' he=>?_
 obtain⟨v,rfl,hs⟩:=he
 exact hs
theorem mem_same {m:Mp} {h:H} {nx:Pos} {w w':World} (M:Mem m h nx w) (B:Below w.heap.size w w'):Mem m h nx w'∧Ext m h nx w m h nx w':=
 ⟨⟨fun id l e=>(M.ob id l e).mono (.refl m) (B.block _ (M.bl _ _ e)),M.ij,M.lt,fun id l e=>Na (M.bl _ _ e) B.size,M.bs⟩,
   .refl m,Ag _,fun _ _ h=>⟨h,rfl⟩,fun b hb _=>B.block b hb,B.size,fun _ _ h k=>(by rw[k]at h;cases h),fun _ _ _=>⟨fun _=>rfl,id⟩,fun _ _ h k=>(by rw[k]at h;cases h),B.os,B.tape,B.output⟩
theorem K8 {f:Nat} {fn:Func} {c:Code} (hf:Tryz.prog.funcs[f]?=some fn) (hn:(fn.name == "runtime.NumGoroutine") = false) (hb:fn.body=some c) (args:Array Value) (w:World):(callFunc f args).run Tryz.prog w=.ok (.enter f args) w:=Dx hf hn hb args w
def OrcR (P:Program) (f:Nat) (l:List AV) (h:H) (nx:Pos) (k:K):Prop:=∃v h' nx',k v h' nx'=true∧∀m w vs s,Mem m h nx w→m (Ay 2)=some ⟨0,0,s⟩→VL m l vs →
    Vk P (Fin m h nx w v h' nx') ((callFunc f vs.toArray).run P w)∧(callFunc f vs.toArray).run P w=.ok (.enter f vs.toArray) w
theorem T9 {P:Program} {f:Nat} {l:List AV} {h:H} {nx:Pos} {k:K} {v:AV} {h':H} {nx':Pos} (hen:∀args w,(callFunc f args).run P w=.ok (.enter f args) w) (hk:k v h' nx'=true)
 (hC:∀m w vs s,Mem m h nx w→m (Ay 2)=some ⟨0,0,s⟩→VL m l vs→Calls P f vs.toArray w fun e w'=>∃cv,e=.returned cv∧Fin m h nx w v h' nx' cv w'):OrcR P f l h nx k:=
 ⟨v,h',nx',hk,fun m w vs s M hs hv=>⟨upon_of (hen _ _) (hC m w vs s M hs hv),hen _ _⟩⟩
theorem orc_index {a b:List Nat} {h:H} {nx:Pos} {k:K} {ls rs:T AV} {z:Int} {fz:Nat} {ro:Bool} {ty:Nat} (hlen:Nat.ble a.length 4294967280=true) (ho:hg h (Ay 2)=.cells 1 (.n ls (.i .i64 z) rs) fz ro ty) (hk:k (.i .i64 (Wf a b)) h nx=true):OrcR Tryz.prog 104 [.s a,.s b] h nx k:=by
 refine T9 (fun args w=>K8 Tryz.func104 rfl rfl args w) hk fun m w vs s M hs hv=>?_
 obtain⟨x,r,rfl,hx,hr⟩:=hv.inv
 obtain⟨y,r,rfl,hy,hr⟩:=hr.inv
 cases hr.nil_inv
 obtain⟨x,rfl,rfl⟩:=hx.s_inv
 obtain⟨y,rfl,rfl⟩:=hy.s_inv
 have ob:=M.ob _ _ hs
 rw[ho]at ob
 obtain⟨c,fr,h1,h2,h3,h4,-⟩:=ob
 obtain⟨v,e1,e2⟩:=h4 0 (by omega)
 have hv:v=.int .i64 z:=(show VR m (.i .i64 z) v from e2).i_inv
 subst hv
 refine(Any.strings_Index Tryz.lays143 x y z w (by rw[Ei]at hlen;have:=Aa hlen;omega) (by show World.cell? w ⟨0,0,none⟩=_;simp only[World.cell?,h1];simpa using e1)).mono ?_
 rintro e w' ⟨rfl,rfl⟩
 refine⟨_,rfl,m,?_,M,.refl ..⟩
 unfold Wf
 rw[Me,Me]
 exact .i _ _
theorem orc_ibyte {a:List Nat} {c:Nat} {h:H} {nx:Pos} {k:K} (hk:k (.i .i64 (Ft a c)) h nx=true):OrcR Tryz.prog 75 [.s a,.i .u8 (.ofNat c)] h nx k:=by
 refine T9 (fun args w=>K8 Tryz.func75 rfl rfl args w) hk fun m w vs s M hs hv=>?_
 obtain⟨x,r,rfl,hx,hr⟩:=hv.inv
 obtain⟨y,r,rfl,hy,hr⟩:=hr.inv
 cases hr.nil_inv
 obtain⟨x,rfl,rfl⟩:=hx.s_inv
 cases hy.i_inv
 refine(Any.strings_IndexByte Tryz.lays137 x (.ofNat c) w).mono ?_
 rintro e w' ⟨rfl,rfl⟩
 refine⟨_,rfl,m,?_,M,.refl ..⟩
 unfold Ft
 rw[Me]
 exact .i _ _
theorem orc_mul {a b:Nat} {h:H} {nx:Pos} {k:K} (ha:Nat.ble a 18446744073709551615=true) (hb:Nat.ble b 18446744073709551615=true) (hk:k (.tu [.i .u64 (.ofNat (P9 a b)),.i .u64 (.ofNat (R1 a b))]) h nx=true):OrcR Tryz.prog 70 [.i .u64 (.ofNat a),.i .u64 (.ofNat b)] h nx k:=by
 refine T9 (fun args w=>K8 Tryz.func70 rfl rfl args w) hk fun m w vs s M hs hv=>?_
 obtain⟨x,r,rfl,hx,hr⟩:=hv.inv
 obtain⟨y,r,rfl,hy,hr⟩:=hr.inv
 cases hr.nil_inv
 cases hx.i_inv
 cases hy.i_inv
 have h1:=Aa ha
 have h2:=Aa hb
 refine(Any.bits_Mul64 Tryz.lays264 a b (by omega) (by omega) w).mono ?_
 rintro e w' ⟨rfl,rfl⟩
 exact⟨_,rfl,m,VR.tuL (.cons (.i _ _) (.cons (.i _ _) (.nil m))),M,.refl ..⟩
theorem orc_trim {a b:List Nat} {h:H} {nx:Pos} {k:K} (hla:Nat.ble a.length 4294967280=true) (hlb:Nat.ble b.length 4294967280=true) (hb:(b.all fun x=>Nat.ble x 127)=true) (hk:k (.s (trimR a b)) h nx=true):OrcR Tryz.prog 124 [.s a,.s b] h nx k:=by
 refine T9 (fun args w=>K8 Tryz.func124 rfl rfl args w) hk fun m w vs s M hs hv=>?_
 obtain⟨x,r,rfl,hx,hr⟩:=hv.inv
 obtain⟨y,r,rfl,hy,hr⟩:=hr.inv
 cases hr.nil_inv
 obtain⟨x,rfl,rfl⟩:=hx.s_inv
 obtain⟨y,rfl,rfl⟩:=hy.s_inv
 rw[Ei]at hla hlb
 have:=Aa hla
 have:=Aa hlb
 refine(Any.strings_TrimRight_laid Tryz.lays162 (by kernel_rfl) x y w (by omega) (by omega) (fun j u hu=>?_)).mono ?_
 · have:=List.all_eq_true.1 hb u.toNat (by rw[Fp];exact Dz.2 ⟨u,Gm hu,rfl⟩)
   have:=Aa this
   omega
 rintro e w' ⟨rfl,B⟩
 obtain⟨M',E⟩:=mem_same M B
 refine⟨_,rfl,m,?_,M',E⟩
 unfold trimR
 rw[Me,Me]
 have:=VR.s (m:=m) (⟨(Lib.trimRightS x.data.toList y.data.toList).toArray⟩:ByteArray)
 rw[Fp]at this
 exact this
def J9 (z:Int):Int:=z%4294967296
theorem cut32_le (z:Int):0≤J9 z∧J9 z<4294967296:=by unfold J9;omega
theorem U3 {z:Int} (h:0≤z∧z<4294967296):J9 z=z:=by unfold J9;omega
def L5 (x:Int×Int):List Value:=[.int .i64 (J9 x.1),.int .i64 x.2]
def cfK (x y:Int×Int):Int:=J9 x.1-J9 y.1
theorem ltK (x y:Int×Int):ltOf cfK x y=decide (J9 x.1<J9 y.1):=by
 unfold ltOf cfK
 by_cases h:J9 x.1<J9 y.1
 · rw[decide_eq_true h,decide_eq_true (by omega)]
 · rw[decide_eq_false h,decide_eq_false (by omega)]
theorem swoK:SWO (ltOf cfK) where
 irrefl x:=by rw[ltK];simp
 trans x y z h1 h2:=by rw[ltK]at *;simp at *;omega
 ntrans x y z h1 h2:=by rw[ltK]at *;simp at *;omega
theorem closK (a b c d:Int) (W:World) (ha:0≤a∧a<4294967296) (hb:0≤b∧b<4294967296):Calls Tryz.prog 117 #[.agg #[.int .i64 a,.int .i64 c],.agg #[.int .i64 b,.int .i64 d]] W fun e w'=>e=.returned (.int .i64 (a-b))∧∃q os',w'=grow (W.drewN q) os':=by
 go_enter Tryz.func117,Tryz.ntmps117
 go_wp2
 go_ret
 exact⟨rfl,0,_,by rw[alloc_eq_grow,alloc_eq_grow,grow_grow];rfl⟩
theorem cmpK (blk off size:Nat) (w:World):CmpLays Tryz.prog 117 #[] L5 2 cfK blk off size w:=fun m os dk hd x y=>by
 have h:=closK (J9 x.1) (J9 y.1) x.2 y.2 (sortWorldK L5 2 w blk off m dk os) (cut32_le _) (cut32_le _)
 exact h
theorem Xn {cs:T AV} {L:List (Int×Int)} (h:N0 cs L) {t:Nat} (ht:t<L.length*2) (hL:∀p∈L,0≤p.1∧p.1<4294967296):∃z,T.get .x cs (Ay (t+1))=.i .i64 z∧((L5 L[t / 2]!)[t%2]!)=.int .i64 z:=by
 have hl:t / 2<L.length:=by omega
 have hg:L[t / 2]?=some L[t / 2]!:=by rw[getElem!_pos L _ hl];exact B8 hl
 obtain⟨h1,h2⟩:=h _ _ hg
 have hb:=hL L[t / 2]! (Gm hg)
 rcases Nat.mod_two_eq_zero_or_one t with e|e
 · refine⟨_,by rw[show t+1=2 * (t / 2)+1 by omega];exact h1,?_⟩
   rw[e];show Value.int .i64 (J9 _)=_
   rw[U3 hb]
 · exact⟨_,by rw[show t+1=2 * (t / 2)+2 by omega];exact h2,by rw[e];rfl⟩
theorem sort_uniq {L L':List (Int×Int)} {d':Array (Int×Int)} (hp:L'.Perm L) (hs:L'.Pairwise (fun a b=>a.1<b.1)) (hL:∀p∈L,0≤p.1∧p.1<4294967296) (h1:PermIn 0 L.toArray.size L.toArray d') (h2:SortedIn (ltOf cfK) 0 L.toArray.size d'):d'.toList=L':=by
 obtain⟨e1,-,e2⟩:=h1
 have e3:d'.toList.Perm L:=by
  rw[←e1]at e2
  have a:(d'.extract 0 d'.size).toList=d'.toList:=by simp
  have b:(L.toArray.extract 0 d'.size).toList=L:=by rw[e1];simp
  rwa [a,b]at e2
 have hk:∀a∈L',∀b∈L',a.1=b.1→a=b:=fun a ha b hb e=>by
  obtain⟨i,hi,rfl⟩:=List.mem_iff_getElem.1 ha
  obtain⟨j,hj,rfl⟩:=List.mem_iff_getElem.1 hb
  rcases Nat.lt_trichotomy i j with c|c|c
  · have:=List.pairwise_iff_getElem.1 hs i j hi hj c;omega
  · subst c;rfl
  · have:=List.pairwise_iff_getElem.1 hs j i hj hi c;omega
 refine List.Perm.eq_of_pairwise (le:=fun a b=>a.1≤b.1) (fun a b ha hb h1 h2=>hk a (hp.mem_iff.2 (e3.mem_iff.1 ha)) b hb (by omega)) ?_ (hs.imp fun h=>by omega) (e3.trans hp.symm)
 refine List.pairwise_iff_getElem.2 fun i j hi hj hij=>?_
 have hsz:d'.size=L.toArray.size:=e1
 rw[Array.length_toList]at hi hj
 have:=h2 i j (B9 _) hij (by omega)
 rw[ltK,decide_eq_false_iff_not,getElem!_pos d' i hi,getElem!_pos d' j hj]at this
 have m1:=hL _ (e3.mem_iff.1 (by rw[Array.mem_toList_iff];exact Array.getElem_mem hi))
 have m2:=hL _ (e3.mem_iff.1 (by rw[Array.mem_toList_iff];exact Array.getElem_mem hj))
 rw[U3 m1,U3 m2]at this
 show d'.toList[i].1≤d'.toList[j].1
 rw[Array.getElem_toList,Array.getElem_toList]
 omega
theorem isAgg_t (w:World):(isAgg (Tryz.sortB_ren.t 24)).run Tryz.prog w=.ok true w:=by
 show(isAgg 225).run Tryz.prog w=_
 exact Tryz.isAgg225 w
theorem sizeOf_t (w:World):(Go.sizeOf (Tryz.sortB_ren.t 24)).run Tryz.prog w=.ok 2 w:=by
 show(Go.sizeOf 225).run Tryz.prog w=_
 exact Tryz.sizeOf225 w
theorem orc_sort {id:Pos} {n:Nat} {cap:Cap} {h:H} {nx:Pos} {k:K} {N:Nat} {cs cs':T AV} {ty:Nat} (h1:1≤n) (h2:n≤4294967280) (ho:hg h id=.cells N cs 0 false ty) (hN:2*n≤N) (hS:Srt cs n cs')
 (hk:k (.tu []) (hs h id (.cells N cs' 0 false ty)) nx=true):OrcR Tryz.prog 116 [.sl id 0 n cap,.fn 117 []] h nx k:=by
 obtain⟨L,L',hL,hp,hperm,hsort,hb,hp',hrest⟩:=hS
 refine T9 (fun args w=>K8 Tryz.func116 rfl rfl args w) hk fun m w vs s M hgl hv=>?_
 obtain⟨x,r,rfl,hx,hr⟩:=hv.inv
 obtain⟨y,r,rfl,hy,hr⟩:=hr.inv
 cases hr.nil_inv
 obtain⟨l,c,a,hid,rfl,ha⟩:=hx.sl_any
 have ha':=ha (by omega)
 have hbs:=M.bs _ _ hid
 rw[hbs]at ha'
 subst ha'
 obtain⟨q,rfl,hq⟩:=hy.fn_inv
 have hq0:q=#[]:=by
  have:=hq.1
  cases q with
  |mk q=>cases q with
   |nil=>rfl
   |cons _ _=>cases this
 subst hq0
 have ob:=M.ob _ _ hid
 rw[ho]at ob
 obtain⟨cc,fr,b1,b2,b3,b4,b5⟩:=ob
 rw[hbs]at b3 b4 b5
 have hLl:L'.length=n:=by rw[hperm.length_eq,hL]
 have hb':∀p∈L',0≤p.1∧p.1<4294967296:=fun p hp=>hb p (hperm.mem_iff.1 hp)
 have hcell:∀t,t<L.length*2→cc[t]?=some ((L5 L[t / 2]!)[t%2]!):=fun t ht=>by
  obtain⟨z,z1,z2⟩:=Xn hp ht hb
  obtain⟨v,e1,e2⟩:=b4 t (by omega)
  rw[z1]at e2
  rw[Bf]at e1
  rw[e1,e2.i_inv,z2]
 have hH:HoldsK L5 2 w l.blk 0 L.toArray:=fun j hj=>by
  rw[size_flatK]at hj
  have hj':j<L.length*2:=by simpa using hj
  rw[get_flatK _ _ _ _ hj]
  refine⟨?_,?_⟩
  · simp only[World.cell?,b1,Bf]
    rw[hcell j hj'];simp
  · simp only[World.frozen?,b1]
    have:=b5 rfl
    simp;omega
 have hc:=AnyQ.slices_SortFunc Tryz.sortB 2 isAgg_t sizeOf_t L5 (fun _=>rfl) (fun x v hv=>by simp[L5]at hv;rcases hv with rfl|rfl<;>rfl) cfK swoK 117 #[] l.blk 0 c L.toArray w
  (fun args w=>K8 Tryz.func117 rfl rfl args w) (cmpK _ _ _ _) hH (M.bl _ _ hid) (by simp;omega)
 have hsz:L.toArray.size=n:=by simp[hL]
 rw[hsz]at hc
 refine Calls.mono (R:=fun e w'=>e=.returned (.tuple #[])∧∃d' n' os,PermIn 0 n L.toArray d'∧SortedIn (ltOf cfK) 0 n d'∧w'=sortWorldK L5 2 w l.blk 0 n' d' os) hc ?_
 rintro e w' ⟨rfl,d',n',os,g1,g2,rfl⟩
 have hd:d'.toList=L':=sort_uniq hperm hsort hb (by rw[hsz];exact g1) (by rw[hsz];exact g2)
 have hds:d'.size=n:=by rw[←Array.length_toList,hd,hLl]
 have hdg:∀i:Nat,d'[i]! = L'[i]!:=fun i=>by rw[←hd,getElem!_def,getElem!_def,Array.getElem?_toList]
 let w1:World:=putRowK L5 2 (Sort.ahead w n') l.blk 0 d'
 have hh:w1.heap=w.heap.modify l.blk (onCells (putCells _root_.id 0 (flatK L5 2 d'))):=rfl
 have c1:w1.heap[l.blk]?=some (.cells (putCells _root_.id 0 (flatK L5 2 d') cc) ty fr):=by
  rw[hh,Array.getElem?_modify,if_pos rfl,b1];rfl
 have T:=M.turn (w':=w1) (o:=.cells N cs' 0 false ty) hid (by rw[ho];exact fun h=>by cases h) (by rw[ho];exact fun h=>h) (fun h=>h) (fun b hb=>by rw[hh,Array.getElem?_modify,if_neg (Ne.symm hb)]) (by rw[hh,Array.size_modify]) rfl rfl rfl
  ⟨_,fr,c1,by simp[putCells];exact b2,by rw[hbs];simpa[putCells]using b3,fun i hi=>by
    rw[hbs,Bf]
    obtain⟨v,e1,e2⟩:=b4 i hi
    rw[Bf]at e1
    have hi2:i<cc.size:=(O5.1 e1).1
    by_cases hlt:i<n*2
    · obtain⟨z,z1,z2⟩:=Xn hp' (t:=i) (by omega) hb'
      refine⟨.int .i64 z,?_,by rw[z1];exact .i _ _⟩
      rw[putCells,Array.getElem?_mapIdx,e1,Ig,if_pos ⟨B9 _,by rw[size_flatK];omega⟩]
      show some (flatK L5 2 d')[i]! = _
      rw[get_flatK _ _ _ _ (by omega),hdg,z2]
    · refine⟨v,?_,by rw[hrest i (by omega)];exact e2⟩
      rw[putCells,Array.getElem?_mapIdx,e1,Ig,if_neg (by rw[size_flatK];omega)],fun _=>by rw[hbs];exact b5 rfl⟩
 obtain⟨M1,E1⟩:=T
 have B:Below w1.heap.size w1 (grow w1 os):=⟨rfl,rfl,rfl,by simp[grow],fun k hk=>by simp[grow,Array.getElem?_append,hk]⟩
 obtain⟨M2,E2⟩:=mem_same M1 B
 exact⟨_,rfl,m,VR.tuL (.nil m),M2,E1.trans E2⟩
theorem orc_ok {f:Nat} {l:List AV} {h:H} {nx:Pos} {k:K} (hf:isOrc f=true) (he:orcK f l h nx k=true):OrcR Tryz.prog f l h nx k:=by
 unfold orcK at he
 split at he
 · rcases C6 he with⟨h1,he⟩|⟨_,he⟩
   · rw[Aac]at he
     unfold hgetC at he
     dsimp only at he
     split at he
     · rename_i ho
       exact orc_index h1 ho he
     · cases he
   · cases he
 · rcases C6 he with⟨h1,he⟩|⟨_,he⟩
   · rcases C6 he with⟨h2,he⟩|⟨_,he⟩
     · exact orc_mul h1 h2 he
     · cases he
   · cases he
 · exact orc_ibyte he
 · rcases C6 he with⟨h1,he⟩|⟨_,he⟩
   · rcases C6 he with⟨h2,he⟩|⟨_,he⟩
     · rcases C6 he with⟨h3,he⟩|⟨_,he⟩
       · exact orc_trim h1 h2 h3 he
       · cases he
     · cases he
   · cases he
 · rcases C6 he with⟨h0,he⟩|⟨_,he⟩
   · rcases C6 he with⟨h1,he⟩|⟨_,he⟩
     · rw[Aac]at he
       unfold hgetC at he
       dsimp only at he
       split at he
       · rename_i ho
         rcases C6 he with⟨h2,he⟩|⟨_,he⟩
         · unfold srtK at he
           split at he
           · rename_i hx _
             rw[hset_un]at he
             exact orc_sort (Aa h0) (Aa h1) ho (Aa h2) hx.choose_spec he
           · cases he
         · cases he
       · cases he
     · cases he
   · cases he
 · cases he
end Go.CE
