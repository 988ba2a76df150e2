/- Part 18 of the lemmas behind the claim. -/
import Derived.Test.YtacpdfjcepkgcaaGreatDoorZA01
import Derived.Test.YtacpdfjcepkgcaaGreatDoorZA17
import Derived.Laws.Externs
import Derived.Tactics
import Derived.Tactics2
import Derived.Defers
import Derived.Recover
import Derived.Laws.Pointers
import Derived.TacticsInMore
import Derived.RegionIn
import Derived.LoopNIn
import Derived.RecoverIn
import Derived.Test.YtacpdfjcepkgcaaGreatDoorZA09
set_option linter.unusedSimpArgs false
set_option linter.unusedVariables false
set_option linter.constructorNameAsVariable false
set_option linter.unusedSectionVars false
set_option linter.defProp false
set_option maxRecDepth 100000
set_option maxHeartbeats 40000000
namespace Go.CE
open Go.GV (TI Shp TIok FR oneB noGo)
open Go.RowKit
def N1 (listed:Array Bool) (i:Nat):Prop:=listed.getD i false=true
theorem Nn {listed:Array Bool} {i j:Nat}:N1 (listed.setIfInBounds i true) j↔N1 listed j∨(j=i∧i<listed.size):=by
 unfold N1
 simp only[Kf,M9]
 by_cases h:i=j
 · subst h
   by_cases hi:i<listed.size
   · simp[hi]
   · simp[hi]
 · simp[h,Ne.symm h]
theorem unl {listed:Array Bool} {i:Nat}:listed.getD i true=false↔i<listed.size∧¬N1 listed i:=by
 unfold N1
 simp only[Kf]
 by_cases hi:i<listed.size
 · simp[hi]
 · simp[hi]
variable (P : Program) (r : Option Pos) (N : Nat) (ops : Array Oper) (tz : T AV) (hz : H) (nz : Pos) (m0 : Mp) (h0 : H) (nx0 : Pos) (w0 : World) (df : List Deferred) (ro : Option Nat)
structure Sim (listed:Array Bool) (late:List Lt) (rest:List En) (ps:List Pd) (t:T AV) (h:H) (nx:Pos) (tA:T AV) (m:Mp) (a:Act) (w:World):Prop where
 size:listed.size=ops.size
 clo:O9 ops (N1 listed)
 un:∀e∈late.map (·.e)++rest,¬N1 listed e.i
 cov:∀i,i<ops.size→¬N1 listed i→∃e∈late.map (·.e)++rest,e.i=i
 ent:∀e∈late.map (·.e)++rest,EntOK ops e
 dn:∀e∈late.map (·.e)++rest,∀j,L6 e.m j=true→j<ops.size∧j≠e.i
 pw:(late.map (·.e)++rest).Pairwise Rel
 tr:Tr P r N ops.toList rest ps t h nx tz hz nz
 M:Mem m h nx w
 T0:TR m N tA a.tmps
 dfs:a.defers=df
 R:RR m r ro
 lt:∀l∈late,LtOK P N ops.toList nx0 ps h nx m l
 ids:late.Pairwise fun x y=>∀id,x.id?=some id→y.id?≠some id
 vals:LOK (fun d=>T.get und tA (Ay (d+1))) late t
 ext:Ext m0 h0 nx0 w0 m h nx0 w
 nle:nx0.toN≤nx.toN
end Go.CE
namespace Go.CE
open Go.GV (TI Shp TIok FR oneB noGo)
open Go.RowKit
variable {P : Program} {r : Option Pos} {N : Nat} {ops : Array Oper} {tz : T AV} {hz : H} {nz : Pos} {m0 : Mp} {h0 : H} {nx0 : Pos} {w0 : World} {df : List Deferred} {ro : Option Nat}
  {listed : Array Bool} {late : List Lt} {rest : List En} {ps : List Pd} {t : T AV} {h : H} {nx : Pos} {tA : T AV} {m : Mp} {a : Act} {w : World}
theorem Sim.free (S:Sim P r N ops tz hz nz m0 h0 nx0 w0 df ro listed late rest ps t h nx tA m a w) {e:En} (he:EntOK ops e) (hr:e.i∈Region.ready .any ops listed) {f:En} (hf:f∈late.map (·.e)++rest) (hne:f.i≠e.i):L6 e.m f.i=false:=by
 cases hb:L6 e.m f.i with
 |false=>rfl
 |true=>
  exfalso
  obtain⟨h1,o,ho,hall⟩:=mem_ready.1 hr
  have hcl:O9 ops (fun j=>N1 listed j∨j=e.i):=fun i o' hi ho' ed hed hbd=>by
   rcases hi with hi|rfl
   · exact .inl (S.clo i o' hi ho' ed hed hbd)
   · rw[ho]at ho';cases ho'
     exact .inl (hall ed (by simpa using hed) (by rw[←Rp];exact hbd))
  rcases he.mask _ hcl (.inr rfl) f.i hb with h2|h2
  · exact S.un f hf h2
  · exact hne h2
theorem Tr.head {e:En} {l:List En} (hT:Tr P r N ops.toList (e::l) ps t h nx tz hz nz) (hx:e.x=false) (S:Sim P r N ops tz hz nz m0 h0 nx0 w0 df ro listed late (e::l) ps t h nx tA m a w) :
 ∃(l':Lt) (ps':List Pd) (t':T AV) (h':H) (nx':Pos),l'.e=e∧Sim P r N ops tz hz nz m0 h0 nx0 w0 df ro listed (late++[l']) l ps' t' h' nx' tA m a w:=by
 have hmap:∀l':Lt,l'.e=e→(late++[l']).map (·.e)++l=late.map (·.e)++e::l:=fun l' hl'=>by simp[hl']
 have build:∀(l':Lt) (ps':List Pd) (h':H) (nx':Pos),l'.e=e→l'.tt=t→Tr P r N ops.toList l ps' (pt e.o.dst l'.v t) h' nx' tz hz nz→Mem m h' nx' w→(∀x∈late++[l'],LtOK P N ops.toList nx0 ps' h' nx' m x) →
  (∀x∈late,∀id,x.id?=some id→l'.id?≠some id)→Ext m0 h0 nx0 w0 m h' nx0 w→nx0.toN≤nx'.toN →
  ∃(l':Lt) (ps':List Pd) (t':T AV) (h':H) (nx':Pos),l'.e=e∧Sim P r N ops tz hz nz m0 h0 nx0 w0 df ro listed (late++[l']) l ps' t' h' nx' tA m a w:=fun l' ps' h' nx' h1 ht h2 h3 h4 h5 h6 h7=>by
  refine⟨l',ps',_,h',nx',h1,⟨S.size,S.clo,?_,?_,?_,?_,?_,h2,h3,S.T0,S.dfs,S.R,h4,?_,?_,h6,h7⟩⟩
  · rw[hmap l' h1];exact S.un
  · rw[hmap l' h1];exact S.cov
  · rw[hmap l' h1];exact S.ent
  · rw[hmap l' h1];exact S.dn
  · rw[hmap l' h1];exact S.pw
  · rw[List.pairwise_append]
    exact⟨S.ids,List.pairwise_singleton ..,fun x hx y hy=>by rw[Co]at hy;subst hy;exact h5 x hx⟩
  · have:=LOK.snoc (e:=e) (v:=l'.v) (kd:=l'.kd) S.vals
    have e1:(⟨e,t,l'.v,l'.kd⟩:Lt)=l':=by cases l';simp only at h1 ht;subst h1 ht;rfl
    rw[e1]at this
    exact this
 have snoc:∀ {l':Lt} {p:Lt→Prop},(∀x∈late,p x)→p l'→∀x∈late++[l'],p x:=fun h1 h2 x hx=>by
  rcases D9.1 hx with hx|hx
  · exact h1 x hx
  · rw[Co]at hx;subst hx;exact h2
 have noid:∀(l':Lt),l'.id?=none→∀x∈late,∀id,x.id?=some id→l'.id?≠some id:=fun l' hl x _ id _=>by rw[hl];simp
 cases hT with
 |no hw hd next=>exact build ⟨e,t,und,.no⟩ ps h nx rfl rfl next S.M (snoc S.lt ⟨hd,hw,rfl⟩) (noid _ rfl) S.ext S.nle
 |p v hx hw hd hdf hS next=>exact build ⟨e,t,v,.p⟩ ps h nx rfl rfl next S.M (snoc S.lt ⟨hd,hw,hdf,hS⟩) (noid _ rfl) S.ext S.nle
 |r v hx hw hd hdf hS next=>
  refine build ⟨e,t,v,.r⟩ _ h nx rfl rfl next S.M (snoc (fun x hx=>?_) ⟨hd,hw,hdf,hS,Aw ..⟩) (noid _ rfl) S.ext S.nle
  obtain⟨h1,h2⟩:=S.lt x hx
  refine⟨h1,?_⟩
  cases hk:x.kd with
  |no=>rw[hk]at h2;exact h2
  |p=>rw[hk]at h2;exact h2
  |r=>rw[hk]at h2;exact⟨h2.1,h2.2.1,h2.2.2.1,Am _ h2.2.2.2⟩
  |a id ob=>rw[hk]at h2;exact h2
 |a v ob hx hw hd hdf hdead hS next=>
  obtain⟨M',E'⟩:=S.M.virt S.nle ob
  refine build ⟨e,t,v,.a nx ob⟩ ps (hs h nx ob) (Ad nx) rfl rfl next M' (snoc (fun x hx=>?_) ⟨hd,hw,hdf,hS,S.M.ids,by rw[E9,if_pos rfl],by rw[Hx];omega,S.nle⟩) (fun x hx id hid c=>?_) (S.ext.trans E') (by rw[Hx];have:=S.nle;omega)
  · obtain⟨h1,h2⟩:=S.lt x hx
    refine⟨h1,?_⟩
    cases hk:x.kd with
    |no=>rw[hk]at h2;exact h2
    |p=>rw[hk]at h2;exact h2
    |r=>rw[hk]at h2;exact⟨h2.1,h2.2.1,h2.2.2.1.virt hdead ob,h2.2.2.2⟩
    |a id ob'=>
     rw[hk]at h2
     obtain⟨g1,g2,g3,g4,g5,g6,g7⟩:=h2
     exact⟨g1,g2,g3,g4,by rw[Jc (fun c=>by subst c;omega)];exact g5,by rw[Hx];omega,g7⟩
  · have hnx:nx=id:=by simpa[Lt.id?]using c
    subst hnx
    obtain⟨_,h2⟩:=S.lt x hx
    unfold Lt.id? at hid
    cases hk:x.kd with
    |a id ob'=>
     rw[hk]at h2 hid
     cases hid
     have:=h2.2.2.2.2.2.1
     omega
    |_=>rw[hk]at hid;cases hid
 |x v hx2 _ _ _ _ _=>rw[hx]at hx2;cases hx2
theorem Sim.step (S:Sim P r N ops tz hz nz m0 h0 nx0 w0 df ro listed late rest ps t h nx tA m a w) {e:En} {late':List Lt} {rest':List En} {ps':List Pd} {t':T AV} {h':H} {nx':Pos} {tA':T AV} {m':Mp} {a':Act} {w':World}
 (hr:e.i∈Region.ready .any ops listed) (heq:∃p q,late.map (·.e)++rest=p++e::q∧late'.map (·.e)++rest'=p++q)
 (tr:Tr P r N ops.toList rest' ps' t' h' nx' tz hz nz) (M:Mem m' h' nx' w') (T0:TR m' N tA' a'.tmps) (dfs:a'.defers=df) (R:RR m' r ro) (lt:∀l∈late',LtOK P N ops.toList nx0 ps' h' nx' m' l)
 (ids:late'.Pairwise fun x y=>∀id,x.id?=some id→y.id?≠some id) (vals:LOK (fun d=>T.get und tA' (Ay (d+1))) late' t') (ext:Ext m0 h0 nx0 w0 m' h' nx0 w') (nle:nx0.toN≤nx'.toN) :
 Sim P r N ops tz hz nz m0 h0 nx0 w0 df ro (listed.setIfInBounds e.i true) late' rest' ps' t' h' nx' tA' m' a' w':=by
 obtain⟨p,q,e1,e2⟩:=heq
 obtain⟨h1,o,ho,hall⟩:=mem_ready.1 hr
 have hi:e.i<listed.size:=(unl.1 h1).1
 have hpw:=S.pw
 rw[e1]at hpw
 have hne:∀f∈p++q,f.i≠e.i:=fun f hf=>by
  rw[List.pairwise_append]at hpw
  obtain⟨_,h2,h3⟩:=hpw
  rcases D9.1 hf with hf|hf
  · exact(h3 f hf e (Aw ..)).1
  · exact((List.pairwise_cons.1 h2).1 f hf).1.symm
 have sub:∀f∈p++q,f∈late.map (·.e)++rest:=fun f hf=>by
  rw[e1]
  rcases D9.1 hf with hf|hf
  · exact B7 _ hf
  · exact A3 _ (Am _ hf)
 refine⟨by simp[S.size],fun i o' hi' ho' ed hed hbd=>?_,fun f hf=>?_,fun i hi' hn=>?_,fun f hf=>S.ent f (sub f (e2▸hf)),fun f hf=>S.dn f (sub f (e2▸hf)),?_,tr,M,T0,dfs,R,lt,ids,vals,ext,nle⟩
 · rcases Nn.1 hi' with h2|⟨rfl,_⟩
   · exact Nn.2 (.inl (S.clo i o' h2 ho' ed hed hbd))
   · rw[ho]at ho';cases ho'
     exact Nn.2 (.inl (hall ed (by simpa using hed) (by rw[←Rp];exact hbd)))
 · rw[e2]at hf
   intro hl
   rcases Nn.1 hl with h2|⟨h2,_⟩
   · exact S.un f (sub f hf) h2
   · exact hne f hf h2
 · have hn1:¬N1 listed i:=fun c=>hn (Nn.2 (.inl c))
   have hn2:i≠e.i:=fun c=>hn (Nn.2 (.inr ⟨c,hi⟩))
   obtain⟨f,hf,hfi⟩:=S.cov i hi' hn1
   rw[e1]at hf
   refine⟨f,?_,hfi⟩
   rw[e2]
   rcases D9.1 hf with hf|hf
   · exact B7 _ hf
   · rcases Bo.1 hf with rfl|hf
     · exact absurd hfi.symm hn2
     · exact A3 _ hf
 · rw[e2]
   rw[List.pairwise_append]at hpw ⊢
   obtain⟨h1,h2,h3⟩:=hpw
   exact⟨h1,(List.pairwise_cons.1 h2).2,fun x hx y hy=>h3 x hx y (Am _ hy)⟩
theorem pt_fun (tA:T AV) (d:Option Nat) (v:AV):(fun i=>if d=some i then v else T.get und tA (Ay (i+1)))=fun i=>T.get und (pt d v tA) (Ay (i+1)):=by
 funext i;rw[pt_get]
theorem Sim.noclash (S:Sim P r N ops tz hz nz m0 h0 nx0 w0 df ro listed late rest ps t h nx tA m a w) {e:En} {p q:List En} (heq:late.map (·.e)++rest=p++e::q) (hr:e.i∈Region.ready .any ops listed) {f:En} (hf:f∈p):f.x=false∧Qh f e=false:=by
 have hpw:=S.pw
 rw[heq,List.pairwise_append]at hpw
 have hrel:=hpw.2.2 f hf e (Aw ..)
 have he:e∈late.map (·.e)++rest:=by rw[heq];simp
 have hf':f∈late.map (·.e)++rest:=by rw[heq];simp[hf]
 rcases hrel.2.2 with h1|h1
 · rw[S.free (S.ent e he) hr hf' hrel.1]at h1;cases h1
 · exact h1
theorem Sim.lateOp {pre post:List Lt} {l:Lt} {Q:Exit→Act→World→Prop} {K:Act→World→Prop} (hN:N≤1000) (S:Sim P r N ops tz hz nz m0 h0 nx0 w0 df ro listed (pre++l::post) rest ps t h nx tA m a w) (hr:l.e.i∈Region.ready .any ops listed)
 (hK:∀tA' m' a' w',Sim P r N ops tz hz nz m0 h0 nx0 w0 df ro (listed.setIfInBounds l.e.i true) (pre++post) rest ps t h nx tA' m' a' w'→K a' w'):wpOpIn (FR ro) 0 P ops Q l.e.i K a w:=by
 have heq:(pre++l::post).map (·.e)++rest=pre.map (·.e)++l.e::(post.map (·.e)++rest):=by simp
 have heq2:(pre++post).map (·.e)++rest=pre.map (·.e)++(post.map (·.e)++rest):=by simp
 have hel:l.e∈(pre++l::post).map (·.e)++rest:=by rw[heq];simp
 have hE:=S.ent l.e hel
 have hnc:∀l'∈pre,Qh l'.e l.e=false:=fun l' hl'=>(S.noclash heq hr (Dz.2 ⟨l',hl',rfl⟩)).2
 obtain⟨hv1,hv2⟩:=LOK.take S.vals hnc
 have TM:TR m N (mkd N l.tt l.e) a.tmps:=S.T0.msk hN hv1
 obtain⟨hd,hl⟩:=S.lt l (by simp)
 have hsub:∀x∈pre++post,x∈pre++l::post:=fun x hx=>by
  rcases D9.1 hx with hx|hx
  · exact B7 _ hx
  · exact A3 _ (Am _ hx)
 have hids:(pre++post).Pairwise fun x y=>∀id,x.id?=some id→y.id?≠some id:=by
  have:=S.ids
  rw[List.pairwise_append]at this ⊢
  obtain⟨h1,h2,h3⟩:=this
  exact⟨h1,(List.pairwise_cons.1 h2).2,fun x hx y hy=>h3 x hx y (Am _ hy)⟩
 have go:∀(m':Mp) (cv:Value) (w':World),Mem m' h nx w'→m.le m'→VR m' l.v cv→Ext m h nx0 w m' h nx0 w'→(∀x∈pre++post,LtOK P N ops.toList nx0 ps h nx m' x)→K (a.put l.e.o.dst cv) w':=fun m' cv w' M' hle hv E' hlt=>by
  refine hK (pt l.e.o.dst l.v tA) m' _ w' (S.step hr ⟨_,_,heq,heq2⟩ S.tr M' ((S.T0.mono hle).put hd hv) ((Hf _ _ _).trans S.dfs) (S.R.mono hle) hlt hids ?_ (S.ext.trans E') S.nle)
  rw[←pt_fun]
  exact hv2
 have hwt:∀b,wt ops.toList l.e.o.guard l.tt=some b→Region.wanted l.e.o (yielded ops a.tmps)=b:=fun b hb=>Th (by rw[wt_mkd hE];exact hb) TM
 unfold wpOpIn
 rw[hE.get]
 cases hk:l.kd with
 |no=>
  rw[hk]at hl
  obtain⟨h1,h2⟩:=hl
  simp only[hwt _ h1,Bool.false_eq_true,if_false]
  exact⟨fun _ _=>trivial,go m undef w S.M (.refl m) (by rw[h2];exact Mb m) (.refl m h nx0 w) fun x hx=>S.lt x (hsub x hx)⟩
 |p=>
  rw[hk]at hl
  obtain⟨h1,h2,h3⟩:=hl
  simp only[hwt _ h1,if_true]
  obtain⟨cv,h4,h5⟩:=h3 m N a TM
  refine⟨fun _ _=>trivial,?_⟩
  show l.e.o.uponIn (FR ro) 0 P a K Q ((l.e.o.semAt ro a.eval).run P w)
  rw[Ja ro _ h2,h5 w]
  exact go m cv w S.M (.refl m) h4 (.refl m h nx0 w) fun x hx=>S.lt x (hsub x hx)
 |r=>
  rw[hk]at hl
  obtain⟨h1,h2,h3,_⟩:=hl
  simp only[hwt _ h1,if_true]
  obtain⟨cv,h4,h5⟩:=h3 m N a nx w S.M TM
  refine⟨fun _ _=>trivial,?_⟩
  show l.e.o.uponIn (FR ro) 0 P a K Q ((l.e.o.semAt ro a.eval).run P w)
  rw[Ja ro _ h2,h5]
  exact go m cv w S.M (.refl m) h4 (.refl m h nx0 w) fun x hx=>S.lt x (hsub x hx)
 |a id ob=>
  rw[hk]at hl
  obtain⟨h1,h2,h3,h4,h5,h6,h7⟩:=hl
  simp only[hwt _ h1,if_true]
  obtain⟨cv,obj,lo,g1,g2,g3,g4,g5⟩:=h3.2 m N a w TM h4
  refine⟨fun _ _=>trivial,?_⟩
  show l.e.o.uponIn (FR ro) 0 P a K Q ((l.e.o.semAt ro a.eval).run P w)
  rw[Ja ro _ h2,g3]
  obtain⟨M',E'⟩:=S.M.real h4 h6 h7 h5 h3.1 g1 g2 g5
  refine go _ cv _ M' (Mr h4) g4 E' fun x hx=>?_
  obtain⟨y1,y2⟩:=S.lt x (hsub x hx)
  refine⟨y1,?_⟩
  have hidne:∀id',x.id?=some id'→id'≠id:=fun id' hid' c=>by
   subst c
   have hlid:l.id?=some id':=by unfold Lt.id?;rw[hk]
   have:=S.ids
   rw[List.pairwise_append]at this
   obtain⟨_,p2,p3⟩:=this
   rcases D9.1 hx with hx|hx
   · exact p3 x hx l (Aw ..) id' hid' hlid
   · exact(List.pairwise_cons.1 p2).1 x hx id' hlid hid'
  cases hkx:x.kd with
  |no=>rw[hkx]at y2;exact y2
  |p=>rw[hkx]at y2;exact y2
  |r=>rw[hkx]at y2;exact y2
  |a id' ob'=>
   rw[hkx]at y2
   obtain⟨z1,z2,z3,z4,z5⟩:=y2
   exact⟨z1,z2,z3,by rw[D4 (hidne id' (by unfold Lt.id?;rw[hkx]))];exact z4,z5⟩
theorem Sim.turn {e:En} {l:List En} {Q:Exit→Act→World→Prop} {K:Act→World→Prop} (hN:N≤1000) (hx:e.x=true) (S:Sim P r N ops tz hz nz m0 h0 nx0 w0 df ro listed late (e::l) ps t h nx tA m a w) (hr:e.i∈Region.ready .any ops listed)
 (hK:∀ps' t' h' nx' tA' m' a' w',Sim P r N ops tz hz nz m0 h0 nx0 w0 df ro (listed.setIfInBounds e.i true) late l ps' t' h' nx' tA' m' a' w'→K a' w'):wpOpIn (FR ro) 0 P ops Q e.i K a w:=by
 have heq:late.map (·.e)++e::l=late.map (·.e)++e::l:=rfl
 have hel:e∈late.map (·.e)++e::l:=by simp
 have hE:=S.ent e hel
 have hnc:∀l'∈late,Qh l'.e e=false:=fun l' hl'=>(S.noclash heq hr (Dz.2 ⟨l',hl',rfl⟩)).2
 have hfree:∀l'∈late,L6 e.m l'.e.i=false:=fun l' hl'=>by
  refine S.free hE hr (B7 _ (Dz.2 ⟨l',hl',rfl⟩)) ?_
  have hpw:=S.pw
  rw[List.pairwise_append]at hpw
  exact(hpw.2.2 l'.e (Dz.2 ⟨l',hl',rfl⟩) e (Aw ..)).1
 have vals:∀v,(∀d∈e.ts,T.get und t (Ay (d+1))=T.get und tA (Ay (d+1)))∧LOK (fun d=>T.get und (pt e.o.dst v tA) (Ay (d+1))) late (pt e.o.dst v t):=fun v=>by
  have:=LOK.take (l:=⟨e,t,v,.no⟩) (post:=[]) (LOK.snoc (e:=e) (v:=v) (kd:=.no) S.vals) hnc
  refine⟨this.1,?_⟩
  have h2:=this.2
  rw[Bp]at h2
  rw[←pt_fun]
  exact h2
 have TM:TR m N (mkd N t e) a.tmps:=S.T0.msk hN (vals und).1
 have hwt:∀b,wt ops.toList e.o.guard t=some b→Region.wanted e.o (yielded ops a.tmps)=b:=fun b hb=>Th (by rw[wt_mkd hE];exact hb) TM
 unfold wpOpIn
 rw[hE.get]
 cases S.tr with
 |no hw hd next=>
  simp only[hwt _ hw,Bool.false_eq_true,if_false]
  exact⟨fun _ _=>trivial,hK _ _ _ _ (pt e.o.dst und tA) m _ w (S.step hr ⟨_,_,heq,rfl⟩ next S.M (S.T0.put hd (Mb m)) ((Hf _ _ _).trans S.dfs) S.R S.lt S.ids (vals und).2 S.ext S.nle)⟩
 |p v hx2 _ _ _ _ _=>rw[hx]at hx2;cases hx2
 |r v hx2 _ _ _ _ _=>rw[hx]at hx2;cases hx2
 |a v ob hx2 _ _ _ _ _ _=>rw[hx]at hx2;cases hx2
 |x v _ hw hd hS hps next=>
  simp only[hwt _ hw,if_true]
  refine hS m N a w ro K Q S.M TM S.R fun cv m' w' hv M' E'=>?_
  refine hK _ _ _ _ (pt e.o.dst v tA) m' _ w' (S.step hr ⟨_,_,heq,rfl⟩ next M' ((S.T0.mono E'.le).put hd hv) ((Hf _ _ _).trans S.dfs) (S.R.mono E'.le) (fun x hx=>?_) S.ids (vals v).2 (S.ext.trans (E'.base S.nle)) (Cr S.nle E'.nle))
  obtain⟨y1,y2⟩:=S.lt x hx
  refine⟨y1,?_⟩
  cases hkx:x.kd with
  |no=>rw[hkx]at y2;exact y2
  |p=>rw[hkx]at y2;exact y2
  |r=>
   rw[hkx]at y2
   obtain⟨z1,z2,z3,z4⟩:=y2
   rcases hps _ z4 with h1|⟨h1,h2⟩
   · have:=hfree x hx
     have h1':L6 e.m x.e.i=true:=h1
     rw[this]at h1';cases h1'
   · exact⟨z1,z2,h2,h1⟩
  |a id ob=>
   rw[hkx]at y2
   obtain⟨z1,z2,z3,z4,z5,z6,z7⟩:=y2
   obtain⟨v1,v2⟩:=E'.virt id z6 z4
   exact⟨z1,z2,z3,v1,v2.trans z5,Na z6 E'.nle,z7⟩
theorem Sim.aside {e:En} {r2:List En}:∀ {r1:List En} {late:List Lt} {ps:List Pd} {t:T AV} {h:H} {nx:Pos},(∀f∈r1,f.x=false)→Sim P r N ops tz hz nz m0 h0 nx0 w0 df ro listed late (r1++e::r2) ps t h nx tA m a w →
 ∃late' ps' t' h' nx',late'.length=late.length+r1.length∧Sim P r N ops tz hz nz m0 h0 nx0 w0 df ro listed late' (e::r2) ps' t' h' nx' tA m a w
 |[],late,ps,t,h,nx,_,S=>⟨late,ps,t,h,nx,rfl,S⟩
 |f::r1,late,ps,t,h,nx,hx,S=>by
  obtain⟨l',ps',t',h',nx',_,S'⟩:=Tr.head S.tr (hx f (Aw ..)) S
  obtain⟨late2,ps2,t2,h2,nx2,hlen,S2⟩:=Sim.aside (fun g hg=>hx g (Am _ hg)) S'
  exact⟨late2,ps2,t2,h2,nx2,by rw[hlen];simp;omega,S2⟩
theorem sim_any {Q:Exit→Act→World→Prop} (hN:N≤1000) (hQ:∀m a w,Mem m hz nz w→TR m N tz a.tmps→a.defers=df→Ext m0 h0 nx0 w0 m hz nz w→Q .normal a w) :
 ∀(fuel:Nat) {listed:Array Bool} {late:List Lt} {rest:List En} {ps:List Pd} {t:T AV} {h:H} {nx:Pos} {tA:T AV} {m:Mp} {a:Act} {w:World},
 Sim P r N ops tz hz nz m0 h0 nx0 w0 df ro listed late rest ps t h nx tA m a w→late.length+rest.length≤fuel→wpAnyIn (FR ro) 0 P .any ops Q fuel listed a w:=by
 have done:∀ {listed:Array Bool} {ps:List Pd} {t:T AV} {h:H} {nx:Pos} {tA:T AV} {m:Mp} {a:Act} {w:World},Sim P r N ops tz hz nz m0 h0 nx0 w0 df ro listed [] [] ps t h nx tA m a w→Q .normal a w:=fun S=>by
  have hT:=S.tr
  have hv:=S.vals
  cases hT with
  |nil=>exact hQ _ _ _ S.M ⟨S.T0.size,S.T0.glob,fun i=>by rw[hv i];exact S.T0.get i⟩ S.dfs (S.ext.top S.nle)
 intro fuel
 induction fuel with
 |zero=>
  intro listed late rest ps t h nx tA m a w S hf
  have h1:late=[]:=List.length_eq_zero_iff.1 (by omega)
  have h2:rest=[]:=List.length_eq_zero_iff.1 (by omega)
  subst h1 h2
  refine⟨?_,done S⟩
  refine List.eq_nil_iff_forall_not_mem.2 fun i hi=>?_
  obtain⟨g1,g2⟩:=unl.1 (mem_ready.1 hi).1
  obtain⟨e,he,_⟩:=S.cov i (by rw[←S.size];exact g1) g2
  cases he
 |succ fuel ih=>
  intro listed late rest ps t h nx tA m a w S hf
  refine⟨fun hnil=>?_,fun i hi=>?_⟩
  · cases hall:late.map (·.e)++rest with
    |nil=>
     obtain⟨h1,h2⟩:=List.append_eq_nil_iff.1 hall
     have h1':late=[]:=List.map_eq_nil_iff.1 h1
     subst h1' h2
     exact done S
    |cons e es=>
     exfalso
     have he:e∈late.map (·.e)++rest:=by rw[hall];exact Aw ..
     have hE:=S.ent e he
     have hlt:e.i<ops.size:=(O5.1 hE.get).1
     have hready:e.i∈Region.ready .any ops listed:=by
      refine mem_ready.2 ⟨unl.2 ⟨by rw[S.size];exact hlt,S.un e he⟩,e.o,hE.get,fun ed hed hb=>?_⟩
      have hbit:=hE.edge ed (by simpa using hed) (by rw[Rp];exact hb)
      obtain⟨g1,g2⟩:=S.dn e he _ hbit
      by_cases hl:N1 listed ed.on
      · exact hl
      · exfalso
        obtain⟨f,hf',hfi⟩:=S.cov _ g1 hl
        rw[hall]at hf'
        rcases Bo.1 hf' with rfl|hf'
        · exact g2 hfi.symm
        · have hpw:=S.pw
          rw[hall]at hpw
          have:=((List.pairwise_cons.1 hpw).1 f hf').2.1
          rw[hfi,hbit]at this;cases this
     rw[hnil]at hready;cases hready
  · obtain⟨g1,g2⟩:=unl.1 (mem_ready.1 hi).1
    obtain⟨e,he,rfl⟩:=S.cov i (by rw[←S.size];exact g1) g2
    rcases D9.1 he with he|he
    · obtain⟨l,hl,rfl⟩:=Dz.1 he
      obtain⟨pre,post,rfl⟩:=List.append_of_mem hl
      refine Sim.lateOp hN S hi fun tA' m' a' w' S'=>ih S' ?_
      simp only[Bb,Cq]at hf ⊢
      omega
    · obtain⟨r1,r2,rfl⟩:=List.append_of_mem he
      have hx:∀f∈r1,f.x=false:=fun f hf'=>(S.noclash (p:=late.map (·.e)++r1) (q:=r2) (by simp) hi (A3 _ hf')).1
      obtain⟨late',ps',t',h',nx',hlen,S'⟩:=Sim.aside hx S
      simp only[Bb,Cq]at hf
      cases hex:e.x with
      |true=>
       refine Sim.turn hN hex S' hi fun ps2 t2 h2 nx2 tA2 m2 a2 w2 S2=>ih S2 ?_
       omega
      |false=>
       obtain⟨l',ps2,t2,h2,nx2,rfl,S2⟩:=Tr.head S'.tr hex S'
       refine Sim.lateOp (post:=[]) hN S2 hi fun tA' m' a' w' S3=>ih S3 ?_
       simp only[Bp]
       omega
end Go.CE
namespace Go.CE
open Go.GV (TI Shp TIok FR oneB noGo)
open Go.RowKit
variable {P : Program} {g : G} {ih : Hc}
theorem draw_ok (hG:GOK P g) (hU:UOK P g) (hih:Kh P ih):O7 P g ih:=fun r N id ops t h nx k he=>by
 have he':fB (Nat.ble N 1000) (Us (Nat.succ (Nat.log2 N)) fun f=>planK g ops.toList fun l=>Aaj g ih N ops.toList f l [] t h nx k) false=true:=he
 obtain⟨h1,h2⟩:=Cm he'
 have hN:=Aa h1
 rw[Qe]at h2
 obtain⟨L,h3,hP⟩:=planK_inv h2
 obtain⟨t',h',nx',hk,hT⟩:=Jy hG hU r hih h3
 refine⟨t',h',nx',hk,fun m a w ro Q M T0 R K=>wpIn_region_any hG.mix ?_⟩
 have hrep:∀i,¬N1 (Array.replicate ops.size false) i:=fun i hi=>by
  unfold N1 at hi
  rw[Kf,Array.getElem?_replicate]at hi
  split at hi<;>simp at hi
 have hS:Sim P r N ops t' h' nx' m h nx w a.defers ro (Array.replicate ops.size false) [] L [] t h nx t m a (Kk w):=by
  refine⟨by simp,fun i o hi=>?_,fun e he hl=>?_,fun i hi _=>?_,hP.ent,hP.dn,hP.pw,hT,M.dr,T0,rfl,R,fun l hl=>(by cases hl),.nil,fun d=>rfl,(Ext.refl m h nx (Kk w)).dr,Ag _⟩
  · exact absurd hi (hrep i)
  · exact hrep _ hl
  · obtain⟨e,he,hei⟩:=hP.cov i hi
    exact⟨e,by simpa using he,hei⟩
 refine sim_any hN (fun m2 a2 w2 M2 T2 D2 E2=>K m2 a2 w2 M2 T2 D2 E2) ops.size hS ?_
 have hnd:(L.map (·.i)).Nodup:=by
  unfold List.Nodup
  rw[List.pairwise_map]
  exact hP.pw.imp fun h=>h.1
 have:=Uc ops.size (L.map (·.i)) hnd (fun x hx=>by
  obtain⟨e,he,rfl⟩:=Dz.1 hx
  exact(O5.1 (hP.ent e he).get).1)
 simpa using this
theorem call_ok (hG:GOK P g) (hU:UOK P g) (hX:XOK P g) (n:Nat) (kp:KP):Ez P kp (Ai g n kp):=U8 hG hU hX (fun _ h=>draw_ok hG hU h) n kp
end Go.CE
namespace Go.CE
open Go.GV (TI Shp TIok)
noncomputable def tl {α:Type}:T (Option α)→(Nat→Nat)→List (Nat×α)→List (Nat×α)
 |.e,_,acc=>acc
 |.n l v r,f,acc=>match v with
  |some x=>(f 1-1,x)::tl l (fun n=>f (2*n)) (tl r (fun n=>f (2*n+1)) acc)
  |none=>tl l (fun n=>f (2*n)) (tl r (fun n=>f (2*n+1)) acc)
theorem tl_acc {α:Type} {x:Nat×α}:∀ {t:T (Option α)} {f:Nat→Nat} {acc:List (Nat×α)},x∈acc→x∈tl t f acc
 |.e,_,_,h=>h
 |.n l v r,f,acc,h=>by
  have h1:=tl_acc (t:=l) (f:=fun n=>f (2*n)) (tl_acc (t:=r) (f:=fun n=>f (2*n+1)) h)
  unfold tl
  cases v with
  |none=>exact h1
  |some y=>exact Am _ h1
theorem tl_mem {α:Type} {x:α}:∀ {t:T (Option α)} {f:Nat→Nat} {acc:List (Nat×α)} {p:Pos},T.get none t p=some x→(f p.toN-1,x)∈tl t f acc
 |.e,f,acc,p,h=>by rw[X4]at h;cases h
 |.n l v r,f,acc,.h,h=>by
  have h':v=some x:=h
  subst h'
  unfold tl
  exact Aw ..
 |.n l v r,f,acc,.o p,h=>by
  have h1:=tl_mem (t:=l) (f:=fun n=>f (2*n)) (acc:=tl r (fun n=>f (2*n+1)) acc) (p:=p) h
  unfold tl
  cases v with
  |none=>exact h1
  |some y=>exact Am _ h1
 |.n l v r,f,acc,.i p,h=>by
  have h1:=tl_acc (t:=l) (f:=fun n=>f (2*n)) (tl_mem (t:=r) (f:=fun n=>f (2*n+1)) (acc:=acc) (p:=p) h)
  unfold tl
  cases v with
  |none=>exact h1
  |some y=>exact Am _ h1
theorem Oh {α:Type} {t:T (Option α)} {q:Nat→α→Prop} {L:List (Nat×α)} (hL:tl t (fun n=>n) []=L) (h:∀x∈L,q x.1 x.2) (i:Nat) (x:α) (hg:T.get none t (Ay (i+1))=some x):q i x:=by
 have:=tl_mem (f:=fun n=>n) (acc:=[]) hg
 rw[hL]at this
 have:=h _ this
 rw[Mh (by omega)]at this
 exact this
theorem allC {α:Type} {p:α→Prop} {a:α} {l:List α} (h:p a) (k:∀x∈l,p x):∀x∈a::l,p x:=fun x hx=>by
 rcases Bo.1 hx with rfl|hx
 · exact h
 · exact k x hx
theorem allN {α:Type} {p:α→Prop}:∀x∈([]:List α),p x:=fun x hx=>by cases hx
theorem allB {α:Type} {p:α→Prop} {l:List α} (b:α→Bool) (hb:∀x,b x=true→p x) (h:l.all b=true):∀x∈l,p x:=fun x hx=>hb x (List.all_eq_true.1 h x hx)
def mpB (P:Program) (x:Nat×(Nat×Nat)):Bool:=(match P.underlying x.1 with
 |some (.map k e)=>k==x.2.1&&e==x.2.2
 |_=>false)&&(match P.underlying x.2.1 with
 |some .string=>true
 |_=>false)
theorem mpB_ok {P:Program} (x:Nat×(Nat×Nat)) (h:mpB P x=true):∀k e,x.2=(k,e)→P.underlying x.1=some (.map k e)∧P.underlying k=some .string:=fun k e he=>by
 obtain⟨t,k',e'⟩:=x
 simp only[Prod.mk.injEq]at he
 obtain⟨rfl,rfl⟩:=he
 unfold mpB at h
 rw[I2]at h
 obtain⟨h1,h2⟩:=h
 simp only at h1 h2 ⊢
 refine⟨?_,?_⟩
 · split at h1
   · rename_i a b hu
     rw[I2]at h1
     have e1:=eq_of_beq h1.1
     have e2:=eq_of_beq h1.2
     subst e1 e2
     exact hu
   · cases h1
 · split at h2
   · assumption
   · cases h2
def ptB (P:Program) (x:Nat×Nat):Bool:=(match P.underlying x.1 with
 |some (.pointer e)=>e==x.2
 |_=>false)&&(match P.info? x.2 with
 |some i=>i.size != 0
 |none=>false)
theorem ptB_ok {P:Program} (x:Nat×Nat) (h:ptB P x=true):P.underlying x.1=some (.pointer x.2)∧∃i,P.info? x.2=some i∧i.size≠0:=by
 obtain⟨t,e⟩:=x
 unfold ptB at h
 rw[I2]at h
 obtain⟨h1,h2⟩:=h
 simp only at h1 h2 ⊢
 refine⟨?_,?_⟩
 · split at h1
   · rename_i a hu
     have e1:=eq_of_beq h1
     subst e1
     exact hu
   · cases h1
 · split at h2
   · rename_i i hi
     exact⟨i,hi,by simpa using h2⟩
   · cases h2
def btB (P:Program) (x:Nat×Nat):Bool:=match P.info? x.1 with
 |some i=>i.bytes==x.2
 |none=>false
theorem btB_ok {P:Program} (x:Nat×Nat) (h:btB P x=true):∃i,P.info? x.1=some i∧i.bytes=x.2:=by
 unfold btB at h
 split at h
 · rename_i i hi
   exact⟨i,hi,eq_of_beq h⟩
 · cases h
def cmB (P:Program) (x:Nat×Nat):Bool:=!(P.stoodInHeld x.1)&&(!(P.eqGuardType P.depth x.1)&&(P.fieldsOf x.1).toList.all (fun f=>f.name != "_"))
theorem cmB_ok {P:Program} (x:Nat×Nat) (h:cmB P x=true):P.stoodInHeld x.1=false∧P.eqGuardType P.depth x.1=false∧(P.fieldsOf x.1).toList.all (fun f=>f.name != "_") = true := by
 unfold cmB at h
 rw[I2,I2]at h
 exact⟨by simpa using h.1,by simpa using h.2.1,h.2.2⟩
def usB (P:Program) (x:Nat×Nat):Bool:=match P.underlying x.1 with
 |some .unsafePointer=>true
 |_=>false
theorem usB_ok {P:Program} (x:Nat×Nat) (h:usB P x=true):P.underlying x.1=some .unsafePointer:=by
 unfold usB at h
 split at h
 · assumption
 · cases h
theorem xok {P:Program} {f79 f147:Func} (a1:P.funcs[211]?=some f79) (a2:(f79.name == "runtime.NumGoroutine") = false) (a3:f79.body.isNone=true) (a4:Extern.findNext f79=none) (a5:Extern.find f79=some Extern.AbiNoEscape.same)
 (b1:P.funcs[71]?=some f147) (b2:(f147.name == "runtime.NumGoroutine") = false) (b3:f147.body.isNone=true) (b4:Extern.findNext f147=none) (b5:Extern.find f147=some add64Entry):(∀x w,(callFunc 211 #[x]).run P w=.ok (.value x) w)∧∀(a b c:Nat) w,c≤1→(callFunc 71 #[.int .u64 (Int.ofNat a),.int .u64 (Int.ofNat b),.int .u64 (Int.ofNat c)]).run P w =
 .ok (.value (.tuple #[.int .u64 (Int.ofNat ((a+b+c)%18446744073709551616)),.int .u64 (Int.ofNat ((a+b+c) / 18446744073709551616))])) w:=by
 refine⟨fun x w=>?_,fun a b c w hc=>?_⟩
 · rw[run_callFunc_extern a1 a2 a3 a4 a5]
   rfl
 · rw[run_callFunc_extern b1 b2 b3 b4 b5]
   have:=run_add64 (P:=P) (a:Int) (b:Int) (c:Int) (Fw a) (Fw b) (Fw c) (by omega) w
   rw[show(Value.int .u64 (Int.ofNat a))=Value.int .u64 (a:Int)from rfl,show(Value.int .u64 (Int.ofNat b))=Value.int .u64 (b:Int)from rfl,show(Value.int .u64 (Int.ofNat c))=Value.int .u64 (c:Int)from rfl,this]
   rfl
open Go Go.GV Go.Proofs Go.Proofs.YtacpdfjcepkgcaaGreatDoor Go.RowKit
theorem catch_idle (p:Addr) (w:World) :
 CallsDIn (FR none) 0 Tryz.prog 46 #[.pointer (some p)] .returning w fun e u' w'=>e=.returned (.tuple #[])∧u'=.returning∧w'=w:=by
 refine callsDIn_of_wpSIn Tryz.func46 rfl (by simp[FR]) fun c₀ cs hu=>?_
 apply wpSIn_seq
 apply wpSIn_region
 simp[wpOpsSIn,go_sem,recoverD,hu,Tryz.ntmps46,Exit.thenS]
 refine wpSIn_of_wpIn rfl ?_
 gi_wp2
 cases c₀
 simp_all [bodyPostS,results,Tryz.results46]
theorem catch_pan (p:Addr) (k:IntKind) (z:Int) (v0:Value) (w:World) (hc:w.cell? p=some v0) (hz:w.frozen? p=false) :
 CallsDIn (FR none) 0 Tryz.prog 46 #[.pointer (some p)] (.panicking [{v:=.iface 134 (.agg #[.int k z]),recovered:=false}]) w fun e u' w'=>e=.returned (.tuple #[])∧u'=.panicking [{v:=.iface 134 (.agg #[.int k z]),recovered:=true}] ∧
  w'=(w.alloc (.cells #[.int k z] 134)).setCell p (.bool false):=by
 refine callsDIn_of_wpSIn Tryz.func46 rfl (by simp[FR]) fun c₀ cs hu=>?_
 apply wpSIn_seq
 apply wpSIn_region
 simp[wpOpsSIn,go_sem,recoverD,hu,Tryz.ntmps46,Exit.thenS]
 have hta:∀(x:Value) (w:World),(Instr.typeAssert (.iface 134 x) 20 134 true).run Tryz.prog w=.ok (.tuple #[x,.bool true]) w:=fun x w=>by kernel_rfl
 have hlt:p.block<w.heap.size:=World.block_lt_of_cell? w p hc
 have ha:∀o,(w.alloc o).cell? p=some v0:=fun o=>by rw[World.cell?_alloc_lt _ _ _ hlt];exact hc
 have hb:∀o,(w.alloc o).frozen? p=false:=fun o=>by rw[World.frozen?_alloc_old _ _ _ (Nat.ne_of_lt hlt)];exact hz
 refine wpSIn_of_wpIn rfl ?_
 gi_wp2
 cases c₀
 simp_all [bodyPostS,results,Tryz.results46]
theorem hide {m:Mp} {h:H} {nx:Pos} {w:World} (M:Mem m h nx w) (o:Obj):Mem m h nx (w.alloc o):=
 ⟨fun id l e=>(M.ob id l e).mono (.refl m) (Ht w o (M.bl _ _ e)),M.ij,M.lt,fun id l e=>by
   have:=M.bl _ _ e
   show _<(w.heap.push o).size
   simp;omega,M.bs⟩
theorem hidden {m:Mp} {h:H} {nx:Pos} {w:World} (M:Mem m h nx w) {o:Obj} {m':Mp} {h':H} {nx':Pos} {w1:World} (E:Ext m h nx (w.alloc o) m' h' nx' w1) (id:Pos) (l:Loc) (e:m' id=some l):l.blk≠w.heap.size:=fun c=>by
 have hsz:(w.alloc o).heap.size=w.heap.size+1:=by show(w.heap.push o).size=_;simp
 cases hm:m id with
 |none=>
  rcases E.fresh _ _ e hm with a|⟨j,k,a,b,_⟩
  · omega
  · have:=M.bl _ _ a
    omega
 |some l'=>
  have:=E.le _ _ hm
  rw[e]at this
  cases this
  have:=M.bl _ _ hm
  omega
theorem hid_at {m:Mp} {h:H} {nx:Pos} {w:World} (M:Mem m h nx w) {o:Obj} {m':Mp} {h':H} {nx':Pos} {w1:World} (E:Ext m h nx (w.alloc o) m' h' nx' w1):w1.heap[w.heap.size]?=some o:=by
 have hsz:(w.alloc o).heap.size=w.heap.size+1:=by show(w.heap.push o).size=_;simp
 rw[E.old _ (by omega) fun id l a b=>by have:=M.bl _ _ a;omega]
 exact I1 w o
theorem hid_back {m:Mp} {h:H} {nx:Pos} {w:World} (M:Mem m h nx w) {o:Obj} {m':Mp} {h':H} {nx':Pos} {w1 w2:World} (E:Ext m h nx (w.alloc o) m' h' nx' w1) (M1:Mem m' h' nx' w1)
 (hw:∀b,b<w1.heap.size→b≠w.heap.size→w2.heap[b]?=w1.heap[b]?) (hz:w1.heap.size≤w2.heap.size) (h1:w2.os=w1.os) (h2:w2.tape=w1.tape) (h3:w2.output=w1.output) :
 Mem m' h' nx' w2∧Ext m h nx w m' h' nx' w2:=by
 have hsz:(w.alloc o).heap.size=w.heap.size+1:=by show(w.heap.push o).size=_;simp
 have hE:=E.size
 refine⟨⟨fun id l e=>(M1.ob id l e).mono (.refl _) (hw _ (M1.bl _ _ e) (hidden M E _ _ e)),M1.ij,M1.lt,fun id l e=>Na (M1.bl _ _ e) hz,M1.bs⟩,
  E.le,E.nle,E.virt,fun b hb hr=>?_,by omega,fun id l a b=>?_,E.ros,E.nro,h1.trans E.os,h2.trans E.tape,h3.trans E.output⟩
 · rw[hw b (by omega) (by omega),E.old b (by omega) hr]
   exact Ht w o hb
 · rcases E.fresh id l a b with c|c
   · exact .inl (by omega)
   · exact .inr c
theorem sc_far (w:World) (b:Nat) (v:Value) (c:Nat) (hc:c≠b):(w.setCell ⟨b,0,none⟩ v).heap[c]?=w.heap[c]?:=by
 simp[World.setCell,Array.getElem?_modify,Ne.symm hc]
variable {P : Program} {o : Oper}
theorem callU {c:Call} {f:Operand} (ho:o.op=.call c) (hc:c.callee=.value f) {a:Act} {w:World} {d:Deferred} {S:Value→World→Prop} {next:Act→World→Prop} {Q:Exit→Act→World→Prop} {fv:Value} {xs:Array Value}
 (hfv:a.eval f=fv) (has:c.args.map a.eval=xs)
 (h1:(Deferred.ofValue fv xs).run P w=.ok d w) (h2:Vk P S ((invoke d.target d.args).run P w))
 (hn:∀cv w',S cv w'→next (a.put o.dst cv) w'):o.wpIn (FR none) 0 P a w next Q:=by
 refine⟨fun _ _=>trivial,?_⟩
 show o.uponIn (FR none) 0 P a next Q ((o.semAt none a.eval).run P w)
 subst hfv has
 rw[Ja none _ (fun c hc=>by rw[ho]at hc;cases hc),Pt ho hc,h1]
 simp only[Bn]
 generalize (invoke d.target d.args).run P w=res at h2 ⊢
 cases res with
 |ok x w'=>
  cases x with
  |value cv=>exact hn cv w' h2
  |enter f' args=>
   refine⟨fun c=>(by cases c),?_⟩
   have h3:CallsIn (FR none) 0 P f' args w' _:=h2
   show CallsIn (FR none) 0 P f' args w' _
   refine CallsIn.mono h3 fun e w'' he=>?_
   cases e with
   |returned cv=>exact hn cv w'' he
   |panicked _=>exact he.elim
   |outgrown=>exact he.elim
  |round l f' tmps asg body=>
   refine⟨fun c=>(by cases c),?_⟩
   have h3:RoundIn (FR none) 0 P l f' tmps asg body w' _:=h2
   show RoundIn (FR none) 0 P l f' tmps asg body w' _
   refine RoundIn.mono h3 fun e w'' he=>?_
   cases e with
   |returned cv=>exact hn cv w'' he
   |panicked _=>exact he.elim
   |outgrown=>exact he.elim
  |_=>exact h2.elim
 |halt x w'=>exact h2.elim
theorem callPU {c:Call} {f:Operand} (ho:o.op=.call c) (hc:c.callee=.value f) {a:Act} {w:World} {d:Deferred} {S:World→Prop} {next:Act→World→Prop} {Q:Exit→Act→World→Prop} {fv:Value} {xs:Array Value}
 (hfv:a.eval f=fv) (has:c.args.map a.eval=xs)
 (h1:(Deferred.ofValue fv xs).run P w=.ok d w) (h2:UponP P S ((invoke d.target d.args).run P w))
 (hn:∀ch w',PanCh ch→S w'→Q (.panic ch) a w'):o.wpIn (FR none) 0 P a w next Q:=by
 refine⟨fun _ _=>trivial,?_⟩
 show o.uponIn (FR none) 0 P a next Q ((o.semAt none a.eval).run P w)
 subst hfv has
 rw[Ja none _ (fun c hc=>by rw[ho]at hc;cases hc),Pt ho hc,h1]
 simp only[Bn]
 generalize (invoke d.target d.args).run P w=res at h2 ⊢
 cases res with
 |ok x w'=>
  cases x with
  |enter f' args=>
   refine⟨fun c=>(by cases c),?_⟩
   have h3:CallsIn (FR none) 0 P f' args w' _:=h2
   show CallsIn (FR none) 0 P f' args w' _
   refine CallsIn.mono h3 fun e w'' he=>?_
   cases e with
   |returned cv=>exact he.elim
   |panicked ch=>exact hn ch w'' he.1 he.2
   |outgrown=>exact he.elim
  |_=>exact h2.elim
 |halt x w'=>exact h2.elim
end Go.CE
namespace Go.CE
open Go Go.GV Go.Proofs Go.Proofs.YtacpdfjcepkgcaaGreatDoor Go.RowKit
theorem fits_ok {ih:L8} (hih:∀kp,Ez Tryz.prog kp (ih kp)) {l:List AV} {h:H} {nx:Pos} {k:K} (he:fitsK ih l h nx k=true) :
 ∃v h' nx',k v h' nx'=true∧∀m w vs s,Mem m h nx w→m (Ay 2)=some ⟨0,0,s⟩→VL m l vs →
 Vk Tryz.prog (Fin m h nx w v h' nx') ((callFunc 18 vs.toArray).run Tryz.prog w)∧(callFunc 18 vs.toArray).run Tryz.prog w=.ok (.enter 18 vs.toArray) w:=by
 have hen:∀(vs:Array Value) w,(callFunc 18 vs).run Tryz.prog w=.ok (.enter 18 vs) w:=fun vs w=>Dx Tryz.func18 rfl rfl vs w
 have hmf:∀(fn:Fn) (first cap:Array Value) (w:World),(Instr.makeFunc fn first cap).run Tryz.prog w=.ok (.func fn first cap) w:=fun _ _ _ _=>rfl
 match l,he with
 |[fv],he=>
  rcases hih _ fv [] h nx _ he with⟨v,h',nx',hk,hS⟩|⟨h',nx',hk,hP⟩
  · refine⟨.b true,h',nx',hk,fun m w vs s M hs hv=>⟨?_,hen _ _⟩⟩
    rw[hen]
    obtain⟨cv,r,rfl,hcv,hr⟩:=hv.inv
    have hr0:r=[]:=O4 hr.1.symm
    subst hr0
    show CallsIn (FR none) 0 Tryz.prog 18 #[cv] w _
    obtain⟨d,d1,d2,_⟩:=hS m (w.alloc (.cells #[.bool false] 4)) cv [] s (hide M _) hs hcv (VL.nil m)
    gi_enter_defers Tryz.func18,Tryz.ntmps18
    refine wpIn_seq (wpIn_region_list ?_)
    simp[wpListIn,go_sem,Exit.then,Region.wanted]
    refine wpIn_seq (wpIn_region_list ?_)
    simp[wpListIn,go_sem,Exit.then,Region.wanted]
    refine wpIn_seq (wpIn_region_list ?_)
    refine wpListIn_plain rfl fun K hK=>?_
    simp[go_sem]
    refine hK _ _ ?_
    refine wpListIn_plain rfl fun K' hK'=>?_
    refine callU (f:=.tmp 4) (fv:=cv) (xs:=#[]) rfl rfl (by simp[Act.eval]) (by simp) d1 d2 fun cv' w' hF=>?_
    obtain⟨m',e1,e2,e3⟩:=hF
    refine hK' _ _ ?_
    have hat:=hid_at M e3
    have hc:w'.cell? ⟨w.heap.size,0,none⟩=some (.bool false):=by simp[World.cell?,hat]
    have hz:w'.frozen? ⟨w.heap.size,0,none⟩=false:=by simp[World.frozen?,hat]
    clear hK hK' K K'
    simp[wpListIn,Exit.then]
    refine wpIn_seq (wpIn_region_list ?_)
    simp[wpListIn,go_sem,Exit.then,Region.wanted,hc,hz]
    refine wpIn_ret ?_
    refine leavesIn_cons (f:=46) (args:=#[.pointer (some ⟨w.heap.size,0,none⟩)]) (by simp) (by simp[FR]) (by simp[go_sem]) (by simp[Target.leads,FR]) ?_
    refine(catch_idle ⟨w.heap.size,0,none⟩ _).mono ?_
    rintro e u' w'' ⟨rfl,rfl,rfl⟩
    simp[LeavesIn,settle,results,Tryz.results18,go_sem,hc]
    exact⟨m',.b true,hid_back M e3 e2 (fun b _ hb=>sc_far _ _ _ _ hb) (by simp[World.setCell]) rfl rfl rfl⟩
  · refine⟨.b false,h',nx',hk,fun m w vs s M hs hv=>⟨?_,hen _ _⟩⟩
    rw[hen]
    obtain⟨cv,r,rfl,hcv,hr⟩:=hv.inv
    have hr0:r=[]:=O4 hr.1.symm
    subst hr0
    show CallsIn (FR none) 0 Tryz.prog 18 #[cv] w _
    obtain⟨d,d1,d2⟩:=hP m (w.alloc (.cells #[.bool false] 4)) cv [] s (hide M _) hs hcv (VL.nil m)
    gi_enter_defers Tryz.func18,Tryz.ntmps18
    refine wpIn_seq (wpIn_region_list ?_)
    simp[wpListIn,go_sem,Exit.then,Region.wanted]
    refine wpIn_seq (wpIn_region_list ?_)
    simp[wpListIn,go_sem,Exit.then,Region.wanted]
    refine wpIn_seq (wpIn_region_list ?_)
    refine wpListIn_plain rfl fun K hK=>?_
    simp[go_sem]
    refine hK _ _ ?_
    refine wpListIn_plain rfl fun K' hK'=>?_
    refine callPU (f:=.tmp 4) (fv:=cv) (xs:=#[]) rfl rfl (by simp[Act.eval]) (by simp) d1 d2 fun ch w' hch hF=>?_
    obtain⟨kk,z,rfl⟩:=hch
    obtain⟨m',e2,e3⟩:=hF
    have hat:=hid_at M e3
    have hc:w'.cell? ⟨w.heap.size,0,none⟩=some (.bool false):=by simp[World.cell?,hat]
    have hz:w'.frozen? ⟨w.heap.size,0,none⟩=false:=by simp[World.frozen?,hat]
    clear hK hK' K K'
    refine leavesIn_cons (f:=46) (args:=#[.pointer (some ⟨w.heap.size,0,none⟩)]) (by simp) (by simp[FR]) (by simp[go_sem]) (by simp[Target.leads,FR]) ?_
    refine(catch_pan ⟨w.heap.size,0,none⟩ kk z _ _ hc hz).mono ?_
    rintro e u' w'' ⟨rfl,rfl,rfl⟩
    have hc2:((w'.alloc (Obj.cells #[Value.int kk z] 134)).setCell ⟨w.heap.size,0,none⟩ (Value.bool false)).cell? ⟨w.heap.size,0,none⟩=some (.bool false):=by
     rw[World.cell?_setCell_same (u:=.bool false)]
     rw[World.cell?_alloc_lt _ _ _ (World.block_lt_of_cell? w' _ hc)]
     exact hc
    simp[LeavesIn,settle,results,Tryz.results18,go_sem,hc2]
    refine⟨m',.b false,hid_back M e3 e2 (fun b h1 hb=>?_) (by have e:(w'.alloc (Obj.cells #[Value.int kk z] 134)).heap.size=w'.heap.size+1:=(by show(w'.heap.push _).size=_;simp);show _≤((w'.alloc (Obj.cells #[Value.int kk z] 134)).heap.modify _ _).size;rw[Array.size_modify];omega) rfl rfl rfl⟩
    rw[sc_far _ _ _ _ hb]
    exact Ht _ _ h1
theorem fail_ok {kp:KP} {l:List AV} {h:H} {nx:Pos} (he:failK kp l h nx=true):kp h nx=true∧∀m w vs,Mem m h nx w→VL m l vs→UponP Tryz.prog (FinP m h nx w h nx) ((callFunc 87 vs.toArray).run Tryz.prog w):=by
 have hen:∀(vs:Array Value) w,(callFunc 87 vs).run Tryz.prog w=.ok (.enter 87 vs) w:=fun vs w=>Dx Tryz.func87 rfl rfl vs w
 match l,he with
 |[.p id off],he=>
  obtain⟨c,cs,fz,ro,ct,hh,hlt,hk⟩:=rd1_inv he
  obtain⟨kd,n,hv,hk⟩:=Nz hk
  refine⟨hk,fun m w vs M hl=>?_⟩
  rw[hen]
  obtain⟨pv,r,rfl,hpv,hr⟩:=hl.inv
  have hr0:r=[]:=O4 hr.1.symm
  subst hr0
  cases hpv with
  |p _ hid=>
   rename_i lo
   have hob:=M.ob _ _ hid
   rw[hh]at hob
   obtain⟨arr,fr,a1,a2,a3,a4,a5⟩:=hob
   obtain⟨v,b1,b2⟩:=a4 _ hlt
   rw[hv]at b2
   cases b2
   have hc:w.cell? ⟨lo.blk,lo.base+off+1,none⟩=some (.int kd n):=by simp[World.cell?,a1];exact b1
   show CallsIn (FR none) 0 Tryz.prog 87 #[.pointer (some ⟨lo.blk,lo.base+off,none⟩)] w _
   refine callsIn_of_wp Tryz.func87 rfl (by simp[FR]) ?_
   simp only[Tryz.ntmps87]
   gi_wp2
   exact⟨rfl,⟨kd,n,rfl⟩,m,M,Ext.refl m h nx w⟩
end Go.CE
