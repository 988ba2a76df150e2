/- Part 29 of the lemmas behind the claim. -/
import Derived.Test.YtacpdfjcepkgcaaGreatDoorZA01
import Derived.Test.YtacpdfjcepkgcaaGreatDoorZA28
set_option linter.unusedSimpArgs false
set_option linter.unusedVariables false
set_option linter.constructorNameAsVariable false
set_option linter.unusedSectionVars false
set_option linter.defProp false
set_option maxRecDepth 100000
set_option maxHeartbeats 40000000
namespace Go.CE
open Go Go.Ps Go.Proofs.YtacpdfjcepkgcaaGreatDoor
attribute [local irreducible] loopK Ai K0 N2 Dg fits rd rd1 wr newC Kj Fk Fa Ve
variable {E : PEnv} {m : Nat}
theorem w_body (A:ALL E m):CtrY E (m+1):=by
 intro ds pv X hX hds n d hd hn kp h nx k s R Q Fl hXR P hW hk hf
 refine Ab (d:=m+1+d) hn (by omega) fun mm hm=>?_
 have hW:W (Ah (run m) (.body ds) E.l s) Q Fl False:=hW
 simp only[Ah]at hW
 rcases hX.inv with⟨rfl,h2,h3⟩|⟨p,off,n',cap,LL,rfl,h2,h3,h4⟩
 · have h0:ds=[]:=Dh H8 (by omega) h2
   subst h0
   repeat' ((conv=>lhs;whnf);first
    |contradiction
    |(refine Ll (by omega) ‹_› (Ac.1 hW) fun s' h' nx' hW P=>?_;(try simp only[Ak,ite_self]at hW))
    |exact hk _ _ _ _ hW (PI.sb ‹_›))
   conv=>lhs;whnf
   obtain⟨Q2,hW,hQ2⟩:=Fz hW
   refine Br (L:=[0,10,11,12]) rfl (fun m' vs d' h' nx'=>∃(σ:PS) (i:Nat) (ds':List Dc),d'=[]∧vs=[.p E.pp 0,.sl0,iA ([]:List Dc).length,iA i]∧([]:List Dc).drop i=ds'∧i≤([]:List Dc).length∧m'≤m∧W (run m' (.bodyL ds') E.l σ) Q2 Fl False∧PI E h' nx' σ R) m (by omega) ⟨_,0,([]:List Dc),rfl,rfl,rfl,B9 _,Ag _,hW,by assumption⟩ ?_
   rintro m' _ d' h' nx' ⟨σ,i,ds',rfl,rfl,hi1,hi2,hm',hW,P⟩ k' hn' hx
   cases m' with
   |zero=>exact hW.elim
   |succ m'=>
   have hW:W (Ah (run m') (.bodyL ds') E.l σ) Q2 Fl False:=hW
   have hdl:ds'.length=([]:List Dc).length-i:=by rw[←hi1,Ax]
   have hds':([]:List Dc).length≤10000000:=hds
   cases ds' with
   |nil=>
    have hil:i=([]:List Dc).length:=by(try simp only[Dv]at hdl);(try simp only[Dv]at hi2 ⊢);omega
    subst hil
    simp only[Ah]at hW
    repeat' ((conv=>lhs;whnf);first
     |contradiction
     |(refine hx _ _ _ _ _ trivial ?_;have hW:=hQ2 _ _ hW;(try simp only[Ak,ite_self]at hW))
     |(refine C4 (fun hc hz=>?_) (fun hc hz=>?_)<;>first|(exfalso;simp only[Aj]at hz;omega)|try rewrite [hc])
     |(refine Ll (by omega) ‹_› (Ac.1 hW) fun s' h' nx' hW P=>?_;(try simp only[Ak,ite_self]at hW))
     |(refine Lv (by omega) ‹_› (Ac.1 hW) fun s' h' nx' hW P=>?_;(try simp only[Ak,ite_self]at hW))
     |(refine A.items _ _ hd (by omega) _ _ _ _ _ _ _ _ ‹_› (Ac.1 hW) (fun v s' h' nx' hW P=>?_) (fun f h2 n2 s2 P2=>hf f _ _ _ (PI.sb P2));(try simp only[Ak,ite_self]at hW))
     |(refine A.items _ _ hd (by omega) _ _ _ _ _ _ _ _ ‹_› hW (fun v s' h' nx' hW P=>?_) (fun f h2 n2 s2 P2=>hf f _ _ _ (PI.sb P2));(try simp only[Ak,ite_self]at hW))
     |exact hk _ _ _ _ hW (PI.sb ‹_›))
   |cons dd r=>
    have hil:i<([]:List Dc).length:=by(try simp only[Cq,Dv]at hdl hi2 ⊢);omega
    simp only[Ah]at hW
    have hi3:([]:List Dc).drop (i+1)=r:=by rw[←List.drop_drop,hi1];rfl
    have hdd:([]:List Dc)[i]=dd:=by have:=Ly hil;rw[hi1]at this;exact(List.cons.inj this).1.symm
    repeat' ((conv=>lhs;whnf);first
     |contradiction
     |contradiction
     |refine Cw (x:=false) (by(try simp only[Aj]at *);omega) ?_
     |refine Cb (y:=false) (by(try simp only[Aj]at *);omega) ?_
     |(refine C4 (fun hc hz=>?_) (fun hc hz=>?_)<;>first|(exfalso;simp only[Aj]at hz;omega)|try rewrite [hc])
     |(refine hn' _ _ _ _ m' (by omega) ⟨_,i+1,r,rfl,rfl,hi3,by omega,by omega,hW,PI.sb ‹_›⟩)
     |refine Bl ‹_› rfl fun h1 P=>?_
     |refine B5 ‹_› 0 rfl (Aa rfl) (by first|rfl|exact Ba ‹_›) fun h1 P=>?_
     |refine An ‹_› 0 rfl (Aa rfl) ?_
     |refine Af ‹_› 0 rfl (Aa rfl) ?_
     |refine Bv (by(try simp only[Aj]at *);omega) ?_
     |(refine J0 (d:=⟨_,_⟩) (by omega) ‹_› (Ac.1 hW) fun s' h' nx' hW P=>?_;(try simp only[Ak,ite_self]at hW))
     |exact hk _ _ _ _ hW (PI.sb ‹_›))
 · have hnn:ds.length=n':=El H8 (by omega) h2 h3
   subst hnn
   repeat' ((conv=>lhs;whnf);first
    |contradiction
    |(refine Ll (by omega) ‹_› (Ac.1 hW) fun s' h' nx' hW P=>?_;(try simp only[Ak,ite_self]at hW))
    |exact hk _ _ _ _ hW (PI.sb ‹_›))
   conv=>lhs;whnf
   obtain⟨Q2,hW,hQ2⟩:=Fz hW
   refine Br (L:=[0,10,11,12]) rfl (fun m' vs d' h' nx'=>∃(σ:PS) (i:Nat) (ds':List Dc),d'=[]∧vs=[.p E.pp 0,.sl p off ds.length cap,iA ds.length,iA i]∧ds.drop i=ds'∧i≤ds.length∧m'≤m∧W (run m' (.bodyL ds') E.l σ) Q2 Fl False∧PI E h' nx' σ R) m (by omega) ⟨_,0,ds,rfl,rfl,rfl,B9 _,Ag _,hW,by assumption⟩ ?_
   rintro m' _ d' h' nx' ⟨σ,i,ds',rfl,rfl,hi1,hi2,hm',hW,P⟩ k' hn' hx
   cases m' with
   |zero=>exact hW.elim
   |succ m'=>
   have hW:W (Ah (run m') (.bodyL ds') E.l σ) Q2 Fl False:=hW
   have hdl:ds'.length=ds.length-i:=by rw[←hi1,Ax]
   have hds':ds.length≤10000000:=hds
   cases ds' with
   |nil=>
    have hil:i=ds.length:=by(try simp only[Dv]at hdl);(try simp only[Dv]at hi2 ⊢);omega
    subst hil
    simp only[Ah]at hW
    repeat' ((conv=>lhs;whnf);first
     |contradiction
     |(refine hx _ _ _ _ _ trivial ?_;have hW:=hQ2 _ _ hW;(try simp only[Ak,ite_self]at hW))
     |(refine C4 (fun hc hz=>?_) (fun hc hz=>?_)<;>first|(exfalso;simp only[Aj]at hz;omega)|try rewrite [hc])
     |(refine Ll (by omega) ‹_› (Ac.1 hW) fun s' h' nx' hW P=>?_;(try simp only[Ak,ite_self]at hW))
     |(refine Lv (by omega) ‹_› (Ac.1 hW) fun s' h' nx' hW P=>?_;(try simp only[Ak,ite_self]at hW))
     |(refine A.items _ _ hd (by omega) _ _ _ _ _ _ _ _ ‹_› (Ac.1 hW) (fun v s' h' nx' hW P=>?_) (fun f h2 n2 s2 P2=>hf f _ _ _ (PI.sb P2));(try simp only[Ak,ite_self]at hW))
     |(refine A.items _ _ hd (by omega) _ _ _ _ _ _ _ _ ‹_› hW (fun v s' h' nx' hW P=>?_) (fun f h2 n2 s2 P2=>hf f _ _ _ (PI.sb P2));(try simp only[Ak,ite_self]at hW))
     |exact hk _ _ _ _ hW (PI.sb ‹_›))
   |cons dd r=>
    have hil:i<ds.length:=by(try simp only[Cq,Dv]at hdl hi2 ⊢);omega
    simp only[Ah]at hW
    have hi3:ds.drop (i+1)=r:=by rw[←List.drop_drop,hi1];rfl
    have hdd:ds[i]=dd:=by have:=Ly hil;rw[hi1]at this;exact(List.cons.inj this).1.symm
    obtain⟨c0,c1⟩:=J2 H8 h2 h3 (by omega) hil
    rw[hdd]at c1
    repeat' ((conv=>lhs;whnf);first
     |contradiction
     |refine pi_rdm ‹_› (v:=Jf dd) (hXR _ (by rw[h4];exact Aw ..)) (by show off+i*2+2≤_;have:i*2+2≤ds.length*2:=(by omega);omega) c1 ?_
     |refine Cw (x:=false) (by(try simp only[Aj]at *);omega) ?_
     |refine Cb (y:=false) (by(try simp only[Aj]at *);omega) ?_
     |(refine C4 (fun hc hz=>?_) (fun hc hz=>?_)<;>first|(exfalso;simp only[Aj]at hz;omega)|try rewrite [hc])
     |(refine hn' _ _ _ _ m' (by omega) ⟨_,i+1,r,rfl,rfl,hi3,by omega,by omega,hW,PI.sb ‹_›⟩)
     |refine Bl ‹_› rfl fun h1 P=>?_
     |refine B5 ‹_› 0 rfl (Aa rfl) (by first|rfl|exact Ba ‹_›) fun h1 P=>?_
     |refine An ‹_› 0 rfl (Aa rfl) ?_
     |refine Af ‹_› 0 rfl (Aa rfl) ?_
     |refine Bv (by(try simp only[Aj]at *);omega) ?_
     |(refine J0 (d:=⟨_,_⟩) (by omega) ‹_› (Ac.1 hW) fun s' h' nx' hW P=>?_;(try simp only[Ak,ite_self]at hW))
     |exact hk _ _ _ _ hW (PI.sb ‹_›))
theorem w_suffixes (AA:∀m',m'≤m→ALL E m'):CtrS E (m+1):=by
 intro f pv X fb hX hpl n d hd hn kp h nx k s R Q Fl P hW hk hf
 refine Ab (d:=m+1+d) hn (by omega) fun mm hm=>?_
 conv=>lhs;whnf
 refine Br (L:=[0,1,4]) rfl (fun m' vs d' h' nx'=>∃(σ:PS) (f:Frm) (pv:AV) (X:List Av) (any:Bool),d'=[]∧vs=[.p E.pp 0,.p fb 0,.b any]∧SlA 2 126 pv (f.ps.flatMap Jf) X∧f.ps.length≤Ps.big∧m'≤m+1∧W (run m' (.suffixes f any) E.l σ) Q Fl False∧PI E h' nx' σ ((fb,.row (fC f pv) 122)::(R++X))) (m+1) (by omega) ⟨s,f,pv,X,false,rfl,rfl,hX,hpl,Ag _,hW,P⟩ ?_
 clear hX hpl hW P
 rintro m' _ d' h' nx' ⟨σ,f,pv,X,any,rfl,rfl,hX,hpl,hm',hW,P⟩ k' hn' hx
 cases m' with
 |zero=>exact hW.elim
 |succ m'=>
 have A2:=AA m' (by omega)
 have hW:W (Ah (run m') (.suffixes f any) E.l σ) Q Fl False:=hW
 simp only[Ah]at hW
 repeat' ((conv=>lhs;whnf);first
  |contradiction
  |(refine A2.array _ _ hd (by omega) _ _ _ _ _ _ _ _ ‹_› (Ac.1 hW) (fun v s' h' nx' hW P=>?_) (fun f h2 n2 s2 P2=>hf f _ _ _ (PI.sub P2 (by repeat(first|exact .refl _|exact Al _ _|exact(Al _ _).trans (Al _ _)|refine .cons _ ?_))));(try simp only[Ak,ite_self]at hW))
  |(refine A2.array _ _ hd (by omega) _ _ _ _ _ _ _ _ ‹_› hW (fun v s' h' nx' hW P=>?_) (fun f h2 n2 s2 P2=>hf f _ _ _ (PI.sub P2 (by repeat(first|exact .refl _|exact Al _ _|exact(Al _ _).trans (Al _ _)|refine .cons _ ?_))));(try simp only[Ak,ite_self]at hW))
  |(refine A2.params _ _ hd (by omega) _ _ _ _ _ _ _ _ ‹_› (Ac.1 hW) (fun v s' h' nx' pv2 X2 hX2 hpl2 hW P=>?_) (fun f h2 n2 s2 P2=>hf f _ _ _ (PI.sub P2 (by repeat(first|exact .refl _|exact Al _ _|exact(Al _ _).trans (Al _ _)|refine .cons _ ?_))));(try simp only[Ak,ite_self]at hW);rcases hX2.inv with⟨rfl,_,_⟩|⟨_,_,_,_,_,rfl,_,_,_⟩)
  |refine hx _ _ _ _ _ trivial ?_
  |(refine hn' _ _ _ _ m' (by omega) ⟨_,{f with near:=3,ps:=asD v},_,X2,true,rfl,rfl,hX2,hpl2,by omega,hW,PI.sub P (.cons_cons _ (.append (Al R X) (.refl _)))⟩)
  |(refine hn' _ _ _ _ m' (by omega) ⟨_,{f with near:=2},pv,X,true,rfl,rfl,hX,hpl,by omega,hW,P⟩)
  |(refine hn' _ _ _ _ m' (by omega) ⟨_,f,pv,X,true,rfl,rfl,hX,hpl,by omega,hW,P⟩)
  |(refine hn' _ _ _ _ m' (by omega) ⟨_,f,pv,X,true,rfl,rfl,hX,hpl,by omega,hW,PI.sub P (Al _ _)⟩)
  |exact hk any (.fb f any) _ _ _ pv X hX hpl rfl hW P
  |refine B5 ‹_› 0 rfl (Aa rfl) (by first|rfl|exact Ba ‹_›|exact ones_sl ‹_›) fun h1 P=>?_
  |refine Af ‹_› 0 rfl (Aa rfl) ?_
  |(refine Gb (by omega) ‹_› (Ac.1 hW) fun b h' nx' hW P=>?_;cases b<;>(try simp only[Ak,ite_self]at hW))
  |(refine Cu (fun hc hz=>?_) (fun hc hz=>?_)<;>(try rewrite [hc])<;>(first|simp only[if_pos hz]at hW|simp only[if_neg hz]at hW|rw[if_pos ‹_›]at hW|rw[if_neg ‹_›]at hW|rw[if_pos (by(try simp only[Aj]at *);omega)]at hW|rw[if_neg (by(try simp only[Aj]at *);omega)]at hW|skip)<;>(try simp only[Ak,ite_self]at hW))
  |exact hk _ _ _ _ hW (PI.sub ‹_› (by repeat(first|exact .refl _|exact Al _ _|exact(Al _ _).trans (Al _ _)|refine .cons _ ?_))))
end Go.CE
