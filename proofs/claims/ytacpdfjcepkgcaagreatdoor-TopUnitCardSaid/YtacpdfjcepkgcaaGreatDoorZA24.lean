/- Part 24 of the lemmas behind the claim. -/
import Derived.Test.YtacpdfjcepkgcaaGreatDoorZA01
import Derived.Test.YtacpdfjcepkgcaaGreatDoorZA23
set_option linter.unusedSimpArgs false
set_option linter.unusedVariables false
set_option linter.constructorNameAsVariable false
set_option linter.unusedSectionVars false
set_option linter.defProp false
set_option maxRecDepth 100000
set_option maxHeartbeats 40000000
namespace Go.CE
open Go Go.Ps Go.Proofs.YtacpdfjcepkgcaaGreatDoor
attribute [local irreducible] loopK Ai K0 N2 Dg fits rd rd1 wr newC Kj Fk Fa Ve
theorem NR_open {E:PEnv} {now:List Nat→Int} {cg:List Ch} {bk:List Nat} {ty:List Nat→Bool} {dl:List Dc} {st:List ((List Nat→Bool)×List Dc)} (h:NR E now cg bk ty dl st):NR E now cg (bk++[cg.length]) ty [] ((ty,dl)::st):=by
 refine⟨bk,cg.length,rfl,Ag _,by simp,?_,?_⟩
 · cases st with
   |nil=>exact h.2.2
   |cons a r=>obtain⟨b,k,_,_,_,h4,_⟩:=h;exact h4
 · rw[List.drop_length,List.take_length];exact h
theorem Aa2 {E:PEnv}:∀ {st:List ((List Nat→Bool)×List Dc)} {now:List Nat→Int} {cg:List Ch} {bk:List Nat} {ty:List Nat→Bool} {dl:List Dc},NR E now cg bk ty dl st→bk.length=st.length
 |[],now,cg,bk,ty,dl,h=>by rw[h.1];rfl
 |(ty',dl')::r,now,cg,bk,ty,dl,h=>by
  obtain⟨b,k,h1,h2,h3,h4,h5⟩:=h
  rw[h1,Bb,Aa2 h5];rfl
theorem iA_len (t:Nat):((fun n=>[iA n]) t).length=1:=rfl
theorem map_iA (l:List Nat):l.map iA=l.flatMap fun n=>[iA n]:=by induction l with
 |nil=>rfl
 |cons a r ih=>simp[ih]
variable {E : PEnv} {h : H} {nx : Pos} {s : PS} {R : List Av} {n : Nat} {kp : KP} {k : K}
theorem PR.cgF {C:PC} (hR:PR E C s):C.cg=.sl0∧C.CL=[]∨∃p,C.cg=.sl p 0 C.CL.length (.u 3):=by
 rcases hR.cg.inv with⟨h1,h2,h3⟩|⟨p,n',LL,h1,h2,h3,h4⟩
 · exact .inl ⟨h1,Dh Dk (by omega) h2⟩
 · exact .inr ⟨p,by rw[h1,El (off:=0) Dk (by omega) (by simpa using h2) (by omega)]⟩
theorem PI.putBk {C:PC} (hR:PR E C s) (hsb:s.st.length<Ps.big) {p:Pos} {LL:List AV} (hLL:LL=C.BL.map iA++[iA C.CL.length])
 (S:Sat h nx ((p,.row LL 3)::(E.pp,.row [E.lsl,iA s.at',C.dn,.p E.sc 0,.m C.mp,C.cg,.sl p 0 (C.BL.length+1) (.u 1)] 66)::(C.mp,.map (Eb C.now))::(R++(E.EL++(C.ED++(C.EC++E.SE)))))) :
 PI E h nx {s with st:=(s.ty,s.dl)::s.st,dl:=[]} R:=by
 subst hLL
 refine⟨{C with bk:=.sl p 0 (C.BL.length+1) (.u 1),BL:=C.BL++[C.CL.length],EB:=[(p,.row (C.BL.map iA++[iA C.CL.length]) 3)]},
  ⟨hR.sc,hR.at',hR.len,hR.tok,hR.dn,hR.cg,?_,NR_open hR.nr,⟨hsb,by have:=hR.sb.2;unfold tot at this ⊢;simp only[D5,List.sum_cons,Dv];omega⟩,hR.ok,hR.nw⟩,?_⟩
 · show GrA 1 3 _ ((C.BL++[C.CL.length]).map iA) _
   rw[Eo]
   exact .row _ _ _ _ (by rw[Et (by simp)];rfl) (by simp)
 · exact S.perm pm3.symm
theorem Ll (hn:2≤n) (P:PI E h nx s R) {Q:Unit→PS→Prop} {F:Prop} (hW:W (Hq E.l s) Q F False) (hk:∀s' h' nx',Q () s'→PI E h' nx' s' R→k (.tu []) h' nx'=true):Ai gg n kp (.fn 93 []) [.p E.pp 3] h nx k=true:=by
 refine Ab hn (by omega) fun m hm=>?_
 unfold Hq at hW
 have hc:s.st.length<Ps.big:=by
  apply Classical.byContradiction
  intro c
  rw[if_neg c]at hW
  exact hW
 rw[if_pos hc]at hW
 obtain⟨C,hR,S⟩:=P
 have hb:C.BL.length<10000000:=by rw[Aa2 hR.nr];exact hc
 have hcg:∃z:Int,z=Int.ofNat C.CL.length:=⟨_,rfl⟩
 rcases hR.bk.inv with⟨h1,h2,h3⟩|⟨p,n',LL,h1,h2,h3,h4⟩
 · have h0:C.BL=[]:=List.map_eq_nil_iff.1 h2
   have S:Sat h nx ((E.pp,.row [E.lsl,iA s.at',C.dn,.p E.sc 0,.m C.mp,C.cg,.sl0] 66)::(C.mp,.map (Eb C.now))::(R++(E.EL++(C.ED++(C.EC++E.SE))))):=by
    unfold PA at S;rw[h1,h3]at S;exact S
   rcases hR.cgF with⟨g1,g2⟩|⟨q,g1⟩
   · rw[g1]at S
     repeat' ((conv=>lhs;whnf);first
      |contradiction
      |refine Ae ‹_› 0 rfl (Aa rfl) ?_
      |refine A6 ‹_› (.row _ 3) (Aab _ 3) fun h1 S=>?_
      |refine Da ‹_› 0 rfl (Aa rfl) ?_
      |refine G7 ‹_› (Aa rfl) rfl fun h1 S=>?_
      |refine Au ‹_› 2 rfl (Aa rfl) rfl fun h1 S=>?_)
     refine hk _ _ _ hW (PI.putBk hR hc (p:=Ad nx) (LL:=[iA C.CL.length]) (by rw[h0];rfl) ?_)
     have S2:=S.sub (.cons_cons _ (.cons _ (.cons_cons _ (.refl _))))
     rw[h0,g1,g2]
     exact S2
   · rw[g1]at S
     repeat' ((conv=>lhs;whnf);first
      |contradiction
      |refine Ae ‹_› 0 rfl (Aa rfl) ?_
      |refine A6 ‹_› (.row _ 3) (Aab _ 3) fun h1 S=>?_
      |refine Da ‹_› 0 rfl (Aa rfl) ?_
      |refine G7 ‹_› (Aa rfl) rfl fun h1 S=>?_
      |refine Au ‹_› 2 rfl (Aa rfl) rfl fun h1 S=>?_)
     refine hk _ _ _ hW (PI.putBk hR hc (p:=Ad nx) (LL:=[iA C.CL.length]) (by rw[h0];rfl) ?_)
     have S2:=S.sub (.cons_cons _ (.cons _ (.cons_cons _ (.refl _))))
     rw[h0,g1]
     exact S2
 · have hl:C.BL.length=n':=El (off:=0) iA_len (by omega) (by rw[map_iA]at h2;simpa using h2) (by omega)
   subst hl
   have S:Sat h nx ((p,.row LL 3)::(E.pp,.row [E.lsl,iA s.at',C.dn,.p E.sc 0,.m C.mp,C.cg,.sl p 0 C.BL.length (.u 1)] 66)::(C.mp,.map (Eb C.now))::(R++(E.EL++(C.ED++(C.EC++E.SE))))):=by
    unfold PA at S;rw[h1,h4]at S;exact S.perm pm3
   rcases hR.cgF with⟨g1,g2⟩|⟨q,g1⟩
   · rw[g1]at S
     repeat' ((conv=>lhs;whnf);first
      |contradiction
      |refine Ae ‹_› 1 rfl (Aa rfl) ?_
      |refine A6 ‹_› (.row _ 3) (Aab _ 3) fun h1 S=>?_
      |refine Da ‹_› 0 rfl (Aa rfl) ?_
      |refine G6 ‹_› 1 rfl h3 rfl (by(try simp only[Aj]at *);omega) rfl fun h1 S=>?_
      |refine Au ‹_› 2 rfl (Aa rfl) rfl fun h1 S=>?_)
     refine hk _ _ _ hW (PI.putBk hR hc (p:=Ad nx) (LL:=LL.take (C.BL.length*1)++[iA C.CL.length]) (by rw[h2]) ?_)
     have S2:=S.sub (.cons_cons _ (.cons _ (.cons_cons _ (.refl _))))
     rw[g1,g2]
     exact S2
   · rw[g1]at S
     repeat' ((conv=>lhs;whnf);first
      |contradiction
      |refine Ae ‹_› 1 rfl (Aa rfl) ?_
      |refine A6 ‹_› (.row _ 3) (Aab _ 3) fun h1 S=>?_
      |refine Da ‹_› 0 rfl (Aa rfl) ?_
      |refine G6 ‹_› 1 rfl h3 rfl (by(try simp only[Aj]at *);omega) rfl fun h1 S=>?_
      |refine Au ‹_› 2 rfl (Aa rfl) rfl fun h1 S=>?_)
     refine hk _ _ _ hW (PI.putBk hR hc (p:=Ad nx) (LL:=LL.take (C.BL.length*1)++[iA C.CL.length]) (by rw[h2]) ?_)
     have S2:=S.sub (.cons_cons _ (.cons _ (.cons_cons _ (.refl _))))
     rw[g1]
     exact S2
end Go.CE
namespace Go.CE
open Go Go.Ps Go.Proofs.YtacpdfjcepkgcaaGreatDoor
attribute [local irreducible] loopK Ai K0 N2 Dg fits rd rd1 wr newC Kj Fk Fa Ve
theorem undo_nw {now:List Nat→Int} (h:∀x,now x=0∨now x=1∨now x=2):∀ {cs:List Ch},(∀c∈cs,c.was=0∨c.was=1∨c.was=2)→∀x,Lf now cs x=0∨Lf now cs x=1∨Lf now cs x=2
 |[],_,x=>h x
 |c::r,hc,x=>by
  show I9 (Lf now r) c.n c.was x=0∨I9 (Lf now r) c.n c.was x=1∨I9 (Lf now r) c.n c.was x=2
  unfold I9
  split
  · exact hc c (Aw ..)
  · exact undo_nw h (fun c hc'=>hc c (Am _ hc')) x
variable {E : PEnv} {h : H} {nx : Pos} {s : PS} {R : List Av} {n : Nat} {kp : KP} {k : K}
theorem sat_rd1v {A:List Av} (S:Sat h nx A) (i:Nat) {p:Pos} {L:List AV} {ty off:Nat} {k:AV→Bool} (j:Nat) {v:AV} (hi:A[i]?=some (p,.row L ty)) (hj:off=j) (hv:L[j]?=some v) (hk:k v=true):rd1 h p off k=true:=by
 subst hj
 obtain⟨h1,h2⟩:=Gn.1 hv
 refine Ae S i hi h1 ?_
 rw[A0,hv];exact hk
theorem Lh {A:List Av} (S:Sat h nx A) {p:Pos} {L:List AV} {ty off n:Nat} {v:List AV} {k:List AV→Bool} (hm:(p,.row L ty)∈A) (ho:off+n≤L.length) (hv:(L.drop off).take n=v) (hk:k v=true):rd h p off n k=true:=by
 obtain⟨j,hj⟩:=Ih.1 hm
 refine Da S j hj ho ?_
 rw[hv];exact hk
theorem PI.shut {C:PC} (hR:PR E C s) {p:Pos} {LL:List AV} {b:List Nat} {kk:Nat} {cgv:AV} {ty':List Nat→Bool} {dl':List Dc} {r:List ((List Nat→Bool)×List Dc)} (hst:s.st=(ty',dl')::r) (e5:NR E (Lf C.now (List.drop kk C.CL)) (List.take kk C.CL) b ty' dl' r)
 (hbk:GrA 1 3 (.sl p 0 b.length (.u 1)) (b.map iA) [(p,.row LL 3)]) (hcg:GrA 3 202 cgv ((C.CL.take kk).flatMap Ji) C.EC)
 (S:Sat h nx ((p,.row LL 3)::(E.pp,.row [E.lsl,iA s.at',C.dn,.p E.sc 0,.m C.mp,cgv,.sl p 0 b.length (.u 1)] 66)::(C.mp,.map (Eb (Lf C.now (C.CL.drop kk))))::(R++(E.EL++(C.ED++(C.EC++E.SE)))))) :
 PI E h nx {s with ty:=ty',dl:=dl',st:=r} R:=by
 refine⟨{C with bk:=.sl p 0 b.length (.u 1),BL:=b,EB:=[(p,.row LL 3)],cg:=cgv,CL:=C.CL.take kk,now:=Lf C.now (C.CL.drop kk)},
  ⟨hR.sc,hR.at',hR.len,hR.tok,hR.dn,hcg,hbk,e5,⟨by have:=hR.sb.1;rw[hst]at this;simp only[Cq]at this ⊢;omega,by have:=hR.sb.2;unfold tot at this ⊢;rw[hst]at this;simp only[D5,List.sum_cons]at this ⊢;omega⟩,fun c hc=>hR.ok c (List.mem_of_mem_take hc),undo_nw hR.nw fun c hc=>(hR.ok c (List.mem_of_mem_drop hc)).1⟩,?_⟩
 exact S.perm pm3.symm
theorem Lv (hn:20000002≤n) (P:PI E h nx s R) {Q:Unit→PS→Prop} {F:Prop} (hW:W (Em E.l s) Q F False) (hk:∀s' h' nx',Q () s'→PI E h' nx' s' R→k (.tu []) h' nx'=true):Ai gg n kp (.fn 95 []) [.p E.pp 3] h nx k=true:=by
 refine Ab hn (by omega) fun m hm=>?_
 unfold Em at hW
 cases hst:s.st with
 |nil=>rw[hst]at hW;exact hW.elim
 |cons a r=>
  obtain⟨ty',dl'⟩:=a
  rw[hst]at hW
  obtain⟨C,hR,S⟩:=P
  have hnr:=hR.nr
  rw[hst]at hnr
  obtain⟨b,kk,e1,e2,e3,e4,e5⟩:=hnr
  have hbl:C.BL.length=b.length+1:=by rw[e1];simp
  have hb:=hR.sb.1
  have ht:=hR.sb.2
  have hbig:C.BL.length≤10000000:=by rw[Aa2 hR.nr];exact hb
  have hct:C.CL.length≤10000000:=Cr (Aa1 hR.nr) ht
  rcases hR.bk.inv with⟨h1,h2,h3⟩|⟨p,n',LL,h1,h2,h3,h4⟩
  · rw[e1]at h2;simp at h2
  · have hl:C.BL.length=n':=El (off:=0) iA_len (by omega) (by rw[map_iA]at h2;simpa using h2) (by omega)
    subst hl
    have hlast:LL[b.length]?=some (iA kk):=by
     have:=congrArg (fun x=>x[b.length]?) h2
     simp only[e1]at this
     rw[Jk,if_pos (by simp)]at this
     rw[this];simp
    have S:Sat h nx ((p,.row LL 3)::(E.pp,.row [E.lsl,iA s.at',C.dn,.p E.sc 0,.m C.mp,C.cg,.sl p 0 (b.length+1) (.u 1)] 66)::(C.mp,.map (Eb C.now))::(R++(E.EL++(C.ED++(C.EC++E.SE))))):=by
     unfold PA at S;rw[h1,h4,hbl]at S;exact S.perm pm3
    have et:(Int.ofNat (b.length+1)-1).toNat=b.length:=by simp only[Aj];omega
    have hbk:GrA 1 3 (.sl p 0 b.length (.u 1)) (b.map iA) [(p,.row LL 3)]:=by
     refine .row p b.length LL _ ?_ (by omega)
     have:=congrArg (List.take b.length) h2
     rw[List.take_take,show min b.length (C.BL.length*1)=b.length*1 by omega]at this
     rw[this,e1];simp
    rcases hR.cg.inv with⟨g1,g3,g4⟩|⟨q,n'',CLL,g1,g3,g4,g5⟩
    · have g2:=Dh Dk (by omega) g3
      rw[g1]at S
      have hk0:kk=0:=by rw[g2]at e2;simpa using e2
      repeat' ((conv=>lhs;whnf);first
       |contradiction
       |refine Ae ‹_› 1 rfl (Aa rfl) ?_
       |refine sat_rd1v ‹_› 0 b.length rfl (by rw[et];show 0+b.length*1=_;omega) hlast ?_
       |refine Bv (by(try simp only[Aj]at *);omega) ?_
       |refine Cb (y:=false) (by(try simp only[Aj]at *);omega) ?_
       |refine Cw (x:=false) (by(try simp only[Aj]at *);omega) ?_
       |refine Bq (y:=false) (by(try simp only[Aj]at *);omega) ?_
       |refine Au ‹_› 1 rfl (Aa rfl) rfl fun h1 S=>?_)
      conv=>lhs;whnf
      have S2:Sat h1 nx ((p,.row LL 3)::(E.pp,.row [E.lsl,iA s.at',C.dn,.p E.sc 0,.m C.mp,.sl0,.sl p 0 b.length (.u 1)] 66)::(C.mp,.map (Eb C.now))::(R++(E.EL++(C.ED++(C.EC++E.SE))))):=by rw[et]at S;exact S
      refine Br (L:=[0,2,3]) rfl (fun m vs d' h' nx'=>d'=[]∧kk+m≤C.CL.length∧vs=[.p E.pp 3,iA kk,.i .i64 (Int.ofNat (kk+m)-1)] ∧
       Sat h' nx' ((p,.row LL 3)::(E.pp,.row [E.lsl,iA s.at',C.dn,.p E.sc 0,.m C.mp,.sl0,.sl p 0 b.length (.u 1)] 66)::(C.mp,.map (Eb (Lf C.now (C.CL.drop (kk+m)))))::(R++(E.EL++(C.ED++(C.EC++E.SE)))))) (C.CL.length-kk) (by omega) ⟨rfl,by omega,?_,?_⟩ ?_
      · rw[show kk+(C.CL.length-kk)=C.CL.length by omega];first|rfl|(rw[g2];rfl)
      · rw[show kk+(C.CL.length-kk)=C.CL.length by omega,List.drop_length];exact S2
      clear S S2
      rintro m _ d' h' nx' ⟨rfl,hm2,rfl,S⟩ k' hn' hx
      obtain rfl:m=0:=by rw[g2]at hm2;simp at hm2;omega
      repeat' ((conv=>lhs;whnf);first
       |contradiction
       |refine Cb (y:=false) (by(try simp only[Aj]at *);omega) ?_
       |refine Dt (fun hc hz=>?_) (fun hc hz=>?_)<;>first|(exfalso;simp only[Aj]at *;omega)|try rewrite [hc]
       |refine hx _ _ _ _ _ trivial ?_
       |refine Ae ‹_› 1 rfl (Aa rfl) ?_
       |refine L7 (y:=false) (by(try simp only[Aj]at *);omega) ?_
       |refine Bq (y:=false) (by(try simp only[Aj]at *);omega) ?_
       |refine Au ‹_› 1 rfl (Aa rfl) rfl fun h1 S=>?_)
      refine hk _ _ _ hW (PI.shut hR hst e5 hbk (cgv:=.sl0) ?_ S)
      rw[g2,List.take_nil,g4];exact .nil
    · have hl:C.CL.length=n'':=El (off:=0) Dk (by omega) (by simpa using g3) (by omega)
      subst hl
      rw[g1]at S
      repeat' ((conv=>lhs;whnf);first
       |contradiction
       |refine Ae ‹_› 1 rfl (Aa rfl) ?_
       |refine sat_rd1v ‹_› 0 b.length rfl (by rw[et];show 0+b.length*1=_;omega) hlast ?_
       |refine Bv (by(try simp only[Aj]at *);omega) ?_
       |refine Cb (y:=false) (by(try simp only[Aj]at *);omega) ?_
       |refine Cw (x:=false) (by(try simp only[Aj]at *);omega) ?_
       |refine Bq (y:=false) (by(try simp only[Aj]at *);omega) ?_
       |refine Au ‹_› 1 rfl (Aa rfl) rfl fun h1 S=>?_)
      conv=>lhs;whnf
      have S2:Sat h1 nx ((p,.row LL 3)::(E.pp,.row [E.lsl,iA s.at',C.dn,.p E.sc 0,.m C.mp,.sl q 0 C.CL.length (.u 3),.sl p 0 b.length (.u 1)] 66)::(C.mp,.map (Eb C.now))::(R++(E.EL++(C.ED++(C.EC++E.SE))))):=by rw[et]at S;exact S
      refine Br (L:=[0,2,3]) rfl (fun m vs d' h' nx'=>d'=[]∧kk+m≤C.CL.length∧vs=[.p E.pp 3,iA kk,.i .i64 (Int.ofNat (kk+m)-1)] ∧
       Sat h' nx' ((p,.row LL 3)::(E.pp,.row [E.lsl,iA s.at',C.dn,.p E.sc 0,.m C.mp,.sl q 0 C.CL.length (.u 3),.sl p 0 b.length (.u 1)] 66)::(C.mp,.map (Eb (Lf C.now (C.CL.drop (kk+m)))))::(R++(E.EL++(C.ED++(C.EC++E.SE)))))) (C.CL.length-kk) (by omega) ⟨rfl,by omega,?_,?_⟩ ?_
      · rw[show kk+(C.CL.length-kk)=C.CL.length by omega];first|rfl|(rw[g2];rfl)
      · rw[show kk+(C.CL.length-kk)=C.CL.length by omega,List.drop_length];exact S2
      clear S S2
      rintro m _ d' h' nx' ⟨rfl,hm2,rfl,S⟩ k' hn' hx
      have hq:(q,OB.row CLL 202)∈R++(E.EL++(C.ED++(C.EC++E.SE))):=by rw[g5];simp
      have hcg:GrA 3 202 (.sl q 0 kk (.u 3)) ((C.CL.take kk).flatMap Ji) C.EC:=by
       rw[g5]
       refine .row q kk CLL _ ?_ (by omega)
       have:=congrArg (List.take (kk*3)) g3
       rw[List.take_take,show min (kk*3) (C.CL.length*3)=kk*3 by omega]at this
       rw[this]
       conv=>lhs;rw[←List.take_append_drop kk C.CL,Fx]
       rw[List.take_append_of_le_length (by rw[Az Dk,Ci];omega),Et (by rw[Az Dk,Ci];omega)]
      cases m with
      |zero=>
       repeat' ((conv=>lhs;whnf);first
        |contradiction
        |refine Cb (y:=false) (by(try simp only[Aj]at *);omega) ?_
        |refine Dt (fun hc hz=>?_) (fun hc hz=>?_)<;>first|(exfalso;simp only[Aj]at *;omega)|try rewrite [hc]
        |refine hx _ _ _ _ _ trivial ?_
        |refine Ae ‹_› 1 rfl (Aa rfl) ?_
        |refine L7 (y:=false) (by(try simp only[Aj]at *);omega) ?_
        |refine Bq (y:=false) (by(try simp only[Aj]at *);omega) ?_
        |refine Au ‹_› 1 rfl (Aa rfl) rfl fun h1 S=>?_)
       refine hk _ _ _ hW (PI.shut hR hst e5 hbk hcg ?_)
       have e0:Nat.add 0 (Nat.mul 0 3)=0:=rfl
       exact S
      |succ m=>
       have hi:kk+m<C.CL.length:=by omega
       have ei:(Int.ofNat (kk+(m+1))-1).toNat=kk+m:=by simp only[Aj];omega
       obtain⟨c1,c2⟩:=J2 (off:=0) Dk (by simpa using g3) (by omega) (by omega) hi
       have hnx:Lf C.now (C.CL.drop (kk+m))=I9 (Lf C.now (C.CL.drop (kk+(m+1)))) (C.CL[kk+m]).n (C.CL[kk+m]).was:=by
        rw[Ly hi];rfl
       have hwas:=(hR.ok _ (D8 hi)).1
       repeat' ((conv=>lhs;whnf);first
        |contradiction
        |refine Cb (y:=false) (by(try simp only[Aj]at *);omega) ?_
        |refine Dt (fun hc hz=>?_) (fun hc hz=>?_)<;>first|(exfalso;simp only[Aj]at *;omega)|try rewrite [hc]
        |refine Cu (fun hc hz=>?_) (fun hc hz=>?_)<;>try rewrite [hc]
        |refine Cw (x:=false) (by(try simp only[Aj]at *);omega) ?_
        |refine Ae ‹_› 1 rfl (Aa rfl) ?_
        |refine Lh ‹_› (v:=Ji C.CL[kk+m]) (Am _ (Am _ (Am _ hq))) (by rw[ei];show 0+(kk+m) * 3+3≤_;omega) (by rw[ei];exact c2) ?_
        |refine Cp ‹_› rfl fun h1 S=>?_
        |refine Au ‹_› 0 rfl (Aa rfl) rfl fun h1 S=>?_
        |refine Ae ‹_› 0 rfl (Aa rfl) ?_
        |refine Ae ‹_› 2 rfl (Aa rfl) ?_
        |refine Pr ‹_› 3 rfl fun h1 S=>?_
        |refine sat_mdel ‹_› 3 rfl fun h1 S=>?_
        |refine Bv (by(try simp only[Aj]at *);omega) ?_)
       · refine hn' _ _ _ _ m (by omega) ⟨rfl,by omega,?_,?_⟩
         · show[_,_,AV.i _ (Int.ofNat (kk+(m+1))-1-1)]=_
           rw[show Int.ofNat (kk+(m+1))-1-1=Int.ofNat (kk+m)-1 by simp only[Aj];omega];rfl
         · rw[hnx,show(C.CL[kk+m]).was=0 by assumption,←mapOf_del]
           exact S.sub (.cons _ (.refl _))
       · refine hn' _ _ _ _ m (by omega) ⟨rfl,by omega,?_,?_⟩
         · show[_,_,AV.i _ (Int.ofNat (kk+(m+1))-1-1)]=_
           rw[show Int.ofNat (kk+(m+1))-1-1=Int.ofNat (kk+m)-1 by simp only[Aj];omega];rfl
         · rw[hnx,←K5 _ _ _ ‹_›]
           exact S.sub (.cons _ (.refl _))
end Go.CE
namespace Go.CE
open Go Go.Ps Go.Proofs.YtacpdfjcepkgcaaGreatDoor
variable {E : PEnv} {h : H} {nx : Pos} {s : PS} {R : List Av} {n : Nat} {kp : KP} {k : K}
theorem H3 (hn:2≤n) (P:PI E h nx s R) {Q:Tk→PS→Prop} {F:Prop} (hW:W (L9 E.l s) Q F False) (hk:∀t h' nx',Q t s→PI E h' nx' s R→k (.ag (Du t)) h' nx'=true):Ai gg n kp (.fn 78 []) [.p E.pp 0,.i .i64 0] h nx k=true:=
 I6 hn P 0 (by omega) rfl fun h' nx' P'=>hk _ _ _ hW P'
theorem Gb (hn:3≤n) (P:PI E h nx s R) {x:List Nat} {Q:Bool→PS→Prop} {F:Prop} (hW:W (Hz x E.l s) Q F False) (hk:∀b h' nx',Q b s→PI E h' nx' s R→k (.b b) h' nx'=true):Ai gg n kp (.fn 39 []) [.p E.pp 0,.i .i64 0,.s x] h nx k=true:=
 Ng hn P 0 (by omega) rfl fun h' nx' P'=>hk _ _ _ hW P'
theorem Sm (hn:3≤n) (P:PI E h nx s R) {x:List Nat} {Q:Bool→PS→Prop} {F:Prop} (hW:W (Jo x E.l s) Q F False) (hk:∀b h' nx',Q b s→PI E h' nx' s R→k (.b b) h' nx'=true):Ai gg n kp (.fn 39 []) [.p E.pp 0,.i .i64 1,.s x] h nx k=true:=
 Ng hn P 1 (by omega) rfl fun h' nx' P'=>hk _ _ _ (Aay hW) P'
theorem word_w (hn:3≤n) (P:PI E h nx s R) {x:List Nat} {Q:Bool→PS→Prop} {F:Prop} (hW:W (Vp x E.l s) Q F False) (hk:∀b h' nx',Q b s→PI E h' nx' s R→k (.b b) h' nx'=true):Ai gg n kp (.fn 36 []) [.p E.pp 0,.s x] h nx k=true:=
 Yp hn P fun h' nx' P'=>hk _ _ _ hW P'
theorem isTy_w (hn:40≤n) (P:PI E h nx s R) {x:List Nat} {Q:Bool→PS→Prop} {F:Prop} (hW:W (isTy x E.l s) Q F False) (hk:∀b,Q b s→PI E h nx s R→k (.b b) h nx=true):Ai gg n kp (.fn 81 []) [.p E.pp 3,.s x] h nx k=true:=
 Xw hn P fun P'=>hk _ hW P'
theorem bls_w (hn:46≤n) (P:PI E h nx s R) {Q:Bool→PS→Prop} {F:Prop} (hW:W (Iz E.l s) Q F False) (hk:∀b h' nx',Q b s→PI E h' nx' s R→k (.b b) h' nx'=true):Ai gg n kp (.fn 136 []) [.p E.pp 0,.i .i64 0] h nx k=true:=
 begL_ok hn P 0 (by omega) rfl fun b h' nx' hb P'=>hk _ _ _ (by rw[hb];exact hW) P'
theorem Cy (P:PI E h nx s R) {j:Nat} {z:Int} {Q:Unit→PS→Prop} {F:Prop} (hW:W (He j E.l s) Q F False) (hz:z=Int.ofNat (s.at'+j)) {kk:H→Bool} (hk:∀s' h',Q () s'→PI E h' nx s' R→kk h'=true):wr h E.pp 1 [.i .i64 z] kk=true:=by
 unfold He at hW
 by_cases hc:s.at'+j≤E.l.length
 · rw[if_pos hc]at hW
   exact Ss P hz hc fun h' P'=>hk _ _ hW P'
 · rw[if_neg hc]at hW;exact hW.elim
end Go.CE
namespace Go.CE
open Go Go.Ps Go.Proofs.YtacpdfjcepkgcaaGreatDoor
def C5 (E:PEnv) (m:Nat) (nt:NT) (F:Nat) (args:List AV):Prop:=∀n d:Nat,20000100≤d→m+d≤n→∀(kp:KP) (h:H) (nx:Pos) (k:K) (s:PS) (R:List Av) (Q:Val→PS→Prop) (Fl:Prop),PI E h nx s R→W (run m nt E.l s) Q Fl False →
 (∀v s' h' nx',Q v s'→PI E h' nx' s' R→k (.tu []) h' nx'=true)→(Fl→∀h' nx' s',PI E h' nx' s' R→kp h' nx'=true)→Ai gg n kp (.fn F []) (.p E.pp 0::args) h nx k=true
def O8 (E:PEnv) (m:Nat) (nt:NT) (F:Nat) (args:List AV):Prop:=∀n d:Nat,20000100≤d→m+d≤n→∀(kp:KP) (h:H) (nx:Pos) (k:K) (s:PS) (R:List Av) (Q:Val→PS→Prop) (Fl:Prop),PI E h nx s R→W (run m nt E.l s) Q Fl False →
 (∀b v s' h' nx',Jt v=b→Q v s'→PI E h' nx' s' R→k (.b b) h' nx'=true)→(Fl→∀h' nx' s',PI E h' nx' s' R→kp h' nx'=true)→Ai gg n kp (.fn F []) (.p E.pp 0::args) h nx k=true
def Jf (d:Dc):List AV:=[.s d.n,.b d.ty]
theorem H8 (d:Dc):(Jf d).length=2:=rfl
def fC (f:Frm) (pv:AV):List AV:=[.b f.named,.s f.name,iA f.near,pv]
theorem pi_rdm {E:PEnv} {h:H} {nx:Pos} {s:PS} {R:List Av} (P:PI E h nx s R) {p:Pos} {L:List AV} {ty off n:Nat} {v:List AV} {k:List AV→Bool} (hm:(p,.row L ty)∈R) (ho:off+n≤L.length) (hv:(L.drop off).take n=v) (hk:k v=true):rd h p off n k=true:=by
 obtain⟨j,hj⟩:=Ih.1 hm
 refine An P j hj ho ?_
 rw[hv];exact hk
theorem A9 {β:Type} {f:Nat→M β} {l:List Tk} {s:PS} {Q:β→PS→Prop} {F O:Prop}:W (bd V4 f l s) Q F O↔W (f s.at' l s) Q F O:=Iff.rfl
theorem Fz {α β:Type} {m:M α} {f:α→M β} {l:List Tk} {s:PS} {Q:β→PS→Prop} {F O:Prop} (h:W (bd m f l s) Q F O):∃Q2:α→PS→Prop,W (m l s) Q2 F O∧∀a s',Q2 a s'→W (f a l s') Q F O:=⟨_,Ac.1 h,fun _ _ h=>h⟩
theorem Sc {a b:Nat}:Jt (Val.b (decide (a<b)))=fB (K0 (Int.ofNat b) (Int.ofNat a)) false true:=by
 show decide (a<b)=_
 rw[Pb]
 by_cases h:a<b
 · have:¬(Int.ofNat b≤Int.ofNat a):=by simp only[Aj];omega
   rw[decide_eq_true h,decide_eq_false this];rfl
 · have:Int.ofNat b≤Int.ofNat a:=by simp only[Aj];omega
   rw[decide_eq_false h,decide_eq_true this];rfl
theorem Ba {es ty:Nat} {f:Frm} {pv:AV} {fl:List AV} {X:List Av} (h:SlA es ty pv fl X):Gt (fC f pv)=true:=by
 rcases h.inv with⟨rfl,_,_⟩|⟨_,_,_,_,_,rfl,_,_,_⟩<;>rfl
def CtrF (E:PEnv) (m:Nat):Prop:=∀kind:Nat,kind≤2→∀n d:Nat,20000100≤d→m+d≤n→∀(kp:KP) (h:H) (nx:Pos) (k:K) (s:PS) (R:List Av) (Q:Val→PS→Prop) (Fl:Prop),PI E h nx s R→W (run m (.declarator kind) E.l s) Q Fl False →
 (∀v s' h' nx' pv X,SlA 2 126 pv ((Lx v).ps.flatMap Jf) X→(Lx v).ps.length≤Ps.big→Q v s'→PI E h' nx' s' (R++X)→k (.ag (fC (Lx v) pv)) h' nx'=true)→(Fl→∀h' nx' s',PI E h' nx' s' R→kp h' nx'=true)→Ai gg n kp (.fn 40 []) [.p E.pp 0,iA kind] h nx k=true
def CtrS (E:PEnv) (m:Nat):Prop:=∀(f:Frm) (pv:AV) (X:List Av) (fb:Pos),SlA 2 126 pv (f.ps.flatMap Jf) X→f.ps.length≤Ps.big→∀n d:Nat,20000100≤d→m+d≤n→∀(kp:KP) (h:H) (nx:Pos) (k:K) (s:PS) (R:List Av) (Q:Val→PS→Prop) (Fl:Prop),PI E h nx s ((fb,.row (fC f pv) 122)::(R++X)) →
 W (run m (.suffixes f false) E.l s) Q Fl False →
 (∀b v s' h' nx' pv' X',SlA 2 126 pv' ((Lx v).ps.flatMap Jf) X'→(Lx v).ps.length≤Ps.big→Jt v=b→Q v s'→PI E h' nx' s' ((fb,.row (fC (Lx v) pv') 122)::(R++X'))→k (.b b) h' nx'=true)→(Fl→∀h' nx' s',PI E h' nx' s' R→kp h' nx'=true)→Ai gg n kp (.fn 92 []) [.p E.pp 0,.p fb 0] h nx k=true
def CtrP (E:PEnv) (m:Nat):Prop:=∀n d:Nat,20000100≤d→m+d≤n→∀(kp:KP) (h:H) (nx:Pos) (k:K) (s:PS) (R:List Av) (Q:Val→PS→Prop) (Fl:Prop),PI E h nx s R→W (run m .params E.l s) Q Fl False →
 (∀v s' h' nx' pv X,SlA 2 126 pv ((asD v).flatMap Jf) X→(asD v).length≤Ps.big→Q v s'→PI E h' nx' s' (R++X)→k pv h' nx'=true)→(Fl→∀h' nx' s',PI E h' nx' s' R→kp h' nx'=true)→Ai gg n kp (.fn 143 []) [.p E.pp 0] h nx k=true
def CtrY (E:PEnv) (m:Nat):Prop:=∀(ds:List Dc) (pv:AV) (X:List Av),SlA 2 126 pv (ds.flatMap Jf) X→ds.length≤Ps.big→∀n d:Nat,20000100≤d→m+d≤n→∀(kp:KP) (h:H) (nx:Pos) (k:K) (s:PS) (R:List Av) (Q:Val→PS→Prop) (Fl:Prop),(∀e∈X,e∈R)→PI E h nx s R→W (run m (.body ds) E.l s) Q Fl False →
 (∀v s' h' nx',Q v s'→PI E h' nx' s' R→k (.tu []) h' nx'=true)→(Fl→∀h' nx' s',PI E h' nx' s' R→kp h' nx'=true)→Ai gg n kp (.fn 42 []) [.p E.pp 0,pv] h nx k=true
structure ALL (E:PEnv) (m:Nat):Prop where
 expr:C5 E m .expr 134 []
 assign:C5 E m .assign 149 []
 choice:O8 E m .choice 79 []
 binary:∀Gi:Nat,Gi≤46→O8 E m (.binary Gi) 133 [iA Gi]
 cast:O8 E m .cast 182 []
 typeInBr:C5 E m .typeInBr 138 []
 literal:∀s,C5 E m (.literal s) 217 [stA s]
 unary:C5 E m .unary 216 []
 size:∀v,C5 E m (.size v) 230 [.b v]
 postf':C5 E m .postf 231 []
 applied:∀s,C5 E m (.applied s) 232 [stA s]
 call:C5 E m .call 239 []
 primary:C5 E m .primary 238 []
 strings:C5 E m .strings 80 []
 generic:C5 E m .generic 240 []
 assoc:C5 E m .assoc 241 []
 initializer:C5 E m .initializer 96 []
 braces:C5 E m .braces 148 []
 item:C5 E m .item 189 []
 desig:O8 E m .desig 219 []
 qualifiers:O8 E m .qualifiers 89 []
 array:C5 E m .array 142 []
 param:C5 E m .param 186 []
 external:C5 E m .external 16 []
 declaration:C5 E m .declaration 146 []
 moreInits:∀td,C5 E m (.moreInits td) 44 [.b td]
 init:∀td,C5 E m (.init td) 97 [.b td]
 restOfInit:∀s,C5 E m (.restOfInit s) 43 [stA s]
 assert:C5 E m .assert 37 []
 items:C5 E m .items 94 []
 part:C5 E m .part 234 []
 condition:C5 E m .condition 233 []
 until':∀x,C5 E m (.until' x) 188 [.s x]
 statement:C5 E m .statement 147 []
 keyword:∀x s,O8 E m (.keyword x s) 187 [.s x,stA s]
 compound:∀x s,C5 E m (.compound x s) 218 [.s x,stA s]
 specs:∀all,O8 E m (.specs all) 38 [.b all]
 align:C5 E m .align 83 []
 atomic:C5 E m .atomic 84 []
 record:C5 E m .record 85 []
 member:C5 E m .member 139 []
 field:C5 E m .field 184 []
 enum:C5 E m .enum 86 []
 enumerator:C5 E m .enumerator 140 []
 typeName:C5 E m .typeName 137 []
 declarator:CtrF E m
 suffixes:CtrS E m
 params:CtrP E m
 body:CtrY E m
end Go.CE
