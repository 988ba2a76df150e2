/- Part 11 of the lemmas behind the claim. -/
import Derived.Test.YtacpdfjcepkgcaaGreatDoorZA01
import Derived.Test.YtacpdfjcepkgcaaGreatDoorZA10
set_option linter.unusedSimpArgs false
set_option linter.unusedVariables false
set_option linter.constructorNameAsVariable false
set_option linter.unusedSectionVars false
set_option linter.defProp false
set_option maxRecDepth 100000
set_option maxHeartbeats 40000000
namespace Go.CE
open Go.GV (TI Shp)
theorem Cz (h:H) (id:Pos) (k:AO→Bool):Fk h id k=k (hg h id):=by rw[Aac];rfl
theorem Di (h:H) (id:Pos) (o:AO) (k:H→Bool):Fa h id o k=k (hs h id o):=by rw[hset_un];rfl
noncomputable def Zd (cs:T AV):Nat→Nat→List AV
 |0,_=>[]
 |n+1,off=>T.get .x cs (Ay (off+1))::Zd cs n (off+1)
theorem Ol (cs:T AV):∀(n off:Nat) (k:List AV→Bool),rdL cs n off k=k (Zd cs n off)
 |0,_,_=>rfl
 |n+1,off,k=>by
  show T.getK .x cs (Ay (Nat.succ off)) (fun v=>rdL cs n (Nat.succ off) fun r=>k (v::r))=_
  rw[Db,Ol cs n]
  rfl
theorem Dj (cs:T AV):∀n off,(Zd cs n off).length=n
 |0,_=>rfl
 |n+1,off=>by simp[Zd,Dj cs n]
theorem Pv (cs:T AV):∀n off i,i<n→(Zd cs n off)[i]?=some (T.get .x cs (Ay (off+i+1)))
 |n+1,off,0,_=>rfl
 |n+1,off,i+1,h=>by
  simp only[Zd,Ke]
  rw[Pv cs n (off+1) i (by omega)]
  congr 3;omega
theorem Ze {h:H} {id:Pos} {off n:Nat} {k:List AV→Bool} (e:rd h id off n k=true) :
 ∃c cs fz ro ty,hg h id=.cells c cs fz ro ty∧off+n≤c∧k (Zd cs n off)=true:=by
 rw[rd_un]at e;unfold rdC at e
 rw[Cz]at e
 cases ho:hg h id with
 |cells c cs fz ro ty=>
  rw[ho]at e
  obtain⟨h1,h2⟩:=Cm e
  rw[Ol]at h2
  exact⟨c,cs,fz,ro,ty,rfl,Aa h1,h2⟩
 |_=>rw[ho]at e;cases e
theorem rd1_inv {h:H} {id:Pos} {off:Nat} {k:AV→Bool} (e:rd1 h id off k=true) :
 ∃c cs fz ro ty,hg h id=.cells c cs fz ro ty∧off<c∧k (T.get .x cs (Ay (off+1)))=true:=by
 rw[rd1_un]at e;unfold rd1C at e
 rw[Cz]at e
 cases ho:hg h id with
 |cells c cs fz ro ty=>
  rw[ho]at e
  obtain⟨h1,h2⟩:=Jg e
  rw[Db]at h2
  refine⟨c,cs,fz,ro,ty,rfl,?_,h2⟩
  cases Nat.lt_or_ge off c with
  |inl h=>exact h
  |inr h=>rw[Kc h]at h1;cases h1
 |_=>rw[ho]at e;cases e
noncomputable def wl:List AV→T AV→Nat→T AV
 |[],cs,_=>cs
 |v::r,cs,off=>wl r (T.set .x v cs (Ay (off+1))) (off+1)
theorem Gy:∀(vs:List AV) (cs:T AV) (off:Nat) (k:T AV→Bool),Vl vs cs off k=k (wl vs cs off)
 |[],_,_,_=>rfl
 |v::r,cs,off,k=>by
  show T.setK .x v cs (Ay (Nat.succ off)) (fun cs=>Vl r cs (Nat.succ off) k)=_
  rw[Ni,Gy r]
  rfl
theorem Hv:∀(vs:List AV) (cs:T AV) (off i:Nat),T.get .x (wl vs cs off) (Ay (i+1))=if off≤i∧i<off+vs.length then vs.getD (i-off) .x else T.get .x cs (Ay (i+1))
 |[],cs,off,i=>by rw[if_neg (by simp)];rfl
 |v::r,cs,off,i=>by
  simp only[wl]
  rw[Hv r _ (off+1) i]
  by_cases h1:off+1≤i∧i<off+1+r.length
  · rw[if_pos h1,if_pos (by simp only[Cq];omega)]
    obtain⟨j,rfl⟩:∃j,i=off+1+j:=⟨i-(off+1),by omega⟩
    rw[show off+1+j-(off+1)=j by omega,show off+1+j-off=j+1 by omega]
    simp
  · rw[if_neg h1]
    by_cases h2:i=off
    · subst h2
      rw[get_same,if_pos (by simp only[Cq];omega)]
      simp
    · rw[get_ne (fun e=>h2 (Mi e)),if_neg (by simp only[Cq];omega)]
theorem wr_inv {h:H} {id:Pos} {off:Nat} {vs:List AV} {k:H→Bool} (e:wr h id off vs k=true) :
 ∃c cs fz ty,hg h id=.cells c cs fz false ty∧fz≤off∧off+vs.length≤c∧Gt vs=true∧k (hs h id (.cells c (wl vs cs off) fz false ty))=true:=by
 rw[wr_un]at e;unfold wrC at e
 rw[Cz]at e
 cases ho:hg h id with
 |cells c cs fz ro ty=>
  rw[ho]at e
  obtain⟨h1,h2⟩:=Jg e
  obtain⟨h3,h4⟩:=Cm h2
  obtain⟨h5,h7⟩:=Cm h4
  obtain⟨h8,h6⟩:=Cm h7
  rw[Gy,Di,h1]at h6
  rw[h1]
  exact⟨c,cs,fz,ty,rfl,Aa h3,Aa h5,h8,h6⟩
 |_=>rw[ho]at e;cases e
theorem Gk {h:H} {nx:Pos} {o:AO} {k:Pos→H→Pos→Bool} (e:Kj h nx o k=true):hg h nx=.dead∧k nx (hs h nx o) (Ad nx)=true:=by
 rw[newO_un]at e;unfold newOC at e
 rw[Cz]at e
 cases ho:hg h nx with
 |dead=>rw[ho]at e;simp only[Di,sucK_eq]at e;exact⟨rfl,e⟩
 |_=>rw[ho]at e;cases e
theorem newC_inv {h:H} {nx:Pos} {ty n:Nat} {l:List AV} {k:Pos→H→Pos→Bool} (e:newC h nx ty n l k=true) :
 hg h nx=.dead∧k nx (hs h nx (.cells n (wl l .e 0) 0 false ty)) (Ad nx)=true:=by
 rw[newC_un]at e;unfold newCC at e
 rw[Gy]at e
 exact Gk e
def Pf (m:Mp) (id:Pos) (l:Loc):Mp:=fun j=>if j=id then some l else m j
theorem Cv (m:Mp) (id:Pos) (l:Loc):Pf m id l id=some l:=by simp[Pf]
theorem D4 {m:Mp} {id:Pos} {l:Loc} {j:Pos} (h:j≠id):Pf m id l j=m j:=by simp[Pf,h]
theorem Mem.ids {m:Mp} {h:H} {nx:Pos} {w:World} (M:Mem m h nx w):m nx=none:=by
 cases e:m nx with
 |none=>rfl
 |some l=>have:=M.lt _ _ e;omega
theorem Ht (w:World) (o:Obj) {b:Nat} (h:b<w.heap.size):(w.alloc o).heap[b]?=w.heap[b]?:=by
 show(w.heap.push o)[b]?=_
 rw[Array.getElem?_push,if_neg (by omega)]
theorem I1 (w:World) (o:Obj):(w.alloc o).heap[w.heap.size]?=some o:=by
 show(w.heap.push o)[w.heap.size]?=_
 rw[Array.getElem?_push,if_pos rfl]
theorem Hh (w:World) (o:Obj):(w.alloc o).heap.size=w.heap.size+1:=by
 show(w.heap.push o).size=_
 simp
theorem Mem.new {m:Mp} {h:H} {nx:Pos} {w:World} (M:Mem m h nx w) {o:AO} {ob:Obj} {l:Loc} (hl:l.blk=w.heap.size) (hbs:l.base=0)
 (hnr:¬N4 o) (ho:OR (Pf m nx l) o l (w.alloc ob)) :
 Mem (Pf m nx l) (hs h nx o) (Ad nx) (w.alloc ob)∧Ext m h nx w (Pf m nx l) (hs h nx o) (Ad nx) (w.alloc ob):=by
 have hn:=M.ids
 have hle:m.le (Pf m nx l):=fun id k e=>by rw[D4 (fun c=>by subst c;rw[hn]at e;cases e)];exact e
 have hbs':∀j k,Pf m nx l j=some k→k.base=0:=fun j k e=>by
  by_cases c:j=nx
  · subst c;rw[Cv]at e;cases e;exact hbs
  · rw[D4 c]at e;exact M.bs _ _ e
 refine⟨⟨?_,?_,?_,?_,hbs'⟩,hle,?_,?_,?_,?_,?_,?_,?_,rfl,rfl,rfl⟩
 · intro id k e
   by_cases c:id=nx
   · subst c;rw[Cv]at e;cases e;rw[E9,if_pos rfl];exact ho
   · rw[D4 c]at e;rw[E9,if_neg c]
     exact(M.ob id k e).mono hle (Ht w ob (M.bl _ _ e))
 · intro i j k k' hi hj hb
   by_cases ci:i=nx
   · by_cases cj:j=nx
     · exact .inl (ci.trans cj.symm)
     · subst ci;rw[Cv]at hi;cases hi
       rw[D4 cj]at hj
       have:=M.bl _ _ hj;omega
   · rw[D4 ci]at hi
     by_cases cj:j=nx
     · subst cj;rw[Cv]at hj;cases hj
       have:=M.bl _ _ hi;omega
     · rw[D4 cj]at hj
       rw[E9,E9,if_neg ci,if_neg cj]
       exact M.ij i j k k' hi hj hb
 · intro id k e
   rw[Hx]
   by_cases c:id=nx
   · subst c;omega
   · rw[D4 c]at e;have:=M.lt _ _ e;omega
 · intro id k e
   rw[Hh]
   by_cases c:id=nx
   · subst c;rw[Cv]at e;cases e;omega
   · rw[D4 c]at e;have:=M.bl _ _ e;omega
 · rw[Hx];omega
 · intro id hi hm
   have c:id≠nx:=fun c=>by subst c;omega
   exact⟨by rw[D4 c];exact hm,by rw[E9,if_neg c]⟩
 · intro b hb _;exact Ht w ob hb
 · rw[Hh];omega
 · intro id k e hm
   by_cases c:id=nx
   · subst c;rw[Cv]at e;cases e;exact .inl (by omega)
   · rw[D4 c,hm]at e;cases e
 · intro id k e
   have c:id≠nx:=fun c=>by subst c;rw[hn]at e;cases e
   rw[E9,if_neg c]
   exact⟨fun _=>rfl,id_eq⟩
 · intro id k e hm
   by_cases c:id=nx
   · subst c;rw[E9,if_pos rfl];exact hnr
   · rw[D4 c,hm]at e;cases e
where id_eq {p:Prop} (h:p):p:=h
theorem Mem.turn {m:Mp} {h:H} {nx:Pos} {w w':World} (M:Mem m h nx w) {id:Pos} {l:Loc} (hid:m id=some l) {o:AO}
 (hnd:hg h id≠.dead) (hr:¬N4 (hg h id)) (hnr:¬N4 o)
 (hw:∀b,b≠l.blk→w'.heap[b]?=w.heap[b]?) (hz:w'.heap.size=w.heap.size) (h1:w'.os=w.os) (h2:w'.tape=w.tape) (h3:w'.output=w.output)
 (ho:OR m o l w'):Mem m (hs h id o) nx w'∧Ext m h nx w m (hs h id o) nx w':=by
 have hother:∀j k,m j=some k→j≠id→hg h j=.dead∨k.blk≠l.blk:=fun j k hj hne=>by
  by_cases hb:k.blk=l.blk
  · rcases M.ij j id k l hj hid hb with e|e|e
    · exact absurd e hne
    · exact .inl e
    · exact absurd e hnd
  · exact .inr hb
 refine⟨⟨?_,?_,M.lt,?_,M.bs⟩,.refl m,Ag _,?_,?_,Nat.le_of_eq hz.symm,?_,?_,?_,h1,h2,h3⟩
 · intro j k e
   rw[E9]
   by_cases c:j=id
   · subst c;rw[hid]at e;cases e;rw[if_pos rfl];exact ho
   · rw[if_neg c]
     rcases hother j k e c with hd|hb
     · rw[hd];trivial
     · exact(M.ob j k e).mono (.refl m) (hw _ hb)
 · intro i j k k' hi hj hb
   rw[E9,E9]
   by_cases ci:i=id
   · by_cases cj:j=id
     · exact .inl (ci.trans cj.symm)
     · rw[if_neg cj]
       subst ci;rw[hid]at hi;cases hi
       rcases hother j k' hj cj with hd|hne
       · exact .inr (.inr hd)
       · exact absurd hb.symm hne
   · rw[if_neg ci]
     by_cases cj:j=id
     · subst cj;rw[hid]at hj;cases hj
       rcases hother i k hi ci with hd|hne
       · exact .inr (.inl hd)
       · exact absurd hb hne
     · rw[if_neg cj];exact M.ij i j k k' hi hj hb
 · intro j k e;rw[hz];exact M.bl _ _ e
 · intro j hj hm
   have c:j≠id:=fun c=>by subst c;rw[hid]at hm;cases hm
   exact⟨hm,by rw[E9,if_neg c]⟩
 · intro b hb hall
   exact hw b fun c=>hr (hall id l hid c.symm)
 · intro j k e hm;rw[hm]at e;cases e
 · intro j k e
   rw[E9]
   by_cases c:j=id
   · subst c;rw[if_pos rfl];exact⟨fun x=>absurd x hr,fun x=>absurd x hnr⟩
   · rw[if_neg c];exact⟨fun _=>rfl,fun x=>x⟩
 · intro j k e hm;rw[hm]at e;cases e
theorem Mem.swap {m:Mp} {h:H} {nx:Pos} {w w':World} (M:Mem m h nx w) {id:Pos} {l l':Loc} (hid:m id=some l) {o:AO}
 (hnd:hg h id≠.dead) (hr:¬N4 (hg h id)) (hnr:¬N4 o) (hl:l'.blk=l.blk∨l'.blk=w.heap.size) (hbs:l'.base=0)
 (hw:∀b,b<w.heap.size→b≠l'.blk→w'.heap[b]?=w.heap[b]?) (hz:w.heap.size≤w'.heap.size) (hb':l'.blk<w'.heap.size) (h1:w'.os=w.os) (h2:w'.tape=w.tape) (h3:w'.output=w.output)
 (ho:OR (Pf m nx l') o l' w') :
 Mem (Pf m nx l') (hs (hs h id .dead) nx o) (Ad nx) w'∧Ext m h nx w (Pf m nx l') (hs (hs h id .dead) nx o) (Ad nx) w':=by
 have hn:=M.ids
 have hne:id≠nx:=fun c=>by subst c;rw[hn]at hid;cases hid
 have hle:m.le (Pf m nx l'):=fun j k e=>by rw[D4 (fun c=>by subst c;rw[hn]at e;cases e)];exact e
 have hother:∀j k,m j=some k→j≠id→hg h j=.dead∨k.blk≠l'.blk:=fun j k hj hne=>by
  rcases hl with hl|hl
  · by_cases hb:k.blk=l.blk
    · rcases M.ij j id k l hj hid hb with e|e|e
      · exact absurd e hne
      · exact .inl e
      · exact absurd e hnd
    · exact .inr (fun c=>hb (c.trans hl))
  · exact .inr fun c=>by have:=M.bl _ _ hj;omega
 have hgj:∀j,j≠nx→hg (hs (hs h id .dead) nx o) j=if j=id then .dead else hg h j:=fun j c=>by rw[E9,if_neg c,E9]
 have hbs':∀j k,Pf m nx l' j=some k→k.base=0:=fun j k e=>by
  by_cases c:j=nx
  · subst c;rw[Cv]at e;cases e;exact hbs
  · rw[D4 c]at e;exact M.bs _ _ e
 refine⟨⟨?_,?_,?_,?_,hbs'⟩,hle,?_,?_,?_,hz,?_,?_,?_,h1,h2,h3⟩
 · intro j k e
   by_cases c:j=nx
   · subst c;rw[Cv]at e;cases e;rw[E9,if_pos rfl];exact ho
   · rw[D4 c]at e;rw[hgj j c]
     by_cases d:j=id
     · rw[if_pos d];trivial
     · rw[if_neg d]
       rcases hother j k e d with hd|hb
       · rw[hd];trivial
       · exact(M.ob j k e).mono hle (hw _ (M.bl _ _ e) hb)
 · intro i j k k' hi hj hb
   by_cases ci:i=nx
   · by_cases cj:j=nx
     · exact .inl (ci.trans cj.symm)
     · subst ci;rw[Cv]at hi;cases hi
       rw[D4 cj]at hj;rw[hgj j cj]
       by_cases d:j=id
       · rw[if_pos d];exact .inr (.inr rfl)
       · rw[if_neg d]
         rcases hother j k' hj d with hd|hx
         · exact .inr (.inr hd)
         · exact absurd hb.symm hx
   · rw[D4 ci]at hi
     by_cases cj:j=nx
     · subst cj;rw[Cv]at hj;cases hj
       rw[hgj i ci]
       by_cases d:i=id
       · rw[if_pos d];exact .inr (.inl rfl)
       · rw[if_neg d]
         rcases hother i k hi d with hd|hx
         · exact .inr (.inl hd)
         · exact absurd hb hx
     · rw[D4 cj]at hj
       rw[hgj i ci,hgj j cj]
       rcases M.ij i j k k' hi hj hb with e|e|e
       · exact .inl e
       · right;left;split
         · rfl
         · exact e
       · right;right;split
         · rfl
         · exact e
 · intro j k e
   rw[Hx]
   by_cases c:j=nx
   · subst c;omega
   · rw[D4 c]at e;have:=M.lt _ _ e;omega
 · intro j k e
   by_cases c:j=nx
   · subst c;rw[Cv]at e;cases e;exact hb'
   · rw[D4 c]at e;have:=M.bl _ _ e;omega
 · rw[Hx];omega
 · intro j hj hm
   have c:j≠nx:=fun c=>by subst c;omega
   have d:j≠id:=fun c=>by subst c;rw[hid]at hm;cases hm
   exact⟨by rw[D4 c];exact hm,by rw[hgj j c,if_neg d]⟩
 · intro b hb hall
   refine hw b hb fun c=>?_
   rcases hl with hl|hl
   · exact hr (hall id l hid (hl.symm.trans c.symm))
   · omega
 · intro j k e hm
   by_cases c:j=nx
   · subst c;rw[Cv]at e;cases e
     rcases hl with hl|hl
     · exact .inr ⟨id,l,hid,hl.symm,hr⟩
     · exact .inl (by omega)
   · rw[D4 c,hm]at e;cases e
 · intro j k e
   have c:j≠nx:=fun c=>by subst c;rw[hn]at e;cases e
   rw[hgj j c]
   by_cases d:j=id
   · subst d;rw[if_pos rfl];exact⟨fun x=>absurd x hr,fun x=>x.elim⟩
   · rw[if_neg d];exact⟨fun _=>rfl,fun x=>x⟩
 · intro j k e hm
   by_cases c:j=nx
   · subst c;rw[E9,if_pos rfl];exact hnr
   · rw[D4 c,hm]at e;cases e
theorem Mem.drop {m:Mp} {h:H} {nx:Pos} {w w':World} (M:Mem m h nx w) {id:Pos} {l:Loc} (hid:m id=some l) (hnd:hg h id≠.dead) (hr:¬N4 (hg h id))
 (hw:∀b,b≠l.blk→w'.heap[b]?=w.heap[b]?) (hz:w'.heap.size=w.heap.size) (h1:w'.os=w.os) (h2:w'.tape=w.tape) (h3:w'.output=w.output) :
 Mem m (hs h id .dead) nx w'∧Ext m h nx w m (hs h id .dead) nx w':=M.turn hid hnd hr (fun x=>x) hw hz h1 h2 h3 trivial
open Go.GV (TI Shp TIok)
theorem VR.b_inv {m:Mp} {x:Bool} {v:Value} (h:VR m (.b x) v):v=.bool x:=by cases h;rfl
theorem VR.i_inv {m:Mp} {k:IntKind} {n:Int} {v:Value} (h:VR m (.i k n) v):v=.int k n:=by cases h;rfl
theorem VR.s_inv {m:Mp} {l:List Nat} {v:Value} (h:VR m (.s l) v):∃b,v=.string b∧Ep b=l:=by cases h;exact⟨_,rfl,rfl⟩
theorem VR.p0_inv {m:Mp} {v:Value} (h:VR m .p0 v):v=.pointer none:=by cases h;rfl
theorem VR.p_inv {m:Mp} {id:Pos} {off:Nat} {v:Value} (h:VR m (.p id off) v):∃l,m id=some l∧v=.pointer (some ⟨l.blk,l.base+off,none⟩):=by cases h;exact⟨_,‹_›,rfl⟩
theorem VR.sl0_inv {m:Mp} {v:Value} (h:VR m .sl0 v):v=.slice none 0 0:=by cases h;rfl
theorem VR.slk_inv {m:Mp} {id:Pos} {off n c:Nat} {v:Value} (h:VR m (.sl id off n (.k c)) v):∃l,m id=some l∧v=.slice (some ⟨l.blk,l.base+off,none⟩) n c:=by
 cases h;exact⟨_,‹_›,rfl⟩
theorem VR.slu_inv {m:Mp} {id:Pos} {off n es:Nat} {v:Value} (h:VR m (.sl id off n (.u es)) v) :
 ∃l,m id=some l∧((∃c,v=.slice (some ⟨l.blk,l.base+off,none⟩) n c∧n≤c∧l.base+off+c*es≤l.sz)∨(n=0∧∃a,v=.slice (some a) 0 0)):=by
 cases h
 · exact⟨_,‹_›,.inl ⟨_,rfl,‹_›,‹_›⟩⟩
 · exact⟨_,‹_›,.inr ⟨rfl,_,rfl⟩⟩
theorem VR.sl_any {m:Mp} {id:Pos} {off n:Nat} {cap:Cap} {v:Value} (h:VR m (.sl id off n cap) v) :
 ∃l c a,m id=some l∧v=.slice (some a) n c∧(0<n→a=⟨l.blk,l.base+off,none⟩):=by
 cases h
 · exact⟨_,_,_,‹_›,rfl,fun _=>rfl⟩
 · exact⟨_,_,_,‹_›,rfl,fun _=>rfl⟩
 · exact⟨_,_,_,‹_›,rfl,fun h=>absurd h (by omega)⟩
theorem VR.m0_inv {m:Mp} {v:Value} (h:VR m .m0 v):v=.map none:=by cases h;rfl
theorem VR.m_inv {m:Mp} {id:Pos} {v:Value} (h:VR m (.m id) v):∃l,m id=some l∧v=.map (some l.blk):=by cases h;exact⟨_,‹_›,rfl⟩
theorem VR.ag_inv {m:Mp} {l:List AV} {v:Value} (h:VR m (.ag l) v):∃cs:Array Value,v=.agg cs∧VL m l cs.toList:=by
 cases h
 rename_i cs hl hh
 exact⟨cs,rfl,by simpa using hl,fun i a v ha hv=>hh i a v ha (by simpa using hv)⟩
theorem VR.tu_inv {m:Mp} {l:List AV} {v:Value} (h:VR m (.tu l) v):∃cs:Array Value,v=.tuple cs∧VL m l cs.toList:=by
 cases h
 rename_i cs hl hh
 exact⟨cs,rfl,by simpa using hl,fun i a v ha hv=>hh i a v ha (by simpa using hv)⟩
theorem VR.fn_inv {m:Mp} {f:Nat} {l:List AV} {v:Value} (h:VR m (.fn f l) v):∃cs:Array Value,v=.func (.func f) #[] cs∧VL m l cs.toList:=by
 cases h
 rename_i cs hl hh
 exact⟨cs,rfl,by simpa using hl,fun i a v ha hv=>hh i a v ha (by simpa using hv)⟩
theorem VR.fb_inv {m:Mp} {f:Nat} {l:List AV} {v:Value} (h:VR m (.fb f l) v):∃cs:Array Value,v=.func (.func f) cs #[]∧VL m l cs.toList:=by
 cases h
 rename_i cs hl hh
 exact⟨cs,rfl,by simpa using hl,fun i a v ha hv=>hh i a v ha (by simpa using hv)⟩
theorem VR.yl_inv {m:Mp} {id:Pos} {v:Value} (h:VR m (.yl id) v):∃l,m id=some l∧v=.func (.yield l.blk) #[] #[]:=by cases h;exact⟨_,‹_›,rfl⟩
theorem VR.agL {m:Mp} {l:List AV} {vs:List Value} (h:VL m l vs):VR m (.ag l) (.agg vs.toArray):=
 .ag l _ (by simpa using h.1) fun i a v ha hv=>h.2 i a v ha (by simpa using hv)
theorem VR.tuL {m:Mp} {l:List AV} {vs:List Value} (h:VL m l vs):VR m (.tu l) (.tuple vs.toArray):=
 .tu l _ (by simpa using h.1) fun i a v ha hv=>h.2 i a v ha (by simpa using hv)
theorem VR.fnL {m:Mp} {f:Nat} {l:List AV} {vs:List Value} (h:VL m l vs):VR m (.fn f l) (.func (.func f) #[] vs.toArray):=
 .fn f l _ (by simpa using h.1) fun i a v ha hv=>h.2 i a v ha (by simpa using hv)
theorem VR.fbL {m:Mp} {f:Nat} {l:List AV} {vs:List Value} (h:VL m l vs):VR m (.fb f l) (.func (.func f) vs.toArray #[]):=
 .fb f l _ (by simpa using h.1) fun i a v ha hv=>h.2 i a v ha (by simpa using hv)
theorem Fp (s:ByteArray):Ep s=s.data.toList.map UInt8.toNat:=by
 unfold Ep
 induction s.data.toList with
 |nil=>rfl
 |cons x r ih=>simp only[D5];rw[←ih]
theorem Mf {a b:ByteArray} (h:Ep a=Ep b):a=b:=by
 rw[Fp,Fp]at h
 have:a.data.toList=b.data.toList:=List.map_inj_right (fun x y e=>UInt8.toNat_inj.1 e) |>.1 h
 exact ByteArray.ext (Array.toList_inj.1 this)
theorem Ei (s:ByteArray):(Ep s).length=s.size:=by rw[Fp,Ct];rfl
theorem Aar (l:List Value):Vo l=l.map cv0:=by
 unfold Vo
 induction l with
 |nil=>rfl
 |cons x r ih=>simp only[D5];rw[←ih]
theorem cv0_ok (m:Mp) (v:Value):VR m (cv0 v) v:=by
 unfold cv0
 split
 · exact .b _
 · exact .i _ _
 · exact .s _
 · exact .p0
 · exact .sl0
 · exact .m0
 · exact .nf
 · exact .ni
 · exact .x _
theorem Oz (m:Mp) (l:List Value):VL m (Vo l) l:=by
 rw[Aar]
 induction l with
 |nil=>exact .nil m
 |cons v r ih=>exact .cons (cv0_ok m v) ih
theorem cv_ok (m:Mp) (v:Value):VR m (cv v) v:=by
 unfold cv
 split
 · rename_i cs;have:=VR.agL (Oz m cs.toList);simpa using this
 · rename_i cs;have:=VR.tuL (Oz m cs.toList);simpa using this
 · exact cv0_ok m _
noncomputable def Xo (t:T AV):Operand→AV
 |.tmp n=>T.get und t (Ay (n+1))
 |.const v=>cv v
 |.global g=>fB (Nat.beq g 0) (.p (Ay 2) 0) .x
 |.func f=>.fn f []
theorem Cg (t:T AV) (x:Operand) (k:AV→Bool):I7 t x k=k (Xo t x):=by
 cases x with
 |tmp n=>exact Db _ _ _ _
 |const v=>rfl
 |global g=>show fB (Nat.beq g 0) _ _=_;cases h:Nat.beq g 0<;>simp[Xo,h,fB]
 |func f=>rfl
theorem A7 {m:Mp} {N:Nat} {t:T AV} {a:Act} (h:TR m N t a.tmps) (x:Operand):VR m (Xo t x) (a.eval x):=by
 cases x with
 |tmp n=>exact h.get n
 |const v=>exact cv_ok m v
 |global g=>
  show VR m (fB (Nat.beq g 0) _ _) _
  cases e:Nat.beq g 0 with
  |false=>exact .x _
  |true=>
   obtain rfl:=Ck e
   obtain⟨s,hs⟩:=h.glob
   exact .p (l:=⟨0,0,s⟩) 0 hs
 |func f=>exact VR.fnL (.nil m)
theorem Nm (t:T AV):∀(l:List Operand) (k:List AV→Bool),opdL t l k=k (l.map (Xo t))
 |[],_=>rfl
 |x::r,k=>by
  show I7 t x (fun v=>opdL t r fun r=>k (v::r))=_
  rw[Cg,Nm t r];rfl
theorem Nl {m:Mp} {N:Nat} {t:T AV} {a:Act} (h:TR m N t a.tmps):∀l:List Operand,VL m (l.map (Xo t)) (l.map a.eval)
 |[]=>.nil m
 |x::r=>.cons (A7 h x) (Nl h r)
theorem B1 {g:G} {t:Nat} {k:TI→Bool} (h:Ki g t k=true):∃ti,T.get none g.ty (Ay (t+1))=some ti∧k ti=true:=by
 unfold Ki at h
 rw[Db]at h
 split at h
 · rename_i ti e;exact⟨ti,e,h⟩
 · cases h
theorem Qi {v:AV} {k:Pos→Nat→Bool} (h:asP v k=true):∃id off,v=.p id off∧k id off=true:=by
 unfold asP at h;split at h
 · exact⟨_,_,rfl,h⟩
 · cases h
theorem Lw {v:AV} {k:Nat→Bool} (h:asN v k=true):∃kd n,v=.i kd (.ofNat n)∧k n=true:=by
 unfold asN at h;split at h
 · rename_i kd z
   obtain⟨h0,h⟩:=Cm h
   have h0:=(I3 _ _).1 h0
   exact⟨kd,z.toNat,by congr 1;exact(Int.toNat_of_nonneg h0).symm,h⟩
 · cases h
theorem Nz {v:AV} {k:IntKind→Int→Bool} (h:asI v k=true):∃kd n,v=.i kd n∧k kd n=true:=by
 unfold asI at h;split at h
 · exact⟨_,_,rfl,h⟩
 · cases h
structure GOK (P:Program) (g:G):Prop where
 ty:∀t ti,T.get none g.ty (Ay (t+1))=some ti→TIok P t ti
 mp:∀t k e,T.get none g.mp (Ay (t+1))=some (k,e)→P.underlying t=some (.map k e)∧P.underlying k=some .string
 pt:∀t e,T.get none g.pt (Ay (t+1))=some e→P.underlying t=some (.pointer e)∧∃i,P.info? e=some i∧i.size≠0
 bt:∀t b,T.get none g.bt (Ay (t+1))=some b→∃i,P.info? t=some i∧i.bytes=b
 cm:∀t b,T.get none g.cm (Ay (t+1))=some b→P.stoodInHeld t=false∧P.eqGuardType P.depth t=false∧(P.fieldsOf t).toList.all (fun f=>f.name != "_") = true
 fn:∀f fn,T.get none g.fn (Ay (f+1))=some fn→P.funcs[f]?=some fn∧(fn.name == "runtime.NumGoroutine") = false
 mix:P.follows .mixedOrders=true
def Kg (P:Program) (o:Oper) (t:T AV) (v:AV):Prop:=
 ∀m N (a:Act),TR m N t a.tmps→∃cv,VR m v cv∧∀w,(execOp a.eval o).run P w=.ok (.value cv) w
variable {P : Program} {g : G} {o : Oper} {t : T AV} {k : AV → Bool}
theorem move_ok {x:Operand} (ho:o.op=.move x∨o.op=.assign x) (h:I7 t x k=true):∃v,k v=true∧Kg P o t v:=by
 rw[Cg]at h
 refine⟨_,h,fun m N a T=>⟨_,A7 T x,fun w=>?_⟩⟩
 rcases ho with ho|ho<;>simp[execOp,ho]
theorem pick_ok {c x y:Operand} (ho:o.op=.pick c x y) (h:oPick c x y t k=true):∃v,k v=true∧Kg P o t v:=by
 unfold oPick at h
 rw[Cg]at h
 split at h
 · rename_i b hc
   rw[Cg,Cg]at h
   cases b with
   |true=>
    refine⟨_,h,fun m N a T=>⟨_,A7 T x,fun w=>?_⟩⟩
    have:=(hc▸A7 T c:VR m (.b true) _).b_inv
    simp[execOp,ho,asBool,this]
   |false=>
    refine⟨_,h,fun m N a T=>⟨_,A7 T y,fun w=>?_⟩⟩
    have:=(hc▸A7 T c:VR m (.b false) _).b_inv
    simp[execOp,ho,asBool,this]
 · cases h
theorem un_ok {op:UnOp} {ty:Nat} {x:Operand} (ho:o.op=.unOp op ty x) (h:oUn op x t k=true):∃v,k v=true∧Kg P o t v:=by
 unfold oUn at h
 rw[Cg]at h
 split at h
 · rename_i b hc
   refine⟨_,h,fun m N a T=>⟨_,.b _,fun w=>?_⟩⟩
   have:=(hc▸A7 T x:VR m (.b b) _).b_inv
   simp[execOp,ho,this,Op.unary]
   cases b<;>rfl
 · cases h
theorem Ey (b x n:Nat):Addr.add ⟨b,x,none⟩ n=⟨b,x+n,none⟩:=by
 unfold Addr.add;split
 · rename_i h;subst h;rfl
 · rfl
theorem Qo (hG:GOK P g) {s:Nat} {ti:TI} (hti:T.get none g.ty (Ay (s+1))=some ti) {l:List (Nat×Nat)} (hs:ti.shp=.strct l) {f off ft:Nat} (hf:l[f]?=some (off,ft)) :
 ∃fs fd,P.underlying s=some (.struct fs)∧fs[f]?=some fd∧fd.offset=off∧fd.type=ft:=by
 obtain⟨fs,h1,h2⟩:=(hG.ty _ _ hti).isStrct hs
 rw[←h2,G5]at hf
 cases hfd:fs.toList[f]? with
 |none=>rw[hfd]at hf;cases hf
 |some fd=>
  rw[hfd]at hf
  simp only[Ig,Option.some.injEq,Prod.mk.injEq]at hf
  exact⟨fs,fd,h1,by simpa using hfd,hf.1,hf.2⟩
theorem Aaf (hG:GOK P g) {s:Nat} {x:Operand} {f:Nat} (ho:o.op=.fieldAddr s x f) (h:Oq g s x f t k=true):∃v,k v=true∧Kg P o t v:=by
 unfold Oq at h
 obtain⟨ti,hti,h⟩:=B1 h
 split at h
 · rename_i l hs
   split at h
   · rename_i off ft hf
     obtain⟨tf,htf,h⟩:=B1 h
     obtain⟨hz,h⟩:=Jg h
     rw[Cg]at h
     obtain⟨id,of,hv,h⟩:=Qi h
     refine⟨_,h,fun m N a T=>?_⟩
     obtain⟨lc,hl,he⟩:=(hv▸A7 T x:VR m (.p id of) _).p_inv
     obtain⟨fs,fd,h1,hfd,rfl,rfl⟩:=Qo hG hti hs hf
     have hz':¬tf.sz=0:=fun c=>by rw[c]at hz;cases hz
     refine⟨_,.p (l:=lc) _ hl,fun w=>?_⟩
     simp only[execOp,ho,he,Instr.fieldAt,Sem.run_bind,run_underlying h1,Bn,hfd,Instr.sureAddr,Sem.run_pure,fieldPlace,GV.run_sizeOf w (hG.ty _ _ htf),if_neg hz',Ey]
     show _=Result.ok (Next.value (.pointer (some ⟨lc.blk,lc.base+(of+fd.offset),none⟩))) w
     rw[Er]
   · cases h
 · cases h
theorem field_ok (hG:GOK P g) {s:Nat} {x:Operand} {f:Nat} (ho:o.op=.field s x f) (h:oField g s x f t k=true):∃v,k v=true∧Kg P o t v:=by
 unfold oField at h
 obtain⟨ti,hti,h⟩:=B1 h
 split at h
 · rename_i l hs
   split at h
   · rename_i off ft hf
     obtain⟨tf,htf,h⟩:=B1 h
     rw[Cg]at h
     split at h
     · rename_i cs hv
       obtain⟨fs,fd,h1,hfd,eo,et⟩:=Qo hG hti hs hf
       split at h
       · rename_i ha
         unfold sub0 at h
         refine⟨_,h,fun m N a T=>?_⟩
         obtain⟨vs,he,hl⟩:=(hv▸A7 T x:VR m (.ag cs) _).ag_inv
         refine⟨.agg (vs.extract off (off+tf.sz)),?_,fun w=>?_⟩
         · have:VL m ((cs.drop off).take tf.sz) (vs.extract off (off+tf.sz)).toList:=by
            have e:(vs.extract off (off+tf.sz)).toList=(vs.toList.drop off).take tf.sz:=by simp[List.take_drop]
            rw[e]
            refine⟨by simp[hl.1],fun i a v ha hv=>?_⟩
            rw[Jk,List.getElem?_drop]at ha hv
            split at ha
            · rename_i hi;rw[if_pos hi]at hv;exact hl.2 _ a v ha hv
            · cases ha
           have:=VR.agL this;rw[Array.toArray_toList]at this;exact this
         · simp only[execOp,ho,he,Instr.field,Sem.run_bind,run_underlying h1,Bn,hfd,eo,et,asAgg,Sem.run_pure,GV.run_part (C:=⟨P,none,0⟩) (hG.ty _ _ htf),ha,if_true]
       · rename_i ha
         split at h
         · rename_i v hcv
           refine⟨_,h,fun m N a T=>?_⟩
           obtain⟨vs,he,hl⟩:=(hv▸A7 T x:VR m (.ag cs) _).ag_inv
           obtain⟨w0,h2,h3⟩:=hl.get hcv
           refine⟨w0,h3,fun w=>?_⟩
           have h2':vs[off]?=some w0:=by simpa using h2
           simp only[execOp,ho,he,Instr.field,Sem.run_bind,run_underlying h1,Bn,hfd,eo,et,asAgg,Sem.run_pure,GV.run_part (C:=⟨P,none,0⟩) (hG.ty _ _ htf),ha,h2']
           rfl
         · cases h
     · cases h
   · cases h
 · cases h
theorem J5 {n i:Nat} (h:Nat.ble n i=false):i<n:=by
 cases Nat.lt_or_ge i n with
 |inl h=>exact h
 |inr c=>rw[Kc c]at h;cases h
theorem Z9 (hG:GOK P g) {s:Nat} {x i:Operand} (ho:o.op=.indexAddr s x i) (h:Oo g s x i t k=true):∃v,k v=true∧Kg P o t v:=by
 unfold Oo at h
 obtain⟨ti,hti,h⟩:=B1 h
 rw[Cg]at h
 obtain⟨kd,n,hi,h⟩:=Lw h
 rw[Cg]at h
 split at h
 · rename_i e hs
   obtain⟨te,hte,h⟩:=B1 h
   split at h
   · rename_i id off len cap hv
     obtain⟨h0,h⟩:=Jg h
     have hlt:=J5 h0
     refine⟨_,h,fun m N a T=>?_⟩
     obtain⟨lc,c,ad,hl,he,hpos⟩:=(hv▸A7 T x:VR m (.sl id off len cap) _).sl_any
     have e2:=(hi▸A7 T i:VR m (.i kd (.ofNat n)) _).i_inv
     have had:=hpos (by omega)
     subst had
     have hu:=(hG.ty _ _ hti).isSlice hs
     refine⟨_,.p (l:=lc) _ hl,fun w=>?_⟩
     simp only[execOp,ho,he,e2,Instr.indexAt,asIntOf,Sem.run_bind,run_underlying hu,Bn,Sem.run_pure]
     have h1:(0:Int)≤Int.ofNat n∧Int.ofNat n<(len:Int):=⟨Fw n,by exact Int.ofNat_lt.2 hlt⟩
     rw[if_pos h1]
     simp only[Sem.run_bind,GV.run_sizeOf w (hG.ty _ _ hte),Bn,Sem.run_pure,Ey]
     show _=Result.ok (Next.value (.pointer (some ⟨lc.blk,lc.base+(off+n*te.sz),none⟩))) w
     rw[←Er];rfl
   · cases h
 · rename_i len e hs
   obtain⟨te,hte,h⟩:=B1 h
   split at h
   · rename_i id off hv
     obtain⟨h0,h⟩:=Jg h
     have hlt:=J5 h0
     refine⟨_,h,fun m N a T=>?_⟩
     obtain⟨lc,hl,he⟩:=(hv▸A7 T x:VR m (.p id off) _).p_inv
     have e2:=(hi▸A7 T i:VR m (.i kd (.ofNat n)) _).i_inv
     obtain⟨d,hd1,hd2⟩:=(hG.ty _ _ hti).und
     rw[hs]at hd2
     obtain rfl:d=.array len e:=hd2
     refine⟨_,.p (l:=lc) _ hl,fun w=>?_⟩
     simp only[execOp,ho,he,e2,Instr.indexAt,asIntOf,Sem.run_bind,run_underlying hd1,Bn,Sem.run_pure,Instr.sureAddr]
     have h1:(0:Int)≤Int.ofNat n∧Int.ofNat n<(len:Int):=⟨Fw n,by exact Int.ofNat_lt.2 hlt⟩
     rw[if_pos h1]
     simp only[Sem.run_bind,GV.run_sizeOf w (hG.ty _ _ hte),Bn,Sem.run_pure,Ey]
     show _=Result.ok (Next.value (.pointer (some ⟨lc.blk,lc.base+(off+n*te.sz),none⟩))) w
     rw[←Er];rfl
   · cases h
 · cases h
theorem nth_inv {l:List Nat} {i:Nat} {k:Nat→Bool} (h:nth l i k=true):∃n,l[i]?=some n∧k n=true:=by
 unfold nth at h
 obtain⟨h1,h⟩:=Jg h
 have hlt:i<l.length:=by
  cases Nat.lt_or_ge i l.length with
  |inl c=>exact c
  |inr c=>rw[Kc c]at h1;cases h1
 exact⟨l[i],by simp[hlt],by simpa[A0,hlt]using h⟩
theorem str_get {s:ByteArray} {i n:Nat} (h:(Ep s)[i]?=some n):∃b,s[i]?=some b∧b.toNat=n:=by
 rw[Fp,G5]at h
 cases hb:s.data.toList[i]? with
 |none=>rw[hb]at h;cases h
 |some b=>
  rw[hb]at h
  simp only[Ig,Option.some.injEq]at h
  refine⟨b,?_,h⟩
  have hi:i<s.data.size:=by simpa using(Gn.1 hb).1
  have hi':i<s.size:=hi
  rw[getElem?_pos s i hi']
  have:s.data[i]?=some b:=by simpa using hb
  rw[getElem?_pos s.data i hi]at this
  exact this
theorem index_ok (hG:GOK P g) {s:Nat} {x i:Operand} (ho:o.op=.index s x i) (h:oIndex g s x i t k=true):∃v,k v=true∧Kg P o t v:=by
 unfold oIndex at h
 obtain⟨ti,hti,h⟩:=B1 h
 rw[Cg]at h
 obtain⟨kd,n,hi,h⟩:=Lw h
 rw[Cg]at h
 split at h
 · rename_i l hs hv
   obtain⟨c,h1,h⟩:=nth_inv h
   refine⟨_,h,fun m N a T=>?_⟩
   obtain⟨b,he,rfl⟩:=(hv▸A7 T x:VR m (.s l) _).s_inv
   have e2:=(hi▸A7 T i:VR m (.i kd (.ofNat n)) _).i_inv
   obtain⟨y,h2,rfl⟩:=str_get h1
   have hu:=(hG.ty _ _ hti).isStr hs
   refine⟨_,.i _ _,fun w=>?_⟩
   have h0:(0:Int)≤Int.ofNat n:=Fw n
   simp only[execOp,ho,he,e2,Instr.index,asIntOf,Sem.run_bind,run_underlying hu,Bn,Sem.run_pure,if_pos h0]
   have:(Int.ofNat n).toNat=n:=rfl
   rw[this,h2]
   rfl
 · cases h
theorem extract_ok {x:Operand} {n:Nat} (ho:o.op=.extract x n) (h:Ub x n t k=true):∃v,k v=true∧Kg P o t v:=by
 unfold Ub at h
 rw[Cg]at h
 split at h
 · rename_i l hv
   split at h
   · rename_i v hl
     refine⟨_,h,fun m N a T=>?_⟩
     obtain⟨vs,he,hL⟩:=(hv▸A7 T x:VR m (.tu l) _).tu_inv
     obtain⟨y,h2,h3⟩:=hL.get hl
     have h2':vs[n]?=some y:=by simpa using h2
     exact⟨y,h3,fun w=>by simp[execOp,ho,he,Instr.extract,h2']⟩
   · cases h
 · cases h
theorem nil_ok {x:Operand} (ho:o.op=.nilCheck x) (h:oNil x t k=true):∃v,k v=true∧Kg P o t v:=by
 unfold oNil at h
 rw[Cg]at h
 split at h
 · rename_i id off hv
   refine⟨_,h,fun m N a T=>?_⟩
   obtain⟨lc,hl,he⟩:=(hv▸A7 T x:VR m (.p id off) _).p_inv
   exact⟨_,.p (l:=lc) off hl,fun w=>by simp[execOp,ho,he]⟩
 · cases h
theorem makeFunc_ok {fn:Fn} {first cap:Array Operand} (ho:o.op=.makeFunc fn first cap) (h:Qu fn first.toList cap.toList t k=true):∃v,k v=true∧Kg P o t v:=by
 unfold Qu at h
 split at h
 · rename_i f hf
   rw[Nm]at h
   refine⟨_,h,fun m N a T=>⟨_,VR.fnL (Nl T cap.toList),fun w=>?_⟩⟩
   have:first=#[]:=by cases first;simpa using hf
   subst this
   simp[execOp,ho,Instr.makeFunc]
   apply Array.ext';simp
 · split at h
   · rename_i hf
     rw[Nm]at h
     refine⟨_,h,fun m N a T=>⟨_,VR.fbL (Nl T first.toList),fun w=>?_⟩⟩
     have:cap=#[]:=by cases cap;simpa using hf
     subst this
     simp[execOp,ho,Instr.makeFunc]
     apply Array.ext';simp
   · cases h
 · cases h
end Go.CE
namespace Go.CE
open Go.GV (TI Shp TIok)
theorem Nf (a b:Int):K0 a b=false↔b<a:=by
 rw[←Int.not_le,←I3];cases K0 a b<;>simp
theorem Rz:∀a b:List Nat,Lo a b=true↔a=b
 |[],[]=>by simp[Lo]
 |[],_::_=>by simp[Lo]
 |_::_,[]=>by simp[Lo]
 |x::a,y::b=>by
  show fB (Nat.beq x y) (Lo a b) false=true↔_
  rw[fB_eq]
  by_cases h:x=y
  · subst h;rw[if_pos (by simp)];rw[Rz a b];simp
  · rw[if_neg (by simpa using h)];simp[h]
theorem Dn (a b:List Nat):Dg a b=true↔a=b:=by rw[natsEq_un];exact Rz a b
theorem Z4 {a b:IntKind} (h:kEq a b=true):a=b:=by cases a<;>cases b<;>first|rfl|cases h
theorem appK_eq (a b:List Nat):∀k:List Nat→Bool,appK a b k=k (a++b):=fun _=>rfl
theorem H4 {α:Type} (l:List α):∀k:Nat→Bool,len l k=k l.length:=fun _=>rfl
theorem takeK_eq:∀(n:Nat) (l:List Nat) (k:List Nat→Bool),takeK n l k=k (l.take n):=fun _ _ _=>rfl
theorem dropK_eq:∀(n:Nat) (l:List Nat) (k:List Nat→Bool),dropK n l k=k (l.drop n):=fun _ _ _=>rfl
theorem Q9 {kd:IntKind} {z:Int} (h:fits kd z=true):kd.wrap z=z:=by
 rw[Nu]at h
 have key:∀z:Int,kd.min≤z→z≤kd.max→kd.wrap z=z:=fun z h1 h2=>by
  cases kd<;>simp only[IntKind.wrap,IntKind.min,IntKind.max,IntKind.signed,IntKind.bits]at h1 h2 ⊢<;>simp at h1 h2 ⊢<;>first|omega|(rw[Int.bmod_def];simp;omega)|skip
 cases z with
 |ofNat n=>
  have hn:n≤big kd:=Aa h
  apply key<;>cases kd<;>simp only[big]at hn<;>simp[IntKind.min,IntKind.max,IntKind.signed,IntKind.bits]<;>omega
 |negSucc n=>
  cases kd<;>simp only[fitsC]at h<;>try cases h
  all_goals
   have hn:=Aa h
   simp only[big]at hn
   apply key<;>simp[IntKind.min,IntKind.max,IntKind.signed,IntKind.bits]<;>omega
theorem J1 (kd:IntKind) (z:Int) (k:AV→Bool):Pe kd z k=k (.i kd (kd.wrap z)):=by
 unfold Pe
 rw[fZ_eq,fB_eq]
 split
 · rename_i h;rw[Q9 h]
 · rw[fZ_eq]
variable {P : Program} {g : G} {o : Oper} {t : T AV} {k : AV → Bool}
theorem Xz (op:BinOp) (ty:Nat) (x y:Operand) (c d:IntKind) (p q:Int) (w:World):(eqGuard op ty x y (.int c p) (.int d q)).run P w=.ok () w:=by
 unfold eqGuard;cases op<;>simp
theorem guard_str (op:BinOp) (ty:Nat) (x y:Operand) (p q:ByteArray) (w:World):(eqGuard op ty x y (.string p) (.string q)).run P w=.ok () w:=by
 unfold eqGuard;cases op<;>simp
theorem dec_z (a b:Int):decide (a=b)=N2 a b:=by
 cases h:N2 a b with
 |true=>have:=(Fb a b).1 h;simp[this]
 |false=>have:¬a=b:=fun e=>by rw[(Fb a b).2 e]at h;cases h
         simp[this]
theorem dec_le (a b:Int):decide (a≤b)=K0 a b:=by
 cases h:K0 a b with
 |true=>have:=(I3 a b).1 h;simp[this]
 |false=>have:=(Nf a b).1 h;have:¬a≤b:=by omega
         simp[this]
theorem dec_lt (a b:Int):decide (a<b)=fB (K0 b a) false true:=by
 cases h:K0 b a with
 |true=>have:=(I3 b a).1 h;have:¬a<b:=by omega
        simp[this,fB]
 |false=>have:=(Nf b a).1 h;simp[this,fB]
theorem bits_land (kd:IntKind) (a b:Nat) (ha:a≤big kd) (hb:b≤big kd):kd.wrap (Int.ofNat (BitVec.toNat (BitVec.ofInt kd.bits (Int.ofNat a) &&& BitVec.ofInt kd.bits (Int.ofNat b))))=Int.ofNat (Nat.land a b):=by
 have hle:a &&& b≤a:=Nat.and_le_left
 have hf:fits kd (Int.ofNat (Nat.land a b))=true:=by rw[Nu];exact Kc (Cr hle ha)
 have e:BitVec.toNat (BitVec.ofInt kd.bits (Int.ofNat a) &&& BitVec.ofInt kd.bits (Int.ofNat b))=Nat.land a b:=by
  have ea:(BitVec.ofInt kd.bits (Int.ofNat a)).toNat=a:=by
   simp only[BitVec.toNat_ofInt,Aj];cases kd<;>simp only[big]at ha<;>simp only[IntKind.bits]<;>omega
  have eb:(BitVec.ofInt kd.bits (Int.ofNat b)).toNat=b:=by
   simp only[BitVec.toNat_ofInt,Aj];cases kd<;>simp only[big]at hb<;>simp only[IntKind.bits]<;>omega
  rw[BitVec.toNat_and,ea,eb];rfl
 rw[e,Q9 hf]
theorem or_le {a b n:Nat} (ha:a<2^n) (hb:b<2^n):a ||| b<2^n:=Nat.or_lt_two_pow ha hb
theorem bits_lor (kd:IntKind) (a b:Nat) (ha:a≤big kd) (hb:b≤big kd):kd.wrap (Int.ofNat (BitVec.toNat (BitVec.ofInt kd.bits (Int.ofNat a) ||| BitVec.ofInt kd.bits (Int.ofNat b))))=Int.ofNat (Nat.lor a b):=by
 have hle:a ||| b≤big kd:=by
  have:∃n,big kd+1=2^n:=by
   cases kd
   · exact⟨7,rfl⟩
   · exact⟨15,rfl⟩
   · exact⟨31,rfl⟩
   · exact⟨63,rfl⟩
   · exact⟨8,rfl⟩
   · exact⟨16,rfl⟩
   · exact⟨32,rfl⟩
   · exact⟨64,rfl⟩
  obtain⟨n,hn⟩:=this
  have:=or_le (a:=a) (b:=b) (n:=n) (by omega) (by omega)
  omega
 have hf:fits kd (Int.ofNat (Nat.lor a b))=true:=by rw[Nu];exact Kc hle
 have e:BitVec.toNat (BitVec.ofInt kd.bits (Int.ofNat a) ||| BitVec.ofInt kd.bits (Int.ofNat b))=Nat.lor a b:=by
  have ea:(BitVec.ofInt kd.bits (Int.ofNat a)).toNat=a:=by
   simp only[BitVec.toNat_ofInt,Aj];cases kd<;>simp only[big]at ha<;>simp only[IntKind.bits]<;>omega
  have eb:(BitVec.ofInt kd.bits (Int.ofNat b)).toNat=b:=by
   simp only[BitVec.toNat_ofInt,Aj];cases kd<;>simp only[big]at hb<;>simp only[IntKind.bits]<;>omega
  rw[BitVec.toNat_or,ea,eb];rfl
 rw[e,Q9 hf]
theorem intBin_ok {op:BinOp} {kd:IntKind} {a b:Int} (h:Z8 op kd a b k=true):∃v,k v=true∧∃cv,(∀m,VR m v cv)∧∀ty w,(binOp op ty (.int kd a) (.int kd b)).run P w=.ok cv w:=by
 cases op<;>simp only[Z8]at h
 case add=>rw[J1]at h;exact⟨_,h,_,fun m=>.i _ _,fun ty w=>by simp[binOp,Op.intArith]<;>rfl⟩
 case sub=>rw[J1]at h;exact⟨_,h,_,fun m=>.i _ _,fun ty w=>by simp[binOp,Op.intArith]<;>rfl⟩
 case mul=>rw[J1]at h;exact⟨_,h,_,fun m=>.i _ _,fun ty w=>by simp[binOp,Op.intArith]<;>rfl⟩
 case quo=>
  obtain⟨h0,h⟩:=Jg h
  rw[J1]at h
  have hb:¬b=0:=fun e=>by rw[(Fb b 0).2 e]at h0;cases h0
  exact⟨_,h,_,fun m=>.i _ _,fun ty w=>by simp[binOp,Op.intDiv,hb]<;>rfl⟩
 case rem=>
  obtain⟨h0,h⟩:=Jg h
  rw[fZ_eq]at h
  have hb:¬b=0:=fun e=>by rw[(Fb b 0).2 e]at h0;cases h0
  exact⟨_,h,_,fun m=>.i _ _,fun ty w=>by simp[binOp,Op.intDiv,hb]<;>rfl⟩
 case and=>
  split at h
  · rename_i a b
    obtain⟨h1,h⟩:=Cm h
    obtain⟨h2,h⟩:=Cm h
    rw[F6]at h
    have:=bits_land kd a b (Aa h1) (Aa h2)
    refine⟨_,h,_,fun m=>.i _ _,fun ty w=>?_⟩
    rw[←this]
    simp[binOp,Op.intBits]
  · cases h
 case or=>
  split at h
  · rename_i a b
    obtain⟨h1,h⟩:=Cm h
    obtain⟨h2,h⟩:=Cm h
    rw[F6]at h
    have:=bits_lor kd a b (Aa h1) (Aa h2)
    refine⟨_,h,_,fun m=>.i _ _,fun ty w=>?_⟩
    rw[←this]
    simp[binOp,Op.intBits]
  · cases h
 case eql=>exact⟨_,h,_,fun m=>.b _,fun ty w=>by simp[binOp,Op.intCmp];exact dec_z a b⟩
 case neq=>exact⟨_,h,_,fun m=>.b _,fun ty w=>by
  simp only[binOp,Op.intCmp]
  have:=dec_z a b
  cases hz:N2 a b<;>rw[hz]at this<;>simp at this<;>simp[this,fB]⟩
 case lss=>exact⟨_,h,_,fun m=>.b _,fun ty w=>by simp[binOp,Op.intCmp];exact dec_lt a b⟩
 case leq=>exact⟨_,h,_,fun m=>.b _,fun ty w=>by simp[binOp,Op.intCmp];exact dec_le a b⟩
 case gtr=>exact⟨_,h,_,fun m=>.b _,fun ty w=>by simp[binOp,Op.intCmp];exact dec_lt b a⟩
 case geq=>exact⟨_,h,_,fun m=>.b _,fun ty w=>by simp[binOp,Op.intCmp];exact dec_le b a⟩
 all_goals cases h
theorem strEq (p q:ByteArray):(p.toList==q.toList)=Dg (Ep p) (Ep q):=by
 rw[GV.beqS]
 cases h:Dg (Ep p) (Ep q)with
 |true=>have:=Mf ((Dn _ _).1 h);simp[this]
 |false=>have:¬p=q:=fun e=>by rw[(Dn _ _).2 (congrArg Ep e)]at h;cases h
         simp[this]
theorem strBin_ok {op:BinOp} {p q:ByteArray} (h:Qp op (Ep p) (Ep q) k=true):∃v,k v=true∧∃cv,(∀m,VR m v cv)∧∀ty w,(binOp op ty (.string p) (.string q)).run P w=.ok cv w:=by
 cases op<;>simp only[Qp]at h
 case add=>
  rw[H4,H4]at h
  obtain⟨h0,h⟩:=Cm h
  rw[appK_eq]at h
  have hle:=Aa h0
  rw[Ei,Ei]at hle
  have e:Ep p++Ep q=Ep (p++q):=by rw[Fp,Fp,Fp];simp[ByteArray.data_append]
  rw[e]at h
  refine⟨_,h,_,fun m=>.s _,fun ty w=>?_⟩
  have hm:IntKind.i64.max=9223372036854775807:=by decide
  have hle':p.size+q.size≤1000000:=hle
  have hn:¬((p.size+q.size:Nat):Int) > IntKind.i64.max:=by rw[hm];omega
  simp only[binOp,Op.stringOp]
  rw[if_neg hn]
  rfl
 case eql=>
  unfold fBK at h
  have e:=strEq p q
  cases hz:Dg (Ep p) (Ep q)<;>rw[hz]at h e
  · exact⟨_,h,_,fun m=>.b _,fun ty w=>by simp[binOp,Op.stringOp,e]⟩
  · exact⟨_,h,_,fun m=>.b _,fun ty w=>by simp[binOp,Op.stringOp,e]⟩
 case neq=>
  have e:=strEq p q
  cases hz:Dg (Ep p) (Ep q)<;>rw[hz]at h e
  · exact⟨_,h,_,fun m=>.b _,fun ty w=>by simp[binOp,Op.stringOp,e]⟩
  · exact⟨_,h,_,fun m=>.b _,fun ty w=>by simp[binOp,Op.stringOp,e]⟩
 all_goals cases h
end Go.CE
