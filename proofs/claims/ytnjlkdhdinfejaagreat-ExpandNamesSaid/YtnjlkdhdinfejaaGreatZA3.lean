/- Part 3 of the lemmas behind the claim: GF, XC, Ty, XD, XE, GK, GO, GQ, S1, XF, GR, S2, P1, P2, P3, XG, XH, XI, K, E1. -/
import Derived.Test.YtnjlkdhdinfejaaGreatZA2
import Derived.LaidEql
import Derived.Test.YtnjlkdhdinfejaaGreatProg
import Derived.KernelRfl
import Derived.Laws.CopyRow
import Derived.Laws.Small
import Derived.Laws.Externs
set_option linter.unusedSimpArgs false
set_option linter.unusedVariables false
set_option maxHeartbeats 4000000
set_option maxRecDepth 100000
namespace Go.GV
open Go.RowKit
theorem xl_gsplit {C:Cx} {all:List Oper} {o:Oper} {r:List Oper} {Q:Bb} {st:St} {u:Im} (t:Nat) (s:Value) {want b:Bool} {d:Nat} (hg:Bp all st o=some [(t,want)]) (hd:o.dst=some d)
 (hfr:Bg C.N st d [(t,want)]=true) (h2:look st.gk t=none) (h3:look st.kn t=some (.v (.bool b)))
 (K1:b=want→XL C all ({o with guard:=none}::r) Q st u) (K2:b≠want→XL C all r Q (st.put d [(t,want)] (.v s)) u):XL C all (o::r) Q st u:=by
 by_cases hb:b=want
 exact xl_sure t hg h2 h3 hb (K1 hb)
 have K:=K2 hb
 unfold XL at K ⊢
 intro E a w hok
 have hgd:=guard_sound (all:=all.toArray) hok.agr (by simpa using hg)
 have hng:¬gs a.tmps [(t,want)]:=fun hh=>by
  have h5:=hh (t,want) (List.mem_singleton.2 rfl)
  have h6:=hok.agr.kn t _ h2 h3
  simp only[SV.den]at h6
  rw[h6]at h5
  simp only[Option.some.injEq,Value.bool.injEq]at h5
  exact hb h5
 have hw:Region.wanted o (yielded all.toArray a.tmps)=false:=by
  cases hw:Region.wanted o (yielded all.toArray a.tmps)
  rfl
  exact absurd (hgd.1 hw) hng
 have hput:Agr C.N E (st.put d [(t,want)] (.v s)) (a.tmps.setIfInBounds d undef):=
  hok.agr.put hfr (fun _=>trivial) (fun hy=>absurd hy hng) (fun _=>rfl) (fun hn=>by cases hn)
 obtain⟨fF,hsat⟩:=hok.sat
 have:=K E (a.put o.dst undef) w ⟨by rw[hd];exact hput,fF,by rw[hd];exact hsat⟩
 unfold wpListIn
 rw[if_neg (by rw[hw];simp)]
 exact⟨fun _ _=>trivial,this⟩
theorem flatMap_replicateG {α:Type} {f:α→List Value} {z:α}:∀m:Nat,(List.replicate m z).flatMap f=(List.replicate m (f z)).flatten
 |0=>rfl
 |m+1=>by rw[List.replicate_succ,List.flatMap_cons,flatMap_replicateG m,List.replicate_succ,List.flatten_cons]
theorem madeCells_rep (z:Array Value) (n:Nat) (hz:z.size=n) (hn:0<n) (m:Nat):(madeCells z (m*n)).toList=(List.replicate m z.toList).flatten:=by
 have e:(List.replicate m z.toList).flatten=(List.replicate m z).flatMap Array.toList:=(flatMap_replicateG m).symm
 rw[e]
 apply List.ext_getElem?
 intro i
 by_cases hi:i<m*n
 have h1:=flatMap_get (m:=n) (fun x:{x:Array Value // x.size=n}=>x.1.toList) (fun x=>by simp[x.2]) (List.replicate m ⟨z,hz⟩) (i / n) (i%n) ⟨z,hz⟩
  (by rw[List.getElem?_replicate,if_pos (Nat.div_lt_of_lt_mul (by rw[Nat.mul_comm];exact hi))]) (Nat.mod_lt _ hn)
 have e2:(List.replicate m (⟨z,hz⟩:{x:Array Value // x.size=n})).flatMap (fun x=>x.1.toList)=(List.replicate m z).flatMap Array.toList:=by
  rw[flatMap_replicateG,flatMap_replicateG]
 rw[e2,Nat.mul_comm,Nat.div_add_mod]at h1
 rw[h1]
 have hm:i%n<z.size:=by rw[hz];exact Nat.mod_lt _ hn
 rw[Array.getElem?_toList,Array.getElem?_toList]
 simp[madeCells,hi,hz,Array.getElem?_eq_getElem hm,getElem!_pos z (i%n) hm]
 rw[List.getElem?_eq_none (by rw[Array.length_toList,size_madeCells];omega),List.getElem?_eq_none]
 rw[flatMap_replicateG]
 simp[hz]
 omega
theorem xl_makeG {α:Type} {T:TT} {C:Cx} (hT:TOk C.P T) {all:List Oper} {o:Oper} {r:List Oper} {Q:Bb} {kn:Kn} {gk:List (Nat×(Gd×SV))} {ow:Own} {nx:Nat} {u:Im}
 (Y:Lay α) (z:α) (by' m:Nat) {t e d:Nat} {lv cv:Operand} {ti te:TI} {kl kc:IntKind} (ho:o.op=.makeSlice t lv cv) (hgd:o.guard=none) (hd:o.dst=some d)
 (hti:look T t=some ti) (hsh:ti.shp=.slice e) (hte:look T e=some te) (hsz:te.sz=Y.fs.length) (hpos:Nat.blt 0 te.sz=true) (hel:Y.el z=te.zero) (hby:(C.P.info? e).map (fun i=>i.bytes)=some by')
 (hl:opd ⟨kn,gk,ow,nx⟩ [] lv=some (.v (.int kl (m:Int)))) (hc:opd ⟨kn,gk,ow,nx⟩ [] cv=some (.v (.int kc (m:Int)))) (hf:Bg C.N ⟨kn,gk,ow,nx⟩ d []=true)
 (hb:by' * m≤281474976710656) (hm:m≤9223372036854775807)
 (K:XL C all r Q ⟨(d,.r nx)::kn,gk,(nx,.row e (Y.d (List.replicate m z)))::ow,nx+1⟩ u):XL C all (o::r) Q ⟨kn,gk,ow,nx⟩ u:=by
 unfold XL at K ⊢
 intro E a w hok
 obtain⟨f,hsat⟩:=hok.sat
 have hgs:gs a.tmps []:=fun x hx=>by cases hx
 have htik:=hT _ _ hti
 have htek:=hT _ _ hte
 obtain⟨i,i1,i2,i3,i4⟩:=info_bytes htek hby
 obtain⟨el,_⟩:=Al hok.agr hgs hl
 obtain⟨ec,_⟩:=Al hok.agr hgs hc
 simp only[SV.den]at el ec
 have hb':(i.bytes:Int) * (m:Int)≤281474976710656:=by
  rw[i4]
  have h:((by' * m:Nat):Int)≤281474976710656:=by omega
  rwa [Int.natCast_mul]at h
 have hr:=run_make (P:=C.P) w t e i te.zv (htik.isSlice hsh) i1 i3 kl kc (m:Int) (m:Int) (by omega) (Int.le_refl _) hb' (by omega)
 simp only[Int.toNat_natCast]at hr
 have hrun:(execOp a.eval o).run C.P w=.ok (.value (.slice (some ⟨w.heap.size,0,none⟩) m m)) (w.alloc (.cells (madeCells te.zv.cells (m*i.size)) e)):=by
  simp only[execOp,ho,el,ec,Sem.run_bind,hr,Result.andThen_ok]
  rfl
 refine xl_wp hgd (fun c hc=>by rw[ho]at hc;cases hc) hrun ?_
 rw[hd]
 have hgr:=World.grownBy_alloc w (.cells (madeCells te.zv.cells (m*i.size)) e) none
 have hbel:Below w.heap.size w (w.alloc (.cells (madeCells te.zv.cells (m*i.size)) e)):=⟨hgr.os,hgr.tape,hgr.output,hgr.size,fun b hb=>hgr.block b hb (by simp)⟩
 have hpos':0<te.sz:=Cp hpos
 have hzc:te.zv.cells=te.zero.toArray:=TI.zv_cells htek
 have hown:=World.ownsRow_lit (e:=e) (base:=0) (size:=te.sz) w (madeCells te.zv.cells (m*i.size)) m (Nat.zero_le _) (by simpa[maxLen]using hm) (by rw[size_madeCells,i2])
 have hown':(w.alloc (.cells (madeCells te.zv.cells (m*i.size)) e)).ownsRow 0 e (Y.d (List.replicate m z)).cs.length (.slice (some ⟨w.heap.size,0,none⟩) m m) (Y.d (List.replicate m z)).n (Y.d (List.replicate m z)).flat:=by
  have e1:(Y.d (List.replicate m z)).cs.length=te.sz:=by rw[Lay.cs_length,←hsz]
  have e2:(Y.d (List.replicate m z)).n=m:=by rw[Lay.d_n,List.length_replicate]
  have e3:(Y.d (List.replicate m z)).flat=(madeCells te.zv.cells (m*i.size)).toList:=by
   rw[Lay.flat,hzc,i2,madeCells_rep te.zero.toArray te.sz (by simpa using htek.len) hpos' m,flatMap_replicateG m,hel]
  rw[e1,e2,e3];exact hown
 have hv:=ownAt_of (lo:=w.heap.size) hown' (fun b hb=>by cases hb;exact Nat.le_refl _)
 have hE:∀j,j<nx→upd E nx (.slice (some ⟨w.heap.size,0,none⟩) m m) j=E j:=fun j hj=>An _ _ (by omega)
 have hg:=hok.agr.grow (E':=upd E nx (.slice (some ⟨w.heap.size,0,none⟩) m m)) (ow:=(nx,.row e (Y.d (List.replicate m z)))::ow) (nx:=nx+1) hE (Nat.le_succ _)
 have hput:=hg.put (g:=[]) (d:=d) (s:=.r nx) (x:=.slice (some ⟨w.heap.size,0,none⟩) m m) hf (fun _=>⟨Nat.lt_succ_self _,_,_,_,Ak _ _ _⟩) (fun _=>(by simp only[SV.den,Ak])) (fun hn=>absurd (fun x hx=>(by cases hx)) hn) (fun _=>(by simp only[SV.den,Ak]))
 have:=K _ (a.put (some d) (.slice (some ⟨w.heap.size,0,none⟩) m m)) _ ⟨⟨hput.size,hput.kn,hput.gk,hput.klt,hput.glt⟩,_,hsat.take hbel hv⟩
 exact Av (fun e a w=>Cd.mono hE (Nat.le_succ _) (Im.le.refl u)) _ _ _ this
def SV.frz (k:Nat) (x:Value):SV→SV
 |.r j=>match Nat.beq j k with
  |true=>.v x
  |false=>.r j
 |s=>s
theorem SV.frz_den {k:Nat} {x:Value} {E:Env} (h:E k=x) (s:SV):(s.frz k x).den E=s.den E:=by
 cases s with
 |r j=>
  cases hj:Nat.beq j k with
  |true=>
   have e:j=k:=Nat.eq_of_beq_eq_true hj
   subst e
   simp only[SV.frz,hj];exact h.symm
  |false=>simp only[SV.frz,hj]
 |_=>rfl
theorem SV.frz_lt {k n:Nat} {x:Value} {E:Env} {s:SV} (h:s.lt E n):(s.frz k x).lt E n:=by
 cases s with
 |r j=>
  cases hj:Nat.beq j k with
  |true=>simp only[SV.frz,hj];trivial
  |false=>simp only[SV.frz,hj];exact h
 |_=>exact h
theorem Sat.boxFrz {E:Env} {ow:Own} {nx:Nat} {u:Im} {df:List Deferred} {w:World} {f:Nat→Nat→Prop} (h:Sat E ow nx u df w f) {k kb t:Nat} {x:Value} {cs:List SV} (hx:E k=x) (hb:look ow kb=some (.box t cs)) :
 Sat E ((kb,.box t (cs.map (SV.frz k x)))::ow) nx u df w f:=by
 refine h.regroup (fun j=>j=kb) (fun _ _=>rfl) (Nat.le_refl _) (fun j hj=>⟨by rw[Ac,if_neg (Ne.symm hj)],fun _=>Iff.rfl⟩) ?_ (fun j j' b hj hj' hne=>by subst hj hj';exact absurd rfl hne)
 rintro j rfl
 refine⟨fun r hr=>?_,fun hr=>(by rw[Ac,if_pos rfl]at hr;cases hr),fun b hb'=>⟨j,rfl,hb'⟩⟩
 rw[Ac,if_pos rfl]at hr
 cases hr
 obtain⟨b,h1,h2,h3⟩:=h.holds j _ hb
 obtain⟨l1,l2⟩:=h.lt j _ hb
 refine⟨⟨b,h1,h2,?_⟩,l1,fun s hs=>?_⟩
 rw[List.map_map,show(SV.den E ∘ SV.frz k x)=SV.den E from funext fun s=>SV.frz_den hx s];exact h3
 obtain⟨s0,hs0,rfl⟩:=List.mem_map.1 hs
 exact SV.frz_lt (l2 s0 hs0)
theorem Sat.parkB {E:Env} {ow:Own} {nx:Nat} {u:Im} {df:List Deferred} {w:World} {f:Nat→Nat→Prop} (h:Sat E ow nx u df w f) {k s kb:Nat} {e:TypeId} {D:Data} {sl:List SI} {t:Nat} {cs:List SV} {A:Option Addr} {c:Nat}
 (hk:look ow k=some (.row e D)) (hs:look ow s=some (.gen (Bx sl))) (hb:look ow kb=some (.box t cs)) (hv:E k=.slice A D.n c) :
 Sat E ((k,.emp)::(s,.gen (Bx (sl++[⟨.slice A D.n c,e,D⟩])))::(kb,.box t (cs.map (SV.frz k (.slice A D.n c))))::ow) nx u df w (upd (upd f s (fun b=>f s b∨f k b)) k (fun _=>False)):=by
 have n1:kb≠k:=fun hh=>by rw[hh,hk]at hb;cases hb
 have n2:kb≠s:=fun hh=>by rw[hh,hs]at hb;cases hb
 have n3:s≠k:=fun hh=>by rw[←hh,hs]at hk;cases hk
 have h1:=h.boxFrz hv hb
 have h2:=(h1.starMore (s:=s) (by rw[Ac,if_neg n2];exact hs)).park (k:=k) (s:=s) (i:=sl.length) (q:=SI.hole) (e:=e) (D:=D) (by rw[Ac,if_neg n3,Ac,if_neg n1];exact hk) (by rw[Ac,if_pos rfl]) (by simp) rfl
 rw[hv,set_at]at h2
 refine h2.regroup (fun _=>False) (fun _ _=>rfl) (Nat.le_refl _) (fun j _=>⟨?_,fun _=>Iff.rfl⟩) (fun _ hh=>hh.elim) (fun _ _ _ hh=>hh.elim)
 simp only[Ac]
 by_cases a1:k=j
 rw[if_pos a1,if_pos a1]
 by_cases a2:s=j
 rw[if_neg a1,if_neg a1,if_pos a2,if_pos a2]
 rw[if_neg a1,if_neg a1,if_neg a2,if_neg a2,if_neg a2]
theorem xl_parkB {C:Cx} {all l:List Oper} {Q:Bb} {kn:Kn} {gk:List (Nat×(Gd×SV))} {ow:Own} {nx:Nat} {u:Im} (k s kb:Nat) {e:TypeId} {D:Data} {sl:List SI} {t:Nat} {cs:List SV}
 (hk:look ow k=some (.row e D)) (hs:look ow s=some (.gen (Bx sl))) (hb:look ow kb=some (.box t cs))
 (K:∀A c,XL C all l Q ⟨frz k (.slice A D.n c) kn,gk,(k,.emp)::(s,.gen (Bx (sl++[⟨.slice A D.n c,e,D⟩])))::(kb,.box t (cs.map (SV.frz k (.slice A D.n c))))::ow,nx⟩ u):XL C all l Q ⟨kn,gk,ow,nx⟩ u:=by
 unfold XL at K ⊢
 intro E a w hok
 obtain⟨f,hsat⟩:=hok.sat
 obtain⟨A,c,hv⟩:=ownsRow_sl (hsat.holds k _ hk).1
 exact K A c E a w ⟨hok.agr.frz hv,_,hsat.parkB hk hs hb hv⟩
theorem x_parkB {C:Cx} {cc:Code} {Q:Bb} {kn:Kn} {gk:List (Nat×(Gd×SV))} {ow:Own} {nx:Nat} {u:Im} (k s kb:Nat) {e:TypeId} {D:Data} {sl:List SI} {t:Nat} {cs:List SV}
 (hk:look ow k=some (.row e D)) (hs:look ow s=some (.gen (Bx sl))) (hb:look ow kb=some (.box t cs))
 (K:∀A c,X C cc Q ⟨frz k (.slice A D.n c) kn,gk,(k,.emp)::(s,.gen (Bx (sl++[⟨.slice A D.n c,e,D⟩])))::(kb,.box t (cs.map (SV.frz k (.slice A D.n c))))::ow,nx⟩ u):X C cc Q ⟨kn,gk,ow,nx⟩ u:=by
 unfold X at K ⊢
 intro E a w hok
 obtain⟨f,hsat⟩:=hok.sat
 obtain⟨A,c,hv⟩:=ownsRow_sl (hsat.holds k _ hk).1
 exact K A c E a w ⟨hok.agr.frz hv,_,hsat.parkB hk hs hb hv⟩
theorem xd_val {C:Cx} {all:List Oper} {o:Oper} {r:List Oper} {Q:St→Prop} {st:St} {u:Im} (v:Value) {d:Nat}
 (hgd:o.guard=none) (hd:o.dst=some d) (hnd:∀c,o.op≠.defer c) (hfr:Bg C.N st d []=true)
 (H:∀E a w,Ok C E st u a w→(execOp a.eval o).run C.P w=.ok (.value v) w)
 (K:XD C all r Q (st.put d [] (.v v)) u):XD C all (o::r) Q st u:=
 xd_sv (.v v) hgd hd hnd hfr (fun E a w hok=>⟨H E a w hok,trivial⟩) K
theorem run_idxV {P:Program} {t e:TypeId} {te:TI} (hu:P.underlying t=some (.slice e)) (hte:TIok P e te) (w:World) (ad:Addr) (n c:Nat) (k:IntKind) (i:Int) (h0:0≤i) (h1:i<n) :
 (Instr.indexAt t (.slice (some ad) n c) (.int k i)).run P w=.ok (.pointer (some (ad.add (i.toNat*te.sz)))) w:=by
 simp only[Instr.indexAt,asIntOf,Sem.run_bind,Sem.run_pure,Result.andThen_ok,run_underlying hu]
 simp only[h0,h1,and_self,if_true,Sem.run_bind,Ca w hte,Result.andThen_ok,Sem.run_pure]
theorem xl_idxV {T:TT} {C:Cx} (hT:TOk C.P T) {all:List Oper} {o:Oper} {r:List Oper} {Q:Bb} {st:St} {u:Im} {g:Gd}
 {t e d:Nat} {x i:Operand} {ti te:TI} {k:IntKind} {m:Int} {ad:Addr} {n c:Nat} (ho:o.op=.indexAddr t x i) (hg:Bp all st o=some g) (hd:o.dst=some d) (hfr:Bg C.N st d g=true)
 (hti:look T t=some ti) (hsh:ti.shp=.slice e) (hte:look T e=some te) (hx:opd st g x=some (.v (.slice (some ad) n c))) (hi:opd st g i=some (.v (.int k m)))
 (hb:allL (gprops st g)→0≤m∧m<n)
 (K:XL C all r Q (st.put d g (.v (.pointer (some (ad.add (m.toNat*te.sz)))))) u):XL C all (o::r) Q st u:=by
 refine xl_gval _ hg hd (fun c hc=>by rw[ho]at hc;cases hc) hfr (fun hp E a w hok hgs=>?_) K
 obtain⟨h0,h1⟩:=hb hp
 have e1:=(Al hok.agr hgs hx).1
 have e2:=(Al hok.agr hgs hi).1
 simp only[SV.den]at e1 e2
 simp only[execOp,ho]
 rw[e1,e2,Sem.run_bind,run_idxV ((hT _ _ hti).isSlice hsh) (hT _ _ hte) w ad n c k m h0 h1]
 rfl
theorem xd_idxV {T:TT} {C:Cx} (hT:TOk C.P T) {all:List Oper} {o:Oper} {r:List Oper} {Q:St→Prop} {st:St} {u:Im}
 {t e d:Nat} {x i:Operand} {ti te:TI} {k:IntKind} {m:Int} {ad:Addr} {n c:Nat} (ho:o.op=.indexAddr t x i) (hgd:o.guard=none) (hd:o.dst=some d) (hfr:Bg C.N st d []=true)
 (hti:look T t=some ti) (hsh:ti.shp=.slice e) (hte:look T e=some te) (hx:opd st [] x=some (.v (.slice (some ad) n c))) (hi:opd st [] i=some (.v (.int k m)))
 (h0:0≤m) (h1:m<n)
 (K:XD C all r Q (st.put d [] (.v (.pointer (some (ad.add (m.toNat*te.sz)))))) u):XD C all (o::r) Q st u:=by
 refine xd_val _ hgd hd (fun c hc=>by rw[ho]at hc;cases hc) hfr (fun E a w hok=>?_) K
 have hgs:gs a.tmps []:=fun x hx=>by cases hx
 have e1:=(Al hok.agr hgs hx).1
 have e2:=(Al hok.agr hgs hi).1
 simp only[SV.den]at e1 e2
 simp only[execOp,ho]
 rw[e1,e2,Sem.run_bind,run_idxV ((hT _ _ hti).isSlice hsh) (hT _ _ hte) w ad n c k m h0 h1]
 rfl
theorem run_loadV {C:Cx} {t:TypeId} {ti:TI} (hti:TIok C.P t ti) (ha:ti.agg=false) {u:Im} {w:World} (hi:Imm u w) {ad:Addr} {v:Value} (hc:u.cell? ad=some v) :
 (Instr.loadAt t (.pointer (some ad))).run C.P w=.ok v w:=by
 have hcell:=hi.cell hc
 simp only[Instr.loadAt,Instr.sureAddr,Sem.run_bind,Sem.run_pure,Result.andThen_ok]
 rw[run_loadVar hti (l:=[v]) (by simp[(hti.one ha).1]) (fun j x hj=>by
  cases j with
  |zero=>cases hj;rw[addr_same];exact hcell
  |succ j=>simp at hj)]
 rw[ha]
 rfl
theorem Cr {T:TT} {C:Cx} (hT:TOk C.P T) {all:List Oper} {o:Oper} {r:List Oper} {Q:Bb} {st:St} {u:Im} {g:Gd}
 {t d:Nat} {ad:Addr} {x:Operand} {ti:TI} (v:Value) (ho:o.op=.load t x) (hg:Bp all st o=some g) (hd:o.dst=some d) (hfr:Bg C.N st d g=true)
 (hti:look T t=some ti) (ha:ti.agg=false) (hx:opd st g x=some (.v (.pointer (some ad)))) (hc:allL (gprops st g)→u.cell? ad=some v)
 (K:XL C all r Q (st.put d g (.v v)) u):XL C all (o::r) Q st u:=by
 refine xl_gval _ hg hd (fun c hc=>by rw[ho]at hc;cases hc) hfr (fun hp E a w hok hgs=>?_) K
 have e1:=(Al hok.agr hgs hx).1
 obtain⟨f,hsat⟩:=hok.sat
 simp only[SV.den]at e1
 simp only[execOp,ho]
 rw[e1,Sem.run_bind,run_loadV (hT _ _ hti) ha hsat.imm (hc hp)]
 rfl
theorem xd_loadV {T:TT} {C:Cx} (hT:TOk C.P T) {all:List Oper} {o:Oper} {r:List Oper} {Q:St→Prop} {st:St} {u:Im}
 {t d:Nat} {ad:Addr} {x:Operand} {ti:TI} (v:Value) (ho:o.op=.load t x) (hgd:o.guard=none) (hd:o.dst=some d) (hfr:Bg C.N st d []=true)
 (hti:look T t=some ti) (ha:ti.agg=false) (hx:opd st [] x=some (.v (.pointer (some ad)))) (hc:u.cell? ad=some v)
 (K:XD C all r Q (st.put d [] (.v v)) u):XD C all (o::r) Q st u:=by
 refine xd_val _ hgd hd (fun c hc=>by rw[ho]at hc;cases hc) hfr (fun E a w hok=>?_) K
 have hgs:gs a.tmps []:=fun x hx=>by cases hx
 have e1:=(Al hok.agr hgs hx).1
 obtain⟨f,hsat⟩:=hok.sat
 simp only[SV.den]at e1
 simp only[execOp,ho]
 rw[e1,Sem.run_bind,run_loadV (hT _ _ hti) ha hsat.imm hc]
 rfl
theorem xl_binV {C:Cx} {all:List Oper} {o:Oper} {r:List Oper} {Q:Bb} {st:St} {u:Im} (v:Value) {g:Gd} {d t ut:Nat} {b:BinOp} {x y:Operand} {vx vy:Value}
 (ho:o.op=.binOp b t x y ut) (hg:Bp all st o=some g) (hd:o.dst=some d) (hfr:Bg C.N st d g=true) (hx:opd st g x=some (.v vx)) (hy:opd st g y=some (.v vy))
 (hrun1:∀w,(eqGuard b t x y vx vy).run C.P w=.ok () w) (hrun:allL (gprops st g)→∀w,Imm u w→(binOp b t vx vy).run C.P w=.ok v w)
 (K:XL C all r Q (st.put d g (.v v)) u):XL C all (o::r) Q st u:=by
 refine xl_gval v hg hd (fun c hc=>by rw[ho]at hc;cases hc) hfr (fun hp E a w hok hgs=>?_) K
 obtain⟨e1,_⟩:=Al hok.agr hgs hx
 obtain⟨e2,_⟩:=Al hok.agr hgs hy
 obtain⟨f,hsat⟩:=hok.sat
 simp only[SV.den]at e1 e2
 have h1:=hrun1 w
 have h2:=hrun hp w hsat.imm
 unfold execOp
 rw[ho]
 simp only[e1,e2]
 simp only[Sem.run_bind,h1,h2,Result.andThen_ok,Sem.run_pure]
theorem xd_binV {C:Cx} {all:List Oper} {o:Oper} {r:List Oper} {Q:St→Prop} {st:St} {u:Im} (v:Value) {d t ut:Nat} {b:BinOp} {x y:Operand} {vx vy:Value}
 (ho:o.op=.binOp b t x y ut) (hgd:o.guard=none) (hd:o.dst=some d) (hfr:Bg C.N st d []=true) (hx:opd st [] x=some (.v vx)) (hy:opd st [] y=some (.v vy))
 (hrun1:∀w,(eqGuard b t x y vx vy).run C.P w=.ok () w) (hrun:∀w,Imm u w→(binOp b t vx vy).run C.P w=.ok v w)
 (K:XD C all r Q (st.put d [] (.v v)) u):XD C all (o::r) Q st u:=by
 refine xd_val v hgd hd (fun c hc=>by rw[ho]at hc;cases hc) hfr (fun E a w hok=>?_) K
 have hgs:gs a.tmps []:=fun x hx=>by cases hx
 obtain⟨e1,_⟩:=Al hok.agr hgs hx
 obtain⟨e2,_⟩:=Al hok.agr hgs hy
 obtain⟨f,hsat⟩:=hok.sat
 simp only[SV.den]at e1 e2
 have h1:=hrun1 w
 have h2:=hrun w hsat.imm
 unfold execOp
 rw[ho]
 simp only[e1,e2]
 simp only[Sem.run_bind,h1,h2,Result.andThen_ok,Sem.run_pure]
def BlkAt (u:Im) (a:Option Addr):Prop:=∀x,a=some x→∃c t,u.h x.block=some (.cells c t (0,0))
theorem BlkAt.sub {u u':Im} {a:Option Addr} (h:BlkAt u a) (hu:u.sub u'):BlkAt u' a:=fun x hx=>by
 obtain⟨c,t,h1⟩:=h x hx
 exact⟨c,t,hu.h _ _ h1⟩
theorem blk_none (u:Im):BlkAt u none:=fun x hx=>by cases hx
theorem run_equalP {P:Program} {t te:TypeId} {ti:TI} (ht:P.underlying t=some (.pointer te)) (hte:TIok P te ti) (hz:ti.sz≠0) {u:Im} {w:World} (hi:Imm u w) {a b:Option Addr} (ha:BlkAt u a) (hb:BlkAt u b) (d:Nat) :
 (Op.equalIn (d+1) t (.pointer a) (.pointer b)).run P w=.ok (decide (a=b)) w:=by
 cases a with
 |none=>cases b<;>simp[Op.equalIn,run_underlying ht]
 |some x=>
  cases b with
  |none=>simp[Op.equalIn,run_underlying ht]
  |some y=>
   simp only[Op.equalIn,Sem.run_bind,run_underlying ht,Result.andThen_ok,Ca w hte,hz,ne_eq,not_false_eq_true,if_true]
   by_cases h:x=y
   subst h
   rw[run_sameAddr_same];simp
   obtain⟨c1,t1,h1⟩:=ha x rfl
   obtain⟨c2,t2,h2⟩:=hb y rfl
   rw[run_sameAddr_other _ h (hi.h _ _ h1) (hi.h _ _ h2)];simp[h]
theorem run_eqP {P:Program} {t te:TypeId} {ti:TI} (ht:P.underlying t=some (.pointer te)) (hte:TIok P te ti) (hz:ti.sz≠0) {u:Im} {w:World} (hi:Imm u w) {a b:Option Addr} (ha:BlkAt u a) (hb:BlkAt u b) :
 (binOp .eql t (.pointer a) (.pointer b)).run P w=.ok (.bool (decide (a=b))) w:=by
 simp only[binOp]
 simp[Op.equal,Op.maxDepth,run_equalP ht hte hz hi ha hb 9999]
theorem run_neP {P:Program} {t te:TypeId} {ti:TI} (ht:P.underlying t=some (.pointer te)) (hte:TIok P te ti) (hz:ti.sz≠0) {u:Im} {w:World} (hi:Imm u w) {a b:Option Addr} (ha:BlkAt u a) (hb:BlkAt u b) :
 (binOp .neq t (.pointer a) (.pointer b)).run P w=.ok (.bool (!decide (a=b))) w:=by
 simp only[binOp]
 simp[Op.equal,Op.maxDepth,run_equalP ht hte hz hi ha hb 9999]
theorem eqGuardP {P:Program} (b:BinOp) (t:TypeId) (x y:Operand) (p q:Option Addr) (w:World):(eqGuard b t x y (.pointer p) (.pointer q)).run P w=.ok () w:=by
 cases b<;>simp[eqGuard]
theorem xl_skip {C:Cx} {all:List Oper} {o:Oper} {r:List Oper} {Q:Bb} {st:St} {u:Im} (t:Nat) (s:Value) {want b:Bool} {d:Nat} (hg:Bp all st o=some [(t,want)]) (hd:o.dst=some d)
 (hfr:Bg C.N st d [(t,want)]=true) (h2:look st.gk t=none) (h3:look st.kn t=some (.v (.bool b))) (hb:b≠want)
 (K:XL C all r Q (st.put d [(t,want)] (.v s)) u):XL C all (o::r) Q st u:=
 xl_gsplit t s hg hd hfr h2 h3 (fun h=>absurd h hb) (fun _=>K)
def Nw (u0 u1:Im) (Φ:Im→Prop):Prop:=∀u',u0.sub u'→u1.sub u'→Φ u'
end Go.GV
namespace Go.Proofs.YtnjlkdhdinfejaaGreat
open Go.GV
def ti2:TI:=⟨1,[.int .i64 0],.int .i64,false⟩
theorem tiok2:TIok Tryz.prog 2 ti2:=⟨⟨_,Tryz.underlying2,rfl⟩,by kernel_rfl,rfl,fun _=>⟨rfl,rfl⟩,fun h=>(by cases h)⟩
def ti3:TI:=⟨1,[.int .i64 0],.int .i64,false⟩
theorem tiok3:TIok Tryz.prog 3 ti3:=⟨⟨_,Tryz.underlying3,rfl⟩,by kernel_rfl,rfl,fun _=>⟨rfl,rfl⟩,fun h=>(by cases h)⟩
def ti4:TI:=⟨1,[.bool false],.bool,false⟩
theorem tiok4:TIok Tryz.prog 4 ti4:=⟨⟨_,Tryz.underlying4,rfl⟩,by kernel_rfl,rfl,fun _=>⟨rfl,rfl⟩,fun h=>(by cases h)⟩
def ti5:TI:=⟨1,[.int .u8 0],.int .u8,false⟩
theorem tiok5:TIok Tryz.prog 5 ti5:=⟨⟨_,Tryz.underlying5,rfl⟩,by kernel_rfl,rfl,fun _=>⟨rfl,rfl⟩,fun h=>(by cases h)⟩
def ti6:TI:=⟨1,[.int .u8 0],.int .u8,false⟩
theorem tiok6:TIok Tryz.prog 6 ti6:=⟨⟨_,Tryz.underlying6,rfl⟩,by kernel_rfl,rfl,fun _=>⟨rfl,rfl⟩,fun h=>(by cases h)⟩
def ti9:TI:=⟨1,[.string ⟨#[]⟩],.str,false⟩
theorem tiok9:TIok Tryz.prog 9 ti9:=⟨⟨_,Tryz.underlying9,rfl⟩,by kernel_rfl,rfl,fun _=>⟨rfl,rfl⟩,fun h=>(by cases h)⟩
def ti10:TI:=⟨1,[.string ⟨#[]⟩],.str,false⟩
theorem tiok10:TIok Tryz.prog 10 ti10:=⟨⟨_,Tryz.underlying10,rfl⟩,by kernel_rfl,rfl,fun _=>⟨rfl,rfl⟩,fun h=>(by cases h)⟩
def ti11:TI:=⟨1,[.string ⟨#[]⟩],.str,false⟩
theorem tiok11:TIok Tryz.prog 11 ti11:=⟨⟨_,Tryz.underlying11,rfl⟩,by kernel_rfl,rfl,fun _=>⟨rfl,rfl⟩,fun h=>(by cases h)⟩
def ti30:TI:=⟨1,[.int .i64 0],.int .i64,false⟩
theorem tiok30:TIok Tryz.prog 30 ti30:=⟨⟨_,Tryz.underlying30,rfl⟩,by kernel_rfl,rfl,fun _=>⟨rfl,rfl⟩,fun h=>(by cases h)⟩
def ti268:TI:=⟨1,[.int .u8 0],.int .u8,false⟩
theorem tiok268:TIok Tryz.prog 268 ti268:=⟨⟨_,Tryz.underlying268,rfl⟩,by kernel_rfl,rfl,fun _=>⟨rfl,rfl⟩,fun h=>(by cases h)⟩
def ti269:TI:=⟨1,[.int .u8 0],.int .u8,false⟩
theorem tiok269:TIok Tryz.prog 269 ti269:=⟨⟨_,Tryz.underlying269,rfl⟩,by kernel_rfl,rfl,fun _=>⟨rfl,rfl⟩,fun h=>(by cases h)⟩
def ti7:TI:=⟨4,[.int .i64 0,.int .i64 0,.bool false,.int .u8 0],.strct [(0,2),(1,3),(2,4),(3,6)],false⟩
theorem tiok7:TIok Tryz.prog 7 ti7:=⟨⟨_,Tryz.underlying7,_,rfl,rfl⟩,by kernel_rfl,rfl,fun h=>(by cases h),fun h=>(by cases h)⟩
def ti8:TI:=⟨4,[.int .i64 0,.int .i64 0,.bool false,.int .u8 0],.strct [(0,2),(1,3),(2,4),(3,6)],false⟩
theorem tiok8:TIok Tryz.prog 8 ti8:=⟨⟨_,Tryz.underlying8,_,rfl,rfl⟩,by kernel_rfl,rfl,fun h=>(by cases h),fun h=>(by cases h)⟩
def ti13:TI:=⟨2,[.string ⟨#[]⟩,.int .u64 0],.strct [(0,9),(1,12)],false⟩
theorem tiok13:TIok Tryz.prog 13 ti13:=⟨⟨_,Tryz.underlying13,_,rfl,rfl⟩,by kernel_rfl,rfl,fun h=>(by cases h),fun h=>(by cases h)⟩
def ti14:TI:=⟨2,[.string ⟨#[]⟩,.int .u64 0],.strct [(0,9),(1,12)],false⟩
theorem tiok14:TIok Tryz.prog 14 ti14:=⟨⟨_,Tryz.underlying14,_,rfl,rfl⟩,by kernel_rfl,rfl,fun h=>(by cases h),fun h=>(by cases h)⟩
def ti18:TI:=⟨1,[.pointer none],.strct [(0,17)],false⟩
theorem tiok18:TIok Tryz.prog 18 ti18:=⟨⟨_,Tryz.underlying18,_,rfl,rfl⟩,by kernel_rfl,rfl,fun h=>(by cases h),fun h=>(by cases h)⟩
def ti19:TI:=⟨1,[.pointer none],.strct [(0,17)],false⟩
theorem tiok19:TIok Tryz.prog 19 ti19:=⟨⟨_,Tryz.underlying19,_,rfl,rfl⟩,by kernel_rfl,rfl,fun h=>(by cases h),fun h=>(by cases h)⟩
def ti22:TI:=⟨1,[.slice none 0 0],.slice 27,false⟩
theorem tiok22:TIok Tryz.prog 22 ti22:=⟨⟨_,Tryz.underlying22,rfl⟩,by kernel_rfl,rfl,fun _=>⟨rfl,rfl⟩,fun h=>(by cases h)⟩
def ti23:TI:=⟨1,[.slice none 0 0],.slice 37,false⟩
theorem tiok23:TIok Tryz.prog 23 ti23:=⟨⟨_,Tryz.underlying23,rfl⟩,by kernel_rfl,rfl,fun _=>⟨rfl,rfl⟩,fun h=>(by cases h)⟩
def ti25:TI:=⟨1,[.slice none 0 0],.slice 9,false⟩
theorem tiok25:TIok Tryz.prog 25 ti25:=⟨⟨_,Tryz.underlying25,rfl⟩,by kernel_rfl,rfl,fun _=>⟨rfl,rfl⟩,fun h=>(by cases h)⟩
def ti26:TI:=⟨5,[.string ⟨#[]⟩,.bool false,.slice none 0 0,.bool false,.slice none 0 0],.strct [(0,9),(1,4),(2,25),(3,4),(4,23)],false⟩
theorem tiok26:TIok Tryz.prog 26 ti26:=⟨⟨_,Tryz.underlying26,_,rfl,rfl⟩,by kernel_rfl,rfl,fun h=>(by cases h),fun h=>(by cases h)⟩
def ti27:TI:=⟨5,[.string ⟨#[]⟩,.bool false,.slice none 0 0,.bool false,.slice none 0 0],.strct [(0,9),(1,4),(2,25),(3,4),(4,23)],false⟩
theorem tiok27:TIok Tryz.prog 27 ti27:=⟨⟨_,Tryz.underlying27,_,rfl,rfl⟩,by kernel_rfl,rfl,fun h=>(by cases h),fun h=>(by cases h)⟩
def ti36:TI:=⟨4,[.int .i64 0,.string ⟨#[]⟩,.bool false,.slice none 0 0],.strct [(0,3),(1,9),(2,4),(3,25)],false⟩
theorem tiok36:TIok Tryz.prog 36 ti36:=⟨⟨_,Tryz.underlying36,_,rfl,rfl⟩,by kernel_rfl,rfl,fun h=>(by cases h),fun h=>(by cases h)⟩
def ti37:TI:=⟨4,[.int .i64 0,.string ⟨#[]⟩,.bool false,.slice none 0 0],.strct [(0,3),(1,9),(2,4),(3,25)],false⟩
theorem tiok37:TIok Tryz.prog 37 ti37:=⟨⟨_,Tryz.underlying37,_,rfl,rfl⟩,by kernel_rfl,rfl,fun h=>(by cases h),fun h=>(by cases h)⟩
def ti56:TI:=⟨1,[.slice none 0 0],.slice 58,false⟩
theorem tiok56:TIok Tryz.prog 56 ti56:=⟨⟨_,Tryz.underlying56,rfl⟩,by kernel_rfl,rfl,fun _=>⟨rfl,rfl⟩,fun h=>(by cases h)⟩
def ti57:TI:=⟨5,[.int .i64 0,.string ⟨#[]⟩,.bool false,.slice none 0 0,.slice none 0 0],.strct [(0,37),(4,25)],false⟩
theorem tiok57:TIok Tryz.prog 57 ti57:=⟨⟨_,Tryz.underlying57,_,rfl,rfl⟩,by kernel_rfl,rfl,fun h=>(by cases h),fun h=>(by cases h)⟩
def ti58:TI:=⟨5,[.int .i64 0,.string ⟨#[]⟩,.bool false,.slice none 0 0,.slice none 0 0],.strct [(0,37),(4,25)],false⟩
theorem tiok58:TIok Tryz.prog 58 ti58:=⟨⟨_,Tryz.underlying58,_,rfl,rfl⟩,by kernel_rfl,rfl,fun h=>(by cases h),fun h=>(by cases h)⟩
def ti59:TI:=⟨2,[.slice none 0 0,.int .i64 0],.strct [(0,22),(1,3)],false⟩
theorem tiok59:TIok Tryz.prog 59 ti59:=⟨⟨_,Tryz.underlying59,_,rfl,rfl⟩,by kernel_rfl,rfl,fun h=>(by cases h),fun h=>(by cases h)⟩
def ti60:TI:=⟨2,[.slice none 0 0,.int .i64 0],.strct [(0,22),(1,3)],false⟩
theorem tiok60:TIok Tryz.prog 60 ti60:=⟨⟨_,Tryz.underlying60,_,rfl,rfl⟩,by kernel_rfl,rfl,fun h=>(by cases h),fun h=>(by cases h)⟩
def ti65:TI:=⟨1,[.slice none 0 0],.slice 121,false⟩
theorem tiok65:TIok Tryz.prog 65 ti65:=⟨⟨_,Tryz.underlying65,rfl⟩,by kernel_rfl,rfl,fun _=>⟨rfl,rfl⟩,fun h=>(by cases h)⟩
def ti68:TI:=⟨1,[.slice none 0 0],.slice 74,false⟩
theorem tiok68:TIok Tryz.prog 68 ti68:=⟨⟨_,Tryz.underlying68,rfl⟩,by kernel_rfl,rfl,fun _=>⟨rfl,rfl⟩,fun h=>(by cases h)⟩
def ti73:TI:=⟨3,[.bool false,.string ⟨#[]⟩,.slice none 0 0],.strct [(0,4),(1,9),(2,65)],false⟩
theorem tiok73:TIok Tryz.prog 73 ti73:=⟨⟨_,Tryz.underlying73,_,rfl,rfl⟩,by kernel_rfl,rfl,fun h=>(by cases h),fun h=>(by cases h)⟩
def ti74:TI:=⟨3,[.bool false,.string ⟨#[]⟩,.slice none 0 0],.strct [(0,4),(1,9),(2,65)],false⟩
theorem tiok74:TIok Tryz.prog 74 ti74:=⟨⟨_,Tryz.underlying74,_,rfl,rfl⟩,by kernel_rfl,rfl,fun h=>(by cases h),fun h=>(by cases h)⟩
def ti80:TI:=⟨1,[.slice none 0 0],.slice 87,false⟩
theorem tiok80:TIok Tryz.prog 80 ti80:=⟨⟨_,Tryz.underlying80,rfl⟩,by kernel_rfl,rfl,fun _=>⟨rfl,rfl⟩,fun h=>(by cases h)⟩
def ti81:TI:=⟨2,[.pointer none,.int .i64 0],.strct [(0,79),(1,3)],false⟩
theorem tiok81:TIok Tryz.prog 81 ti81:=⟨⟨_,Tryz.underlying81,_,rfl,rfl⟩,by kernel_rfl,rfl,fun h=>(by cases h),fun h=>(by cases h)⟩
def ti82:TI:=⟨2,[.pointer none,.int .i64 0],.strct [(0,79),(1,3)],false⟩
theorem tiok82:TIok Tryz.prog 82 ti82:=⟨⟨_,Tryz.underlying82,_,rfl,rfl⟩,by kernel_rfl,rfl,fun h=>(by cases h),fun h=>(by cases h)⟩
def ti83:TI:=⟨3,[.slice none 0 0,.pointer none,.int .i64 0],.strct [(0,80),(1,82)],false⟩
theorem tiok83:TIok Tryz.prog 83 ti83:=⟨⟨_,Tryz.underlying83,_,rfl,rfl⟩,by kernel_rfl,rfl,fun h=>(by cases h),fun h=>(by cases h)⟩
def ti84:TI:=⟨3,[.slice none 0 0,.pointer none,.int .i64 0],.strct [(0,80),(1,82)],false⟩
theorem tiok84:TIok Tryz.prog 84 ti84:=⟨⟨_,Tryz.underlying84,_,rfl,rfl⟩,by kernel_rfl,rfl,fun h=>(by cases h),fun h=>(by cases h)⟩
def ti86:TI:=⟨5,[.int .i64 0,.string ⟨#[]⟩,.bool false,.slice none 0 0,.pointer none],.strct [(0,37),(4,85)],false⟩
theorem tiok86:TIok Tryz.prog 86 ti86:=⟨⟨_,Tryz.underlying86,_,rfl,rfl⟩,by kernel_rfl,rfl,fun h=>(by cases h),fun h=>(by cases h)⟩
def ti87:TI:=⟨5,[.int .i64 0,.string ⟨#[]⟩,.bool false,.slice none 0 0,.pointer none],.strct [(0,37),(4,85)],false⟩
theorem tiok87:TIok Tryz.prog 87 ti87:=⟨⟨_,Tryz.underlying87,_,rfl,rfl⟩,by kernel_rfl,rfl,fun h=>(by cases h),fun h=>(by cases h)⟩
def ti89:TI:=⟨3,[.map none,.map none,.int .i64 0],.strct [(0,50),(1,88),(2,3)],false⟩
theorem tiok89:TIok Tryz.prog 89 ti89:=⟨⟨_,Tryz.underlying89,_,rfl,rfl⟩,by kernel_rfl,rfl,fun h=>(by cases h),fun h=>(by cases h)⟩
def ti90:TI:=⟨3,[.map none,.map none,.int .i64 0],.strct [(0,50),(1,88),(2,3)],false⟩
theorem tiok90:TIok Tryz.prog 90 ti90:=⟨⟨_,Tryz.underlying90,_,rfl,rfl⟩,by kernel_rfl,rfl,fun h=>(by cases h),fun h=>(by cases h)⟩
def ti94:TI:=⟨4,[.pointer none,.int .i64 0,.pointer none,.int .i64 0],.strct [(0,82),(2,82)],false⟩
theorem tiok94:TIok Tryz.prog 94 ti94:=⟨⟨_,Tryz.underlying94,_,rfl,rfl⟩,by kernel_rfl,rfl,fun h=>(by cases h),fun h=>(by cases h)⟩
def ti95:TI:=⟨4,[.pointer none,.int .i64 0,.pointer none,.int .i64 0],.strct [(0,82),(2,82)],false⟩
theorem tiok95:TIok Tryz.prog 95 ti95:=⟨⟨_,Tryz.underlying95,_,rfl,rfl⟩,by kernel_rfl,rfl,fun h=>(by cases h),fun h=>(by cases h)⟩
def ti102:TI:=⟨1,[.slice none 0 0],.slice 56,false⟩
theorem tiok102:TIok Tryz.prog 102 ti102:=⟨⟨_,Tryz.underlying102,rfl⟩,by kernel_rfl,rfl,fun _=>⟨rfl,rfl⟩,fun h=>(by cases h)⟩
def ti109:TI:=⟨1,[.slice none 0 0],.slice 114,false⟩
theorem tiok109:TIok Tryz.prog 109 ti109:=⟨⟨_,Tryz.underlying109,rfl⟩,by kernel_rfl,rfl,fun _=>⟨rfl,rfl⟩,fun h=>(by cases h)⟩
def ti112:TI:=⟨1,[.slice none 0 0],.slice 5,false⟩
theorem tiok112:TIok Tryz.prog 112 ti112:=⟨⟨_,Tryz.underlying112,rfl⟩,by kernel_rfl,rfl,fun _=>⟨rfl,rfl⟩,fun h=>(by cases h)⟩
def ti113:TI:=⟨3,[.int .u8 0,.int .i64 0,.int .i64 0],.strct [(0,5),(1,3),(2,3)],true⟩
theorem tiok113:TIok Tryz.prog 113 ti113:=⟨⟨_,Tryz.underlying113,_,rfl,rfl⟩,by kernel_rfl,rfl,fun h=>(by cases h),fun _=>⟨by kernel_rfl,by kernel_rfl,by kernel_rfl⟩⟩
def ti114:TI:=⟨3,[.int .u8 0,.int .i64 0,.int .i64 0],.strct [(0,5),(1,3),(2,3)],true⟩
theorem tiok114:TIok Tryz.prog 114 ti114:=⟨⟨_,Tryz.underlying114,_,rfl,rfl⟩,by kernel_rfl,rfl,fun h=>(by cases h),fun _=>⟨by kernel_rfl,by kernel_rfl,by kernel_rfl⟩⟩
def ti118:TI:=⟨3,[.int .i64 0,.int .i64 0,.int .i64 0],.strct [(0,3),(1,3),(2,3)],true⟩
theorem tiok118:TIok Tryz.prog 118 ti118:=⟨⟨_,Tryz.underlying118,_,rfl,rfl⟩,by kernel_rfl,rfl,fun h=>(by cases h),fun _=>⟨by kernel_rfl,by kernel_rfl,by kernel_rfl⟩⟩
def ti119:TI:=⟨3,[.int .i64 0,.int .i64 0,.int .i64 0],.strct [(0,3),(1,3),(2,3)],true⟩
theorem tiok119:TIok Tryz.prog 119 ti119:=⟨⟨_,Tryz.underlying119,_,rfl,rfl⟩,by kernel_rfl,rfl,fun h=>(by cases h),fun _=>⟨by kernel_rfl,by kernel_rfl,by kernel_rfl⟩⟩
def ti120:TI:=⟨5,[.int .i64 0,.string ⟨#[]⟩,.int .i64 0,.int .i64 0,.bool false],.strct [(0,3),(1,9),(2,3),(3,3),(4,4)],true⟩
theorem tiok120:TIok Tryz.prog 120 ti120:=⟨⟨_,Tryz.underlying120,_,rfl,rfl⟩,by kernel_rfl,rfl,fun h=>(by cases h),fun _=>⟨by kernel_rfl,by kernel_rfl,by kernel_rfl⟩⟩
def ti121:TI:=⟨5,[.int .i64 0,.string ⟨#[]⟩,.int .i64 0,.int .i64 0,.bool false],.strct [(0,3),(1,9),(2,3),(3,3),(4,4)],true⟩
theorem tiok121:TIok Tryz.prog 121 ti121:=⟨⟨_,Tryz.underlying121,_,rfl,rfl⟩,by kernel_rfl,rfl,fun h=>(by cases h),fun _=>⟨by kernel_rfl,by kernel_rfl,by kernel_rfl⟩⟩
def ti135:TI:=⟨2,[.pointer none,.slice none 0 0],.strct [(0,134),(1,112)],false⟩
theorem tiok135:TIok Tryz.prog 135 ti135:=⟨⟨_,Tryz.underlying135,_,rfl,rfl⟩,by kernel_rfl,rfl,fun h=>(by cases h),fun h=>(by cases h)⟩
def ti136:TI:=⟨2,[.pointer none,.slice none 0 0],.strct [(0,134),(1,112)],false⟩
theorem tiok136:TIok Tryz.prog 136 ti136:=⟨⟨_,Tryz.underlying136,_,rfl,rfl⟩,by kernel_rfl,rfl,fun h=>(by cases h),fun h=>(by cases h)⟩
def ti153:TI:=⟨1,[.slice none 0 0],.slice 210,false⟩
theorem tiok153:TIok Tryz.prog 153 ti153:=⟨⟨_,Tryz.underlying153,rfl⟩,by kernel_rfl,rfl,fun _=>⟨rfl,rfl⟩,fun h=>(by cases h)⟩
def ti154:TI:=⟨1,[.slice none 0 0],.slice 4,false⟩
theorem tiok154:TIok Tryz.prog 154 ti154:=⟨⟨_,Tryz.underlying154,rfl⟩,by kernel_rfl,rfl,fun _=>⟨rfl,rfl⟩,fun h=>(by cases h)⟩
def ti155:TI:=⟨8,[.string ⟨#[]⟩,.bool false,.slice none 0 0,.bool false,.slice none 0 0,.int .i64 0,.slice none 0 0,.slice none 0 0],.strct [(0,27),(5,3),(6,153),(7,154)],false⟩
theorem tiok155:TIok Tryz.prog 155 ti155:=⟨⟨_,Tryz.underlying155,_,rfl,rfl⟩,by kernel_rfl,rfl,fun h=>(by cases h),fun h=>(by cases h)⟩
def ti156:TI:=⟨8,[.string ⟨#[]⟩,.bool false,.slice none 0 0,.bool false,.slice none 0 0,.int .i64 0,.slice none 0 0,.slice none 0 0],.strct [(0,27),(5,3),(6,153),(7,154)],false⟩
theorem tiok156:TIok Tryz.prog 156 ti156:=⟨⟨_,Tryz.underlying156,_,rfl,rfl⟩,by kernel_rfl,rfl,fun h=>(by cases h),fun h=>(by cases h)⟩
def ti157:TI:=⟨1,[.slice none 0 0],.slice 95,false⟩
theorem tiok157:TIok Tryz.prog 157 ti157:=⟨⟨_,Tryz.underlying157,rfl⟩,by kernel_rfl,rfl,fun _=>⟨rfl,rfl⟩,fun h=>(by cases h)⟩
def ti158:TI:=⟨4,[.slice none 0 0,.pointer none,.pointer none,.int .i64 0],.strct [(0,157),(1,85),(2,82)],false⟩
theorem tiok158:TIok Tryz.prog 158 ti158:=⟨⟨_,Tryz.underlying158,_,rfl,rfl⟩,by kernel_rfl,rfl,fun h=>(by cases h),fun h=>(by cases h)⟩
def ti159:TI:=⟨4,[.slice none 0 0,.pointer none,.pointer none,.int .i64 0],.strct [(0,157),(1,85),(2,82)],false⟩
theorem tiok159:TIok Tryz.prog 159 ti159:=⟨⟨_,Tryz.underlying159,_,rfl,rfl⟩,by kernel_rfl,rfl,fun h=>(by cases h),fun h=>(by cases h)⟩
def ti181:TI:=⟨4,[.int .u8 0,.int .i64 0,.int .i64 0,.bool false],.strct [(0,114),(3,4)],true⟩
theorem tiok181:TIok Tryz.prog 181 ti181:=⟨⟨_,Tryz.underlying181,_,rfl,rfl⟩,by kernel_rfl,rfl,fun h=>(by cases h),fun _=>⟨by kernel_rfl,by kernel_rfl,by kernel_rfl⟩⟩
def ti182:TI:=⟨4,[.int .u8 0,.int .i64 0,.int .i64 0,.bool false],.strct [(0,114),(3,4)],true⟩
theorem tiok182:TIok Tryz.prog 182 ti182:=⟨⟨_,Tryz.underlying182,_,rfl,rfl⟩,by kernel_rfl,rfl,fun h=>(by cases h),fun _=>⟨by kernel_rfl,by kernel_rfl,by kernel_rfl⟩⟩
def ti199:TI:=⟨1,[.slice none 0 0],.slice 201,false⟩
theorem tiok199:TIok Tryz.prog 199 ti199:=⟨⟨_,Tryz.underlying199,rfl⟩,by kernel_rfl,rfl,fun _=>⟨rfl,rfl⟩,fun h=>(by cases h)⟩
def ti202:TI:=⟨1,[.slice none 0 0],.strct [(0,199)],false⟩
theorem tiok202:TIok Tryz.prog 202 ti202:=⟨⟨_,Tryz.underlying202,_,rfl,rfl⟩,by kernel_rfl,rfl,fun h=>(by cases h),fun h=>(by cases h)⟩
def ti203:TI:=⟨1,[.slice none 0 0],.strct [(0,199)],false⟩
theorem tiok203:TIok Tryz.prog 203 ti203:=⟨⟨_,Tryz.underlying203,_,rfl,rfl⟩,by kernel_rfl,rfl,fun h=>(by cases h),fun h=>(by cases h)⟩
def ti204:TI:=⟨1,[.slice none 0 0],.slice 206,false⟩
theorem tiok204:TIok Tryz.prog 204 ti204:=⟨⟨_,Tryz.underlying204,rfl⟩,by kernel_rfl,rfl,fun _=>⟨rfl,rfl⟩,fun h=>(by cases h)⟩
def ti205:TI:=⟨9,[.pointer none,.int .i64 0,.pointer none,.int .i64 0,.slice none 0 0,.slice none 0 0,.slice none 0 0,.bool false,.bool false],.strct [(0,95),(4,80),(5,80),(6,25),(7,4),(8,4)],false⟩
theorem tiok205:TIok Tryz.prog 205 ti205:=⟨⟨_,Tryz.underlying205,_,rfl,rfl⟩,by kernel_rfl,rfl,fun h=>(by cases h),fun h=>(by cases h)⟩
def ti206:TI:=⟨9,[.pointer none,.int .i64 0,.pointer none,.int .i64 0,.slice none 0 0,.slice none 0 0,.slice none 0 0,.bool false,.bool false],.strct [(0,95),(4,80),(5,80),(6,25),(7,4),(8,4)],false⟩
theorem tiok206:TIok Tryz.prog 206 ti206:=⟨⟨_,Tryz.underlying206,_,rfl,rfl⟩,by kernel_rfl,rfl,fun h=>(by cases h),fun h=>(by cases h)⟩
def ti207:TI:=⟨4,[.slice none 0 0,.int .i64 0,.int .i64 0,.bool false],.strct [(0,80),(1,3),(2,3),(3,4)],false⟩
theorem tiok207:TIok Tryz.prog 207 ti207:=⟨⟨_,Tryz.underlying207,_,rfl,rfl⟩,by kernel_rfl,rfl,fun h=>(by cases h),fun h=>(by cases h)⟩
def ti208:TI:=⟨4,[.slice none 0 0,.int .i64 0,.int .i64 0,.bool false],.strct [(0,80),(1,3),(2,3),(3,4)],false⟩
theorem tiok208:TIok Tryz.prog 208 ti208:=⟨⟨_,Tryz.underlying208,_,rfl,rfl⟩,by kernel_rfl,rfl,fun h=>(by cases h),fun h=>(by cases h)⟩
def ti209:TI:=⟨8,[.int .i64 0,.string ⟨#[]⟩,.bool false,.slice none 0 0,.int .i64 0,.bool false,.bool false,.bool false],.strct [(0,37),(4,3),(5,4),(6,4),(7,4)],false⟩
theorem tiok209:TIok Tryz.prog 209 ti209:=⟨⟨_,Tryz.underlying209,_,rfl,rfl⟩,by kernel_rfl,rfl,fun h=>(by cases h),fun h=>(by cases h)⟩
def ti210:TI:=⟨8,[.int .i64 0,.string ⟨#[]⟩,.bool false,.slice none 0 0,.int .i64 0,.bool false,.bool false,.bool false],.strct [(0,37),(4,3),(5,4),(6,4),(7,4)],false⟩
theorem tiok210:TIok Tryz.prog 210 ti210:=⟨⟨_,Tryz.underlying210,_,rfl,rfl⟩,by kernel_rfl,rfl,fun h=>(by cases h),fun h=>(by cases h)⟩
def ti238:TI:=⟨1,[.slice none 0 0],.slice 80,false⟩
theorem tiok238:TIok Tryz.prog 238 ti238:=⟨⟨_,Tryz.underlying238,rfl⟩,by kernel_rfl,rfl,fun _=>⟨rfl,rfl⟩,fun h=>(by cases h)⟩
def ti244:TI:=⟨1,[.slice none 0 0],.slice 255,false⟩
theorem tiok244:TIok Tryz.prog 244 ti244:=⟨⟨_,Tryz.underlying244,rfl⟩,by kernel_rfl,rfl,fun _=>⟨rfl,rfl⟩,fun h=>(by cases h)⟩
def ti254:TI:=⟨2,[.int .i64 0,.int .i64 0],.strct [(0,3),(1,3)],true⟩
theorem tiok254:TIok Tryz.prog 254 ti254:=⟨⟨_,Tryz.underlying254,_,rfl,rfl⟩,by kernel_rfl,rfl,fun h=>(by cases h),fun _=>⟨by kernel_rfl,by kernel_rfl,by kernel_rfl⟩⟩
def ti255:TI:=⟨2,[.int .i64 0,.int .i64 0],.strct [(0,3),(1,3)],true⟩
theorem tiok255:TIok Tryz.prog 255 ti255:=⟨⟨_,Tryz.underlying255,_,rfl,rfl⟩,by kernel_rfl,rfl,fun h=>(by cases h),fun _=>⟨by kernel_rfl,by kernel_rfl,by kernel_rfl⟩⟩
def ti263:TI:=⟨4,[.pointer none,.pointer none,.pointer none,.string ⟨#[]⟩],.strct [(0,17),(1,17),(2,17),(3,9)],false⟩
theorem tiok263:TIok Tryz.prog 263 ti263:=⟨⟨_,Tryz.underlying263,_,rfl,rfl⟩,by kernel_rfl,rfl,fun h=>(by cases h),fun h=>(by cases h)⟩
def ti264:TI:=⟨4,[.pointer none,.pointer none,.pointer none,.string ⟨#[]⟩],.strct [(0,17),(1,17),(2,17),(3,9)],false⟩
theorem tiok264:TIok Tryz.prog 264 ti264:=⟨⟨_,Tryz.underlying264,_,rfl,rfl⟩,by kernel_rfl,rfl,fun h=>(by cases h),fun h=>(by cases h)⟩
def ti273:TI:=⟨11,[.int .u64 0,.int .u64 0,.int .u32 0,.int .u8 0,.int .u8 0,.int .u8 0,.int .u8 0,.nilFunc,.pointer none,.int .i32 0,.int .i32 0],.strct [(0,12),(1,12),(2,259),(3,268),(4,5),(5,5),(6,269),(7,270),(8,192),(9,271),(10,272)],false⟩
theorem tiok273:TIok Tryz.prog 273 ti273:=⟨⟨_,Tryz.underlying273,_,rfl,rfl⟩,by kernel_rfl,rfl,fun h=>(by cases h),fun h=>(by cases h)⟩
def ti274:TI:=⟨11,[.int .u64 0,.int .u64 0,.int .u32 0,.int .u8 0,.int .u8 0,.int .u8 0,.int .u8 0,.nilFunc,.pointer none,.int .i32 0,.int .i32 0],.strct [(0,12),(1,12),(2,259),(3,268),(4,5),(5,5),(6,269),(7,270),(8,192),(9,271),(10,272)],false⟩
theorem tiok274:TIok Tryz.prog 274 ti274:=⟨⟨_,Tryz.underlying274,_,rfl,rfl⟩,by kernel_rfl,rfl,fun h=>(by cases h),fun h=>(by cases h)⟩
def ti1:TI:=⟨1,[.nilFunc],.other,false⟩
theorem tiok1:TIok Tryz.prog 1 ti1:=⟨⟨_,Tryz.underlying1,fun _ h=>(by cases h),fun _ _ h=>(by cases h)⟩,by kernel_rfl,rfl,fun _=>⟨rfl,rfl⟩,fun h=>(by cases h)⟩
def ti12:TI:=⟨1,[.int .u64 0],.int .u64,false⟩
theorem tiok12:TIok Tryz.prog 12 ti12:=⟨⟨_,Tryz.underlying12,rfl⟩,by kernel_rfl,rfl,fun _=>⟨rfl,rfl⟩,fun h=>(by cases h)⟩
def ti15:TI:=⟨1,[.pointer none],.other,false⟩
theorem tiok15:TIok Tryz.prog 15 ti15:=⟨⟨_,Tryz.underlying15,fun _ h=>(by cases h),fun _ _ h=>(by cases h)⟩,by kernel_rfl,rfl,fun _=>⟨rfl,rfl⟩,fun h=>(by cases h)⟩
def ti16:TI:=⟨1,[.pointer none],.other,false⟩
theorem tiok16:TIok Tryz.prog 16 ti16:=⟨⟨_,Tryz.underlying16,fun _ h=>(by cases h),fun _ _ h=>(by cases h)⟩,by kernel_rfl,rfl,fun _=>⟨rfl,rfl⟩,fun h=>(by cases h)⟩
def ti17:TI:=⟨1,[.pointer none],.other,false⟩
theorem tiok17:TIok Tryz.prog 17 ti17:=⟨⟨_,Tryz.underlying17,fun _ h=>(by cases h),fun _ _ h=>(by cases h)⟩,by kernel_rfl,rfl,fun _=>⟨rfl,rfl⟩,fun h=>(by cases h)⟩
def ti20:TI:=⟨1,[.nilIface],.other,false⟩
theorem tiok20:TIok Tryz.prog 20 ti20:=⟨⟨_,Tryz.underlying20,fun _ h=>(by cases h),fun _ _ h=>(by cases h)⟩,by kernel_rfl,rfl,fun _=>⟨rfl,rfl⟩,fun h=>(by cases h)⟩
def ti21:TI:=⟨1,[.int .i32 0],.int .i32,false⟩
theorem tiok21:TIok Tryz.prog 21 ti21:=⟨⟨_,Tryz.underlying21,rfl⟩,by kernel_rfl,rfl,fun _=>⟨rfl,rfl⟩,fun h=>(by cases h)⟩
def ti24:TI:=⟨1,[.nilFunc],.other,false⟩
theorem tiok24:TIok Tryz.prog 24 ti24:=⟨⟨_,Tryz.underlying24,fun _ h=>(by cases h),fun _ _ h=>(by cases h)⟩,by kernel_rfl,rfl,fun _=>⟨rfl,rfl⟩,fun h=>(by cases h)⟩
def ti28:TI:=⟨1,[.nilFunc],.other,false⟩
theorem tiok28:TIok Tryz.prog 28 ti28:=⟨⟨_,Tryz.underlying28,fun _ h=>(by cases h),fun _ _ h=>(by cases h)⟩,by kernel_rfl,rfl,fun _=>⟨rfl,rfl⟩,fun h=>(by cases h)⟩
def ti29:TI:=⟨1,[.nilFunc],.other,false⟩
theorem tiok29:TIok Tryz.prog 29 ti29:=⟨⟨_,Tryz.underlying29,fun _ h=>(by cases h),fun _ _ h=>(by cases h)⟩,by kernel_rfl,rfl,fun _=>⟨rfl,rfl⟩,fun h=>(by cases h)⟩
def ti32:TI:=⟨1,[.nilFunc],.other,false⟩
theorem tiok32:TIok Tryz.prog 32 ti32:=⟨⟨_,Tryz.underlying32,fun _ h=>(by cases h),fun _ _ h=>(by cases h)⟩,by kernel_rfl,rfl,fun _=>⟨rfl,rfl⟩,fun h=>(by cases h)⟩
def ti34:TI:=⟨1,[.nilFunc],.other,false⟩
theorem tiok34:TIok Tryz.prog 34 ti34:=⟨⟨_,Tryz.underlying34,fun _ h=>(by cases h),fun _ _ h=>(by cases h)⟩,by kernel_rfl,rfl,fun _=>⟨rfl,rfl⟩,fun h=>(by cases h)⟩
def ti35:TI:=⟨1,[.nilFunc],.other,false⟩
theorem tiok35:TIok Tryz.prog 35 ti35:=⟨⟨_,Tryz.underlying35,fun _ h=>(by cases h),fun _ _ h=>(by cases h)⟩,by kernel_rfl,rfl,fun _=>⟨rfl,rfl⟩,fun h=>(by cases h)⟩
def ti38:TI:=⟨1,[.nilFunc],.other,false⟩
theorem tiok38:TIok Tryz.prog 38 ti38:=⟨⟨_,Tryz.underlying38,fun _ h=>(by cases h),fun _ _ h=>(by cases h)⟩,by kernel_rfl,rfl,fun _=>⟨rfl,rfl⟩,fun h=>(by cases h)⟩
def ti39:TI:=⟨1,[.nilFunc],.other,false⟩
theorem tiok39:TIok Tryz.prog 39 ti39:=⟨⟨_,Tryz.underlying39,fun _ h=>(by cases h),fun _ _ h=>(by cases h)⟩,by kernel_rfl,rfl,fun _=>⟨rfl,rfl⟩,fun h=>(by cases h)⟩
def ti40:TI:=⟨1,[.nilFunc],.other,false⟩
theorem tiok40:TIok Tryz.prog 40 ti40:=⟨⟨_,Tryz.underlying40,fun _ h=>(by cases h),fun _ _ h=>(by cases h)⟩,by kernel_rfl,rfl,fun _=>⟨rfl,rfl⟩,fun h=>(by cases h)⟩
def ti41:TI:=⟨1,[.nilFunc],.other,false⟩
theorem tiok41:TIok Tryz.prog 41 ti41:=⟨⟨_,Tryz.underlying41,fun _ h=>(by cases h),fun _ _ h=>(by cases h)⟩,by kernel_rfl,rfl,fun _=>⟨rfl,rfl⟩,fun h=>(by cases h)⟩
def ti42:TI:=⟨1,[.nilFunc],.other,false⟩
theorem tiok42:TIok Tryz.prog 42 ti42:=⟨⟨_,Tryz.underlying42,fun _ h=>(by cases h),fun _ _ h=>(by cases h)⟩,by kernel_rfl,rfl,fun _=>⟨rfl,rfl⟩,fun h=>(by cases h)⟩
def ti43:TI:=⟨1,[.nilFunc],.other,false⟩
theorem tiok43:TIok Tryz.prog 43 ti43:=⟨⟨_,Tryz.underlying43,fun _ h=>(by cases h),fun _ _ h=>(by cases h)⟩,by kernel_rfl,rfl,fun _=>⟨rfl,rfl⟩,fun h=>(by cases h)⟩
def ti44:TI:=⟨2,[.int .i64 0,.int .i64 0],.arr 2 3,false⟩
theorem tiok44:TIok Tryz.prog 44 ti44:=⟨⟨_,Tryz.underlying44,rfl⟩,by kernel_rfl,rfl,fun h=>(by cases h),fun h=>(by cases h)⟩
def ti45:TI:=⟨1,[.nilFunc],.other,false⟩
theorem tiok45:TIok Tryz.prog 45 ti45:=⟨⟨_,Tryz.underlying45,fun _ h=>(by cases h),fun _ _ h=>(by cases h)⟩,by kernel_rfl,rfl,fun _=>⟨rfl,rfl⟩,fun h=>(by cases h)⟩
def ti46:TI:=⟨1,[.nilFunc],.other,false⟩
theorem tiok46:TIok Tryz.prog 46 ti46:=⟨⟨_,Tryz.underlying46,fun _ h=>(by cases h),fun _ _ h=>(by cases h)⟩,by kernel_rfl,rfl,fun _=>⟨rfl,rfl⟩,fun h=>(by cases h)⟩
def ti47:TI:=⟨1,[.nilFunc],.other,false⟩
theorem tiok47:TIok Tryz.prog 47 ti47:=⟨⟨_,Tryz.underlying47,fun _ h=>(by cases h),fun _ _ h=>(by cases h)⟩,by kernel_rfl,rfl,fun _=>⟨rfl,rfl⟩,fun h=>(by cases h)⟩
def ti48:TI:=⟨1,[.nilFunc],.other,false⟩
theorem tiok48:TIok Tryz.prog 48 ti48:=⟨⟨_,Tryz.underlying48,fun _ h=>(by cases h),fun _ _ h=>(by cases h)⟩,by kernel_rfl,rfl,fun _=>⟨rfl,rfl⟩,fun h=>(by cases h)⟩
def ti49:TI:=⟨1,[.nilFunc],.other,false⟩
theorem tiok49:TIok Tryz.prog 49 ti49:=⟨⟨_,Tryz.underlying49,fun _ h=>(by cases h),fun _ _ h=>(by cases h)⟩,by kernel_rfl,rfl,fun _=>⟨rfl,rfl⟩,fun h=>(by cases h)⟩
def ti50:TI:=⟨1,[.map none],.other,false⟩
theorem tiok50:TIok Tryz.prog 50 ti50:=⟨⟨_,Tryz.underlying50,fun _ h=>(by cases h),fun _ _ h=>(by cases h)⟩,by kernel_rfl,rfl,fun _=>⟨rfl,rfl⟩,fun h=>(by cases h)⟩
def ti53:TI:=⟨1,[.nilFunc],.other,false⟩
theorem tiok53:TIok Tryz.prog 53 ti53:=⟨⟨_,Tryz.underlying53,fun _ h=>(by cases h),fun _ _ h=>(by cases h)⟩,by kernel_rfl,rfl,fun _=>⟨rfl,rfl⟩,fun h=>(by cases h)⟩
def ti54:TI:=⟨1,[.nilFunc],.other,false⟩
theorem tiok54:TIok Tryz.prog 54 ti54:=⟨⟨_,Tryz.underlying54,fun _ h=>(by cases h),fun _ _ h=>(by cases h)⟩,by kernel_rfl,rfl,fun _=>⟨rfl,rfl⟩,fun h=>(by cases h)⟩
def ti55:TI:=⟨1,[.nilFunc],.other,false⟩
theorem tiok55:TIok Tryz.prog 55 ti55:=⟨⟨_,Tryz.underlying55,fun _ h=>(by cases h),fun _ _ h=>(by cases h)⟩,by kernel_rfl,rfl,fun _=>⟨rfl,rfl⟩,fun h=>(by cases h)⟩
def ti62:TI:=⟨1,[.nilFunc],.other,false⟩
theorem tiok62:TIok Tryz.prog 62 ti62:=⟨⟨_,Tryz.underlying62,fun _ h=>(by cases h),fun _ _ h=>(by cases h)⟩,by kernel_rfl,rfl,fun _=>⟨rfl,rfl⟩,fun h=>(by cases h)⟩
def ti63:TI:=⟨1,[.nilFunc],.other,false⟩
theorem tiok63:TIok Tryz.prog 63 ti63:=⟨⟨_,Tryz.underlying63,fun _ h=>(by cases h),fun _ _ h=>(by cases h)⟩,by kernel_rfl,rfl,fun _=>⟨rfl,rfl⟩,fun h=>(by cases h)⟩
def ti64:TI:=⟨1,[.nilFunc],.other,false⟩
theorem tiok64:TIok Tryz.prog 64 ti64:=⟨⟨_,Tryz.underlying64,fun _ h=>(by cases h),fun _ _ h=>(by cases h)⟩,by kernel_rfl,rfl,fun _=>⟨rfl,rfl⟩,fun h=>(by cases h)⟩
def ti67:TI:=⟨1,[.nilFunc],.other,false⟩
theorem tiok67:TIok Tryz.prog 67 ti67:=⟨⟨_,Tryz.underlying67,fun _ h=>(by cases h),fun _ _ h=>(by cases h)⟩,by kernel_rfl,rfl,fun _=>⟨rfl,rfl⟩,fun h=>(by cases h)⟩
def ti69:TI:=⟨1,[.nilFunc],.other,false⟩
theorem tiok69:TIok Tryz.prog 69 ti69:=⟨⟨_,Tryz.underlying69,fun _ h=>(by cases h),fun _ _ h=>(by cases h)⟩,by kernel_rfl,rfl,fun _=>⟨rfl,rfl⟩,fun h=>(by cases h)⟩
def ti71:TI:=⟨1,[.nilFunc],.other,false⟩
theorem tiok71:TIok Tryz.prog 71 ti71:=⟨⟨_,Tryz.underlying71,fun _ h=>(by cases h),fun _ _ h=>(by cases h)⟩,by kernel_rfl,rfl,fun _=>⟨rfl,rfl⟩,fun h=>(by cases h)⟩
def ti72:TI:=⟨1,[.nilFunc],.other,false⟩
theorem tiok72:TIok Tryz.prog 72 ti72:=⟨⟨_,Tryz.underlying72,fun _ h=>(by cases h),fun _ _ h=>(by cases h)⟩,by kernel_rfl,rfl,fun _=>⟨rfl,rfl⟩,fun h=>(by cases h)⟩
def ti75:TI:=⟨1,[.nilFunc],.other,false⟩
theorem tiok75:TIok Tryz.prog 75 ti75:=⟨⟨_,Tryz.underlying75,fun _ h=>(by cases h),fun _ _ h=>(by cases h)⟩,by kernel_rfl,rfl,fun _=>⟨rfl,rfl⟩,fun h=>(by cases h)⟩
def ti76:TI:=⟨1,[.nilFunc],.other,false⟩
theorem tiok76:TIok Tryz.prog 76 ti76:=⟨⟨_,Tryz.underlying76,fun _ h=>(by cases h),fun _ _ h=>(by cases h)⟩,by kernel_rfl,rfl,fun _=>⟨rfl,rfl⟩,fun h=>(by cases h)⟩
def ti77:TI:=⟨1,[.nilFunc],.other,false⟩
theorem tiok77:TIok Tryz.prog 77 ti77:=⟨⟨_,Tryz.underlying77,fun _ h=>(by cases h),fun _ _ h=>(by cases h)⟩,by kernel_rfl,rfl,fun _=>⟨rfl,rfl⟩,fun h=>(by cases h)⟩
def ti78:TI:=⟨1,[.nilFunc],.other,false⟩
theorem tiok78:TIok Tryz.prog 78 ti78:=⟨⟨_,Tryz.underlying78,fun _ h=>(by cases h),fun _ _ h=>(by cases h)⟩,by kernel_rfl,rfl,fun _=>⟨rfl,rfl⟩,fun h=>(by cases h)⟩
def ti79:TI:=⟨1,[.pointer none],.other,false⟩
theorem tiok79:TIok Tryz.prog 79 ti79:=⟨⟨_,Tryz.underlying79,fun _ h=>(by cases h),fun _ _ h=>(by cases h)⟩,by kernel_rfl,rfl,fun _=>⟨rfl,rfl⟩,fun h=>(by cases h)⟩
def ti85:TI:=⟨1,[.pointer none],.other,false⟩
theorem tiok85:TIok Tryz.prog 85 ti85:=⟨⟨_,Tryz.underlying85,fun _ h=>(by cases h),fun _ _ h=>(by cases h)⟩,by kernel_rfl,rfl,fun _=>⟨rfl,rfl⟩,fun h=>(by cases h)⟩
def ti88:TI:=⟨1,[.map none],.other,false⟩
theorem tiok88:TIok Tryz.prog 88 ti88:=⟨⟨_,Tryz.underlying88,fun _ h=>(by cases h),fun _ _ h=>(by cases h)⟩,by kernel_rfl,rfl,fun _=>⟨rfl,rfl⟩,fun h=>(by cases h)⟩
def ti92:TI:=⟨1,[.nilFunc],.other,false⟩
theorem tiok92:TIok Tryz.prog 92 ti92:=⟨⟨_,Tryz.underlying92,fun _ h=>(by cases h),fun _ _ h=>(by cases h)⟩,by kernel_rfl,rfl,fun _=>⟨rfl,rfl⟩,fun h=>(by cases h)⟩
def ti93:TI:=⟨1,[.nilFunc],.other,false⟩
theorem tiok93:TIok Tryz.prog 93 ti93:=⟨⟨_,Tryz.underlying93,fun _ h=>(by cases h),fun _ _ h=>(by cases h)⟩,by kernel_rfl,rfl,fun _=>⟨rfl,rfl⟩,fun h=>(by cases h)⟩
def ti96:TI:=⟨1,[.nilFunc],.other,false⟩
theorem tiok96:TIok Tryz.prog 96 ti96:=⟨⟨_,Tryz.underlying96,fun _ h=>(by cases h),fun _ _ h=>(by cases h)⟩,by kernel_rfl,rfl,fun _=>⟨rfl,rfl⟩,fun h=>(by cases h)⟩
def ti98:TI:=⟨1,[.nilFunc],.other,false⟩
theorem tiok98:TIok Tryz.prog 98 ti98:=⟨⟨_,Tryz.underlying98,fun _ h=>(by cases h),fun _ _ h=>(by cases h)⟩,by kernel_rfl,rfl,fun _=>⟨rfl,rfl⟩,fun h=>(by cases h)⟩
def ti99:TI:=⟨1,[.nilFunc],.other,false⟩
theorem tiok99:TIok Tryz.prog 99 ti99:=⟨⟨_,Tryz.underlying99,fun _ h=>(by cases h),fun _ _ h=>(by cases h)⟩,by kernel_rfl,rfl,fun _=>⟨rfl,rfl⟩,fun h=>(by cases h)⟩
def ti100:TI:=⟨1,[.pointer none],.other,false⟩
theorem tiok100:TIok Tryz.prog 100 ti100:=⟨⟨_,Tryz.underlying100,fun _ h=>(by cases h),fun _ _ h=>(by cases h)⟩,by kernel_rfl,rfl,fun _=>⟨rfl,rfl⟩,fun h=>(by cases h)⟩
def ti101:TI:=⟨1,[.nilFunc],.other,false⟩
theorem tiok101:TIok Tryz.prog 101 ti101:=⟨⟨_,Tryz.underlying101,fun _ h=>(by cases h),fun _ _ h=>(by cases h)⟩,by kernel_rfl,rfl,fun _=>⟨rfl,rfl⟩,fun h=>(by cases h)⟩
def ti103:TI:=⟨1,[.nilFunc],.other,false⟩
theorem tiok103:TIok Tryz.prog 103 ti103:=⟨⟨_,Tryz.underlying103,fun _ h=>(by cases h),fun _ _ h=>(by cases h)⟩,by kernel_rfl,rfl,fun _=>⟨rfl,rfl⟩,fun h=>(by cases h)⟩
def ti105:TI:=⟨1,[.nilFunc],.other,false⟩
theorem tiok105:TIok Tryz.prog 105 ti105:=⟨⟨_,Tryz.underlying105,fun _ h=>(by cases h),fun _ _ h=>(by cases h)⟩,by kernel_rfl,rfl,fun _=>⟨rfl,rfl⟩,fun h=>(by cases h)⟩
def ti106:TI:=⟨1,[.nilFunc],.other,false⟩
theorem tiok106:TIok Tryz.prog 106 ti106:=⟨⟨_,Tryz.underlying106,fun _ h=>(by cases h),fun _ _ h=>(by cases h)⟩,by kernel_rfl,rfl,fun _=>⟨rfl,rfl⟩,fun h=>(by cases h)⟩
def ti107:TI:=⟨1,[.nilFunc],.other,false⟩
theorem tiok107:TIok Tryz.prog 107 ti107:=⟨⟨_,Tryz.underlying107,fun _ h=>(by cases h),fun _ _ h=>(by cases h)⟩,by kernel_rfl,rfl,fun _=>⟨rfl,rfl⟩,fun h=>(by cases h)⟩
def ti108:TI:=⟨1,[.nilFunc],.other,false⟩
theorem tiok108:TIok Tryz.prog 108 ti108:=⟨⟨_,Tryz.underlying108,fun _ h=>(by cases h),fun _ _ h=>(by cases h)⟩,by kernel_rfl,rfl,fun _=>⟨rfl,rfl⟩,fun h=>(by cases h)⟩
def ti111:TI:=⟨1,[.nilFunc],.other,false⟩
theorem tiok111:TIok Tryz.prog 111 ti111:=⟨⟨_,Tryz.underlying111,fun _ h=>(by cases h),fun _ _ h=>(by cases h)⟩,by kernel_rfl,rfl,fun _=>⟨rfl,rfl⟩,fun h=>(by cases h)⟩
def ti115:TI:=⟨1,[.nilFunc],.other,false⟩
theorem tiok115:TIok Tryz.prog 115 ti115:=⟨⟨_,Tryz.underlying115,fun _ h=>(by cases h),fun _ _ h=>(by cases h)⟩,by kernel_rfl,rfl,fun _=>⟨rfl,rfl⟩,fun h=>(by cases h)⟩
def ti116:TI:=⟨1,[.nilFunc],.other,false⟩
theorem tiok116:TIok Tryz.prog 116 ti116:=⟨⟨_,Tryz.underlying116,fun _ h=>(by cases h),fun _ _ h=>(by cases h)⟩,by kernel_rfl,rfl,fun _=>⟨rfl,rfl⟩,fun h=>(by cases h)⟩
def ti117:TI:=⟨1,[.nilFunc],.other,false⟩
theorem tiok117:TIok Tryz.prog 117 ti117:=⟨⟨_,Tryz.underlying117,fun _ h=>(by cases h),fun _ _ h=>(by cases h)⟩,by kernel_rfl,rfl,fun _=>⟨rfl,rfl⟩,fun h=>(by cases h)⟩
def ti122:TI:=⟨1,[.nilFunc],.other,false⟩
theorem tiok122:TIok Tryz.prog 122 ti122:=⟨⟨_,Tryz.underlying122,fun _ h=>(by cases h),fun _ _ h=>(by cases h)⟩,by kernel_rfl,rfl,fun _=>⟨rfl,rfl⟩,fun h=>(by cases h)⟩
def ti123:TI:=⟨1,[.nilFunc],.other,false⟩
theorem tiok123:TIok Tryz.prog 123 ti123:=⟨⟨_,Tryz.underlying123,fun _ h=>(by cases h),fun _ _ h=>(by cases h)⟩,by kernel_rfl,rfl,fun _=>⟨rfl,rfl⟩,fun h=>(by cases h)⟩
def ti124:TI:=⟨1,[.nilFunc],.other,false⟩
theorem tiok124:TIok Tryz.prog 124 ti124:=⟨⟨_,Tryz.underlying124,fun _ h=>(by cases h),fun _ _ h=>(by cases h)⟩,by kernel_rfl,rfl,fun _=>⟨rfl,rfl⟩,fun h=>(by cases h)⟩
def ti126:TI:=⟨1,[.nilFunc],.other,false⟩
theorem tiok126:TIok Tryz.prog 126 ti126:=⟨⟨_,Tryz.underlying126,fun _ h=>(by cases h),fun _ _ h=>(by cases h)⟩,by kernel_rfl,rfl,fun _=>⟨rfl,rfl⟩,fun h=>(by cases h)⟩
def ti127:TI:=⟨1,[.pointer none],.other,false⟩
theorem tiok127:TIok Tryz.prog 127 ti127:=⟨⟨_,Tryz.underlying127,fun _ h=>(by cases h),fun _ _ h=>(by cases h)⟩,by kernel_rfl,rfl,fun _=>⟨rfl,rfl⟩,fun h=>(by cases h)⟩
def ti128:TI:=⟨1,[.nilFunc],.other,false⟩
theorem tiok128:TIok Tryz.prog 128 ti128:=⟨⟨_,Tryz.underlying128,fun _ h=>(by cases h),fun _ _ h=>(by cases h)⟩,by kernel_rfl,rfl,fun _=>⟨rfl,rfl⟩,fun h=>(by cases h)⟩
def ti129:TI:=⟨1,[.nilFunc],.other,false⟩
theorem tiok129:TIok Tryz.prog 129 ti129:=⟨⟨_,Tryz.underlying129,fun _ h=>(by cases h),fun _ _ h=>(by cases h)⟩,by kernel_rfl,rfl,fun _=>⟨rfl,rfl⟩,fun h=>(by cases h)⟩
def ti131:TI:=⟨1,[.nilFunc],.other,false⟩
theorem tiok131:TIok Tryz.prog 131 ti131:=⟨⟨_,Tryz.underlying131,fun _ h=>(by cases h),fun _ _ h=>(by cases h)⟩,by kernel_rfl,rfl,fun _=>⟨rfl,rfl⟩,fun h=>(by cases h)⟩
def ti132:TI:=⟨1,[.pointer none],.other,false⟩
theorem tiok132:TIok Tryz.prog 132 ti132:=⟨⟨_,Tryz.underlying132,fun _ h=>(by cases h),fun _ _ h=>(by cases h)⟩,by kernel_rfl,rfl,fun _=>⟨rfl,rfl⟩,fun h=>(by cases h)⟩
def ti133:TI:=⟨1,[.nilFunc],.other,false⟩
theorem tiok133:TIok Tryz.prog 133 ti133:=⟨⟨_,Tryz.underlying133,fun _ h=>(by cases h),fun _ _ h=>(by cases h)⟩,by kernel_rfl,rfl,fun _=>⟨rfl,rfl⟩,fun h=>(by cases h)⟩
def ti134:TI:=⟨1,[.pointer none],.other,false⟩
theorem tiok134:TIok Tryz.prog 134 ti134:=⟨⟨_,Tryz.underlying134,fun _ h=>(by cases h),fun _ _ h=>(by cases h)⟩,by kernel_rfl,rfl,fun _=>⟨rfl,rfl⟩,fun h=>(by cases h)⟩
def ti137:TI:=⟨1,[.nilIface],.other,false⟩
theorem tiok137:TIok Tryz.prog 137 ti137:=⟨⟨_,Tryz.underlying137,fun _ h=>(by cases h),fun _ _ h=>(by cases h)⟩,by kernel_rfl,rfl,fun _=>⟨rfl,rfl⟩,fun h=>(by cases h)⟩
def ti138:TI:=⟨1,[.nilIface],.other,false⟩
theorem tiok138:TIok Tryz.prog 138 ti138:=⟨⟨_,Tryz.underlying138,fun _ h=>(by cases h),fun _ _ h=>(by cases h)⟩,by kernel_rfl,rfl,fun _=>⟨rfl,rfl⟩,fun h=>(by cases h)⟩
def ti139:TI:=⟨1,[.nilFunc],.other,false⟩
theorem tiok139:TIok Tryz.prog 139 ti139:=⟨⟨_,Tryz.underlying139,fun _ h=>(by cases h),fun _ _ h=>(by cases h)⟩,by kernel_rfl,rfl,fun _=>⟨rfl,rfl⟩,fun h=>(by cases h)⟩
def ti140:TI:=⟨1,[.nilFunc],.other,false⟩
theorem tiok140:TIok Tryz.prog 140 ti140:=⟨⟨_,Tryz.underlying140,fun _ h=>(by cases h),fun _ _ h=>(by cases h)⟩,by kernel_rfl,rfl,fun _=>⟨rfl,rfl⟩,fun h=>(by cases h)⟩
def ti142:TI:=⟨1,[.nilFunc],.other,false⟩
theorem tiok142:TIok Tryz.prog 142 ti142:=⟨⟨_,Tryz.underlying142,fun _ h=>(by cases h),fun _ _ h=>(by cases h)⟩,by kernel_rfl,rfl,fun _=>⟨rfl,rfl⟩,fun h=>(by cases h)⟩
def ti143:TI:=⟨1,[.nilFunc],.other,false⟩
theorem tiok143:TIok Tryz.prog 143 ti143:=⟨⟨_,Tryz.underlying143,fun _ h=>(by cases h),fun _ _ h=>(by cases h)⟩,by kernel_rfl,rfl,fun _=>⟨rfl,rfl⟩,fun h=>(by cases h)⟩
def ti144:TI:=⟨1,[.nilFunc],.other,false⟩
theorem tiok144:TIok Tryz.prog 144 ti144:=⟨⟨_,Tryz.underlying144,fun _ h=>(by cases h),fun _ _ h=>(by cases h)⟩,by kernel_rfl,rfl,fun _=>⟨rfl,rfl⟩,fun h=>(by cases h)⟩
def ti145:TI:=⟨1,[.nilFunc],.other,false⟩
theorem tiok145:TIok Tryz.prog 145 ti145:=⟨⟨_,Tryz.underlying145,fun _ h=>(by cases h),fun _ _ h=>(by cases h)⟩,by kernel_rfl,rfl,fun _=>⟨rfl,rfl⟩,fun h=>(by cases h)⟩
def ti146:TI:=⟨1,[.nilFunc],.other,false⟩
theorem tiok146:TIok Tryz.prog 146 ti146:=⟨⟨_,Tryz.underlying146,fun _ h=>(by cases h),fun _ _ h=>(by cases h)⟩,by kernel_rfl,rfl,fun _=>⟨rfl,rfl⟩,fun h=>(by cases h)⟩
def ti147:TI:=⟨1,[.nilFunc],.other,false⟩
theorem tiok147:TIok Tryz.prog 147 ti147:=⟨⟨_,Tryz.underlying147,fun _ h=>(by cases h),fun _ _ h=>(by cases h)⟩,by kernel_rfl,rfl,fun _=>⟨rfl,rfl⟩,fun h=>(by cases h)⟩
def ti148:TI:=⟨1,[.pointer none],.other,false⟩
theorem tiok148:TIok Tryz.prog 148 ti148:=⟨⟨_,Tryz.underlying148,fun _ h=>(by cases h),fun _ _ h=>(by cases h)⟩,by kernel_rfl,rfl,fun _=>⟨rfl,rfl⟩,fun h=>(by cases h)⟩
def ti149:TI:=⟨1,[.pointer none],.other,false⟩
theorem tiok149:TIok Tryz.prog 149 ti149:=⟨⟨_,Tryz.underlying149,fun _ h=>(by cases h),fun _ _ h=>(by cases h)⟩,by kernel_rfl,rfl,fun _=>⟨rfl,rfl⟩,fun h=>(by cases h)⟩
def ti150:TI:=⟨1,[.nilFunc],.other,false⟩
theorem tiok150:TIok Tryz.prog 150 ti150:=⟨⟨_,Tryz.underlying150,fun _ h=>(by cases h),fun _ _ h=>(by cases h)⟩,by kernel_rfl,rfl,fun _=>⟨rfl,rfl⟩,fun h=>(by cases h)⟩
def ti151:TI:=⟨1,[.pointer none],.other,false⟩
theorem tiok151:TIok Tryz.prog 151 ti151:=⟨⟨_,Tryz.underlying151,fun _ h=>(by cases h),fun _ _ h=>(by cases h)⟩,by kernel_rfl,rfl,fun _=>⟨rfl,rfl⟩,fun h=>(by cases h)⟩
def ti152:TI:=⟨1,[.nilFunc],.other,false⟩
theorem tiok152:TIok Tryz.prog 152 ti152:=⟨⟨_,Tryz.underlying152,fun _ h=>(by cases h),fun _ _ h=>(by cases h)⟩,by kernel_rfl,rfl,fun _=>⟨rfl,rfl⟩,fun h=>(by cases h)⟩
def ti161:TI:=⟨1,[.nilFunc],.other,false⟩
theorem tiok161:TIok Tryz.prog 161 ti161:=⟨⟨_,Tryz.underlying161,fun _ h=>(by cases h),fun _ _ h=>(by cases h)⟩,by kernel_rfl,rfl,fun _=>⟨rfl,rfl⟩,fun h=>(by cases h)⟩
def ti162:TI:=⟨1,[.nilFunc],.other,false⟩
theorem tiok162:TIok Tryz.prog 162 ti162:=⟨⟨_,Tryz.underlying162,fun _ h=>(by cases h),fun _ _ h=>(by cases h)⟩,by kernel_rfl,rfl,fun _=>⟨rfl,rfl⟩,fun h=>(by cases h)⟩
def ti163:TI:=⟨1,[.nilFunc],.other,false⟩
theorem tiok163:TIok Tryz.prog 163 ti163:=⟨⟨_,Tryz.underlying163,fun _ h=>(by cases h),fun _ _ h=>(by cases h)⟩,by kernel_rfl,rfl,fun _=>⟨rfl,rfl⟩,fun h=>(by cases h)⟩
def ti164:TI:=⟨1,[.nilFunc],.other,false⟩
theorem tiok164:TIok Tryz.prog 164 ti164:=⟨⟨_,Tryz.underlying164,fun _ h=>(by cases h),fun _ _ h=>(by cases h)⟩,by kernel_rfl,rfl,fun _=>⟨rfl,rfl⟩,fun h=>(by cases h)⟩
def ti165:TI:=⟨1,[.nilFunc],.other,false⟩
theorem tiok165:TIok Tryz.prog 165 ti165:=⟨⟨_,Tryz.underlying165,fun _ h=>(by cases h),fun _ _ h=>(by cases h)⟩,by kernel_rfl,rfl,fun _=>⟨rfl,rfl⟩,fun h=>(by cases h)⟩
def ti166:TI:=⟨1,[.nilFunc],.other,false⟩
theorem tiok166:TIok Tryz.prog 166 ti166:=⟨⟨_,Tryz.underlying166,fun _ h=>(by cases h),fun _ _ h=>(by cases h)⟩,by kernel_rfl,rfl,fun _=>⟨rfl,rfl⟩,fun h=>(by cases h)⟩
def ti168:TI:=⟨1,[.nilFunc],.other,false⟩
theorem tiok168:TIok Tryz.prog 168 ti168:=⟨⟨_,Tryz.underlying168,fun _ h=>(by cases h),fun _ _ h=>(by cases h)⟩,by kernel_rfl,rfl,fun _=>⟨rfl,rfl⟩,fun h=>(by cases h)⟩
def ti170:TI:=⟨1,[.nilFunc],.other,false⟩
theorem tiok170:TIok Tryz.prog 170 ti170:=⟨⟨_,Tryz.underlying170,fun _ h=>(by cases h),fun _ _ h=>(by cases h)⟩,by kernel_rfl,rfl,fun _=>⟨rfl,rfl⟩,fun h=>(by cases h)⟩
def ti172:TI:=⟨1,[.nilFunc],.other,false⟩
theorem tiok172:TIok Tryz.prog 172 ti172:=⟨⟨_,Tryz.underlying172,fun _ h=>(by cases h),fun _ _ h=>(by cases h)⟩,by kernel_rfl,rfl,fun _=>⟨rfl,rfl⟩,fun h=>(by cases h)⟩
def ti173:TI:=⟨1,[.nilFunc],.other,false⟩
theorem tiok173:TIok Tryz.prog 173 ti173:=⟨⟨_,Tryz.underlying173,fun _ h=>(by cases h),fun _ _ h=>(by cases h)⟩,by kernel_rfl,rfl,fun _=>⟨rfl,rfl⟩,fun h=>(by cases h)⟩
def ti174:TI:=⟨1,[.nilFunc],.other,false⟩
theorem tiok174:TIok Tryz.prog 174 ti174:=⟨⟨_,Tryz.underlying174,fun _ h=>(by cases h),fun _ _ h=>(by cases h)⟩,by kernel_rfl,rfl,fun _=>⟨rfl,rfl⟩,fun h=>(by cases h)⟩
def ti175:TI:=⟨1,[.nilFunc],.other,false⟩
theorem tiok175:TIok Tryz.prog 175 ti175:=⟨⟨_,Tryz.underlying175,fun _ h=>(by cases h),fun _ _ h=>(by cases h)⟩,by kernel_rfl,rfl,fun _=>⟨rfl,rfl⟩,fun h=>(by cases h)⟩
def ti176:TI:=⟨1,[.nilFunc],.other,false⟩
theorem tiok176:TIok Tryz.prog 176 ti176:=⟨⟨_,Tryz.underlying176,fun _ h=>(by cases h),fun _ _ h=>(by cases h)⟩,by kernel_rfl,rfl,fun _=>⟨rfl,rfl⟩,fun h=>(by cases h)⟩
def ti177:TI:=⟨1,[.nilFunc],.other,false⟩
theorem tiok177:TIok Tryz.prog 177 ti177:=⟨⟨_,Tryz.underlying177,fun _ h=>(by cases h),fun _ _ h=>(by cases h)⟩,by kernel_rfl,rfl,fun _=>⟨rfl,rfl⟩,fun h=>(by cases h)⟩
def ti178:TI:=⟨1,[.nilFunc],.other,false⟩
theorem tiok178:TIok Tryz.prog 178 ti178:=⟨⟨_,Tryz.underlying178,fun _ h=>(by cases h),fun _ _ h=>(by cases h)⟩,by kernel_rfl,rfl,fun _=>⟨rfl,rfl⟩,fun h=>(by cases h)⟩
def ti179:TI:=⟨1,[.nilFunc],.other,false⟩
theorem tiok179:TIok Tryz.prog 179 ti179:=⟨⟨_,Tryz.underlying179,fun _ h=>(by cases h),fun _ _ h=>(by cases h)⟩,by kernel_rfl,rfl,fun _=>⟨rfl,rfl⟩,fun h=>(by cases h)⟩
def ti180:TI:=⟨1,[.nilFunc],.other,false⟩
theorem tiok180:TIok Tryz.prog 180 ti180:=⟨⟨_,Tryz.underlying180,fun _ h=>(by cases h),fun _ _ h=>(by cases h)⟩,by kernel_rfl,rfl,fun _=>⟨rfl,rfl⟩,fun h=>(by cases h)⟩
def ti183:TI:=⟨1,[.nilFunc],.other,false⟩
theorem tiok183:TIok Tryz.prog 183 ti183:=⟨⟨_,Tryz.underlying183,fun _ h=>(by cases h),fun _ _ h=>(by cases h)⟩,by kernel_rfl,rfl,fun _=>⟨rfl,rfl⟩,fun h=>(by cases h)⟩
def ti184:TI:=⟨1,[.nilFunc],.other,false⟩
theorem tiok184:TIok Tryz.prog 184 ti184:=⟨⟨_,Tryz.underlying184,fun _ h=>(by cases h),fun _ _ h=>(by cases h)⟩,by kernel_rfl,rfl,fun _=>⟨rfl,rfl⟩,fun h=>(by cases h)⟩
def ti186:TI:=⟨1,[.nilFunc],.other,false⟩
theorem tiok186:TIok Tryz.prog 186 ti186:=⟨⟨_,Tryz.underlying186,fun _ h=>(by cases h),fun _ _ h=>(by cases h)⟩,by kernel_rfl,rfl,fun _=>⟨rfl,rfl⟩,fun h=>(by cases h)⟩
def ti187:TI:=⟨1,[.nilFunc],.other,false⟩
theorem tiok187:TIok Tryz.prog 187 ti187:=⟨⟨_,Tryz.underlying187,fun _ h=>(by cases h),fun _ _ h=>(by cases h)⟩,by kernel_rfl,rfl,fun _=>⟨rfl,rfl⟩,fun h=>(by cases h)⟩
def ti188:TI:=⟨1,[.nilFunc],.other,false⟩
theorem tiok188:TIok Tryz.prog 188 ti188:=⟨⟨_,Tryz.underlying188,fun _ h=>(by cases h),fun _ _ h=>(by cases h)⟩,by kernel_rfl,rfl,fun _=>⟨rfl,rfl⟩,fun h=>(by cases h)⟩
def ti189:TI:=⟨1,[.map none],.other,false⟩
theorem tiok189:TIok Tryz.prog 189 ti189:=⟨⟨_,Tryz.underlying189,fun _ h=>(by cases h),fun _ _ h=>(by cases h)⟩,by kernel_rfl,rfl,fun _=>⟨rfl,rfl⟩,fun h=>(by cases h)⟩
def ti191:TI:=⟨1,[.nilFunc],.other,false⟩
theorem tiok191:TIok Tryz.prog 191 ti191:=⟨⟨_,Tryz.underlying191,fun _ h=>(by cases h),fun _ _ h=>(by cases h)⟩,by kernel_rfl,rfl,fun _=>⟨rfl,rfl⟩,fun h=>(by cases h)⟩
def ti192:TI:=⟨1,[.pointer none],.other,false⟩
theorem tiok192:TIok Tryz.prog 192 ti192:=⟨⟨_,Tryz.underlying192,fun _ h=>(by cases h),fun _ _ h=>(by cases h)⟩,by kernel_rfl,rfl,fun _=>⟨rfl,rfl⟩,fun h=>(by cases h)⟩
def ti193:TI:=⟨1,[.nilFunc],.other,false⟩
theorem tiok193:TIok Tryz.prog 193 ti193:=⟨⟨_,Tryz.underlying193,fun _ h=>(by cases h),fun _ _ h=>(by cases h)⟩,by kernel_rfl,rfl,fun _=>⟨rfl,rfl⟩,fun h=>(by cases h)⟩
def ti195:TI:=⟨1,[.nilFunc],.other,false⟩
theorem tiok195:TIok Tryz.prog 195 ti195:=⟨⟨_,Tryz.underlying195,fun _ h=>(by cases h),fun _ _ h=>(by cases h)⟩,by kernel_rfl,rfl,fun _=>⟨rfl,rfl⟩,fun h=>(by cases h)⟩
def ti196:TI:=⟨1,[.nilFunc],.other,false⟩
theorem tiok196:TIok Tryz.prog 196 ti196:=⟨⟨_,Tryz.underlying196,fun _ h=>(by cases h),fun _ _ h=>(by cases h)⟩,by kernel_rfl,rfl,fun _=>⟨rfl,rfl⟩,fun h=>(by cases h)⟩
def ti197:TI:=⟨1,[.nilFunc],.other,false⟩
theorem tiok197:TIok Tryz.prog 197 ti197:=⟨⟨_,Tryz.underlying197,fun _ h=>(by cases h),fun _ _ h=>(by cases h)⟩,by kernel_rfl,rfl,fun _=>⟨rfl,rfl⟩,fun h=>(by cases h)⟩
def ti198:TI:=⟨1,[.nilFunc],.other,false⟩
theorem tiok198:TIok Tryz.prog 198 ti198:=⟨⟨_,Tryz.underlying198,fun _ h=>(by cases h),fun _ _ h=>(by cases h)⟩,by kernel_rfl,rfl,fun _=>⟨rfl,rfl⟩,fun h=>(by cases h)⟩
def ti200:TI:=⟨1,[.nilFunc],.other,false⟩
theorem tiok200:TIok Tryz.prog 200 ti200:=⟨⟨_,Tryz.underlying200,fun _ h=>(by cases h),fun _ _ h=>(by cases h)⟩,by kernel_rfl,rfl,fun _=>⟨rfl,rfl⟩,fun h=>(by cases h)⟩
def ti201:TI:=⟨1,[.int .u64 0],.int .u64,false⟩
theorem tiok201:TIok Tryz.prog 201 ti201:=⟨⟨_,Tryz.underlying201,rfl⟩,by kernel_rfl,rfl,fun _=>⟨rfl,rfl⟩,fun h=>(by cases h)⟩
def ti211:TI:=⟨1,[.nilFunc],.other,false⟩
theorem tiok211:TIok Tryz.prog 211 ti211:=⟨⟨_,Tryz.underlying211,fun _ h=>(by cases h),fun _ _ h=>(by cases h)⟩,by kernel_rfl,rfl,fun _=>⟨rfl,rfl⟩,fun h=>(by cases h)⟩
def ti212:TI:=⟨1,[.nilFunc],.other,false⟩
theorem tiok212:TIok Tryz.prog 212 ti212:=⟨⟨_,Tryz.underlying212,fun _ h=>(by cases h),fun _ _ h=>(by cases h)⟩,by kernel_rfl,rfl,fun _=>⟨rfl,rfl⟩,fun h=>(by cases h)⟩
def ti213:TI:=⟨1,[.nilFunc],.other,false⟩
theorem tiok213:TIok Tryz.prog 213 ti213:=⟨⟨_,Tryz.underlying213,fun _ h=>(by cases h),fun _ _ h=>(by cases h)⟩,by kernel_rfl,rfl,fun _=>⟨rfl,rfl⟩,fun h=>(by cases h)⟩
def ti214:TI:=⟨1,[.nilFunc],.other,false⟩
theorem tiok214:TIok Tryz.prog 214 ti214:=⟨⟨_,Tryz.underlying214,fun _ h=>(by cases h),fun _ _ h=>(by cases h)⟩,by kernel_rfl,rfl,fun _=>⟨rfl,rfl⟩,fun h=>(by cases h)⟩
def ti215:TI:=⟨1,[.nilFunc],.other,false⟩
theorem tiok215:TIok Tryz.prog 215 ti215:=⟨⟨_,Tryz.underlying215,fun _ h=>(by cases h),fun _ _ h=>(by cases h)⟩,by kernel_rfl,rfl,fun _=>⟨rfl,rfl⟩,fun h=>(by cases h)⟩
def ti217:TI:=⟨1,[.nilFunc],.other,false⟩
theorem tiok217:TIok Tryz.prog 217 ti217:=⟨⟨_,Tryz.underlying217,fun _ h=>(by cases h),fun _ _ h=>(by cases h)⟩,by kernel_rfl,rfl,fun _=>⟨rfl,rfl⟩,fun h=>(by cases h)⟩
def ti218:TI:=⟨1,[.nilFunc],.other,false⟩
theorem tiok218:TIok Tryz.prog 218 ti218:=⟨⟨_,Tryz.underlying218,fun _ h=>(by cases h),fun _ _ h=>(by cases h)⟩,by kernel_rfl,rfl,fun _=>⟨rfl,rfl⟩,fun h=>(by cases h)⟩
def ti220:TI:=⟨1,[.nilFunc],.other,false⟩
theorem tiok220:TIok Tryz.prog 220 ti220:=⟨⟨_,Tryz.underlying220,fun _ h=>(by cases h),fun _ _ h=>(by cases h)⟩,by kernel_rfl,rfl,fun _=>⟨rfl,rfl⟩,fun h=>(by cases h)⟩
def ti221:TI:=⟨1,[.nilFunc],.other,false⟩
theorem tiok221:TIok Tryz.prog 221 ti221:=⟨⟨_,Tryz.underlying221,fun _ h=>(by cases h),fun _ _ h=>(by cases h)⟩,by kernel_rfl,rfl,fun _=>⟨rfl,rfl⟩,fun h=>(by cases h)⟩
def ti223:TI:=⟨1,[.nilFunc],.other,false⟩
theorem tiok223:TIok Tryz.prog 223 ti223:=⟨⟨_,Tryz.underlying223,fun _ h=>(by cases h),fun _ _ h=>(by cases h)⟩,by kernel_rfl,rfl,fun _=>⟨rfl,rfl⟩,fun h=>(by cases h)⟩
def ti224:TI:=⟨1,[.nilFunc],.other,false⟩
theorem tiok224:TIok Tryz.prog 224 ti224:=⟨⟨_,Tryz.underlying224,fun _ h=>(by cases h),fun _ _ h=>(by cases h)⟩,by kernel_rfl,rfl,fun _=>⟨rfl,rfl⟩,fun h=>(by cases h)⟩
def ti225:TI:=⟨1,[.nilFunc],.other,false⟩
theorem tiok225:TIok Tryz.prog 225 ti225:=⟨⟨_,Tryz.underlying225,fun _ h=>(by cases h),fun _ _ h=>(by cases h)⟩,by kernel_rfl,rfl,fun _=>⟨rfl,rfl⟩,fun h=>(by cases h)⟩
def ti226:TI:=⟨1,[.nilFunc],.other,false⟩
theorem tiok226:TIok Tryz.prog 226 ti226:=⟨⟨_,Tryz.underlying226,fun _ h=>(by cases h),fun _ _ h=>(by cases h)⟩,by kernel_rfl,rfl,fun _=>⟨rfl,rfl⟩,fun h=>(by cases h)⟩
def ti227:TI:=⟨1,[.nilFunc],.other,false⟩
theorem tiok227:TIok Tryz.prog 227 ti227:=⟨⟨_,Tryz.underlying227,fun _ h=>(by cases h),fun _ _ h=>(by cases h)⟩,by kernel_rfl,rfl,fun _=>⟨rfl,rfl⟩,fun h=>(by cases h)⟩
def ti228:TI:=⟨1,[.nilFunc],.other,false⟩
theorem tiok228:TIok Tryz.prog 228 ti228:=⟨⟨_,Tryz.underlying228,fun _ h=>(by cases h),fun _ _ h=>(by cases h)⟩,by kernel_rfl,rfl,fun _=>⟨rfl,rfl⟩,fun h=>(by cases h)⟩
def ti229:TI:=⟨1,[.nilFunc],.other,false⟩
theorem tiok229:TIok Tryz.prog 229 ti229:=⟨⟨_,Tryz.underlying229,fun _ h=>(by cases h),fun _ _ h=>(by cases h)⟩,by kernel_rfl,rfl,fun _=>⟨rfl,rfl⟩,fun h=>(by cases h)⟩
def ti230:TI:=⟨1,[.nilFunc],.other,false⟩
theorem tiok230:TIok Tryz.prog 230 ti230:=⟨⟨_,Tryz.underlying230,fun _ h=>(by cases h),fun _ _ h=>(by cases h)⟩,by kernel_rfl,rfl,fun _=>⟨rfl,rfl⟩,fun h=>(by cases h)⟩
def ti231:TI:=⟨1,[.nilFunc],.other,false⟩
theorem tiok231:TIok Tryz.prog 231 ti231:=⟨⟨_,Tryz.underlying231,fun _ h=>(by cases h),fun _ _ h=>(by cases h)⟩,by kernel_rfl,rfl,fun _=>⟨rfl,rfl⟩,fun h=>(by cases h)⟩
def ti232:TI:=⟨1,[.nilFunc],.other,false⟩
theorem tiok232:TIok Tryz.prog 232 ti232:=⟨⟨_,Tryz.underlying232,fun _ h=>(by cases h),fun _ _ h=>(by cases h)⟩,by kernel_rfl,rfl,fun _=>⟨rfl,rfl⟩,fun h=>(by cases h)⟩
def ti233:TI:=⟨1,[.pointer none],.other,false⟩
theorem tiok233:TIok Tryz.prog 233 ti233:=⟨⟨_,Tryz.underlying233,fun _ h=>(by cases h),fun _ _ h=>(by cases h)⟩,by kernel_rfl,rfl,fun _=>⟨rfl,rfl⟩,fun h=>(by cases h)⟩
def ti234:TI:=⟨1,[.nilFunc],.other,false⟩
theorem tiok234:TIok Tryz.prog 234 ti234:=⟨⟨_,Tryz.underlying234,fun _ h=>(by cases h),fun _ _ h=>(by cases h)⟩,by kernel_rfl,rfl,fun _=>⟨rfl,rfl⟩,fun h=>(by cases h)⟩
def ti235:TI:=⟨1,[.nilFunc],.other,false⟩
theorem tiok235:TIok Tryz.prog 235 ti235:=⟨⟨_,Tryz.underlying235,fun _ h=>(by cases h),fun _ _ h=>(by cases h)⟩,by kernel_rfl,rfl,fun _=>⟨rfl,rfl⟩,fun h=>(by cases h)⟩
def ti236:TI:=⟨1,[.nilFunc],.other,false⟩
theorem tiok236:TIok Tryz.prog 236 ti236:=⟨⟨_,Tryz.underlying236,fun _ h=>(by cases h),fun _ _ h=>(by cases h)⟩,by kernel_rfl,rfl,fun _=>⟨rfl,rfl⟩,fun h=>(by cases h)⟩
def ti237:TI:=⟨1,[.nilFunc],.other,false⟩
theorem tiok237:TIok Tryz.prog 237 ti237:=⟨⟨_,Tryz.underlying237,fun _ h=>(by cases h),fun _ _ h=>(by cases h)⟩,by kernel_rfl,rfl,fun _=>⟨rfl,rfl⟩,fun h=>(by cases h)⟩
def ti239:TI:=⟨1,[.pointer none],.other,false⟩
theorem tiok239:TIok Tryz.prog 239 ti239:=⟨⟨_,Tryz.underlying239,fun _ h=>(by cases h),fun _ _ h=>(by cases h)⟩,by kernel_rfl,rfl,fun _=>⟨rfl,rfl⟩,fun h=>(by cases h)⟩
def ti240:TI:=⟨1,[.pointer none],.other,false⟩
theorem tiok240:TIok Tryz.prog 240 ti240:=⟨⟨_,Tryz.underlying240,fun _ h=>(by cases h),fun _ _ h=>(by cases h)⟩,by kernel_rfl,rfl,fun _=>⟨rfl,rfl⟩,fun h=>(by cases h)⟩
def ti241:TI:=⟨1,[.nilFunc],.other,false⟩
theorem tiok241:TIok Tryz.prog 241 ti241:=⟨⟨_,Tryz.underlying241,fun _ h=>(by cases h),fun _ _ h=>(by cases h)⟩,by kernel_rfl,rfl,fun _=>⟨rfl,rfl⟩,fun h=>(by cases h)⟩
def ti242:TI:=⟨1,[.nilFunc],.other,false⟩
theorem tiok242:TIok Tryz.prog 242 ti242:=⟨⟨_,Tryz.underlying242,fun _ h=>(by cases h),fun _ _ h=>(by cases h)⟩,by kernel_rfl,rfl,fun _=>⟨rfl,rfl⟩,fun h=>(by cases h)⟩
def ti243:TI:=⟨1,[.nilFunc],.other,false⟩
theorem tiok243:TIok Tryz.prog 243 ti243:=⟨⟨_,Tryz.underlying243,fun _ h=>(by cases h),fun _ _ h=>(by cases h)⟩,by kernel_rfl,rfl,fun _=>⟨rfl,rfl⟩,fun h=>(by cases h)⟩
def ti246:TI:=⟨1,[.nilFunc],.other,false⟩
theorem tiok246:TIok Tryz.prog 246 ti246:=⟨⟨_,Tryz.underlying246,fun _ h=>(by cases h),fun _ _ h=>(by cases h)⟩,by kernel_rfl,rfl,fun _=>⟨rfl,rfl⟩,fun h=>(by cases h)⟩
def ti248:TI:=⟨1,[.nilFunc],.other,false⟩
theorem tiok248:TIok Tryz.prog 248 ti248:=⟨⟨_,Tryz.underlying248,fun _ h=>(by cases h),fun _ _ h=>(by cases h)⟩,by kernel_rfl,rfl,fun _=>⟨rfl,rfl⟩,fun h=>(by cases h)⟩
def ti249:TI:=⟨1,[.nilFunc],.other,false⟩
theorem tiok249:TIok Tryz.prog 249 ti249:=⟨⟨_,Tryz.underlying249,fun _ h=>(by cases h),fun _ _ h=>(by cases h)⟩,by kernel_rfl,rfl,fun _=>⟨rfl,rfl⟩,fun h=>(by cases h)⟩
def ti250:TI:=⟨1,[.nilFunc],.other,false⟩
theorem tiok250:TIok Tryz.prog 250 ti250:=⟨⟨_,Tryz.underlying250,fun _ h=>(by cases h),fun _ _ h=>(by cases h)⟩,by kernel_rfl,rfl,fun _=>⟨rfl,rfl⟩,fun h=>(by cases h)⟩
def ti251:TI:=⟨1,[.nilFunc],.other,false⟩
theorem tiok251:TIok Tryz.prog 251 ti251:=⟨⟨_,Tryz.underlying251,fun _ h=>(by cases h),fun _ _ h=>(by cases h)⟩,by kernel_rfl,rfl,fun _=>⟨rfl,rfl⟩,fun h=>(by cases h)⟩
def ti252:TI:=⟨1,[.nilFunc],.other,false⟩
theorem tiok252:TIok Tryz.prog 252 ti252:=⟨⟨_,Tryz.underlying252,fun _ h=>(by cases h),fun _ _ h=>(by cases h)⟩,by kernel_rfl,rfl,fun _=>⟨rfl,rfl⟩,fun h=>(by cases h)⟩
def ti253:TI:=⟨1,[.nilFunc],.other,false⟩
theorem tiok253:TIok Tryz.prog 253 ti253:=⟨⟨_,Tryz.underlying253,fun _ h=>(by cases h),fun _ _ h=>(by cases h)⟩,by kernel_rfl,rfl,fun _=>⟨rfl,rfl⟩,fun h=>(by cases h)⟩
def ti256:TI:=⟨1,[.nilFunc],.other,false⟩
theorem tiok256:TIok Tryz.prog 256 ti256:=⟨⟨_,Tryz.underlying256,fun _ h=>(by cases h),fun _ _ h=>(by cases h)⟩,by kernel_rfl,rfl,fun _=>⟨rfl,rfl⟩,fun h=>(by cases h)⟩
def ti257:TI:=⟨1,[.int .u64 0],.int .u64,false⟩
theorem tiok257:TIok Tryz.prog 257 ti257:=⟨⟨_,Tryz.underlying257,rfl⟩,by kernel_rfl,rfl,fun _=>⟨rfl,rfl⟩,fun h=>(by cases h)⟩
def ti258:TI:=⟨1,[.nilFunc],.other,false⟩
theorem tiok258:TIok Tryz.prog 258 ti258:=⟨⟨_,Tryz.underlying258,fun _ h=>(by cases h),fun _ _ h=>(by cases h)⟩,by kernel_rfl,rfl,fun _=>⟨rfl,rfl⟩,fun h=>(by cases h)⟩
def ti259:TI:=⟨1,[.int .u32 0],.int .u32,false⟩
theorem tiok259:TIok Tryz.prog 259 ti259:=⟨⟨_,Tryz.underlying259,rfl⟩,by kernel_rfl,rfl,fun _=>⟨rfl,rfl⟩,fun h=>(by cases h)⟩
def ti261:TI:=⟨1,[.nilFunc],.other,false⟩
theorem tiok261:TIok Tryz.prog 261 ti261:=⟨⟨_,Tryz.underlying261,fun _ h=>(by cases h),fun _ _ h=>(by cases h)⟩,by kernel_rfl,rfl,fun _=>⟨rfl,rfl⟩,fun h=>(by cases h)⟩
def ti262:TI:=⟨1,[.nilFunc],.other,false⟩
theorem tiok262:TIok Tryz.prog 262 ti262:=⟨⟨_,Tryz.underlying262,fun _ h=>(by cases h),fun _ _ h=>(by cases h)⟩,by kernel_rfl,rfl,fun _=>⟨rfl,rfl⟩,fun h=>(by cases h)⟩
def ti270:TI:=⟨1,[.nilFunc],.other,false⟩
theorem tiok270:TIok Tryz.prog 270 ti270:=⟨⟨_,Tryz.underlying270,fun _ h=>(by cases h),fun _ _ h=>(by cases h)⟩,by kernel_rfl,rfl,fun _=>⟨rfl,rfl⟩,fun h=>(by cases h)⟩
def ti271:TI:=⟨1,[.int .i32 0],.int .i32,false⟩
theorem tiok271:TIok Tryz.prog 271 ti271:=⟨⟨_,Tryz.underlying271,rfl⟩,by kernel_rfl,rfl,fun _=>⟨rfl,rfl⟩,fun h=>(by cases h)⟩
def ti272:TI:=⟨1,[.int .i32 0],.int .i32,false⟩
theorem tiok272:TIok Tryz.prog 272 ti272:=⟨⟨_,Tryz.underlying272,rfl⟩,by kernel_rfl,rfl,fun _=>⟨rfl,rfl⟩,fun h=>(by cases h)⟩
def tt:TT:=[(2,ti2),(3,ti3),(4,ti4),(5,ti5),(6,ti6),(9,ti9),(10,ti10),(11,ti11),(30,ti30),(268,ti268),(269,ti269),(7,ti7),(8,ti8),(13,ti13),(14,ti14),(18,ti18),(19,ti19),(22,ti22),(23,ti23),(25,ti25),(26,ti26),(27,ti27),(36,ti36),(37,ti37),(56,ti56),(57,ti57),(58,ti58),(59,ti59),(60,ti60),(65,ti65),(68,ti68),(73,ti73),(74,ti74),(80,ti80),(81,ti81),(82,ti82),(83,ti83),(84,ti84),(86,ti86),(87,ti87),(89,ti89),(90,ti90),(94,ti94),(95,ti95),(102,ti102),(109,ti109),(112,ti112),(113,ti113),(114,ti114),(118,ti118),(119,ti119),(120,ti120),(121,ti121),(135,ti135),(136,ti136),(153,ti153),(154,ti154),(155,ti155),(156,ti156),(157,ti157),(158,ti158),(159,ti159),(181,ti181),(182,ti182),(199,ti199),(202,ti202),(203,ti203),(204,ti204),(205,ti205),(206,ti206),(207,ti207),(208,ti208),(209,ti209),(210,ti210),(238,ti238),(244,ti244),(254,ti254),(255,ti255),(263,ti263),(264,ti264),(273,ti273),(274,ti274),(1,ti1),(12,ti12),(15,ti15),(16,ti16),(17,ti17),(20,ti20),(21,ti21),(24,ti24),(28,ti28),(29,ti29),(32,ti32),(34,ti34),(35,ti35),(38,ti38),(39,ti39),(40,ti40),(41,ti41),(42,ti42),(43,ti43),(44,ti44),(45,ti45),(46,ti46),(47,ti47),(48,ti48),(49,ti49),(50,ti50),(53,ti53),(54,ti54),(55,ti55),(62,ti62),(63,ti63),(64,ti64),(67,ti67),(69,ti69),(71,ti71),(72,ti72),(75,ti75),(76,ti76),(77,ti77),(78,ti78),(79,ti79),(85,ti85),(88,ti88),(92,ti92),(93,ti93),(96,ti96),(98,ti98),(99,ti99),(100,ti100),(101,ti101),(103,ti103),(105,ti105),(106,ti106),(107,ti107),(108,ti108),(111,ti111),(115,ti115),(116,ti116),(117,ti117),(122,ti122),(123,ti123),(124,ti124),(126,ti126),(127,ti127),(128,ti128),(129,ti129),(131,ti131),(132,ti132),(133,ti133),(134,ti134),(137,ti137),(138,ti138),(139,ti139),(140,ti140),(142,ti142),(143,ti143),(144,ti144),(145,ti145),(146,ti146),(147,ti147),(148,ti148),(149,ti149),(150,ti150),(151,ti151),(152,ti152),(161,ti161),(162,ti162),(163,ti163),(164,ti164),(165,ti165),(166,ti166),(168,ti168),(170,ti170),(172,ti172),(173,ti173),(174,ti174),(175,ti175),(176,ti176),(177,ti177),(178,ti178),(179,ti179),(180,ti180),(183,ti183),(184,ti184),(186,ti186),(187,ti187),(188,ti188),(189,ti189),(191,ti191),(192,ti192),(193,ti193),(195,ti195),(196,ti196),(197,ti197),(198,ti198),(200,ti200),(201,ti201),(211,ti211),(212,ti212),(213,ti213),(214,ti214),(215,ti215),(217,ti217),(218,ti218),(220,ti220),(221,ti221),(223,ti223),(224,ti224),(225,ti225),(226,ti226),(227,ti227),(228,ti228),(229,ti229),(230,ti230),(231,ti231),(232,ti232),(233,ti233),(234,ti234),(235,ti235),(236,ti236),(237,ti237),(239,ti239),(240,ti240),(241,ti241),(242,ti242),(243,ti243),(246,ti246),(248,ti248),(249,ti249),(250,ti250),(251,ti251),(252,ti252),(253,ti253),(256,ti256),(257,ti257),(258,ti258),(259,ti259),(261,ti261),(262,ti262),(270,ti270),(271,ti271),(272,ti272)]
theorem Aa:TOk Tryz.prog tt:=TOk.cons tiok2 (TOk.cons tiok3 (TOk.cons tiok4 (TOk.cons tiok5 (TOk.cons tiok6 (TOk.cons tiok9 (TOk.cons tiok10 (TOk.cons tiok11 (TOk.cons tiok30 (TOk.cons tiok268 (TOk.cons tiok269 (TOk.cons tiok7 (TOk.cons tiok8 (TOk.cons tiok13 (TOk.cons tiok14 (TOk.cons tiok18 (TOk.cons tiok19 (TOk.cons tiok22 (TOk.cons tiok23 (TOk.cons tiok25 (TOk.cons tiok26 (TOk.cons tiok27 (TOk.cons tiok36 (TOk.cons tiok37 (TOk.cons tiok56 (TOk.cons tiok57 (TOk.cons tiok58 (TOk.cons tiok59 (TOk.cons tiok60 (TOk.cons tiok65 (TOk.cons tiok68 (TOk.cons tiok73 (TOk.cons tiok74 (TOk.cons tiok80 (TOk.cons tiok81 (TOk.cons tiok82 (TOk.cons tiok83 (TOk.cons tiok84 (TOk.cons tiok86 (TOk.cons tiok87 (TOk.cons tiok89 (TOk.cons tiok90 (TOk.cons tiok94 (TOk.cons tiok95 (TOk.cons tiok102 (TOk.cons tiok109 (TOk.cons tiok112 (TOk.cons tiok113 (TOk.cons tiok114 (TOk.cons tiok118 (TOk.cons tiok119 (TOk.cons tiok120 (TOk.cons tiok121 (TOk.cons tiok135 (TOk.cons tiok136 (TOk.cons tiok153 (TOk.cons tiok154 (TOk.cons tiok155 (TOk.cons tiok156 (TOk.cons tiok157 (TOk.cons tiok158 (TOk.cons tiok159 (TOk.cons tiok181 (TOk.cons tiok182 (TOk.cons tiok199 (TOk.cons tiok202 (TOk.cons tiok203 (TOk.cons tiok204 (TOk.cons tiok205 (TOk.cons tiok206 (TOk.cons tiok207 (TOk.cons tiok208 (TOk.cons tiok209 (TOk.cons tiok210 (TOk.cons tiok238 (TOk.cons tiok244 (TOk.cons tiok254 (TOk.cons tiok255 (TOk.cons tiok263 (TOk.cons tiok264 (TOk.cons tiok273 (TOk.cons tiok274 (TOk.cons tiok1 (TOk.cons tiok12 (TOk.cons tiok15 (TOk.cons tiok16 (TOk.cons tiok17 (TOk.cons tiok20 (TOk.cons tiok21 (TOk.cons tiok24 (TOk.cons tiok28 (TOk.cons tiok29 (TOk.cons tiok32 (TOk.cons tiok34 (TOk.cons tiok35 (TOk.cons tiok38 (TOk.cons tiok39 (TOk.cons tiok40 (TOk.cons tiok41 (TOk.cons tiok42 (TOk.cons tiok43 (TOk.cons tiok44 (TOk.cons tiok45 (TOk.cons tiok46 (TOk.cons tiok47 (TOk.cons tiok48 (TOk.cons tiok49 (TOk.cons tiok50 (TOk.cons tiok53 (TOk.cons tiok54 (TOk.cons tiok55 (TOk.cons tiok62 (TOk.cons tiok63 (TOk.cons tiok64 (TOk.cons tiok67 (TOk.cons tiok69 (TOk.cons tiok71 (TOk.cons tiok72 (TOk.cons tiok75 (TOk.cons tiok76 (TOk.cons tiok77 (TOk.cons tiok78 (TOk.cons tiok79 (TOk.cons tiok85 (TOk.cons tiok88 (TOk.cons tiok92 (TOk.cons tiok93 (TOk.cons tiok96 (TOk.cons tiok98 (TOk.cons tiok99 (TOk.cons tiok100 (TOk.cons tiok101 (TOk.cons tiok103 (TOk.cons tiok105 (TOk.cons tiok106 (TOk.cons tiok107 (TOk.cons tiok108 (TOk.cons tiok111 (TOk.cons tiok115 (TOk.cons tiok116 (TOk.cons tiok117 (TOk.cons tiok122 (TOk.cons tiok123 (TOk.cons tiok124 (TOk.cons tiok126 (TOk.cons tiok127 (TOk.cons tiok128 (TOk.cons tiok129 (TOk.cons tiok131 (TOk.cons tiok132 (TOk.cons tiok133 (TOk.cons tiok134 (TOk.cons tiok137 (TOk.cons tiok138 (TOk.cons tiok139 (TOk.cons tiok140 (TOk.cons tiok142 (TOk.cons tiok143 (TOk.cons tiok144 (TOk.cons tiok145 (TOk.cons tiok146 (TOk.cons tiok147 (TOk.cons tiok148 (TOk.cons tiok149 (TOk.cons tiok150 (TOk.cons tiok151 (TOk.cons tiok152 (TOk.cons tiok161 (TOk.cons tiok162 (TOk.cons tiok163 (TOk.cons tiok164 (TOk.cons tiok165 (TOk.cons tiok166 (TOk.cons tiok168 (TOk.cons tiok170 (TOk.cons tiok172 (TOk.cons tiok173 (TOk.cons tiok174 (TOk.cons tiok175 (TOk.cons tiok176 (TOk.cons tiok177 (TOk.cons tiok178 (TOk.cons tiok179 (TOk.cons tiok180 (TOk.cons tiok183 (TOk.cons tiok184 (TOk.cons tiok186 (TOk.cons tiok187 (TOk.cons tiok188 (TOk.cons tiok189 (TOk.cons tiok191 (TOk.cons tiok192 (TOk.cons tiok193 (TOk.cons tiok195 (TOk.cons tiok196 (TOk.cons tiok197 (TOk.cons tiok198 (TOk.cons tiok200 (TOk.cons tiok201 (TOk.cons tiok211 (TOk.cons tiok212 (TOk.cons tiok213 (TOk.cons tiok214 (TOk.cons tiok215 (TOk.cons tiok217 (TOk.cons tiok218 (TOk.cons tiok220 (TOk.cons tiok221 (TOk.cons tiok223 (TOk.cons tiok224 (TOk.cons tiok225 (TOk.cons tiok226 (TOk.cons tiok227 (TOk.cons tiok228 (TOk.cons tiok229 (TOk.cons tiok230 (TOk.cons tiok231 (TOk.cons tiok232 (TOk.cons tiok233 (TOk.cons tiok234 (TOk.cons tiok235 (TOk.cons tiok236 (TOk.cons tiok237 (TOk.cons tiok239 (TOk.cons tiok240 (TOk.cons tiok241 (TOk.cons tiok242 (TOk.cons tiok243 (TOk.cons tiok246 (TOk.cons tiok248 (TOk.cons tiok249 (TOk.cons tiok250 (TOk.cons tiok251 (TOk.cons tiok252 (TOk.cons tiok253 (TOk.cons tiok256 (TOk.cons tiok257 (TOk.cons tiok258 (TOk.cons tiok259 (TOk.cons tiok261 (TOk.cons tiok262 (TOk.cons tiok270 (TOk.cons tiok271 (TOk.cons tiok272 (TOk.nil _))))))))))))))))))))))))))))))))))))))))))))))))))))))))))))))))))))))))))))))))))))))))))))))))))))))))))))))))))))))))))))))))))))))))))))))))))))))))))))))))))))))))))))))))))))))))))))))))))))))))))))))))))))))))))))))))))))))))))))))))))))
theorem fn11:Fn1 Tryz.prog 11:=⟨fun a w=>Ah Tryz.func11 rfl (by kernel_rfl) a w⟩
theorem fn15:Fn1 Tryz.prog 15:=⟨fun a w=>Ah Tryz.func15 rfl (by kernel_rfl) a w⟩
theorem fn16:Fn1 Tryz.prog 16:=⟨fun a w=>Ah Tryz.func16 rfl (by kernel_rfl) a w⟩
theorem fn17:Fn1 Tryz.prog 17:=⟨fun a w=>Ah Tryz.func17 rfl (by kernel_rfl) a w⟩
theorem fn18:Fn1 Tryz.prog 18:=⟨fun a w=>Ah Tryz.func18 rfl (by kernel_rfl) a w⟩
theorem fn19:Fn1 Tryz.prog 19:=⟨fun a w=>Ah Tryz.func19 rfl (by kernel_rfl) a w⟩
theorem fn23:Fn1 Tryz.prog 23:=⟨fun a w=>Ah Tryz.func23 rfl (by kernel_rfl) a w⟩
theorem fn24:Fn1 Tryz.prog 24:=⟨fun a w=>Ah Tryz.func24 rfl (by kernel_rfl) a w⟩
theorem fn28:Fn1 Tryz.prog 28:=⟨fun a w=>Ah Tryz.func28 rfl (by kernel_rfl) a w⟩
theorem fn29:Fn1 Tryz.prog 29:=⟨fun a w=>Ah Tryz.func29 rfl (by kernel_rfl) a w⟩
theorem fn30:Fn1 Tryz.prog 30:=⟨fun a w=>Ah Tryz.func30 rfl (by kernel_rfl) a w⟩
theorem fn31:Fn1 Tryz.prog 31:=⟨fun a w=>Ah Tryz.func31 rfl (by kernel_rfl) a w⟩
theorem fn32:Fn1 Tryz.prog 32:=⟨fun a w=>Ah Tryz.func32 rfl (by kernel_rfl) a w⟩
theorem fn33:Fn1 Tryz.prog 33:=⟨fun a w=>Ah Tryz.func33 rfl (by kernel_rfl) a w⟩
theorem fn34:Fn1 Tryz.prog 34:=⟨fun a w=>Ah Tryz.func34 rfl (by kernel_rfl) a w⟩
theorem fn35:Fn1 Tryz.prog 35:=⟨fun a w=>Ah Tryz.func35 rfl (by kernel_rfl) a w⟩
theorem fn36:Fn1 Tryz.prog 36:=⟨fun a w=>Ah Tryz.func36 rfl (by kernel_rfl) a w⟩
theorem fn37:Fn1 Tryz.prog 37:=⟨fun a w=>Ah Tryz.func37 rfl (by kernel_rfl) a w⟩
theorem fn38:Fn1 Tryz.prog 38:=⟨fun a w=>Ah Tryz.func38 rfl (by kernel_rfl) a w⟩
theorem fn39:Fn1 Tryz.prog 39:=⟨fun a w=>Ah Tryz.func39 rfl (by kernel_rfl) a w⟩
theorem fn40:Fn1 Tryz.prog 40:=⟨fun a w=>Ah Tryz.func40 rfl (by kernel_rfl) a w⟩
theorem fn50:Fn1 Tryz.prog 50:=⟨fun a w=>Ah Tryz.func50 rfl (by kernel_rfl) a w⟩
theorem fn51:Fn1 Tryz.prog 51:=⟨fun a w=>Ah Tryz.func51 rfl (by kernel_rfl) a w⟩
theorem fn52:Fn1 Tryz.prog 52:=⟨fun a w=>Ah Tryz.func52 rfl (by kernel_rfl) a w⟩
theorem fn53:Fn1 Tryz.prog 53:=⟨fun a w=>Ah Tryz.func53 rfl (by kernel_rfl) a w⟩
theorem fn54:Fn1 Tryz.prog 54:=⟨fun a w=>Ah Tryz.func54 rfl (by kernel_rfl) a w⟩
theorem fn55:Fn1 Tryz.prog 55:=⟨fun a w=>Ah Tryz.func55 rfl (by kernel_rfl) a w⟩
theorem fn56:Fn1 Tryz.prog 56:=⟨fun a w=>Ah Tryz.func56 rfl (by kernel_rfl) a w⟩
theorem fn57:Fn1 Tryz.prog 57:=⟨fun a w=>Ah Tryz.func57 rfl (by kernel_rfl) a w⟩
theorem fn58:Fn1 Tryz.prog 58:=⟨fun a w=>Ah Tryz.func58 rfl (by kernel_rfl) a w⟩
theorem fn59:Fn1 Tryz.prog 59:=⟨fun a w=>Ah Tryz.func59 rfl (by kernel_rfl) a w⟩
theorem fn60:Fn1 Tryz.prog 60:=⟨fun a w=>Ah Tryz.func60 rfl (by kernel_rfl) a w⟩
theorem fn61:Fn1 Tryz.prog 61:=⟨fun a w=>Ah Tryz.func61 rfl (by kernel_rfl) a w⟩
theorem fn62:Fn1 Tryz.prog 62:=⟨fun a w=>Ah Tryz.func62 rfl (by kernel_rfl) a w⟩
theorem fn63:Fn1 Tryz.prog 63:=⟨fun a w=>Ah Tryz.func63 rfl (by kernel_rfl) a w⟩
theorem fn64:Fn1 Tryz.prog 64:=⟨fun a w=>Ah Tryz.func64 rfl (by kernel_rfl) a w⟩
theorem fn65:Fn1 Tryz.prog 65:=⟨fun a w=>Ah Tryz.func65 rfl (by kernel_rfl) a w⟩
theorem fn66:Fn1 Tryz.prog 66:=⟨fun a w=>Ah Tryz.func66 rfl (by kernel_rfl) a w⟩
theorem fn67:Fn1 Tryz.prog 67:=⟨fun a w=>Ah Tryz.func67 rfl (by kernel_rfl) a w⟩
theorem fn68:Fn1 Tryz.prog 68:=⟨fun a w=>Ah Tryz.func68 rfl (by kernel_rfl) a w⟩
theorem fn69:Fn1 Tryz.prog 69:=⟨fun a w=>Ah Tryz.func69 rfl (by kernel_rfl) a w⟩
theorem fn70:Fn1 Tryz.prog 70:=⟨fun a w=>Ah Tryz.func70 rfl (by kernel_rfl) a w⟩
theorem fn71:Fn1 Tryz.prog 71:=⟨fun a w=>Ah Tryz.func71 rfl (by kernel_rfl) a w⟩
theorem fn72:Fn1 Tryz.prog 72:=⟨fun a w=>Ah Tryz.func72 rfl (by kernel_rfl) a w⟩
theorem fn73:Fn1 Tryz.prog 73:=⟨fun a w=>Ah Tryz.func73 rfl (by kernel_rfl) a w⟩
theorem fn74:Fn1 Tryz.prog 74:=⟨fun a w=>Ah Tryz.func74 rfl (by kernel_rfl) a w⟩
theorem fn75:Fn1 Tryz.prog 75:=⟨fun a w=>Ah Tryz.func75 rfl (by kernel_rfl) a w⟩
theorem fn76:Fn1 Tryz.prog 76:=⟨fun a w=>Ah Tryz.func76 rfl (by kernel_rfl) a w⟩
theorem fn88:Fn1 Tryz.prog 88:=⟨fun a w=>Ah Tryz.func88 rfl (by kernel_rfl) a w⟩
theorem fn89:Fn1 Tryz.prog 89:=⟨fun a w=>Ah Tryz.func89 rfl (by kernel_rfl) a w⟩
theorem fn90:Fn1 Tryz.prog 90:=⟨fun a w=>Ah Tryz.func90 rfl (by kernel_rfl) a w⟩
theorem fn91:Fn1 Tryz.prog 91:=⟨fun a w=>Ah Tryz.func91 rfl (by kernel_rfl) a w⟩
theorem fn92:Fn1 Tryz.prog 92:=⟨fun a w=>Ah Tryz.func92 rfl (by kernel_rfl) a w⟩
theorem fn93:Fn1 Tryz.prog 93:=⟨fun a w=>Ah Tryz.func93 rfl (by kernel_rfl) a w⟩
theorem fn94:Fn1 Tryz.prog 94:=⟨fun a w=>Ah Tryz.func94 rfl (by kernel_rfl) a w⟩
theorem fn95:Fn1 Tryz.prog 95:=⟨fun a w=>Ah Tryz.func95 rfl (by kernel_rfl) a w⟩
theorem fn96:Fn1 Tryz.prog 96:=⟨fun a w=>Ah Tryz.func96 rfl (by kernel_rfl) a w⟩
theorem fn97:Fn1 Tryz.prog 97:=⟨fun a w=>Ah Tryz.func97 rfl (by kernel_rfl) a w⟩
theorem fn99:Fn1 Tryz.prog 99:=⟨fun a w=>Ah Tryz.func99 rfl (by kernel_rfl) a w⟩
theorem fn100:Fn1 Tryz.prog 100:=⟨fun a w=>Ah Tryz.func100 rfl (by kernel_rfl) a w⟩
theorem fn101:Fn1 Tryz.prog 101:=⟨fun a w=>Ah Tryz.func101 rfl (by kernel_rfl) a w⟩
theorem fn102:Fn1 Tryz.prog 102:=⟨fun a w=>Ah Tryz.func102 rfl (by kernel_rfl) a w⟩
theorem fn103:Fn1 Tryz.prog 103:=⟨fun a w=>Ah Tryz.func103 rfl (by kernel_rfl) a w⟩
theorem fn104:Fn1 Tryz.prog 104:=⟨fun a w=>Ah Tryz.func104 rfl (by kernel_rfl) a w⟩
theorem fn105:Fn1 Tryz.prog 105:=⟨fun a w=>Ah Tryz.func105 rfl (by kernel_rfl) a w⟩
theorem fn106:Fn1 Tryz.prog 106:=⟨fun a w=>Ah Tryz.func106 rfl (by kernel_rfl) a w⟩
theorem fn107:Fn1 Tryz.prog 107:=⟨fun a w=>Ah Tryz.func107 rfl (by kernel_rfl) a w⟩
theorem fn108:Fn1 Tryz.prog 108:=⟨fun a w=>Ah Tryz.func108 rfl (by kernel_rfl) a w⟩
theorem fn123:Fn1 Tryz.prog 123:=⟨fun a w=>Ah Tryz.func123 rfl (by kernel_rfl) a w⟩
theorem fn124:Fn1 Tryz.prog 124:=⟨fun a w=>Ah Tryz.func124 rfl (by kernel_rfl) a w⟩
theorem fn125:Fn1 Tryz.prog 125:=⟨fun a w=>Ah Tryz.func125 rfl (by kernel_rfl) a w⟩
theorem fn126:Fn1 Tryz.prog 126:=⟨fun a w=>Ah Tryz.func126 rfl (by kernel_rfl) a w⟩
theorem fn127:Fn1 Tryz.prog 127:=⟨fun a w=>Ah Tryz.func127 rfl (by kernel_rfl) a w⟩
theorem fn128:Fn1 Tryz.prog 128:=⟨fun a w=>Ah Tryz.func128 rfl (by kernel_rfl) a w⟩
theorem fn129:Fn1 Tryz.prog 129:=⟨fun a w=>Ah Tryz.func129 rfl (by kernel_rfl) a w⟩
theorem fn130:Fn1 Tryz.prog 130:=⟨fun a w=>Ah Tryz.func130 rfl (by kernel_rfl) a w⟩
theorem fn131:Fn1 Tryz.prog 131:=⟨fun a w=>Ah Tryz.func131 rfl (by kernel_rfl) a w⟩
theorem fn134:Fn1 Tryz.prog 134:=⟨fun a w=>Ah Tryz.func134 rfl (by kernel_rfl) a w⟩
theorem fn135:Fn1 Tryz.prog 135:=⟨fun a w=>Ah Tryz.func135 rfl (by kernel_rfl) a w⟩
theorem fn136:Fn1 Tryz.prog 136:=⟨fun a w=>Ah Tryz.func136 rfl (by kernel_rfl) a w⟩
theorem fn137:Fn1 Tryz.prog 137:=⟨fun a w=>Ah Tryz.func137 rfl (by kernel_rfl) a w⟩
theorem fn138:Fn1 Tryz.prog 138:=⟨fun a w=>Ah Tryz.func138 rfl (by kernel_rfl) a w⟩
theorem fn147:Fn1 Tryz.prog 147:=⟨fun a w=>Ah Tryz.func147 rfl (by kernel_rfl) a w⟩
theorem fn150:Fn1 Tryz.prog 150:=⟨fun a w=>Ah Tryz.func150 rfl (by kernel_rfl) a w⟩
theorem fn151:Fn1 Tryz.prog 151:=⟨fun a w=>Ah Tryz.func151 rfl (by kernel_rfl) a w⟩
theorem fn152:Fn1 Tryz.prog 152:=⟨fun a w=>Ah Tryz.func152 rfl (by kernel_rfl) a w⟩
theorem fn153:Fn1 Tryz.prog 153:=⟨fun a w=>Ah Tryz.func153 rfl (by kernel_rfl) a w⟩
theorem fn155:Fn1 Tryz.prog 155:=⟨fun a w=>Ah Tryz.func155 rfl (by kernel_rfl) a w⟩
theorem fn156:Fn1 Tryz.prog 156:=⟨fun a w=>Ah Tryz.func156 rfl (by kernel_rfl) a w⟩
theorem fn157:Fn1 Tryz.prog 157:=⟨fun a w=>Ah Tryz.func157 rfl (by kernel_rfl) a w⟩
theorem fn164:Fn1 Tryz.prog 164:=⟨fun a w=>Ah Tryz.func164 rfl (by kernel_rfl) a w⟩
theorem fn165:Fn1 Tryz.prog 165:=⟨fun a w=>Ah Tryz.func165 rfl (by kernel_rfl) a w⟩
theorem fn166:Fn1 Tryz.prog 166:=⟨fun a w=>Ah Tryz.func166 rfl (by kernel_rfl) a w⟩
open Go.RowKit
def wN:List Nat→Nat
 |[]=>0
 |w::r=>2^64*wN r+w
def okW (W:List Nat):Prop:=∀w∈W,w<2^64
theorem wN_bit:∀(W:List Nat),okW W→∀i,(wN W).testBit i=(W.getD (i / 64) 0).testBit (i%64)
 |[],_,i=>by simp[wN]
 |w::r,h,i=>by
  have hw:=h w List.mem_cons_self
  have ih:=wN_bit r (fun x hx=>h x (List.mem_cons_of_mem _ hx))
  rw[wN,Nat.testBit_two_pow_mul_add _ hw]
  split
  rename_i hi
  rw[Nat.div_eq_of_lt hi,Nat.mod_eq_of_lt hi];rfl
  rename_i hi
  rw[ih,show i / 64=(i-64) / 64+1 by omega,show i%64=(i-64)%64 by omega];rfl
theorem okW_getD {W:List Nat} (h:okW W) (i:Nat):W.getD i 0<2^64:=by
 rw[List.getD_eq_getElem?_getD]
 cases hi:W[i]? with
 |none=>exact Nat.two_pow_pos 64
 |some x=>exact h x (List.mem_of_getElem? hi)
abbrev u64Y:Lay Nat:=⟨[fun n=>.int .u64 (n:Int)],0⟩
theorem wrapU {n:Nat} (h:n<2^64):IntKind.u64.wrap (n:Int)=n:=by
 have h:n<18446744073709551616:=h
 simp[IntKind.wrap,IntKind.bits,IntKind.signed]
 omega
theorem run_shrU {P:Program} (t:TypeId) (a m:Nat) (hm:m<64) (w:World):(binOp .shr t (.int .u64 a) (.int .i64 m):Sem Value).run P w=.ok (.int .u64 ((a >>> m:Nat):Int)) w:=by
 simp only[binOp,Op.shift]
 rw[if_neg (by omega)]
 have e:min ((m:Int).toNat) IntKind.u64.bits=m:=by
  have:IntKind.u64.bits=64:=rfl
  omega
 rw[e]
 have e2:(a:Int).fdiv (2^m)=((a >>> m:Nat):Int):=by
  rw[Nat.shiftRight_eq_div_pow,Int.fdiv_eq_ediv_of_nonneg _ (Int.pow_nonneg (by decide))]
  simp
 rw[e2];rfl
theorem run_andU {P:Program} (t:TypeId) (a b:Nat) (ha:a<2^64) (hb:b<2^64) (w:World):(binOp .and t (.int .u64 a) (.int .u64 b):Sem Value).run P w=.ok (.int .u64 ((a &&& b:Nat):Int)) w:=by
 rw[binOp_and]
 simp only[Op.intBits]
 have e1:BitVec.ofInt IntKind.u64.bits (a:Int)=BitVec.ofNat 64 a:=BitVec.ofInt_natCast 64 a
 have e2:BitVec.ofInt IntKind.u64.bits (b:Int)=BitVec.ofNat 64 b:=BitVec.ofInt_natCast 64 b
 rw[e1,e2]
 have e3:(BitVec.ofNat 64 a &&& BitVec.ofNat 64 b).toNat=a &&& b:=by
  rw[BitVec.toNat_and,BitVec.toNat_ofNat,BitVec.toNat_ofNat,Nat.mod_eq_of_lt ha,Nat.mod_eq_of_lt hb]
 show Sem.run P (pure (Value.int .u64 (IntKind.u64.wrap (((BitVec.ofNat 64 a &&& BitVec.ofNat 64 b).toNat:Nat):Int)))) w=_
 rw[e3,wrapU (Nat.and_lt_two_pow _ hb)];rfl
theorem run_orU {P:Program} (t:TypeId) (a b:Nat) (ha:a<2^64) (hb:b<2^64) (w:World):(binOp .or t (.int .u64 a) (.int .u64 b):Sem Value).run P w=.ok (.int .u64 ((a ||| b:Nat):Int)) w:=by
 rw[binOp_or]
 simp only[Op.intBits]
 have e1:BitVec.ofInt IntKind.u64.bits (a:Int)=BitVec.ofNat 64 a:=BitVec.ofInt_natCast 64 a
 have e2:BitVec.ofInt IntKind.u64.bits (b:Int)=BitVec.ofNat 64 b:=BitVec.ofInt_natCast 64 b
 rw[e1,e2]
 have e3:(BitVec.ofNat 64 a ||| BitVec.ofNat 64 b).toNat=a ||| b:=by
  rw[BitVec.toNat_or,BitVec.toNat_ofNat,BitVec.toNat_ofNat,Nat.mod_eq_of_lt ha,Nat.mod_eq_of_lt hb]
 show Sem.run P (pure (Value.int .u64 (IntKind.u64.wrap (((BitVec.ofNat 64 a ||| BitVec.ofNat 64 b).toNat:Nat):Int)))) w=_
 rw[e3,wrapU (Nat.or_lt_two_pow ha hb)];rfl
def subU (a b:Nat):Nat:=(BitVec.ofNat 64 a &&& ~~~BitVec.ofNat 64 b).toNat
theorem run_andNotU {P:Program} (t:TypeId) (a b:Nat) (w:World):(binOp .andNot t (.int .u64 a) (.int .u64 b):Sem Value).run P w=.ok (.int .u64 ((subU a b:Nat):Int)) w:=by
 rw[binOp_andNot]
 simp only[Op.intBits]
 have e1:BitVec.ofInt IntKind.u64.bits (a:Int)=BitVec.ofNat 64 a:=BitVec.ofInt_natCast 64 a
 have e2:BitVec.ofInt IntKind.u64.bits (b:Int)=BitVec.ofNat 64 b:=BitVec.ofInt_natCast 64 b
 rw[e1,e2]
 show Sem.run P (pure (Value.int .u64 (IntKind.u64.wrap (((BitVec.ofNat 64 a &&& ~~~BitVec.ofNat 64 b).toNat:Nat):Int)))) w=_
 rw[wrapU (BitVec.isLt _)];rfl
theorem run_shlU {P:Program} (t:TypeId) (m:Nat) (hm:m<64) (w:World):(binOp .shl t (.int .u64 1) (.int .i64 m):Sem Value).run P w=.ok (.int .u64 ((1 <<< m:Nat):Int)) w:=by
 simp only[binOp,Op.shift]
 rw[if_neg (by omega)]
 have e:min ((m:Int).toNat) IntKind.u64.bits=m:=by
  have:IntKind.u64.bits=64:=rfl
  omega
 rw[e]
 have e2:(1:Int) * (2:Int)^m=((1 <<< m:Nat):Int):=by
  rw[Nat.shiftLeft_eq];simp
 rw[e2,wrapU (by rw[Nat.shiftLeft_eq,Nat.one_mul];exact Nat.pow_lt_pow_right (by decide) hm)];rfl
theorem subU_zero {a b:Nat} (ha:a<2^64) (hb:b<2^64):subU a b=0↔∀i,a.testBit i=true→b.testBit i=true:=by
 have hbit:∀i,i<64→(subU a b).testBit i=(a.testBit i&&!b.testBit i):=fun i hi=>by
  unfold subU
  rw[←BitVec.getLsbD,BitVec.getLsbD_and,BitVec.getLsbD_not,BitVec.getLsbD_ofNat,BitVec.getLsbD_ofNat]
  simp[hi]
 constructor
 intro h i hi
 rcases Nat.lt_or_ge i 64 with h1|h1
 have:=hbit i h1
 rw[h,Nat.zero_testBit,hi]at this
 simpa using this.symm
 rw[Nat.testBit_lt_two_pow (Nat.lt_of_lt_of_le ha (Nat.pow_le_pow_right (by decide) h1))]at hi;cases hi
 intro h
 refine Nat.eq_of_testBit_eq (fun i=>?_)
 rw[Nat.zero_testBit]
 rcases Nat.lt_or_ge i 64 with h1|h1
 rw[hbit i h1]
 cases ha':a.testBit i with
 |false=>rfl
 |true=>rw[h i ha'];rfl
 exact Nat.testBit_lt_two_pow (Nat.lt_of_lt_of_le (BitVec.isLt _) (Nat.pow_le_pow_right (by decide) h1))
def Bk (u:Im) (p:Option Addr) (n:Nat):Prop:=match p with
 |none=>n=0
 |some ad=>∃b x W,ad=⟨b,0,none⟩∧u.h b=some (.cells #[x] 203 (0,0))∧Aw u x (u64Y.d W)∧okW W∧wN W=n∧W.length≤1000000
theorem Bk.sub {u u':Im} {p:Option Addr} {n:Nat} (h:Bk u p n) (hu:u.sub u'):Bk u' p n:=by
 cases p with
 |none=>exact h
 |some ad=>
  obtain⟨b,x,W,h1,h2,h3,h4,h5,h6⟩:=h
  exact⟨b,x,W,h1,hu.h _ _ h2,h3.sub hu,h4,h5,h6⟩
theorem Bk.blk {u:Im} {p:Option Addr} {n:Nat} (h:Bk u p n):BlkAt u p:=fun x hx=>by
 subst hx
 obtain⟨b,y,W,h1,h2,_⟩:=h
 subst h1
 exact⟨_,_,h2⟩
theorem has_any (p:Option Addr) (n i:Nat) (w:World) (h:Bk (im w) p n) (hi:i≤4611686018427387904):Calls Tryz.prog 100 #[.pointer p,.int .i64 (i:Int)] w (Bc w fun v _=>v=.bool (n.testBit i)):=by
 refine Bq Aa Tryz.func100 O O [] 0 [.v (.pointer p),.v (.int .i64 (i:Int))] O O O O (fun b hb=>by cases hb) ?_
 refine Ao Aa ?_
 cases p with
 |none=>
  refine xl_binV (.bool false) O O O O O O (fun w=>eqGuardP _ _ _ _ _ _ w) (fun _ w hw=>run_neP rfl (Aa 203 _ rfl) (by decide) hw (blk_none _) (blk_none _)) ?_
  refine Ab Aa ?_
  repeat refine sdI ?_
  refine xl_skip 7 (.pointer none) O O O O O (by decide) ?_
  refine xl_skip 7 (.pointer none) O O O O O (by decide) ?_
  refine xl_skip 7 (.slice none 0 0) O O O O O (by decide) ?_
  refine Ab Aa ?_
  repeat refine sdI ?_
  refine xl_skip 17 (.pointer none) O O O O O (by simp) ?_
  refine xl_skip 17 (.pointer none) O O O O O (by simp) ?_
  refine xl_skip 17 (.slice none 0 0) O O O O O (by simp) ?_
  refine Ab Aa ?_
  repeat refine sdI ?_
  refine xl_skip 17 (.pointer none) O O O O O (by simp) ?_
  refine xl_skip 17 (.int .u64 0) O O O O O (by simp) ?_
  refine Ab Aa ?_
  repeat refine sdI ?_
  refine xl_skip 17 (.int .u64 0) O O O O O (by simp) ?_
  refine xl_skip 17 (.int .u64 0) O O O O O (by simp) ?_
  refine Ab Aa ?_
  exact Ay (fun _ _=>by
   have h:n=0:=h
   subst h
   rw[Nat.zero_testBit];rfl)
 |some ad=>
  have hb:=h.blk
  obtain⟨b,x,W,rfl,h2,h3,h4,h5,h6⟩:=h
  obtain⟨A,c,rfl⟩:=h3.form
  refine xl_binV (.bool true) O O O O O O (fun w=>eqGuardP _ _ _ _ _ _ w) (fun _ w hw=>run_neP rfl (Aa 203 _ rfl) (by decide) hw hb (blk_none _)) ?_
  refine Ab Aa ?_
  repeat refine sdI ?_
  refine xl_ptrG 11 [.slice A (u64Y.d W).n c] rfl (ptAt_box h2) ?_
  refine Ab Aa ?_
  repeat refine sdI ?_
  refine xl_ptrG 19 [.slice A (u64Y.d W).n c] rfl (ptAt_box h2) ?_
  refine Ab Aa ?_
  repeat refine sdI ?_
  refine xl_slG 21 rfl h3 ?_
  refine Ab Aa ?_
  repeat refine sdI ?_
  have hm:i%64<64:=Nat.mod_lt _ (by decide)
  have e0:((i:Int)%64)=((i%64:Nat):Int):=by omega
  have e1:W.getD ((i:Int) / 64).toNat 0=W.getD (i / 64) 0:=by rw[show((i:Int) / 64).toNat=i / 64 by omega]
  have hw:=okW_getD h4 (i / 64)
  refine xl_binV (.int .u64 ((W.getD (i / 64) 0 >>> (i%64):Nat):Int)) O O O O O O (fun w=>rfl) (fun _ w _=>by
   show(binOp .shr 201 (.int .u64 ((W.getD ((i:Int) / 64).toNat 0:Nat):Int)) (.int .i64 ((i:Int)%64)):Sem Value).run _ w=_
   rw[e0,e1]
   exact run_shrU 201 _ _ hm w) ?_
  refine Ab Aa ?_
  refine xl_binV (.int .u64 ((W.getD (i / 64) 0 >>> (i%64) &&& 1:Nat):Int)) O O O O O O (fun w=>rfl) (fun _ w _=>run_andU 201 _ 1 (Nat.lt_of_le_of_lt (Nat.shiftRight_le _ _) hw) (by decide) w) ?_
  refine Ab Aa ?_
  exact Ay (fun _ _=>by
   show Value.bool ((true&&decide ((i:Int) / 64<((u64Y.d W).n:Nat)))&&decide (((W.getD (i / 64) 0 >>> (i%64) &&& 1:Nat):Int)≠0))=_
   rw[←h5,wN_bit W h4]
   congr 1
   rw[Lay.d_n,Nat.testBit]
   by_cases hl:i / 64<W.length
   rw[decide_eq_true (show(i:Int) / 64<(W.length:Nat) by omega)]
   rw[Nat.and_comm]
   generalize 1 &&& W.getD (i / 64) 0 >>> (i%64)=v
   cases v with
   |zero=>rfl
   |succ k=>rw[decide_eq_true (show((k+1:Nat):Int)≠0 by omega)];rfl
   rw[decide_eq_false (show ¬(i:Int) / 64<(W.length:Nat) by omega),List.getD_eq_getElem?_getD,List.getElem?_eq_none (by omega)]
   simp)
end Go.Proofs.YtnjlkdhdinfejaaGreat
namespace Go.GV
open Go.RowKit
theorem xl_copy {α:Type} {T:TT} {C:Cx} (hT:TOk C.P T) {all:List Oper} {o:Oper} {r:List Oper} {Q:Bb} {kn:Kn} {gk:List (Nat×(Gd×SV))} {ow:Own} {nx:Nat} {u:Im}
 (Y:Lay α) (L S:List α) {t t' e k d:Nat} {dv sv:Operand} {ti te:TI} {z:SV}
 (ho:o.op=.call {callee:=.builtin .copy,args:=#[dv,sv],argTypes:=#[t,t']}) (hgd:o.guard=none) (hd:o.dst=some d) (hfr:Bg C.N ⟨kn,gk,ow,nx⟩ d []=true)
 (hti:look T t=some ti) (hsh:ti.shp=.slice e) (hte:look T e=some te) (hsz:te.sz=1) (hY:Y.fs.length=1)
 (hdv:opd ⟨kn,gk,ow,nx⟩ [] dv=some (.r k)) (hk:look ow k=some (.row e (Y.d L)))
 (hz:opd ⟨kn,gk,ow,nx⟩ [] sv=some z) (hx:∀E w F,Sat E ow nx u [] w F→Aw (im w) (z.den E) (Y.d S)) (hone:∀x,∀y∈Y.el x,oneB y=true)
 (K:XL C all r Q ⟨(d,.v (.int .i64 ((min S.length L.length:Nat):Int)))::kn,gk,(k,.row e (Y.d (S.take L.length++L.drop S.length)))::ow,nx⟩ u):XL C all (o::r) Q ⟨kn,gk,ow,nx⟩ u:=by
 unfold XL at K ⊢
 intro E a w hok
 obtain⟨f,hsat⟩:=hok.sat
 have hgs:gs a.tmps []:=fun x hx=>by cases hx
 have htek:=hT _ _ hte
 have hu:=(hT _ _ hti).isSlice hsh
 obtain⟨e1,_⟩:=Al hok.agr hgs hdv
 obtain⟨e2,_⟩:=Al hok.agr hgs hz
 have hinf:(C.P.info? e).map (·.size)=some 1:=by
  have hi:=htek.info
  cases hq:C.P.info? e with
  |none=>rw[hq]at hi;cases hi
  |some i=>
   rw[hq]at hi
   simp only[Option.map_some,Option.some.injEq,Prod.mk.injEq]at hi
   rw[Option.map_some,hi.1,hsz]
 obtain⟨A,cp,hzv,_,_,hcell⟩:=hx E w f hsat.unmarked
 rw[Lay.d_n]at hzv hcell
 obtain⟨hrow,hF⟩:=hsat.holds k _ hk
 have hflatS:∀j v,(Y.d S).flat[j]?=some v→∃ad,A=some ad∧w.cell? (ad.add j)=some v:=fun j v hj=>by
  have hjl:j<S.length:=by
   have:=(List.getElem?_eq_some_iff.1 hj).1
   rw[flat_length,Lay.d_n,Lay.cs_length,hY,Nat.mul_one]at this
   exact this
  obtain⟨ad,h1,h2⟩:=hcell (by omega)
  refine⟨ad,h1,?_⟩
  obtain⟨g,hg⟩:∃g,(Y.d S).cs[0]?=some g:=⟨_,List.getElem?_eq_getElem (by rw[Lay.cs_length,hY];decide)⟩
  have h3:=h2 j hjl 0 g hg
  have h4:=flat_get (Y.d S) (i:=j) (by rw[Lay.d_n];exact hjl) hg
  rw[Lay.cs_length,hY,Nat.mul_one,Nat.add_zero]at h3 h4
  rw[h4]at hj
  cases hj
  exact(imm_im w).cell h3
 have key:∃w',(Builtin.copy_ #[t,t'] o.type #[E k,z.den E]).run C.P w=.ok (.int .i64 ((min S.length L.length:Nat):Int)) w'∧w'.heap.size=w.heap.size∧w'.os=w.os∧w'.tape=w.tape∧w'.output=w.output ∧
  (∀b,¬f k b→w'.heap[b]?=w.heap[b]?)∧w'.ownsRow 0 e 1 (E k) L.length (Y.d (S.take L.length++L.drop S.length)).flat:=by
  have hrow':w.ownsRow 0 e 1 (E k) L.length (Y.d L).flat:=by
   have:=hrow
   rw[Lay.cs_length,hY,Lay.d_n]at this
   exact this
  by_cases hm:min S.length L.length=0
  have hsame:S.take L.length++L.drop S.length=L:=by
   rcases Nat.eq_zero_or_pos S.length with h0|h0
   rw[List.eq_nil_of_length_eq_zero h0];simp
   have hl0:L.length=0:=by omega
   rw[List.eq_nil_of_length_eq_zero hl0];simp
  refine⟨w,?_,rfl,rfl,rfl,rfl,fun _ _=>rfl,by rw[hsame];exact hrow'⟩
  rw[hm]
  obtain⟨B,c2,hv⟩:∃B c2,E k=.slice B L.length c2:=by
   rcases hrow'.2 with⟨h1,h0⟩|⟨g,cap,cur,hv,_⟩
   exact⟨none,0,by rw[h1,h0]⟩
   exact⟨_,_,hv⟩
  rw[hv,hzv]
  exact run_copy_none (P:=C.P) w t t' o.type e B A L.length c2 S.length cp hu hinf hm
  rcases hrow'.2 with⟨_,h0⟩|⟨g,cap,cur,hv,h10,hg,hnc,hcm,hcs',htake⟩
  omega
  rw[Nat.mul_one]at hcs' htake
  obtain⟨cs,hcs⟩:∃cs,cs=((Y.d S).flat).take (min S.length L.length):=⟨_,rfl⟩
  have hfl:(Y.d S).flat.length=S.length:=by rw[flat_length,Lay.d_n,Lay.cs_length,hY,Nat.mul_one]
  have hcl:cs.length=min S.length L.length:=by rw[hcs,List.length_take,hfl];omega
  obtain⟨ad,hA,_⟩:=hcell (by omega)
  have hone':∀v∈cs,v.oneCell'=true:=fun v hv=>by
   rw[hcs]at hv
   have hv:=List.mem_of_mem_take hv
   rw[Lay.flat]at hv
   obtain⟨x,_,hx⟩:=List.mem_flatMap.1 hv
   have:=hone x v hx
   cases v<;>first|rfl|cases this
  have hrun:=run_copy_row (P:=C.P) w t t' o.type e g 0 L.length cap ad S.length cp cur e cs hu hinf hg (by rw[hcl])
   (fun j v hj=>by
    rw[hcs,List.getElem?_take]at hj
    split at hj
    obtain⟨ad',h1,h2⟩:=hflatS j v hj
    rw[hA]at h1;cases h1;exact h2
    cases hj) (by omega) hone'
  refine⟨w.setRow g (cur.toList.take 0++cs++cur.toList.drop (0+cs.length)).toArray,?_,?_,rfl,rfl,rfl,fun b hb=>setRow_other w g b _ (fun e=>hb (e▸(hF g).2 (by rw[hv];rfl))),?_⟩
  rw[hv,hzv,hA,hrun,hcl];rfl
  simp[World.setRow]
  have hnl:(S.take L.length++L.drop S.length).length=L.length:=by simp;omega
  refine⟨by rw[flat_length,Lay.d_n,Lay.cs_length,hY,hnl],.inr ⟨g,cap,_,hv,Nat.zero_le _,setRow_heap w g _ _ _ _ hg,hnc,hcm,?_,?_⟩⟩
  simp only[List.size_toArray,List.length_append,List.length_take,List.length_drop,Array.length_toList,Nat.mul_one]
  omega
  have h1:(Y.d (S.take L.length++L.drop S.length)).flat=cs++(Y.d L).flat.drop cs.length:=by
   obtain⟨f0,hf0⟩:∃f0,Y.fs=[f0]:=by
    cases hys:Y.fs with
    |nil=>rw[hys]at hY;cases hY
    |cons f0 r=>
     rw[hys]at hY
     cases r with
     |nil=>exact⟨f0,rfl⟩
     |cons _ _=>simp at hY
   have hmap:∀M:List α,(Y.d M).flat=M.map f0:=fun M=>by
    rw[Lay.flat]
    induction M with
    |nil=>rfl
    |cons x M ih=>rw[List.flatMap_cons,ih];simp[Lay.el,hf0]
   rw[hmap,hmap,hcs,hmap,List.map_append,List.map_take,List.map_drop,List.length_take,List.length_map]
   rcases Nat.le_total S.length L.length with hle|hle
   rw[Nat.min_eq_left hle,List.take_of_length_le (by simpa using hle),List.take_of_length_le (by simp),Nat.min_self]
   rw[Nat.min_eq_right hle,Nat.min_eq_left hle,List.drop_of_length_le (by simpa using hle),List.drop_of_length_le (by simp)]
  rw[h1,←htake]
  simp only[List.take_zero,List.nil_append,Nat.zero_add,Nat.mul_one]
  rw[List.take_append,List.take_of_length_le (by omega),List.drop_take]
 obtain⟨w',hrun0,h2,h3,h4,h5,h6,hown⟩:=key
 have hrun:(execOp a.eval o).run C.P w=.ok (.value (.int .i64 ((min S.length L.length:Nat):Int))) w':=by
  simp only[SV.den]at e1
  simp[execOp,ho,resolve,invoke,builtin,e1,e2,hrun0,Result.andThen]
 refine xl_wp hgd (fun c hc=>by rw[ho]at hc;cases hc) hrun ?_
 rw[hd]
 have hkl:=(hsat.lt k _ hk).1
 have hnl:(S.take L.length++L.drop S.length).length=L.length:=by simp;omega
 have hsat2:Sat E ((k,.row e (Y.d (S.take L.length++L.drop S.length)))::ow) nx u a.defers w' f:=by
  refine hsat.step (fun j=>j=k) (fun _ _=>rfl) (Nat.le_refl _) (Im.le.refl u) ?_ (Nat.le_of_eq h2.symm) (fun b _ hb=>h6 b (fun hh=>hb k rfl hh)) ?_ ?_ ?_ (fun b o ho=>.inl ho)
  refine⟨fun b y hy=>?_,h3.trans hsat.imm.os,h4.trans hsat.imm.tape,h5.trans hsat.imm.output,by rw[h2];exact hsat.imm.lo⟩
  rw[h6 b (fun e=>by rw[hsat.off k b e]at hy;cases hy)]
  exact hsat.imm.h b y hy
  intro j hj
  exact⟨by rw[Ac,if_neg (Ne.symm hj)],fun b=>Iff.rfl⟩
  rintro j rfl
  refine⟨fun r hr=>?_,fun hr=>?_,fun b hb=>?_⟩
  rw[Ac,if_pos rfl]at hr
  cases hr
  exact⟨⟨by rw[Lay.cs_length,hY,Lay.d_n,hnl];exact hown,hF⟩,hkl,trivial⟩
  rw[Ac,if_pos rfl]at hr;cases hr
  exact⟨.inl ⟨j,rfl,hb⟩,hsat.off j b hb⟩
  intro j j' b hj hj' hne;subst hj hj';exact absurd rfl hne
 have hg:=hok.agr.grow (E':=E) (ow:=(k,.row e (Y.d (S.take L.length++L.drop S.length)))::ow) (nx:=nx) (fun _ _=>rfl) (Nat.le_refl _)
 have hput:=hg.put (d:=d) (g:=[]) (s:=.v (.int .i64 ((min S.length L.length:Nat):Int))) (x:=.int .i64 ((min S.length L.length:Nat):Int)) hfr (fun _=>trivial) (fun _=>rfl) (fun hn=>absurd (fun x hx=>(by cases hx)) hn) (fun _=>rfl)
 exact K E (a.put (some d) _) w' ⟨⟨hput.size,hput.kn,hput.gk,hput.klt,hput.glt⟩,_,hsat2⟩
theorem xd_min {C:Cx} {all:List Oper} {o:Oper} {r:List Oper} {Q:St→Prop} {st:St} {u:Im} {d:Nat} {x y:Operand} {ts:Array TypeId} {k k':IntKind} {m n:Int} (q:Int) (hq:(if n<m then n else m)=q)
 (ho:o.op=.call {callee:=.builtin .min,args:=#[x,y],argTypes:=ts}) (hgd:o.guard=none) (hd:o.dst=some d) (hfr:Bg C.N st d []=true)
 (hx:opd st [] x=some (.v (.int k m))) (hy:opd st [] y=some (.v (.int k' n)))
 (K:XD C all r Q (st.put d [] (.v (.int k q))) u):XD C all (o::r) Q st u:=by
 subst hq
 refine xd_sv (.v (.int k (if n<m then n else m))) hgd hd (fun c' hc'=>by rw[ho]at hc';cases hc') hfr (fun E a w hok=>?_) K
 have hgs:gs a.tmps []:=fun x hx=>by cases hx
 obtain⟨e1,_⟩:=Al hok.agr hgs hx
 obtain⟨e2,_⟩:=Al hok.agr hgs hy
 simp only[SV.den]at e1 e2
 have hm:=run_min_int2 (P:=C.P) (w:=w) ts o.type k k' m n
 refine⟨?_,trivial⟩
 simp only[execOp,ho,resolve]
 simp[invoke,builtin,e1,e2,hm,SV.den]
def pureN:Op→Bool
 |.nilCheck _=>true
 |o=>pureOp o
theorem eff_pureN {C:Cx} {T:TT} {E:Env} {st:St} {a:Act} {g:Gd} (hT:TOk C.P T) {o:Oper} {s:SV} {side:List Prop}
 (hx:∀(x:Operand) z,opd st g x=some z→a.eval x=z.den E∧z.lt E st.nx) (hp:pureN o.op=true)
 (he:eff T st g o.op=.val s side) (hs:allP side) (w:World):(execOp a.eval o).run C.P w=.ok (.value (s.den E)) w∧s.lt E st.nx:=by
 by_cases hp2:pureOp o.op=true
 exact eff_pure hT hx hp2 he hs w
 cases ho:o.op with
 |nilCheck x=>
  rw[ho]at he
  simp only[eff]at he
  exact nil_sound ho (fun z hz=>hx x z hz) he
 |_=>rw[ho]at hp hp2;first|exact absurd hp hp2|cases hp
theorem xa_pureN {C:Cx} {T:TT} (hT:TOk C.P T) {ops:Array Oper} {fuel:Nat} {listed:Array Bool} {Q:Bb} {st:St} {u:Im} {i d:Nat} {o:Oper} {g:Gd} {s:SV} {side:List Prop}
 (hsel:Region.noSelect ops=true) (hdf:noDefer ops=true) (hQ:∀c st u,Q (.panic c) st u→False) (ho:ops.toList[i]?=some o)
 (hr:(Region.ready .any ops listed).contains i=true) (hf:Region.free .any ops listed i=true) (hp:pureN o.op=true)
 (hg:Bp ops.toList st o=some g) (he:eff T st g o.op=.val s side) (hd:o.dst=some d) (hfr:Bg C.N st d g=true)
 (hside:(∀p∈gprops st g,p)→allP side)
 (K:XA C ops fuel (listed.setIfInBounds i true) Q (st.put d g s) u):XA C ops (fuel+1) listed Q st u:=by
 intro E a w hok
 have ho':ops[i]?=some o:=by simpa using ho
 have how:(st.put d g s).ow=st.ow:=by cases g<;>rfl
 have hnx:(st.put d g s).nx=st.nx:=by cases g<;>rfl
 have hgd:=guard_sound (all:=ops) hok.agr hg
 have hrun:gs a.tmps g→∀w,(execOp a.eval o).run C.P w=.ok (.value (s.den E)) w∧s.lt E st.nx:=fun hgs w=>
  eff_pureN (C:=C) hT (fun x z h=>Al hok.agr hgs h) hp he (hside (gprops_sound hok.agr hgs (fun _ _ _=>trivial))) w
 have hpan:∀x c a w,Cd C E st.nx u Q (.panic c) (Act.put a o.dst x) w→Cd C E st.nx u Q (.panic c) a w:=fun x c a w ⟨_,st',u',_,_,_,_,h5⟩=>(hQ _ _ _ h5).elim
 have go:∀x,(gs a.tmps g→x=s.den E)→(¬gs a.tmps g→x=undef)→YW C.P ops o x a→wpAnyIn (FR C.ro) 0 C.P .any ops (Cd C E st.nx u Q) (fuel+1) listed a w:=by
  intro x hx hnx' hy
  have hput:Agr C.N E (st.put d g s) (a.tmps.setIfInBounds d x):=
   hok.agr.put hfr (fun hgs=>(hrun hgs w).2) hx hnx' (fun hn=>by subst hn;exact hx (fun y hy=>by cases hy))
  refine wpAny_ahead ho' (Region.noSelect_spec hsel) (noDefer_spec hdf) (hpan x) fuel listed a w (Region.free_spec ho' hf) (by simpa using hr) hy ?_
  have:=K E (a.put o.dst x) w ⟨by rw[hd];exact hput,by rw[how,hnx,hd];exact hok.sat⟩
  rwa [hnx]at this
 by_cases hw:Region.wanted o (yielded ops a.tmps)=true
 have hgs:=hgd.1 hw
 exact go _ (fun _=>rfl) (fun hn=>absurd hgs hn) (.inl ⟨hw,notDefer_of_val he,fun w=>(hrun hgs w).1⟩)
 have hgs:=hgd.2 (by simpa using hw)
 exact go undef (fun hy=>absurd hy hgs) (fun _=>rfl) (.inr ⟨by simpa using hw,rfl⟩)
def xapN (T:TT) (N:Nat) (all:List Oper) (K:St→Prop):List Oper→St→Prop
 |[],st=>K st
 |o::r,st=>match pureN o.op with
  |false=>False
  |true=>match Bp all st o with
   |none=>False
   |some g=>match eff T st g o.op with
    |.val s side=>match o.dst with
     |some d=>match Bg N st d g with
      |true=>sides (gprops st g) side (st.putK d g s (xapN T N all K r))
      |false=>False
     |none=>False
    |.stuck=>False
theorem xa_puresN0 {T:TT} {C:Cx} (hT:TOk C.P T) {ops:Array Oper} {Q:Bb} {u:Im} (hsel:Region.noSelect ops=true) (hdf:noDefer ops=true)
 (hQ:∀c st u,Q (.panic c) st u→False) {fuel:Nat}:∀(l:List Nat) (listed:Array Bool) (st:St),hasAll ops.toList l=true→lexL .any ops l listed=true →
  xapN T C.N ops.toList (fun st=>XA C ops fuel (marks listed l) Q st u) (opsAt ops.toList l) st→XA C ops (fuel+l.length) listed Q st u
 |[],_,_,_,_,h=>h
 |i::l,listed,st,ha,hl,h=>by
  simp only[hasAll,Bool.and_eq_true]at ha
  simp only[lexL,Bool.and_eq_true]at hl
  obtain⟨o,ho⟩:=Option.isSome_iff_exists.1 ha.1
  simp only[opsAt,ho]at h
  unfold xapN at h
  split at h
  exact h.elim
  rename_i hp
  split at h
  exact h.elim
  rename_i g hg
  split at h
  rename_i s side he
  split at h
  rename_i d hd
  split at h
  rename_i hf
  rw[St.putK_eq]at h
  have h1:=sides_split h
  exact xa_pureN hT hsel hdf hQ ho hl.1.1 hl.1.2 hp hg he hd hf h1.2 (xa_puresN0 hT hsel hdf hQ l _ _ ha.2 hl.2 h1.1)
  exact h.elim
  exact h.elim
  exact h.elim
theorem At {T:TT} {C:Cx} (hT:TOk C.P T) {ops:Array Oper} {Q:Bb} {st:St} {u:Im} {fuel n:Nat} {listed:Array Bool} (l:List Nat) (hn:n=fuel+l.length)
 (hsel:Region.noSelect ops=true) (hdf:noDefer ops=true) (hQ:∀c st u,Q (.panic c) st u→False) (ha:hasAll ops.toList l=true) (hl:lexL .any ops l listed=true)
 (h:st.force fun st=>xapN T C.N ops.toList (fun st=>XA C ops fuel (marks listed l) Q st u) (opsAt ops.toList l) st):XA C ops n listed Q st u:=by
 subst hn
 rw[St.force_eq]at h
 exact xa_puresN0 hT hsel hdf hQ l listed st ha hl h
theorem xa_each {C:Cx} {ops:Array Oper} {fuel:Nat} {listed:Array Bool} {Q:Bb} {st:St} {u:Im} (l:List Nat) (hr:Region.ready .any ops listed=l) (hne:l≠[])
 (h:∀k∈l,∃o,ops.toList[k]?=some o∧XL C ops.toList [o] (thn (XA C ops fuel (listed.setIfInBounds k true) Q) Q) st u):XA C ops (fuel+1) listed Q st u:=by
 have main:∀(k:Nat) (o:Oper),ops.toList[k]?=some o→XL C ops.toList [o] (thn (XA C ops fuel (listed.setIfInBounds k true) Q) Q) st u→∀E a w,Ok C E st u a w →
  wpOpIn (FR C.ro) 0 C.P ops (Cd C E st.nx u Q) k (wpAnyIn (FR C.ro) 0 C.P .any ops (Cd C E st.nx u Q) fuel (listed.setIfInBounds k true)) a w:=by
  intro k o ho h E a w hok
  unfold XL at h
  have h1:=h E a w hok
  have ho':ops[k]?=some o:=by simpa using ho
  have key:wpOpIn (FR C.ro) 0 C.P ops (Cd C E st.nx u (thn (XA C ops fuel (listed.setIfInBounds k true) Q) Q)) k
   (fun a' w'=>Cd C E st.nx u (thn (XA C ops fuel (listed.setIfInBounds k true) Q) Q) .normal a' w') a w:=by
   unfold wpOpIn
   simp only[ho']
   unfold wpListIn at h1
   simp only[wpListIn]at h1
   exact h1
  refine wpOpIn_post ?_ ?_ key
  rintro e a' w' hne ⟨E',st',u',h2,h3,h4,h5,h6⟩
  cases e with
  |normal=>exact absurd rfl hne
  |exit id=>exact⟨E',st',u',h2,h3,h4,h5,h6⟩
  |goto l=>exact⟨E',st',u',h2,h3,h4,h5,h6⟩
  |ret=>exact⟨E',st',u',h2,h3,h4,h5,h6⟩
  |panic c=>exact⟨E',st',u',h2,h3,h4,h5,h6⟩
  |outgrown=>exact⟨E',st',u',h2,h3,h4,h5,h6⟩
  rintro a' w' ⟨E',st',u',h2,h3,h4,h5,h6⟩
  exact wpAnyIn_post (fun e a w=>Cd.mono h2 h3 h4) (h6 E' a' w' h5)
 intro E a w hok
 refine wpAnyIn_all hr hne fun k hk=>?_
 obtain⟨o,ho,h1⟩:=h k hk
 exact main k o ho h1 E a w hok
theorem xa_three {C:Cx} {ops:Array Oper} {fuel:Nat} {listed:Array Bool} {Q:Bb} {st:St} {u:Im} (i j k:Nat) {oi oj ok:Oper} (hr:Region.ready .any ops listed=[i,j,k])
 (hi:ops.toList[i]?=some oi) (hj:ops.toList[j]?=some oj) (hk:ops.toList[k]?=some ok) (h1:XL C ops.toList [oi] (thn (XA C ops fuel (listed.setIfInBounds i true) Q) Q) st u)
 (h2:XL C ops.toList [oj] (thn (XA C ops fuel (listed.setIfInBounds j true) Q) Q) st u) (h3:XL C ops.toList [ok] (thn (XA C ops fuel (listed.setIfInBounds k true) Q) Q) st u):XA C ops (fuel+1) listed Q st u:=by
 refine xa_each [i,j,k] hr (by simp) fun x hx=>?_
 simp only[List.mem_cons,List.not_mem_nil,or_false]at hx
 rcases hx with rfl|rfl|rfl
 exact⟨_,hi,h1⟩
 exact⟨_,hj,h2⟩
 exact⟨_,hk,h3⟩
theorem xl_max {C:Cx} {all:List Oper} {o:Oper} {r:List Oper} {Q:Bb} {kn:Kn} {gk:List (Nat×(Gd×SV))} {ow:Own} {nx:Nat} {u:Im} {d:Nat} {x y:Operand} {ts:Array TypeId} {k k':IntKind} {m n:Int} (q:Int) (hq:(if n > m then n else m)=q)
 (ho:o.op=.call {callee:=.builtin .max,args:=#[x,y],argTypes:=ts}) (hgd:o.guard=none) (hd:o.dst=some d) (hfr:Bg C.N ⟨kn,gk,ow,nx⟩ d []=true)
 (hx:opd ⟨kn,gk,ow,nx⟩ [] x=some (.v (.int k m))) (hy:opd ⟨kn,gk,ow,nx⟩ [] y=some (.v (.int k' n)))
 (K:XL C all r Q ⟨(d,.v (.int k q))::kn,gk,ow,nx⟩ u):XL C all (o::r) Q ⟨kn,gk,ow,nx⟩ u:=by
 subst hq
 refine xl_val _ hgd hd (fun c hc=>by rw[ho]at hc;cases hc) hfr (fun E a w hok=>?_) K
 have hgs:gs a.tmps []:=fun x hx=>by cases hx
 obtain⟨e1,_⟩:=Al hok.agr hgs hx
 obtain⟨e2,_⟩:=Al hok.agr hgs hy
 simp only[SV.den]at e1 e2
 have hm:=run_max_int2 (P:=C.P) (w:=w) ts o.type k k' m n
 simp only[execOp,ho,resolve]
 simp[invoke,builtin,e1,e2,hm]
end Go.GV
namespace Go.Proofs.YtnjlkdhdinfejaaGreat
open Go.GV Go.RowKit
theorem mix:Tryz.prog.follows .mixedOrders=true:=by kernel_rfl
theorem noEscape_run (x:Value) (w:World):(callFunc 132 #[x]).run Tryz.prog w=.ok (.value x) w:=by
 rw[run_callFunc_extern Tryz.func132 (by kernel_rfl) (by kernel_rfl) (by kernel_rfl) (e:=Extern.AbiNoEscape.same) (by kernel_rfl)]
 rfl
def bAddr (used:Bool):SV:=match used with
 |true=>.p 0 0
 |false=>.v (.pointer none)
theorem copyCheck_sc (used:Bool) (L:List UInt8):SC Tryz.prog 96 (fun _=>True) 2 [(0,.box 136 [bAddr used,.r 1]),(1,.row 5 (byteY.d L))] [.p 0 0] (fun _:Unit=>([(0,.box 136 [.p 0 0,.r 1]),(1,.row 5 (byteY.d L))],2,.tuple #[])) (fun _=>True):=by
 refine x_sc Aa Tryz.func96 O O O (by cases used<;>rfl) (fun u _=>?_)
 cases used
 refine Ao Aa ?_
 refine xl_eqpNil O O O O (by kernel_rfl) rfl ?_
 refine Ab Aa ?_
 refine Be rfl ?_
 refine xl_toUnsafe O O O O Tryz.underlying134 Tryz.underlying233 (by kernel_rfl) O O O ?_
 refine Ab Aa ?_
 refine xl_extern1 O O O O O noEscape_run rfl ?_
 refine Ab Aa ?_
 refine xl_fromUnsafe (n:=2) O O O O Tryz.underlying233 Tryz.underlying134 (by kernel_rfl) O O O (by kernel_rfl) ?_
 refine Ab Aa ?_
 exact⟨(),[],[],rfl,rfl,.of O O O O O rfl,of_decide_eq_true rfl,trivial⟩
 refine Ao Aa ?_
 refine xl_eqpSome O O O O (by kernel_rfl) rfl ?_
 refine Ab Aa ?_
 refine x_iff rfl ?_
 refine xl_neqSelf O O O O Tryz.underlying134 (by kernel_rfl) O O ?_
 refine Ab Aa ?_
 refine x_iff rfl ?_
 exact⟨(),[],[],rfl,rfl,.of O O O O O rfl,of_decide_eq_true rfl,trivial⟩
theorem Cs (used:Bool) (L:List UInt8) (x:UInt8) (hL:L.length+1≤140737488355328) :
 SC Tryz.prog 59 (fun _=>True) 2 [(0,.box 136 [bAddr used,.r 1]),(1,.row 5 (byteY.d L))] [.p 0 0,.v (.int .u8 (x.toNat:Int))]
  (fun _:Unit=>([(0,.box 136 [.p 0 0,.r 2]),(2,.row 5 (byteY.d (L++[x])))],3,.nilIface)) (fun _=>True):=by
 refine x_sc Aa Tryz.func59 O O O (by cases used<;>rfl) (fun u _=>?_)
 refine Ao Aa ?_
 refine Bd (copyCheck_sc used L) (fun _ _ _ _=>trivial) trivial [0,1] O O O O fn96 O O O O O (by cases used<;>rfl) (by cases used<;>rfl) (fun _=>rfl) (fun _ u1 hu1 _=>?_)
 refine Ab Aa ?_
 refine xl_push Aa byteY L x 1 (cs:=[.int .u8 (x.toNat:Int)]) O O O O O O O O O O O O (by kernel_rfl) O O O O O (fun n hn=>by cases hn;decide) O O O (by omega) (by omega) ?_
 refine Ab Aa ?_
 exact⟨(),[],[_],rfl,rfl,.of O O O O O rfl,of_decide_eq_true rfl,trivial⟩
theorem Cg (used:Bool) (L:List UInt8) (x:ByteArray) (hL:L.length+x.size≤140737488355328) :
 SC Tryz.prog 61 (fun _=>True) 2 [(0,.box 136 [bAddr used,.r 1]),(1,.row 5 (byteY.d L))] [.p 0 0,.v (.string x)]
  (fun _:Unit=>([(0,.box 136 [.p 0 0,.r 2]),(2,.row 5 (byteY.d (L++x.data.toList)))],3,.tuple #[.int .i64 x.size,.nilIface])) (fun _=>True):=by
 refine x_sc Aa Tryz.func61 O O O (by cases used<;>rfl) (fun u _=>?_)
 refine Ao Aa ?_
 refine Bd (copyCheck_sc used L) (fun _ _ _ _=>trivial) trivial [0,1] O O O O fn96 O O O O O (by cases used<;>rfl) (by cases used<;>rfl) (fun _=>rfl) (fun _ u1 hu1 _=>?_)
 refine Ab Aa ?_
 refine xl_appStr Aa L O O O O O O O (by kernel_rfl) O O O O hL ?_
 refine Ab Aa ?_
 exact⟨(),[],[_,_],rfl,rfl,.of O O O O O rfl,of_decide_eq_true rfl,trivial⟩
theorem len_sc (used:Bool) (L:List UInt8):SC Tryz.prog 62 (fun _=>True) 2 [(0,.box 136 [bAddr used,.r 1]),(1,.row 5 (byteY.d L))] [.p 0 0]
 (fun _:Unit=>([(0,.box 136 [bAddr used,.r 1]),(1,.row 5 (byteY.d L))],2,.int .i64 L.length)) (fun _=>True):=by
 refine x_sc Aa Tryz.func62 O O O (by cases used<;>rfl) (fun u _=>?_)
 refine Ao Aa ?_
 cases used
 exact⟨(),[],[_],rfl,rfl,.of O O O O O rfl,of_decide_eq_true rfl,trivial⟩
 exact⟨(),[],[_],rfl,rfl,.of O O O O O rfl,of_decide_eq_true rfl,trivial⟩
theorem lenNil_sc:SC Tryz.prog 62 (fun _=>True) 1 [(0,.box 136 [.v (.pointer none),.v (.slice none 0 0)])] [.p 0 0]
 (fun _:Unit=>([(0,.box 136 [.v (.pointer none),.v (.slice none 0 0)])],1,.int .i64 0)) (fun _=>True):=by
 refine x_sc Aa Tryz.func62 O O O O (fun u _=>?_)
 refine Ao Aa ?_
 exact⟨(),[],[_],rfl,rfl,.of O O O O O rfl,of_decide_eq_true rfl,trivial⟩
theorem stringNil_sc:SC Tryz.prog 63 (fun _=>True) 1 [(0,.box 136 [.v (.pointer none),.v (.slice none 0 0)])] [.p 0 0]
 (fun _:Unit=>([],1,.string ⟨#[]⟩)) (fun _=>True):=by
 refine x_sc Aa Tryz.func63 O O O O (fun u _=>?_)
 refine Ao Aa ?_
 refine Bw mix ?_
 refine xa_phase Aa (fuel:=2) [0,1,2,3,4,5,6,7,8,9] rfl (by kernel_rfl) (by kernel_rfl) (by kernel_rfl) (by kernel_rfl) (Cq Aa ?_)
 refine xd_sdNil O O O O O (Cq Aa ?_)
 refine Ag 10 (by kernel_rfl) rfl ?_
 refine xl_usNone O O O O O O (Ab Aa ?_)
 refine Ag 11 (by kernel_rfl) rfl (Ab Aa ?_)
 refine Aj (by kernel_rfl) rfl ?_
 exact⟨(),[],[_],rfl,rfl,.of O O O O O rfl,of_decide_eq_true rfl,trivial⟩
theorem string_sc (used:Bool) (L:List UInt8) (hL:L≠[]):SC Tryz.prog 63 (fun _=>True) 2 [(0,.box 136 [bAddr used,.r 1]),(1,.row 5 (byteY.d L))] [.p 0 0]
 (fun _:Unit=>([],2,.string ⟨L.toArray⟩)) (fun _=>True):=by
 refine x_sc Aa Tryz.func63 O O O (by cases used<;>rfl) (fun u _=>?_)
 refine Ao Aa ?_
 refine Bw mix ?_
 refine xa_phase Aa (fuel:=2) [0,1,2,3,4,5,6,7,8,9] rfl (by kernel_rfl) (by kernel_rfl) (by kernel_rfl) (by kernel_rfl) (Cq Aa ?_)
 refine xd_sdRow byteY L O O O O O O hL (Cq Aa ?_)
 refine Ag 10 (by kernel_rfl) rfl ?_
 refine xl_usRow L O O O O O O O hL Tryz.underlying192 (by kernel_rfl) (Ab Aa ?_)
 refine Ag 11 (by kernel_rfl) rfl (Ab Aa ?_)
 refine Aj (by kernel_rfl) rfl ?_
 exact⟨(),[],[_],rfl,rfl,.of O O O O O rfl,of_decide_eq_true rfl,trivial⟩
theorem bit_or (n i j:Nat):(n ||| 1 <<< i).testBit j=(n.testBit j||decide (i=j)):=by
 rw[Nat.testBit_or,Nat.testBit_shiftLeft]
 by_cases h:i=j
 subst h;simp
 simp only[h,decide_false,Bool.or_false]
 rcases Nat.lt_or_ge j i with h1|h1
 simp[Nat.not_le.2 h1]
 have:(1:Nat).testBit (j-i)=false:=by
  rw[Bool.eq_false_iff]
  intro hh
  have:=Nat.testBit_one_eq_true_iff_self_eq_zero.1 hh
  omega
 rw[this];simp
theorem or_same {n i:Nat} (h:n.testBit i=true):n ||| 1 <<< i=n:=Nat.eq_of_testBit_eq (fun j=>by
 rw[bit_or]
 by_cases e:i=j
 subst e;rw[h];rfl
 simp[e])
def putW (W:List Nat) (i:Nat):List Nat:=(W++List.replicate (i / 64+1-W.length) 0).set (i / 64) (W.getD (i / 64) 0 ||| 1 <<< (i%64))
theorem putW_ok {W:List Nat} (h:okW W) (i:Nat):okW (putW W i):=by
 intro w hw
 unfold putW at hw
 rcases List.mem_or_eq_of_mem_set hw with hw|hw
 rcases List.mem_append.1 hw with hw|hw
 exact h w hw
 rw[List.eq_of_mem_replicate hw];exact Nat.two_pow_pos 64
 rw[hw]
 exact Nat.or_lt_two_pow (okW_getD h _) (by rw[Nat.shiftLeft_eq,Nat.one_mul];exact Nat.pow_lt_pow_right (by decide) (Nat.mod_lt _ (by decide)))
theorem putW_N {W:List Nat} (h:okW W) (i:Nat):wN (putW W i)=wN W ||| 1 <<< i:=by
 refine Nat.eq_of_testBit_eq (fun j=>?_)
 rw[wN_bit _ (putW_ok h i),bit_or,wN_bit W h]
 have hlen:i / 64<(W++List.replicate (i / 64+1-W.length) 0).length:=by simp;omega
 unfold putW
 rw[List.getD_eq_getElem?_getD,List.getElem?_set]
 by_cases hj:i / 64=j / 64
 rw[if_pos hj,if_pos hlen,Option.getD_some,bit_or,hj]
 congr 1
 rw[decide_eq_decide]
 omega
 rw[if_neg hj,←List.getD_eq_getElem?_getD]
 have e:(W++List.replicate (i / 64+1-W.length) 0).getD (j / 64) 0=W.getD (j / 64) 0:=by
  rw[List.getD_eq_getElem?_getD,List.getD_eq_getElem?_getD,List.getElem?_append]
  split
  rfl
  rename_i hh
  rw[List.getElem?_replicate,List.getElem?_eq_none (by omega)]
  split<;>rfl
 rw[e]
 have:decide (i=j)=false:=decide_eq_false (fun e=>hj (by rw[e]))
 rw[this,Bool.or_false]
theorem u64One:∀x:Nat,∀y∈u64Y.el x,oneB y=true:=by
 intro x y hy
 rw[show u64Y.el x=[.int .u64 (x:Int)]from rfl,List.mem_singleton]at hy
 rw[hy];rfl
theorem set_new {u0 u1:Im} {b:Nat} {A:Option Addr} {c:Nat} {W:List Nat} {n:Nat} (h1:u1.h b=some (.cells #[.slice A (u64Y.d W).n c] 203 (0,0))) (h2:Aw u1 (.slice A (u64Y.d W).n c) (u64Y.d W)) (h3:okW W) (h4:wN W=n) (h5:W.length≤1000000) :
 Nw u0 u1 (fun u'=>Bk u' (some ⟨b,0,none⟩) n):=fun u' _ hu=>⟨b,_,W,rfl,hu.h _ _ h1,h2.sub hu,h3,h4,h5⟩
theorem set_ret {w0 w':World} {E:Env} {ow:GV.Own} {nx:Nat} {u:Im} {F:Nat→Nat→Prop} (u0:Im) (hs:Sat E ow nx u [] w' F) (hle:(im w0).le u) {k:Nat} {A:Option Addr} {c:Nat} {W:List Nat} {n:Nat}
 (hk:GV.look ow k=some (.box 203 [.v (.slice A (u64Y.d W).n c)])) (hsl:Aw (cut w0.heap.size u) (.slice A (u64Y.d W).n c) (u64Y.d W)) (h3:okW W) (h4:wN W=n) (h5:W.length≤1000000) :
 ∃p',(SV.p k 0).den E=.pointer p'∧Nw u0 (cut w0.heap.size (im w')) (fun u'=>Bk u' p' n):=by
 obtain⟨b,h1,h2,h6⟩:=hs.holds k _ hk
 have hb0:u.h b=none:=hs.off k b ((h2 b).2 rfl)
 have hge:w0.heap.size≤b:=by
  rcases Nat.lt_or_ge b w0.heap.size with hlt|hge
  have h9:=hle.h b _ (Array.getElem?_eq_getElem hlt)
  rw[hb0]at h9;cases h9
  exact hge
 refine⟨some ⟨b,0,none⟩,by simp only[SV.den,ptrOf,h1],set_new (A:=A) (c:=c) (W:=W) ?_ (hsl.sub (hs.imm.cutLe _)) h3 h4 h5⟩
 show(if b<w0.heap.size then none else w'.heap[b]?)=_
 rw[if_neg (by omega),h6]
 rfl
theorem with_any (p:Option Addr) (n i:Nat) (u0:Im) (w:World) (hu0:u0.sub (im w)) (h:Bk u0 p n) (hi:i≤60000000) :
 Calls Tryz.prog 76 #[.pointer p,.int .i64 (i:Int)] w (Bc w fun v u1=>∃p',v=.pointer p'∧Nw u0 u1 (fun u'=>Bk u' p' (n ||| 1 <<< i))):=by
 have hw:Bk (im w) p n:=h.sub hu0
 refine Bq Aa Tryz.func76 O O [] 0 [.v (.pointer p),.v (.int .i64 (i:Int))] O O O O (fun b hb=>by cases hb) ?_
 refine Ao Aa ?_
 refine Am (.bool (n.testBit i)) O O O O fn100 O O (fun E w' F hs=>has_any p n i w' (hw.sub ⟨fun b o hb=>hs.imm.h b o hb⟩) (by omega)) ?_
 refine Ab Aa ?_
 refine Ap (fun hb=>?_) (fun hb=>?_)
 exact Ay (fun _ _=>⟨p,rfl,fun u' h1 _=>by rw[or_same hb];exact h.sub h1⟩)
 cases p with
 |none=>
  refine xl_binV (.bool false) O O O O O O (fun w=>eqGuardP _ _ _ _ _ _ w) (fun _ w hw'=>run_neP rfl (Aa 203 _ rfl) (by decide) hw' (blk_none _) (blk_none _)) ?_
  refine Ab Aa ?_
  refine x_iff rfl ?_
  obtain⟨W,hW⟩:∃W:List Nat,W=[]:=⟨_,rfl⟩
  have hWl:W.length≤1000000:=by rw[hW];decide
  have h4:okW W:=by rw[hW];intro x hx;cases hx
  have h5:wN W=n:=by rw[hW];exact(show n=0 from h).symm
  have h3:Aw (im w) (.slice none 0 0) (u64Y.d W):=by rw[hW];exact⟨none,0,rfl,Nat.le_refl _,by decide,fun h=>absurd h (Nat.lt_irrefl 0)⟩
  repeat refine sdI ?_
  refine xl_sl 5 rfl h3 ?_
  refine xl_max ((max W.length (i / 64+1):Nat):Int) (by first|(show(if(i:Int) / 64+1 > ((W.length:Nat):Int)then(i:Int) / 64+1 else((W.length:Nat):Int))=_;split<;>omega)|(show(if(i:Int) / 64+1 > ((0:Nat):Int)then(i:Int) / 64+1 else((0:Nat):Int))=_;rw[hW,List.length_nil];split<;>omega)) rfl rfl rfl rfl rfl rfl ?_
  refine Ab Aa ?_
  refine Bz Aa u64Y 0 (.int .u64 0) 8 (max W.length (i / 64+1)) O O O O O O O O O O O O O O (by omega) (by omega) ?_
  refine Ab Aa ?_
  refine xl_copy Aa u64Y (List.replicate (max W.length (i / 64+1)) 0) W rfl rfl rfl rfl rfl rfl rfl rfl rfl rfl rfl rfl (fun E w F hs=>by first|exact(hs.holds 0 (.sl (u64Y.d W)) rfl).1.imm hs.imm|exact(hs.holds 1 (.sl (u64Y.d W)) rfl).1.imm hs.imm) u64One ?_
  refine Ab Aa ?_
  have hrow:W.take (List.replicate (max W.length (i / 64+1)) 0).length++(List.replicate (max W.length (i / 64+1)) 0).drop W.length=W++List.replicate (i / 64+1-W.length) 0:=by
   rw[List.length_replicate,List.take_of_length_le (by omega),List.drop_replicate,show max W.length (i / 64+1)-W.length=i / 64+1-W.length by omega]
  rw[hrow]
  have hlen:i / 64<(W++List.replicate (i / 64+1-W.length) 0).length:=by simp;omega
  obtain⟨V,hV⟩:∃V,V=W++List.replicate (i / 64+1-W.length) 0:=⟨_,rfl⟩
  rw[←hV]at hlen ⊢
  have hm:i%64<64:=Nat.mod_lt _ (by decide)
  have e0:((i:Int)%64)=((i%64:Nat):Int):=by omega
  have e1:((i:Int) / 64).toNat=i / 64:=by omega
  have eg:V.getD (i / 64) 0=W.getD (i / 64) 0:=by
   rw[hV,List.getD_eq_getElem?_getD,List.getD_eq_getElem?_getD,List.getElem?_append]
   split
   rfl
   rw[List.getElem?_replicate,List.getElem?_eq_none (by omega)]
   split<;>rfl
  have hw8:=okW_getD h4 (i / 64)
  refine Bw mix ?_
  refine xa_phase Aa (fuel:=2) [0,1,2,3,4,5,6,7,8] rfl (by kernel_rfl) (by kernel_rfl) (by kernel_rfl) (phaseB_of 8 (by kernel_rfl)) ?_
  refine Cq Aa ?_
  repeat refine sdI ?_
  refine xd_binV (.int .u64 ((1 <<< (i%64):Nat):Int)) O O O O O O (fun w=>rfl) (fun w _=>by
   show(binOp .shl 201 (.int .u64 1) (.int .i64 ((i:Int)%64)):Sem Value).run _ w=_
   rw[e0]
   exact run_shlU 201 _ hm w) ?_
  refine Cq Aa ?_
  refine xd_binV (.int .u64 ((W.getD (i / 64) 0 ||| 1 <<< (i%64):Nat):Int)) rfl rfl rfl rfl rfl rfl (fun w=>rfl) (fun w _=>by
   show(binOp .or 201 (.int .u64 ((V.getD ((i:Int) / 64).toNat 0:Nat):Int)) (.int .u64 ((1 <<< (i%64):Nat):Int)):Sem Value).run _ w=_
   rw[e1,eg]
   exact run_orU 201 _ _ hw8 (by rw[Nat.shiftLeft_eq,Nat.one_mul];exact Nat.pow_lt_pow_right (by decide) hm) w) ?_
  refine Cq Aa ?_
  refine Ae (fuel:=0) [9,10] rfl (by kernel_rfl) (by kernel_rfl) ?_
  refine Ab Aa ?_
  repeat refine sdI ?_
  refine Bv Aa u64Y V (W.getD (i / 64) 0 ||| 1 <<< (i%64)) (cs:=[.int .u64 ((W.getD (i / 64) 0 ||| 1 <<< (i%64):Nat):Int)]) rfl rfl rfl rfl rfl rfl rfl (by omega) (by omega) rfl rfl (Nat.le_refl 1) rfl ?_
  refine Ad ?_
  refine Aj (by kernel_rfl) rfl ?_
  rw[e1]
  have hput:V.set (i / 64) (W.getD (i / 64) 0 ||| 1 <<< (i%64))=putW W i:=by rw[hV];rfl
  rw[hput]
  refine xl_freezeN 1 rfl (fun A' c' u2 hu2 hsl hnew=>?_)
  refine Ab Aa ?_
  have hpl:(putW W i).length≤1000000:=by unfold putW;simp;omega
  exact finP (fun E w' F hs hle=>set_ret u0 hs hle (k:=2) rfl ((hsl.newer hnew (Im.le.refl _)).keep (Im.le.refl _)) (putW_ok h4 i) (by rw[putW_N h4,h5]) hpl)
 |some ad=>
  have hbk:=hw.blk
  obtain⟨b,x,W,rfl,h2,h3,h4,h5,hWl⟩:=id hw
  obtain⟨A,c,rfl⟩:=h3.form
  refine xl_binV (.bool true) O O O O O O (fun w=>eqGuardP _ _ _ _ _ _ w) (fun _ w hw'=>run_neP rfl (Aa 203 _ rfl) (by decide) hw' hbk (blk_none _)) ?_
  refine Ab Aa ?_
  refine Be rfl ?_
  refine xl_ptr 14 [.slice A (u64Y.d W).n c] O O (ptAt_box h2) ?_
  refine Ab Aa ?_
  repeat refine sdI ?_
  refine xl_sl 5 rfl h3 ?_
  refine xl_max ((max W.length (i / 64+1):Nat):Int) (by first|(show(if(i:Int) / 64+1 > ((W.length:Nat):Int)then(i:Int) / 64+1 else((W.length:Nat):Int))=_;split<;>omega)|(show(if(i:Int) / 64+1 > ((0:Nat):Int)then(i:Int) / 64+1 else((0:Nat):Int))=_;rw[hW,List.length_nil];split<;>omega)) rfl rfl rfl rfl rfl rfl ?_
  refine Ab Aa ?_
  refine Bz Aa u64Y 0 (.int .u64 0) 8 (max W.length (i / 64+1)) O O O O O O O O O O O O O O (by omega) (by omega) ?_
  refine Ab Aa ?_
  refine xl_copy Aa u64Y (List.replicate (max W.length (i / 64+1)) 0) W rfl rfl rfl rfl rfl rfl rfl rfl rfl rfl rfl rfl (fun E w F hs=>by first|exact(hs.holds 0 (.sl (u64Y.d W)) rfl).1.imm hs.imm|exact(hs.holds 1 (.sl (u64Y.d W)) rfl).1.imm hs.imm) u64One ?_
  refine Ab Aa ?_
  have hrow:W.take (List.replicate (max W.length (i / 64+1)) 0).length++(List.replicate (max W.length (i / 64+1)) 0).drop W.length=W++List.replicate (i / 64+1-W.length) 0:=by
   rw[List.length_replicate,List.take_of_length_le (by omega),List.drop_replicate,show max W.length (i / 64+1)-W.length=i / 64+1-W.length by omega]
  rw[hrow]
  have hlen:i / 64<(W++List.replicate (i / 64+1-W.length) 0).length:=by simp;omega
  obtain⟨V,hV⟩:∃V,V=W++List.replicate (i / 64+1-W.length) 0:=⟨_,rfl⟩
  rw[←hV]at hlen ⊢
  have hm:i%64<64:=Nat.mod_lt _ (by decide)
  have e0:((i:Int)%64)=((i%64:Nat):Int):=by omega
  have e1:((i:Int) / 64).toNat=i / 64:=by omega
  have eg:V.getD (i / 64) 0=W.getD (i / 64) 0:=by
   rw[hV,List.getD_eq_getElem?_getD,List.getD_eq_getElem?_getD,List.getElem?_append]
   split
   rfl
   rw[List.getElem?_replicate,List.getElem?_eq_none (by omega)]
   split<;>rfl
  have hw8:=okW_getD h4 (i / 64)
  refine Bw mix ?_
  refine xa_phase Aa (fuel:=2) [0,1,2,3,4,5,6,7,8] rfl (by kernel_rfl) (by kernel_rfl) (by kernel_rfl) (phaseB_of 8 (by kernel_rfl)) ?_
  refine Cq Aa ?_
  repeat refine sdI ?_
  refine xd_binV (.int .u64 ((1 <<< (i%64):Nat):Int)) O O O O O O (fun w=>rfl) (fun w _=>by
   show(binOp .shl 201 (.int .u64 1) (.int .i64 ((i:Int)%64)):Sem Value).run _ w=_
   rw[e0]
   exact run_shlU 201 _ hm w) ?_
  refine Cq Aa ?_
  refine xd_binV (.int .u64 ((W.getD (i / 64) 0 ||| 1 <<< (i%64):Nat):Int)) rfl rfl rfl rfl rfl rfl (fun w=>rfl) (fun w _=>by
   show(binOp .or 201 (.int .u64 ((V.getD ((i:Int) / 64).toNat 0:Nat):Int)) (.int .u64 ((1 <<< (i%64):Nat):Int)):Sem Value).run _ w=_
   rw[e1,eg]
   exact run_orU 201 _ _ hw8 (by rw[Nat.shiftLeft_eq,Nat.one_mul];exact Nat.pow_lt_pow_right (by decide) hm) w) ?_
  refine Cq Aa ?_
  refine Ae (fuel:=0) [9,10] rfl (by kernel_rfl) (by kernel_rfl) ?_
  refine Ab Aa ?_
  repeat refine sdI ?_
  refine Bv Aa u64Y V (W.getD (i / 64) 0 ||| 1 <<< (i%64)) (cs:=[.int .u64 ((W.getD (i / 64) 0 ||| 1 <<< (i%64):Nat):Int)]) rfl rfl rfl rfl rfl rfl rfl (by omega) (by omega) rfl rfl (Nat.le_refl 1) rfl ?_
  refine Ad ?_
  refine Aj (by kernel_rfl) rfl ?_
  rw[e1]
  have hput:V.set (i / 64) (W.getD (i / 64) 0 ||| 1 <<< (i%64))=putW W i:=by rw[hV];rfl
  rw[hput]
  refine xl_freezeN 2 rfl (fun A' c' u2 hu2 hsl hnew=>?_)
  refine Ab Aa ?_
  have hpl:(putW W i).length≤1000000:=by unfold putW;simp;omega
  exact finP (fun E w' F hs hle=>set_ret u0 hs hle (k:=3) rfl ((hsl.newer hnew (Im.le.refl _)).keep (Im.le.refl _)) (putW_ok h4 i) (by rw[putW_N h4,h5]) hpl)
end Go.Proofs.YtnjlkdhdinfejaaGreat
namespace Go.GV
open Go.RowKit
theorem xd_toE {T:TT} {C:Cx} (hT:TOk C.P T) {all:List Oper} {o:Oper} {r:List Oper} {Q:St→Prop} {st:St} {u:Im}
 {t e d n c:Nat} {A:Option Addr} {sv hv:Operand} {ti te:TI} {kh:IntKind} {h:Int} (ho:o.op=.slice t sv none (some hv) none) (hgd:o.guard=none) (hd:o.dst=some d)
 (hti:look T t=some ti) (hsh:ti.shp=.slice e) (hte:look T e=some te)
 (hs:opd st [] sv=some (.v (.slice A n c))) (hhh:opd st [] hv=some (.v (.int kh h))) (hf:Bg C.N st d []=true)
 (h0:0≤h) (h2:h≤c) (K:XD C all r Q (st.put d [] (.v (partV te.sz A c 0 h.toNat))) u):XD C all (o::r) Q st u:=by
 refine xd_sv (.v (partV te.sz A c 0 h.toNat)) hgd hd (fun c hc=>by rw[ho]at hc;cases hc) hf (fun E a w hok=>⟨?_,trivial⟩) K
 have hgs:gs a.tmps []:=fun x hx=>by cases hx
 have hu:=(hT _ _ hti).isSlice hsh
 have hel:C.P.elem t=e:=by simp[Program.elem,hu]
 have htek:=hT _ _ hte
 obtain⟨es,_⟩:=Al hok.agr hgs hs
 obtain⟨eh,_⟩:=Al hok.agr hgs hhh
 simp only[SV.den]at es eh ⊢
 have:=run_slice_h (P:=C.P) w t A n c (by rw[hel];exact hu) kh h h0 h2
 simp only[execOp,ho,Option.map_none,Option.map_some,es,eh]
 rw[Sem.run_bind,run_sliceAt_slice w t _ _ _ _ (by rw[hel];exact hu),this,hel,Ca w htek]
 simp[Result.andThen,sliced,partV]
 try (cases A<;>simp)
theorem xl_asV {C:Cx} {all l:List Oper} {Q:Bb} {kn:Kn} {gk:List (Nat×(Gd×SV))} {ow:Own} {nx:Nat} {u:Im} (d k:Nat) {D:Data} (hd:look kn d=some (.r k)) (hk:look ow k=some (.sl D))
 (h:∀A c,Aw u (.slice A D.n c) D→D.n≤c→XL C all l Q ⟨(d,.v (.slice A D.n c))::kn,gk,ow,nx⟩ u):XL C all l Q ⟨kn,gk,ow,nx⟩ u:=by
 unfold XL at h ⊢
 intro E a w hok
 obtain⟨f,hsat⟩:=hok.sat
 have h1:Aw u (E k) D:=(hsat.holds k _ hk).1
 obtain⟨A,c,hv,hnc,_⟩:=id h1
 rw[hv]at h1
 refine h A c h1 hnc E a w ⟨⟨hok.agr.size,fun d' s h1 h2=>?_,hok.agr.gk,fun d' s h2=>?_,hok.agr.glt⟩,hok.sat⟩
 rw[Ac]at h2
 split at h2
 rename_i e;subst e;cases h2
 rw[hok.agr.kn _ _ h1 hd]
 exact congrArg some hv
 exact hok.agr.kn _ _ h1 h2
 rw[Ac]at h2
 split at h2
 rename_i e;subst e;cases h2;trivial
 exact hok.agr.klt _ _ h2
end Go.GV
namespace Go.Proofs.YtnjlkdhdinfejaaGreat
open Go.GV Go.RowKit
def third (c:Int):Int:=
 if c=61 then 35 else if c=47 then 92 else if c=39 then 94 else if c=40 then 91 else if c=41 then 93
 else if c=33 then 124 else if c=60 then 123 else if c=62 then 125 else if c=45 then 126 else 0
def isThird (c:Int):Bool:=decide (third c≠0)
theorem third_any (c:Int) (w:World):Calls Tryz.prog 97 #[.int .u8 c] w (Bc w fun v _=>v=.tuple #[.int .u8 (third c),.bool (isThird c)]):=by
 refine Bq Aa Tryz.func97 O O [] 0 [.v (.int .u8 c)] O O O O (fun b hb=>by cases hb) ?_
 refine Ao Aa ?_
 iterate 9
  refine Ap (fun h=>?_) (fun h=>?_)
  have h:=of_decide_eq_true h
  subst h
  refine Ay (fun _ _=>rfl)
 refine Ay (fun _ _=>?_)
 simp only[decide_eq_true_eq,decide_eq_false_iff_not]at *
 have:third c=0:=by unfold third;simp[*]
 simp only[isThird,this]
 rfl
def isTri (s:ByteArray) (i:Int):Bool:=decide (i+3≤s.size)&&(decide (bt s i=63)&&(decide (bt s (i+1)=63)&&isThird (bt s (i+2))))
def parted (s:ByteArray) (i:Int):Bool:=(decide (i+1<s.size)&&(decide (bt s i=92)&&decide (bt s (i+1)=10)))||isTri s i
theorem parted_any (s:ByteArray) (i:Int) (w:World) (h0:0≤i) (h1:i<s.size) (hs:s.size≤140737488355328) :
 Calls Tryz.prog 60 #[.string s,.int .i64 i] w (Bc w fun v _=>v=.bool (parted s i)):=by
 refine Bq Aa Tryz.func60 O O [] 0 [.v (.string s),.v (.int .i64 i)] O O O O (fun b hb=>by cases hb) ?_
 refine Ao Aa ?_
 repeat(refine And.intro ?_ ?_;first|omega|(simp only[decide_eq_true_eq,decide_eq_false_iff_not,Bool.or_eq_false_iff,Bool.and_eq_true,Bool.or_eq_true,Bool.and_eq_false_iff,Bool.not_eq_true',Bool.not_eq_false'];omega))
 refine Ap (fun h=>?_) (fun h=>?_)
 have h':((decide (i+1<s.size)&&decide (bt s i=92))&&decide (bt s (i+1)=10))=true:=h
 refine Ay (fun _ _=>?_)
 rw[Bool.and_assoc]at h'
 unfold parted
 rw[h'];rfl
 have h':((decide (i+1<s.size)&&decide (bt s i=92))&&decide (bt s (i+1)=10))=false:=h
 rw[Bool.and_assoc]at h'
 have e:parted s i=isTri s i:=by unfold parted;rw[h'];rfl
 rw[e]
 repeat(refine And.intro ?_ ?_;first|omega|(simp only[decide_eq_true_eq,decide_eq_false_iff_not,Bool.or_eq_false_iff,Bool.and_eq_true,Bool.or_eq_true,Bool.and_eq_false_iff,Bool.not_eq_true',Bool.not_eq_false'];omega))
 refine Ap (fun h2=>?_) (fun h2=>?_)
 have h2':((decide (i+2<s.size)&&decide (bt s i=63))&&decide (bt s (i+1)=63))=true:=h2
 rw[Bool.and_eq_true,Bool.and_eq_true,decide_eq_true_eq,decide_eq_true_eq,decide_eq_true_eq]at h2'
 have e3:isTri s i=isThird (bt s (i+2)):=by
  unfold isTri
  rw[decide_eq_true (by omega),decide_eq_true h2'.1.2,decide_eq_true h2'.2];rfl
 repeat(refine And.intro ?_ ?_;first|omega|(simp only[decide_eq_true_eq,decide_eq_false_iff_not,Bool.or_eq_false_iff,Bool.and_eq_true,Bool.or_eq_true,Bool.and_eq_false_iff,Bool.not_eq_true',Bool.not_eq_false'];omega))
 refine Am (.tuple #[.int .u8 (third (bt s (i+2))),.bool (isThird (bt s (i+2)))]) O O O O fn97 O O (fun E w F hs=>third_any _ w) ?_
 refine Ab Aa ?_
 refine Ay (fun _ _=>?_)
 rw[e3]
 rfl
 have h2':((decide (i+2<s.size)&&decide (bt s i=63))&&decide (bt s (i+1)=63))=false:=h2
 refine Ay (fun _ _=>?_)
 have e3:isTri s i=false:=by
  unfold isTri
  rw[Bool.and_eq_false_iff,Bool.and_eq_false_iff,decide_eq_false_iff_not,decide_eq_false_iff_not,decide_eq_false_iff_not]at h2'
  rcases h2' with(h2'|h2')|h2'
  rw[decide_eq_false (by omega)];rfl
  rw[decide_eq_false h2'];simp
  rw[decide_eq_false h2'];simp
 rw[e3]
 rfl
structure Part where
 b:Int
 pos:Int
 len:Int
 sp:Bool
def Part.val (p:Part):Value:=.agg #[.int .u8 p.b,.int .i64 p.pos,.int .i64 p.len,.bool p.sp]
def triB (s:ByteArray) (i:Int):Bool:=decide (i+2<s.size)&&decide (bt s i=63)&&decide (bt s (i+1)=63)&&isThird (bt s (i+2))
def chB (s:ByteArray) (i:Int):Int:=if triB s i then third (bt s (i+2))else bt s i
def chN (s:ByteArray) (i:Int):Int:=if triB s i then 3 else 1
def spl (s:ByteArray) (i:Int):Bool:=decide (chB s i=92)&&decide (i+chN s i<s.size)&&decide (bt s (i+chN s i)=10)
def partP (s:ByteArray) (i:Int):Part:=if spl s i then⟨0,i,chN s i+1,true⟩else⟨chB s i,i,chN s i,false⟩
theorem partAt_any (s:ByteArray) (i:Int) (h0:0≤i) (h1:i<s.size) (hs:s.size≤140737488355328) (w:World) :
 Calls Tryz.prog 125 #[.string s,.int .i64 i] w (Bc w fun v _=>v=(partP s i).val):=by
 refine Bq Aa Tryz.func125 O O [] 0 [.v (.string s),.v (.int .i64 i)] O O O O (fun b hb=>by cases hb) ?_
 refine Ao Aa ?_
 repeat(refine And.intro ?_ ?_;first|omega|(simp<;>omega))
 refine Ap (fun h=>?_) (fun h=>?_)
 have h':=h
 simp only[Bool.and_eq_true,decide_eq_true_eq]at h
 repeat(refine And.intro ?_ ?_;first|omega|(simp<;>omega))
 refine Am (.tuple #[.int .u8 (third (bt s (i+2))),.bool (isThird (bt s (i+2)))]) O O O O fn97 O O (fun E w F _=>third_any _ w) ?_
 refine Ab Aa ?_
 refine Ap (fun h2=>?_) (fun h2=>?_)
 have ht:triB s i=true:=by unfold triB;rw[h',h2];rfl
 have hc:chB s i=third (bt s (i+2)):=by simp[chB,ht]
 have hn:chN s i=3:=by simp[chN,ht]
 repeat(refine And.intro ?_ ?_;first|omega|(simp<;>omega))
 refine Ap (fun h3=>?_) (fun h3=>?_)
 have hs3:spl s i=true:=by unfold spl;rw[hc,hn];exact h3
 repeat(refine And.intro ?_ ?_;first|omega|(simp<;>omega))
 refine Ay (fun _ _=>?_)
 rw[partP,if_pos hs3,hn];rfl
 have hs3:spl s i=false:=by unfold spl;rw[hc,hn];exact h3
 repeat(refine And.intro ?_ ?_;first|omega|(simp<;>omega))
 refine Ay (fun _ _=>?_)
 rw[partP,if_neg (by rw[hs3];simp),hn,hc];rfl
 have ht:triB s i=false:=by unfold triB;rw[h',h2];rfl
 have hc:chB s i=bt s i:=by simp[chB,ht]
 have hn:chN s i=1:=by simp[chN,ht]
 repeat(refine And.intro ?_ ?_;first|omega|(simp<;>omega))
 refine Ap (fun h3=>?_) (fun h3=>?_)
 have hs3:spl s i=true:=by unfold spl;rw[hc,hn];exact h3
 repeat(refine And.intro ?_ ?_;first|omega|(simp<;>omega))
 refine Ay (fun _ _=>?_)
 rw[partP,if_pos hs3,hn];rfl
 have hs3:spl s i=false:=by unfold spl;rw[hc,hn];exact h3
 repeat(refine And.intro ?_ ?_;first|omega|(simp<;>omega))
 refine Ay (fun _ _=>?_)
 rw[partP,if_neg (by rw[hs3];simp),hn,hc];rfl
 have ht:triB s i=false:=by unfold triB;rw[h];rfl
 have hc:chB s i=bt s i:=by simp[chB,ht]
 have hn:chN s i=1:=by simp[chN,ht]
 repeat(refine And.intro ?_ ?_;first|omega|(simp<;>omega))
 refine Ap (fun h3=>?_) (fun h3=>?_)
 have hs3:spl s i=true:=by unfold spl;rw[hc,hn];exact h3
 repeat(refine And.intro ?_ ?_;first|omega|(simp<;>omega))
 refine Ay (fun _ _=>?_)
 rw[partP,if_pos hs3,hn];rfl
 have hs3:spl s i=false:=by unfold spl;rw[hc,hn];exact h3
 repeat(refine And.intro ?_ ?_;first|omega|(simp<;>omega))
 refine Ay (fun _ _=>?_)
 rw[partP,if_neg (by rw[hs3];simp),hn,hc];rfl
theorem partP_pos (s:ByteArray) (i:Int):(partP s i).pos=i:=by unfold partP;split<;>rfl
theorem partP_len (s:ByteArray) {i:Int} (h0:0≤i) (h1:i<s.size):1≤(partP s i).len∧i+(partP s i).len≤s.size:=by
 have hn:1≤chN s i∧i+chN s i≤s.size:=by
  unfold chN
  split
  rename_i h
  unfold triB at h
  simp only[Bool.and_eq_true,decide_eq_true_eq]at h
  omega
  omega
 unfold partP
 split
 rename_i h
 unfold spl at h
 simp only[Bool.and_eq_true,decide_eq_true_eq]at h
 exact⟨by show 1≤chN s i+1;omega,by show i+(chN s i+1)≤_;omega⟩
 exact hn
theorem end_any (p:Part) (w:World) (h0:0≤p.pos) (h1:0≤p.len) (h2:p.pos+p.len≤9223372036854775807) :
 Calls Tryz.prog 123 #[p.val] w (Bc w fun v _=>v=.int .i64 (p.pos+p.len)):=by
 refine Bq Aa Tryz.func123 O O [] 0 [.v (.agg #[.int .u8 p.b,.int .i64 p.pos,.int .i64 p.len,.bool p.sp])] O O O O (fun b hb=>by cases hb) ?_
 refine Ao Aa ?_
 repeat(refine And.intro ?_ ?_;first|omega|(simp<;>omega))
 exact Ay (fun _ _=>rfl)
def partsF (s:ByteArray):Nat→Int→List Part
 |0,_=>[]
 |n+1,i=>if i<s.size then partP s i::partsF s n (i+(partP s i).len)else[]
def partsV (s:ByteArray):List Part:=partsF s s.size 0
theorem partsF_step (s:ByteArray) {n:Nat} {i:Int} (h:i<s.size) (hn:s.size-i≤n) (h0:0≤i):∃m,partsF s n i=partP s i::partsF s m (i+(partP s i).len)∧s.size-(i+(partP s i).len)≤m:=by
 cases n with
 |zero=>omega
 |succ m=>
  refine⟨m,by simp only[partsF];rw[if_pos h],?_⟩
  have:=(partP_len s h0 h).1
  omega
theorem partsF_end (s:ByteArray) {n:Nat} {i:Int} (h:¬i<s.size):partsF s n i=[]:=by
 cases n with
 |zero=>rfl
 |succ m=>simp only[partsF];rw[if_neg h]
theorem parts_iter (s:ByteArray) (b:Nat) (u0:Im) (hb:u0.h b=some (.cells #[.string s] 9 (0,0))) (hs:s.size≤140737488355328) :
 Iter Tryz.prog 124 #[.pointer (some ⟨b,0,none⟩)] ((partsV s).map Part.val) u0:=by
 refine x_iter Aa Tryz.func124 O O [(.slice (some ⟨b,0,none⟩) 1 1,⟨1,[fun _=>.string s]⟩)] [.e 1 1 0 0] (boxEnv b) (fun j x hj=>?_) O O (fun x hx=>?_) (fun x hx=>?_) (fun l Y Z u hu hR=>?_)
 match j,hj with
 |0,hj=>cases hj;rfl
 |j+1,hj=>simp at hj
 simp only[List.mem_singleton]at hx
 subst hx
 exact⟨by simp,_,1,1,rfl,Int.le_refl _,by omega⟩
 simp only[List.mem_singleton]at hx
 subst hx
 exact Aw.box1 hb
 refine Ao Aa ?_
 refine Br (σ:=Nat×Int) (fun(k,i)=>⟨[(3,.v (.int .i64 i)),(0,.v (.func (.yield l) #[] #[])),(1,.e 1 1 0 0)],[],[(0,.gen (Y k).hp),(1,.sl ⟨1,[fun _=>.string s]⟩)],2⟩)
  (fun(k,i) _=>0≤i∧i≤s.size∧∃n pre,pre.length=k∧partsV s=pre++partsF s n i∧s.size-i≤n) (fun(_,i)=>(s.size-i).toNat) (fun(_,_)=>Nat.le_refl _) (0,0) [] .z
  ⟨by omega,by omega,s.size,[],rfl,rfl,by omega⟩ ?_
 rintro⟨k,i⟩ u2 hu2 ⟨g1,g2,n,pre,g3,g4,g5⟩
 refine Ao Aa ?_
 repeat(refine And.intro ?_ ?_;first|omega|(simp<;>omega))
 refine Ap (fun h=>?_) (fun h=>?_)
 have h2:i<s.size:=of_decide_eq_true h
 obtain⟨hl1,hl2⟩:=partP_len s g1 h2
 obtain⟨m,e1,e2⟩:=partsF_step s h2 g5 g1
 have hx:((partsV s).map Part.val)[k]?=some (partP s i).val:=by
  rw[List.getElem?_map,g4,e1,List.getElem?_append_right (by omega),g3,Nat.sub_self];rfl
 refine Am (partP s i).val O O O O fn125 O O (fun E w F _=>partAt_any s i g1 h2 hs w) ?_
 refine Ab Aa ?_
 refine xl_yield (kY:=0) rfl hR O O O O O O O O hx ?_ ?_
 refine Ab Aa ?_
 refine x_iff rfl ?_
 repeat(refine And.intro ?_ ?_;first|omega|(simp<;>omega))
 refine Am (.int .i64 ((partP s i).pos+(partP s i).len)) O O O O fn123 O O (fun E w F _=>end_any (partP s i) w (by rw[partP_pos];omega) (by omega) (by rw[partP_pos];omega)) ?_
 refine Ab Aa ?_
 rw[partP_pos]
 refine Bj (k+1,i+(partP s i).len) [] .z ⟨by omega,by omega,m,pre++[partP s i],by rw[List.length_append,g3];rfl,by rw[g4,e1];simp,e2⟩ (by simp only;omega)
 refine Ab Aa ?_
 refine Be rfl ?_
 exact .inr rfl
 have h2:¬i<s.size:=of_decide_eq_false h
 rw[partsF_end s h2,List.append_nil]at g4
 have hk:((partsV s).map Part.val).length=k:=by rw[List.length_map,g4,g3]
 exact .inl (by rw[hk];rfl)
def PartsFn (s:ByteArray) (v:Value) (u:Im):Prop:=∃b,v=.func (.func 124) #[] #[.pointer (some ⟨b,0,none⟩)]∧u.h b=some (.cells #[.string s] 9 (0,0))
theorem partsFn_any (s:ByteArray) (w:World):Calls Tryz.prog 89 #[.string s] w (Bc w (PartsFn s)):=by
 refine Bq Aa Tryz.func89 O O [] 0 [.v (.string s)] O O O O (fun b hb=>by cases hb) ?_
 refine Ao Aa ?_
 refine finP (fun E w' F hs hu=>?_)
 obtain⟨b,h1,h2⟩:=hs.boxNew (k:=0) rfl hu
 refine⟨b,?_,h2⟩
 simp[SV.den,tupV,ptrOf,h1]
theorem partsF_mem (s:ByteArray) {p:Part}:∀ {n i},0≤i→p∈partsF s n i→i≤p.pos∧p.pos<s.size∧p=partP s p.pos
 |0,_,_,h=>by cases h
 |n+1,i,h0,h=>by
  simp only[partsF]at h
  split at h
  rename_i hi
  rcases List.mem_cons.1 h with rfl|h
  rw[partP_pos];exact⟨Int.le_refl _,hi,rfl⟩
  have hl:=(partP_len s h0 hi).1
  have:=partsF_mem s (n:=n) (by omega) h
  exact⟨by omega,this.2⟩
  cases h
theorem partsV_mem {s:ByteArray} {p:Part} (h:p∈partsV s):0≤p.pos∧p.pos<s.size∧1≤p.len∧p.pos+p.len≤s.size∧p=partP s p.pos:=by
 obtain⟨h1,h2,h3⟩:=partsF_mem s (Int.le_refl 0) h
 have:=partP_len s h1 h2
 rw[←h3]at this
 exact⟨h1,h2,this.1,this.2,h3⟩
theorem drop_get {α:Type} {L:List α} {k:Nat} {x:α} (h:L[k]?=some x):L.drop k=x::L.drop (k+1):=by
 obtain⟨hk,rfl⟩:=List.getElem?_eq_some_iff.1 h
 exact List.drop_eq_getElem_cons hk
def checkL (n:Int):List Part→Int
 |[]=>0
 |p::r=>if p.pos+p.len=n then(if p.sp||decide (p.b≠10)then 10 else 0)else checkL n r
def checkE (s:ByteArray):Int:=if 65536<s.size then 3 else checkL s.size (partsV s)
theorem check_any (s:ByteArray) (w:World) (hs:s.size≤9223372036854775807):Calls Tryz.prog 88 #[.string s] w (Bc w fun v _=>v=.int .i64 (checkE s)):=by
 refine Bq Aa Tryz.func88 O O [] 0 [.v (.string s)] O O O O (fun b hb=>by cases hb) ?_
 refine Ao Aa ?_
 repeat(refine And.intro ?_ ?_;first|omega|(simp<;>omega))
 refine Ap (fun h=>?_) (fun h=>?_)
 have h:=of_decide_eq_true h
 refine Ay (fun _ _=>?_)
 rw[checkE,if_pos (by omega)];rfl
 have h:=of_decide_eq_false h
 have e0:checkE s=checkL s.size (partsV s):=by rw[checkE,if_neg (by omega)]
 refine xl_call _ O O O O fn89 O O (fun E w F _=>partsFn_any s w) (fun v u1 u2 hu2 hs2 hv=>?_)
 obtain⟨b,rfl,hb⟩:=hv
 refine Ab Aa ?_
 have hb2:u2.h b=some (.cells #[.string s] 9 (0,0)):=by
  have h9:=hs2.h _ _ hb
  simp only[cut]at h9
  split at h9
  cases h9
  exact h9
 refine x_range (σ:=Unit) (τ:=Int) rfl fn124 (parts_iter s b u2 hb2 (by omega)) [(3,.p 1 0),(2,.v (.int .i64 0)),(1,.p 0 0),(0,.v (.string s))]
  (fun _=>[(0,.box 9 [.v (.string s)]),(1,.box 30 [.v (.int .i64 0)])]) (fun _=>3) (fun k _ _=>checkL s.size (partsV s)=checkL s.size ((partsV s).drop k))
  (fun v=>[(0,.box 9 [.v (.string s)]),(1,.box 30 [.v (.int .i64 v)])]) (fun _=>3) (fun v e _=>e=.exit 0∧checkL s.size (partsV s)=v) () [] .z O O
  (fun _=>rfl) (fun _=>rfl) (fun _=>by decide) (fun _=>by decide) rfl (fun l k x _ u3 Fr Fr' hx hu3 hg=>?_) (fun _ u3 hu3 hg=>?_) (fun _ e u3 hu3 hg=>?_)
 rw[List.getElem?_map]at hx
 obtain⟨p,hp,rfl⟩:=Option.map_eq_some_iff.1 hx
 obtain⟨q0,q1,q2,q3,q4⟩:=partsV_mem (List.mem_of_getElem? hp)
 rw[drop_get hp,checkL]at hg
 refine Ao Aa ?_
 refine⟨rfl,rfl,Ao Aa ?_⟩
 refine x_draw mix (by kernel_rfl) (Cq Aa ?_)
 refine xd_call0 (.int .i64 (p.pos+p.len)) O O O O fn123 O O (fun _ E w F _=>end_any p w q0 (by omega) (by omega)) ?_
 refine Cq Aa ?_
 refine Ap (fun h1=>?_) (fun h1=>?_)
 rw[if_pos (of_decide_eq_true h1)]at hg
 refine Ap (fun h2=>?_) (fun h2=>?_)
 rw[if_pos h2]at hg
 exact⟨10,[],.of O O O O O rfl,rfl,hg⟩
 rw[if_neg (by rw[h2];simp)]at hg
 exact⟨0,[],.of O O O O O rfl,rfl,hg⟩
 rw[if_neg (of_decide_eq_false h1)]at hg
 refine⟨(),[],.of O O O O O rfl,hg⟩
 rw[List.length_map,List.drop_length,checkL]at hg
 refine Ay (fun _ _=>?_)
 rw[e0,hg];rfl
 obtain⟨rfl,hg⟩:=hg
 refine Ay (fun _ _=>?_)
 rw[e0,hg];rfl
structure Chr where
 b:Int
 pos:Int
 len:Int
def charY:Lay Chr:=⟨[fun c=>.int .u8 c.b,fun c=>.int .i64 c.pos,fun c=>.int .i64 c.len],⟨0,0,0⟩⟩
def chrsL:List Part→List Chr
 |[]=>[]
 |p::r=>if p.sp then chrsL r else⟨p.b,p.pos,p.len⟩::chrsL r
theorem chrsL_append (a b:List Part):chrsL (a++b)=chrsL a++chrsL b:=by
 induction a with
 |nil=>rfl
 |cons p a ih=>simp only[List.cons_append,chrsL];split<;>simp[ih]
theorem Cj {α:Type} {L:List α} {k:Nat} {x:α} (h:L[k]?=some x):L.take (k+1)=L.take k++[x]:=by
 obtain⟨hk,rfl⟩:=List.getElem?_eq_some_iff.1 h
 exact(List.take_append_getElem hk).symm
theorem chrsL_len (L:List Part):(chrsL L).length≤L.length:=by
 induction L with
 |nil=>exact Nat.le_refl _
 |cons p a ih=>simp only[chrsL];split<;>simp<;>omega
theorem partsF_len (s:ByteArray):∀n i,(partsF s n i).length≤n
 |0,_=>Nat.le_refl _
 |n+1,i=>by
  simp only[partsF]
  split
  have:=partsF_len s n (i+(partP s i).len);simp;omega
  simp
theorem partsV_len (s:ByteArray):(partsV s).length≤s.size:=partsF_len s _ _
def charsOf (s:ByteArray):List Chr:=if checkE s=0 then chrsL (partsV s)else[]
theorem checkE_size {s:ByteArray} (h:checkE s=0):s.size≤65536:=by
 unfold checkE at h
 split at h
 cases h
 omega
theorem of_sub_cut {u1 u2:Im} {n:Nat} (h:u1.sub (cut n u2)) {b:Nat} {o:Obj} (hb:u1.h b=some o):u2.h b=some o:=by
 have h9:=h.h _ _ hb
 simp only[cut]at h9
 split at h9
 cases h9
 exact h9
theorem chars_any (s:ByteArray) (w:World) (hs:s.size≤9223372036854775807):Calls Tryz.prog 50 #[.string s] w (Bc w (OwnT 114 (charY.d (charsOf s)) [.int .i64 (checkE s)])):=by
 refine Bq Aa Tryz.func50 O O [] 0 [.v (.string s)] O O O O (fun b hb=>by cases hb) ?_
 refine Ao Aa ?_
 refine Am (.int .i64 (checkE s)) O O O O fn88 O O (fun E w F _=>check_any s w hs) ?_
 refine Ab Aa ?_
 refine Ap (fun h=>?_) (fun h=>?_)
 have h:=of_decide_eq_true h
 have e1:charsOf s=[]:=by rw[charsOf,if_neg h]
 rw[e1]
 exact finO2n charY
 have h:checkE s=0:=by
  have h:=of_decide_eq_false h
  exact Classical.not_not.1 h
 have hsz:=checkE_size h
 have e1:charsOf s=chrsL (partsV s):=by rw[charsOf,if_pos h]
 rw[e1]
 refine xl_make0 Aa charY 24 s.size O O O O O O O (by kernel_rfl) O O O (by omega) (by omega) ?_
 refine Ab Aa ?_
 refine xl_call _ O O O O fn89 O O (fun E w F _=>partsFn_any s w) (fun v u1 u2 hu2 hs2 hv=>?_)
 obtain⟨b,rfl,hb⟩:=hv
 have hb2:=of_sub_cut hs2 hb
 refine Ab Aa ?_
 refine x_range (σ:=List Chr) (τ:=Empty) rfl fn124 (parts_iter s b u2 hb2 (by omega)) [(5,.p 1 0),(0,.v (.string s))]
  (fun L=>[(1,.box 109 [.r 3]),(3,.row 114 (charY.d L))]) (fun _=>4) (fun k L _=>L=chrsL ((partsV s).take k))
  (fun _=>[]) (fun _=>3) (fun _ e _=>False) [] [(3,some 0)] .z O O
  (fun _=>rfl) (fun _=>rfl) (fun _=>by decide) (fun _=>by decide) rfl (fun l k x L u3 Fr Fr' hx hu3 hg=>?_) (fun L u3 hu3 hg=>?_) (fun _ e u3 hu3 hg=>hg.elim)
 rw[List.getElem?_map]at hx
 obtain⟨p,hp,rfl⟩:=Option.map_eq_some_iff.1 hx
 refine Ao Aa ?_
 refine⟨rfl,rfl,Ao Aa ?_⟩
 have hk:k<(partsV s).length:=(List.getElem?_eq_some_iff.1 hp).1
 have hpl:=partsV_len s
 have hLl:L.length≤k:=by rw[hg];exact Nat.le_trans (chrsL_len _) (by rw[List.length_take];omega)
 refine Ap (fun h1=>?_) (fun h1=>?_)
 have h1:p.sp=false:=by simpa using h1
 have e:chrsL ((partsV s).take (k+1))=L++[⟨p.b,p.pos,p.len⟩]:=by
  rw[Cj hp,chrsL_append,←hg];simp[chrsL,h1]
 refine xl_push Aa charY L ⟨p.b,p.pos,p.len⟩ 24 O O O O O O O O O O O O (by kernel_rfl) O O O O O (fun n hn=>by cases hn;decide) O O O (by omega) (by omega) ?_
 refine Ab Aa ?_
 exact⟨_,[(3,some 5)],.of O O O O O rfl,e.symm⟩
 have h1:p.sp=true:=by simpa using h1
 have e:chrsL ((partsV s).take (k+1))=L:=by
  rw[Cj hp,chrsL_append,←hg];simp[chrsL,h1]
 exact⟨L,[],.of O O O O O rfl,e.symm⟩
 rw[List.length_map,List.take_length]at hg
 subst hg
 rw[h]
 exact finO2 rfl
theorem cloneW_own (L:List Nat) (x:Value) (w:World) (hx:Aw (im w) x (u64Y.d L)) (hL:L.length≤1000000) :
 Calls Tryz.prog 103 #[x] w (Bc w fun v u=>OwnAt u v 201 (u64Y.d L)):=by
 refine Bq Aa Tryz.func103 O O [(x,u64Y.d L)] 1 [.r 0] O O O O (fun b hb=>by simp at hb;subst hb;exact hx) ?_
 refine Ao Aa ?_
 refine xl_eqnil Aa O O O O O O O (fun E w F hs=>hs.slAt (k:=0) rfl) (fun b hb=>?_)
 refine Ab Aa ?_
 refine Ap (fun h=>?_) (fun h=>?_)
 have h0:L=[]:=List.eq_nil_of_length_eq_zero (hb h)
 subst h0
 exact finP fun _ _ _ hs _=>.inl ⟨rfl,rfl⟩
 refine xl_empty Aa u64Y O O O O O O O ?_
 refine Ab Aa ?_
 refine Bm Aa u64Y [] L 8 O O O O O O O O (by kernel_rfl) O O O (fun E w F hs=>hs.slAt (k:=0) rfl) u64One rfl (by simp;omega) (by simp;omega) ?_
 refine Ab Aa ?_
 exact finO (k:=2) (D:=u64Y.d L) rfl
theorem getD_zip (A B:List Nat) (i:Nat):(List.zipWith (· &&& ·) A B).getD i 0=A.getD i 0 &&& B.getD i 0:=by
 simp only[List.getD_eq_getElem?_getD,List.getElem?_zipWith]
 cases A[i]?<;>cases B[i]?<;>simp
theorem andW_ok {A B:List Nat} (ha:okW A):okW (List.zipWith (· &&& ·) A B):=by
 intro w hw
 obtain⟨i,hi⟩:=List.mem_iff_getElem?.1 hw
 rw[List.getElem?_zipWith]at hi
 cases h1:A[i]? with
 |none=>rw[h1]at hi;cases hi
 |some a=>
  cases h2:B[i]? with
  |none=>rw[h1,h2]at hi;cases hi
  |some b=>
   rw[h1,h2]at hi
   cases hi
   exact Nat.lt_of_le_of_lt Nat.and_le_left (ha a (List.mem_of_getElem? h1))
theorem andW_N {A B:List Nat} (ha:okW A) (hb:okW B):wN (List.zipWith (· &&& ·) A B)=wN A &&& wN B:=by
 refine Nat.eq_of_testBit_eq (fun j=>?_)
 rw[wN_bit _ (andW_ok ha),Nat.testBit_and,wN_bit A ha,wN_bit B hb,getD_zip,Nat.testBit_and]
theorem wN_zero (L:List Nat):wN (L++[0])=wN L:=by
 induction L with
 |nil=>rfl
 |cons w r ih=>simp only[List.cons_append,wN,ih]
theorem okW_take {L:List Nat} (h:okW L) (k:Nat):okW (L.take k):=fun w hw=>h w (List.mem_of_mem_take hw)
theorem Bk.uniq {u:Im} {p:Option Addr} {n m:Nat} (h:Bk u p n) (k:Bk u p m):n=m:=by
 cases p with
 |none=>exact(show n=0 from h).trans (show m=0 from k).symm
 |some ad=>
  obtain⟨b,x,W,h1,h2,h3,h4,h5,_⟩:=h
  obtain⟨b',x',W',k1,k2,k3,k4,k5,_⟩:=k
  rw[h1]at k1
  cases k1
  rw[h2]at k2
  simp only[Option.some.injEq,Obj.cells.injEq,Array.mk.injEq,List.cons.injEq,and_true]at k2
  subst k2
  obtain⟨A,c,e1,_,_,e2⟩:=h3
  obtain⟨A',c',f1,_,_,f2⟩:=k3
  rw[e1]at f1
  simp only[Value.slice.injEq,Lay.d_n]at f1
  obtain⟨rfl,hl,_⟩:=f1
  have:W=W':=by
   refine List.ext_getElem? (fun i=>?_)
   rcases Nat.lt_or_ge i W.length with hi|hi
   obtain⟨ad,r1,r2⟩:=e2 (by rw[Lay.d_n];omega)
   obtain⟨ad',s1,s2⟩:=f2 (by rw[Lay.d_n];omega)
   rw[r1]at s1
   cases s1
   have q1:=r2 i hi 0 _ rfl
   have q2:=s2 i (by rw[Lay.d_n];omega) 0 _ rfl
   rw[Lay.cs_length]at q1 q2
   rw[q1]at q2
   simp only[Option.some.injEq,Value.int.injEq,true_and,Int.toNat_natCast]at q2
   have q3:W.getD i 0=W'.getD i 0:=Int.ofNat.inj q2
   rw[List.getD_eq_getElem?_getD,List.getD_eq_getElem?_getD,List.getElem?_eq_getElem hi,List.getElem?_eq_getElem (by omega)]at q3
   rw[List.getElem?_eq_getElem hi,List.getElem?_eq_getElem (by omega)]
   exact congrArg some q3
   rw[List.getElem?_eq_none hi,List.getElem?_eq_none (by omega)]
  rw[←h5,←k5,this]
theorem Cb (p q:Option Addr) (n m:Nat) (u0:Im) (w:World) (hu0:u0.sub (im w)) (hp:Bk u0 p n) (hq:Bk u0 q m) :
 Calls Tryz.prog 73 #[.pointer p,.pointer q] w (Bc w fun v u1=>∃p',v=.pointer p'∧Nw u0 u1 (fun u'=>Bk u' p' (n &&& m))):=by
 have hw:Bk (im w) p n:=hp.sub hu0
 have kw:Bk (im w) q m:=hq.sub hu0
 refine Bq Aa Tryz.func73 O O [] 0 [.v (.pointer p),.v (.pointer q)] O O O O (fun b hb=>by cases hb) ?_
 refine Ao Aa ?_
 refine xl_binV (.bool (decide (p=q))) O O O O O O (fun w=>eqGuardP _ _ _ _ _ _ w) (fun _ w hw'=>run_eqP rfl (Aa 203 _ rfl) (by decide) hw' hw.blk kw.blk) ?_
 refine Ab Aa ?_
 refine xl_binV (.bool (decide (p=none))) O O O O O O (fun w=>eqGuardP _ _ _ _ _ _ w) (fun _ w hw'=>run_eqP rfl (Aa 203 _ rfl) (by decide) hw' hw.blk (blk_none _)) ?_
 refine Ab Aa ?_
 refine Ap (fun h1=>?_) (fun h1=>?_)
 have h1:(decide (p=q)||decide (p=none))=true:=h1
 refine Ay (fun _ _=>⟨p,rfl,fun u' k1 _=>?_⟩)
 simp only[Bool.or_eq_true,decide_eq_true_eq]at h1
 rcases h1 with h1|h1
 subst h1
 rw[←hp.uniq hq,Nat.and_self];exact hp.sub k1
 subst h1
 rw[show n=0 from hp,Nat.zero_and];exact rfl
 have h1:(decide (p=q)||decide (p=none))=false:=h1
 simp only[Bool.or_eq_false_iff,decide_eq_false_iff_not]at h1
 refine xl_binV (.bool (decide (q=none))) O O O O O O (fun w=>eqGuardP _ _ _ _ _ _ w) (fun _ w hw'=>run_eqP rfl (Aa 203 _ rfl) (by decide) hw' kw.blk (blk_none _)) ?_
 refine Ab Aa ?_
 refine Ap (fun h2=>?_) (fun h2=>?_)
 have h2:q=none:=of_decide_eq_true h2
 subst h2
 exact Ay (fun _ _=>⟨none,rfl,fun u' _ _=>by rw[show m=0 from hq,Nat.and_zero];exact rfl⟩)
 have h2:¬q=none:=of_decide_eq_false h2
 obtain⟨a,rfl⟩:=Option.ne_none_iff_exists'.1 h1.2
 obtain⟨b,rfl⟩:=Option.ne_none_iff_exists'.1 h2
 obtain⟨ba,xa,A,rfl,a2,a3,a4,a5,a6⟩:=hw
 obtain⟨bb,xb,B,rfl,b2,b3,b4,b5,b6⟩:=kw
 obtain⟨AA,ca,rfl⟩:=a3.form
 obtain⟨AB,cb,rfl⟩:=b3.form
 refine x_ptr 0 [.slice AA (u64Y.d A).n ca] rfl (ptAt_box a2) ?_
 refine x_ptr 1 [.slice AB (u64Y.d B).n cb] rfl (ptAt_box b2) ?_
 refine Bw mix ?_
 refine xa_phase Aa (fuel:=2) [0,1,2,3,4,5,6,7,8,9,10,11,12,13,14,15] rfl (by kernel_rfl) (by kernel_rfl) (by kernel_rfl) (phaseB_of 15 (by kernel_rfl)) ?_
 refine Cq Aa ?_
 have hm0:(if((B.length:Nat):Int)<((A.length:Nat):Int)then((B.length:Nat):Int)else((A.length:Nat):Int))=((min A.length B.length:Nat):Int):=by split<;>omega
 refine xd_min ((min A.length B.length:Nat):Int) hm0 O O O O O O ?_
 refine Cq Aa ?_
 have hca:A.length≤ca:=by
  obtain⟨_,_,e,h3,_⟩:=a3
  cases e;exact h3
 refine xd_toE Aa O O O O O O O O O (by omega) (by omega) ?_
 refine Cq Aa ?_
 have hA':Aw (im w) (partV 1 AA ca 0 (min A.length B.length)) (u64Y.d (A.take (min A.length B.length))):=by
  have:=partV_slAt a3 (l:=0) (h:=min A.length B.length) (Nat.zero_le _) (by omega)
  exact this
 refine Ag 16 (by kernel_rfl) rfl ?_
 refine xl_callO 201 (u64Y.d (A.take (min A.length B.length))) O O O O fn103 O O (fun E w' F hs=>cloneW_own _ _ w' (by
  have:=hA'.imm hs.imm
  rw[Int.toNat_natCast];exact this) (by rw[List.length_take];omega)) ?_
 refine Ad ?_
 refine Ae (fuel:=0) [17] rfl (by kernel_rfl) (by kernel_rfl) ?_
 refine Ab Aa ?_
 refine Aj (by kernel_rfl) rfl ?_
 obtain⟨A',hAe⟩:∃A',A'=A.take (min A.length B.length):=⟨_,rfl⟩
 have hAl:A'.length=min A.length B.length:=by rw[hAe,List.length_take];omega
 rw[←hAe]
 have hZ:List.zipWith (· &&& ·) A' B=List.zipWith (· &&& ·) A B:=by
  refine List.ext_getElem? (fun j=>?_)
  by_cases hj:j<min A.length B.length
  rw[List.getElem?_zipWith,List.getElem?_zipWith,hAe,List.getElem?_take,if_pos hj]
  rw[List.getElem?_eq_none (by rw[List.length_zipWith,hAl];omega),List.getElem?_eq_none (by rw[List.length_zipWith];omega)]
 refine Br (σ:=Nat×List Nat) (fun(i,L)=>⟨[(36,.v (.int .i64 (i:Int))),(35,.v (.int .i64 ((A'.length:Nat):Int))),(5,.r 2),(1,.e 1 1 0 0)],[],[(2,.row 201 (u64Y.d L)),(1,.sl (oneD [.slice AB (u64Y.d B).n cb]))],3⟩)
  (fun(i,L) _=>i≤A'.length∧L=(List.zipWith (· &&& ·) A' B).take i++A'.drop i) (fun(i,_)=>A'.length-i) (fun _=>Nat.le_refl _) (0,A') [] .z ⟨Nat.zero_le _,rfl⟩ ?_
 rintro⟨i,L⟩ u5 hu5 ⟨g1,g2⟩
 refine Ao Aa ?_
 refine Ap (fun h3=>?_) (fun h3=>?_)
 have h3:(i:Int)<((A'.length:Nat):Int):=of_decide_eq_true h3
 have hLl:L.length=A'.length:=by rw[g2];simp;omega
 obtain⟨ad,rfl,hcB⟩:∃ad,AB=some ad∧∀j:Nat,j<B.length→(im w).cell? (ad.add j)=some (.int .u64 ((B.getD j 0:Nat):Int)):=by
  obtain⟨_,_,e,_,_,hb⟩:=b3
  cases e
  obtain⟨ad,e1,e2⟩:=hb (by rw[Lay.d_n];omega)
  refine⟨ad,e1,fun j hj=>?_⟩
  have:=e2 j hj 0 _ rfl
  rw[Lay.cs_length,show j*u64Y.fs.length+0=j from Nat.mul_one j]at this
  exact this
 have hai:A'.getD i 0<2^64:=okW_getD (by rw[hAe];exact okW_take a4 _) i
 have hbi:=okW_getD b4 i
 have hLi:L.getD i 0=A'.getD i 0:=by
  rw[g2,List.getD_eq_getElem?_getD,List.getD_eq_getElem?_getD,List.getElem?_append_right (by simp;omega),List.getElem?_drop]
  congr 2
  rw[List.length_take,List.length_zipWith];omega
 refine Bw mix ?_
 refine xa_phase Aa (fuel:=2) [0,1,2,3,4,5,6,7,8,9,10,11] rfl (by kernel_rfl) (by kernel_rfl) (by kernel_rfl) (phaseB_of 11 (by kernel_rfl)) ?_
 refine Cq Aa ?_
 repeat refine sdI ?_
 refine xd_idxV Aa O O O O O O O O O (by omega) (by rw[Lay.d_n];omega) ?_
 refine Cq Aa ?_
 refine xd_loadV Aa (.int .u64 ((B.getD i 0:Nat):Int)) O O O O O O O (by
  have:=hu5.cell (hcB i (by omega))
  rw[Int.toNat_natCast]
  show u5.cell? (ad.add (i*1))=_
  rw[Nat.mul_one];exact this) ?_
 refine Cq Aa ?_
 refine xd_binV (.int .u64 ((A'.getD i 0 &&& B.getD i 0:Nat):Int)) O O O O O O (fun w=>rfl) (fun w _=>by
  show(binOp .and 201 (.int .u64 ((L.getD ((i:Nat):Int).toNat 0:Nat):Int)) (.int .u64 ((B.getD i 0:Nat):Int)):Sem Value).run _ w=_
  rw[Int.toNat_natCast,hLi]
  exact run_andU 201 _ _ hai hbi w) ?_
 refine Cq Aa ?_
 refine Ae (fuel:=0) [12,13] rfl (by kernel_rfl) (by kernel_rfl) ?_
 refine Ab Aa ?_
 repeat refine sdI ?_
 refine Bv Aa u64Y L (A'.getD i 0 &&& B.getD i 0) (cs:=[.int .u64 ((A'.getD i 0 &&& B.getD i 0:Nat):Int)]) O O O O O O O (by omega) (by omega) O O (Nat.le_refl 1) rfl ?_
 refine Ad ?_
 refine Aj (by kernel_rfl) rfl ?_
 rw[Int.toNat_natCast]
 have hnext:L.set i (A'.getD i 0 &&& B.getD i 0)=(List.zipWith (· &&& ·) A' B).take (i+1)++A'.drop (i+1):=by
  have hz:(List.zipWith (· &&& ·) A' B)[i]?=some (A'.getD i 0 &&& B.getD i 0):=by
   rw[List.getElem?_zipWith,List.getD_eq_getElem?_getD,List.getD_eq_getElem?_getD,List.getElem?_eq_getElem (by omega),List.getElem?_eq_getElem (l:=B) (by omega)];rfl
  have hd:A'.drop i=A'.getD i 0::A'.drop (i+1):=by
   rw[List.getD_eq_getElem?_getD,List.getElem?_eq_getElem (by omega)];exact(List.drop_eq_getElem_cons (by omega))
  rw[g2,Cj hz,hd]
  have hl:((List.zipWith (· &&& ·) A' B).take i).length=i:=by rw[List.length_take,List.length_zipWith];omega
  rw[List.set_append_right _ _ (by omega),hl,Nat.sub_self]
  simp
 repeat refine sdI ?_
 exact Bj (i+1,_) [] .z ⟨by omega,hnext⟩ (by show A'.length-(i+1)<A'.length-i;omega)
 have h3:¬(i:Int)<((A'.length:Nat):Int):=of_decide_eq_false h3
 have hL:L=List.zipWith (· &&& ·) A B:=by
  rw[g2,List.take_of_length_le (by rw[List.length_zipWith];omega),List.drop_of_length_le (by omega),List.append_nil,hZ]
 have hN:wN L=n &&& m:=by rw[hL,andW_N a4 b4,a5,b5]
 have hok:okW L:=by rw[hL];exact andW_ok a4
 have hLl:L.length≤1000000:=by rw[hL,List.length_zipWith];omega
 refine Br (σ:=List Nat) (fun L=>⟨[(5,.r 3)],[],[(3,.row 201 (u64Y.d L))],4⟩)
  (fun L _=>wN L=n &&& m∧okW L∧L.length≤1000000) (fun L=>L.length) (fun _=>Nat.le_succ _) L [(3,some 2)] .z ⟨hN,hok,hLl⟩ ?_
 rintro M u6 hu6 ⟨k1,k2,k3⟩
 refine Ao Aa ?_
 repeat refine sdI ?_
 refine Ap (fun h4=>?_) (fun h4=>?_)
 have h4:(decide ((0:Int)<((M.length:Nat):Int))&&decide (((M.getD (((M.length:Nat):Int)-1).toNat 0:Nat):Int)=0))=true:=h4
 simp only[Bool.and_eq_true,decide_eq_true_eq]at h4
 repeat refine sdI ?_
 refine xl_cutTo Aa u64Y M O O O O O O O O O O (by rw[Lay.d_n];omega) (by rw[Lay.d_n];omega) ?_
 refine Ab Aa ?_
 have hM:M=M.take (M.length-1)++[0]:=by
  have hl:M[M.length-1]?=some 0:=by
   have h5:M.getD (M.length-1) 0=0:=by
    have:=h4.2
    rw[show(((M.length:Nat):Int)-1).toNat=M.length-1 by omega]at this
    omega
   rw[List.getD_eq_getElem?_getD,List.getElem?_eq_getElem (by omega)]at h5
   rw[List.getElem?_eq_getElem (by omega)]
   exact congrArg some h5
  have:=Cj hl
  rw[show M.length-1+1=M.length by omega,List.take_of_length_le (Nat.le_refl _)]at this
  exact this
 have e:(((u64Y.d M).n:Int)-1).toNat=M.length-1:=by rw[Lay.d_n];omega
 rw[e]
 refine Bj (M.take (M.length-1)) [(3,some 4)] .z ⟨?_,okW_take k2 _,by rw[List.length_take];omega⟩ (by rw[List.length_take];omega)
 rw[←k1]
 rw[hM,wN_zero]
 simp
 repeat refine sdI ?_
 refine Ap (fun h5=>?_) (fun h5=>?_)
 have h5:((M.length:Nat):Int)=0:=of_decide_eq_true h5
 exact Ay (fun _ _=>⟨none,rfl,fun u' _ _=>by
  have:M=[]:=List.eq_nil_of_length_eq_zero (by omega)
  subst this
  exact k1.symm⟩)
 refine xl_freezeN 3 rfl (fun A2 c2 u2 hu2 hsl hnew=>?_)
 refine Ab Aa ?_
 exact finP (fun E w' F hs hle=>set_ret u0 hs hle (k:=4) rfl ((hsl.newer hnew (hu5.trans hu6)).keep (Im.le.refl _)) k2 k1 k3)
def wiT (A B:List Nat) (k:Nat):Bool:=(List.range k).all (fun i=>decide (subU (A.getD i 0) (B.getD i 0)=0))
def wiF (A B:List Nat):Bool:=decide (A.length≤B.length)&&wiT A B A.length
theorem wiT_succ (A B:List Nat) (k:Nat):wiT A B (k+1)=(wiT A B k&&decide (subU (A.getD k 0) (B.getD k 0)=0)):=by
 unfold wiT
 rw[List.range_succ,List.all_append]
 simp
theorem wiF_or {A B:List Nat} (ha:okW A) (hb:okW B) (h:wiF A B=true):wN A ||| wN B=wN B:=by
 simp only[wiF,wiT,Bool.and_eq_true,decide_eq_true_eq,List.all_eq_true,List.mem_range]at h
 refine Nat.eq_of_testBit_eq (fun j=>?_)
 rw[Nat.testBit_or,wN_bit A ha,wN_bit B hb]
 cases hA:(A.getD (j / 64) 0).testBit (j%64)with
 |false=>rfl
 |true=>
  rcases Nat.lt_or_ge (j / 64) A.length with hj|hj
  have:=(subU_zero (okW_getD ha _) (okW_getD hb _)).1 (h.2 _ hj) _ hA
  rw[this];rfl
  rw[List.getD_eq_getElem?_getD,List.getElem?_eq_none hj]at hA
  simp at hA
structure WdAt (u:Im) (ad:Addr) (A:List Nat):Prop where
 it:∃b AA c,ad=⟨b,0,none⟩∧u.h b=some (.cells #[.slice AA (u64Y.d A).n c] 203 (0,0))∧Aw u (.slice AA (u64Y.d A).n c) (u64Y.d A)∧A.length≤c
 ok:okW A
 len:A.length≤1000000
theorem Bk.wd {u:Im} {ad:Addr} {n:Nat} (h:Bk u (some ad) n):∃A,WdAt u ad A∧wN A=n:=by
 obtain⟨b,x,A,h1,h2,h3,h4,h5,h6⟩:=h
 obtain⟨AA,c,rfl⟩:=h3.form
 refine⟨A,⟨⟨b,AA,c,h1,h2,h3,?_⟩,h4,h6⟩,h5⟩
 obtain⟨_,_,e,q,_⟩:=h3
 cases e;exact q
theorem WdAt.sub {u u':Im} {ad:Addr} {A:List Nat} (h:WdAt u ad A) (hu:u.sub u'):WdAt u' ad A:=by
 obtain⟨⟨b,AA,c,h1,h2,h3,h4⟩,h5,h6⟩:=h
 exact⟨⟨b,AA,c,h1,hu.h _ _ h2,h3.sub hu,h4⟩,h5,h6⟩
theorem within_any (a b:Addr) (A B:List Nat) (w:World) (hA:WdAt (im w) a A) (hB:WdAt (im w) b B) :
 Calls Tryz.prog 138 #[.pointer (some a),.pointer (some b)] w (Bc w fun v _=>v=.bool (wiF A B)):=by
 obtain⟨⟨ba,AA,ca,rfl,a2,a3,a7⟩,a4,a6⟩:=hA
 obtain⟨⟨bb,AB,cb,rfl,b2,b3,b7⟩,b4,b6⟩:=hB
 refine Bq Aa Tryz.func138 O O [] 0 [.v (.pointer (some ⟨ba,0,none⟩)),.v (.pointer (some ⟨bb,0,none⟩))] O O O O (fun b hb=>by cases hb) ?_
 refine Ao Aa ?_
 refine x_ptr 0 [.slice AA (u64Y.d A).n ca] rfl (ptAt_box a2) ?_
 refine x_ptr 1 [.slice AB (u64Y.d B).n cb] rfl (ptAt_box b2) ?_
 refine x_draw mix (by kernel_rfl) (Cq Aa ?_)
 refine Ap (fun h=>?_) (fun h=>?_)
 have h:((B.length:Nat):Int)<((A.length:Nat):Int):=of_decide_eq_true h
 exact Ay (fun _ _=>by
  rw[wiF,decide_eq_false (show ¬A.length≤B.length by omega)];rfl)
 have h:¬((B.length:Nat):Int)<((A.length:Nat):Int):=of_decide_eq_false h
 refine x_sl 21 rfl a3 ?_
 refine Br (σ:=Nat) (fun i=>⟨[(23,.v (.int .i64 (i:Int))),(22,.v (.int .i64 ((A.length:Nat):Int))),(21,.r 2),(1,.e 1 1 0 0)],[],[(2,.sl (u64Y.d A)),(1,.sl (oneD [.slice AB (u64Y.d B).n cb]))],3⟩)
  (fun i _=>i≤A.length∧wiT A B i=true) (fun i=>A.length-i) (fun _=>Nat.le_refl _) 0 [] .z ⟨Nat.zero_le _,rfl⟩ ?_
 rintro i u5 hu5 ⟨g1,g2⟩
 refine Ao Aa ?_
 refine Ap (fun h3=>?_) (fun h3=>?_)
 have h3:(i:Int)<((A.length:Nat):Int):=of_decide_eq_true h3
 repeat refine sdI ?_
 refine xl_sl 32 rfl (b3.mono hu5) ?_
 refine Ab Aa ?_
 repeat refine sdI ?_
 refine xl_binV (.int .u64 ((subU (A.getD i 0) (B.getD i 0):Nat):Int)) O O O O O O (fun w=>rfl) (fun _ w _=>run_andNotU 201 _ _ w) ?_
 refine Ab Aa ?_
 refine Ap (fun h4=>?_) (fun h4=>?_)
 have h4:((subU (A.getD i 0) (B.getD i 0):Nat):Int)≠0:=of_decide_eq_true h4
 refine Ay (fun _ _=>?_)
 have:wiT A B A.length=false:=by
  rw[Bool.eq_false_iff]
  intro hh
  simp only[wiT,List.all_eq_true,List.mem_range,decide_eq_true_eq]at hh
  have:=hh i (by omega)
  omega
 rw[wiF,this,Bool.and_false];rfl
 have h4:¬((subU (A.getD i 0) (B.getD i 0):Nat):Int)≠0:=of_decide_eq_false h4
 repeat refine sdI ?_
 exact Bj (i+1) [] .z ⟨by omega,by rw[wiT_succ,g2,decide_eq_true (by omega)];rfl⟩ (by show A.length-(i+1)<A.length-i;omega)
 have h3:¬(i:Int)<((A.length:Nat):Int):=of_decide_eq_false h3
 exact Ay (fun _ _=>by
  rw[wiF,decide_eq_true (show A.length≤B.length by omega),←show i=A.length by omega,g2];rfl)
def orW (X Y:List Nat) (i:Nat):List Nat:=X.mapIdx (fun j x=>if j<i then x ||| Y.getD j 0 else x)
theorem orW_len (X Y:List Nat) (i:Nat):(orW X Y i).length=X.length:=by simp[orW]
theorem orW_get (X Y:List Nat) (i j:Nat) (h:j<X.length):(orW X Y i).getD j 0=if j<i then X.getD j 0 ||| Y.getD j 0 else X.getD j 0:=by
 unfold orW
 rw[List.getD_eq_getElem?_getD,List.getElem?_mapIdx,List.getD_eq_getElem?_getD,List.getElem?_eq_getElem h]
 simp[List.getElem?_eq_getElem h]
theorem orW_zero (X Y:List Nat):orW X Y 0=X:=by
 unfold orW
 refine List.ext_getElem? (fun j=>?_)
 rw[List.getElem?_mapIdx]
 cases X[j]?<;>simp
theorem orW_succ {X Y:List Nat} {i:Nat} (h:i<X.length):(orW X Y i).set i (X.getD i 0 ||| Y.getD i 0)=orW X Y (i+1):=by
 refine List.ext_getElem? (fun j=>?_)
 rw[List.getElem?_set,orW_len]
 unfold orW
 rw[List.getElem?_mapIdx,List.getElem?_mapIdx]
 by_cases e:i=j
 subst e
 rw[if_pos rfl,if_pos h,List.getElem?_eq_getElem h,Option.map_some,if_pos (by omega),List.getD_eq_getElem?_getD,List.getElem?_eq_getElem h];rfl
 rw[if_neg e]
 cases X[j]? with
 |none=>rfl
 |some x=>
  simp only[Option.map_some,Option.some.injEq]
  by_cases h1:j<i
  rw[if_pos h1,if_pos (by omega)]
  rw[if_neg h1,if_neg (by omega)]
theorem orW_ok {X Y:List Nat} (hx:okW X) (hy:okW Y) (i:Nat):okW (orW X Y i):=by
 intro w hw
 obtain⟨j,hj⟩:=List.mem_iff_getElem?.1 hw
 have hjl:j<X.length:=by
  have:=(List.getElem?_eq_some_iff.1 hj).1
  rw[orW_len]at this;exact this
 have:=orW_get X Y i j hjl
 rw[List.getD_eq_getElem?_getD,hj,Option.getD_some]at this
 rw[this]
 split
 exact Nat.or_lt_two_pow (okW_getD hx j) (okW_getD hy j)
 exact okW_getD hx j
theorem orW_N {X Y:List Nat} (hx:okW X) (hy:okW Y) (h:Y.length≤X.length):wN (orW X Y Y.length)=wN X ||| wN Y:=by
 refine Nat.eq_of_testBit_eq (fun j=>?_)
 rw[wN_bit _ (orW_ok hx hy _),Nat.testBit_or,wN_bit X hx,wN_bit Y hy]
 rcases Nat.lt_or_ge (j / 64) X.length with hj|hj
 rw[orW_get X Y _ _ hj]
 split
 rw[Nat.testBit_or]
 rename_i hn
 rw[List.getD_eq_getElem?_getD (l:=Y),List.getElem?_eq_none (by omega)]
 simp
 rw[List.getD_eq_getElem?_getD,List.getD_eq_getElem?_getD,List.getD_eq_getElem?_getD,List.getElem?_eq_none (by rw[orW_len];exact hj),List.getElem?_eq_none hj,List.getElem?_eq_none (l:=Y) (by omega)]
 simp
theorem either_any (p q:Option Addr) (n m:Nat) (u0:Im) (w:World) (hu0:u0.sub (im w)) (hp:Bk u0 p n) (hq:Bk u0 q m) :
 Calls Tryz.prog 108 #[.pointer p,.pointer q] w (Bc w fun v u1=>∃p',v=.pointer p'∧Nw u0 u1 (fun u'=>Bk u' p' (n ||| m))):=by
 have hs0:=hu0
 have hw:Bk (im w) p n:=hp.sub hs0
 have kw:Bk (im w) q m:=hq.sub hs0
 refine Bq Aa Tryz.func108 O O [] 0 [.v (.pointer p),.v (.pointer q)] O O O O (fun b hb=>by cases hb) ?_
 refine Ao Aa ?_
 refine xl_binV (.bool (decide (p=none))) O O O O O O (fun w=>eqGuardP _ _ _ _ _ _ w) (fun _ w hw'=>run_eqP rfl (Aa 203 _ rfl) (by decide) hw' hw.blk (blk_none _)) ?_
 refine Ab Aa ?_
 refine xl_binV (.bool (decide (p=q))) O O O O O O (fun w=>eqGuardP _ _ _ _ _ _ w) (fun _ w hw'=>run_eqP rfl (Aa 203 _ rfl) (by decide) hw' hw.blk kw.blk) ?_
 refine Ab Aa ?_
 refine Ap (fun h1=>?_) (fun h1=>?_)
 have h1:(decide (p=none)||decide (p=q))=true:=h1
 refine Ay (fun _ _=>⟨q,rfl,fun u' k1 _=>?_⟩)
 simp only[Bool.or_eq_true,decide_eq_true_eq]at h1
 rcases h1 with h1|h1
 subst h1
 rw[show n=0 from hp,Nat.zero_or];exact hq.sub k1
 subst h1
 rw[←hp.uniq hq,Nat.or_self];exact hp.sub k1
 have h1:(decide (p=none)||decide (p=q))=false:=h1
 simp only[Bool.or_eq_false_iff,decide_eq_false_iff_not]at h1
 obtain⟨a,rfl⟩:=Option.ne_none_iff_exists'.1 h1.1
 obtain⟨A,hA,hAn⟩:=hw.wd
 cases q with
 |none=>
  refine xl_binV (.bool true) O O O O O O (fun w=>eqGuardP _ _ _ _ _ _ w) (fun _ w hw'=>run_eqP rfl (Aa 203 _ rfl) (by decide) hw' (blk_none _) (blk_none _)) ?_
  refine Ab Aa ?_
  refine xl_skip 20 (.bool false) O O O O O (by decide) ?_
  refine Ab Aa ?_
  refine Be rfl ?_
  exact Ay (fun _ _=>⟨some a,rfl,fun u' k1 _=>by rw[show m=0 from hq,Nat.or_zero];exact hp.sub k1⟩)
 |some b=>
  obtain⟨B,hB,hBn⟩:=kw.wd
  refine xl_binV (.bool false) O O O O O O (fun w=>eqGuardP _ _ _ _ _ _ w) (fun _ w hw'=>run_eqP rfl (Aa 203 _ rfl) (by decide) hw' kw.blk (blk_none _)) ?_
  refine Ab Aa ?_
  refine Bt (.bool (wiF B A)) O O O O fn138 O O (fun _ E w' F hs=>within_any b a B A w' (hB.sub ⟨fun b o hb=>hs.imm.h b o hb⟩) (hA.sub ⟨fun b o hb=>hs.imm.h b o hb⟩)) ?_
  refine Ab Aa ?_
  refine Ap (fun h2=>?_) (fun h2=>?_)
  have h2:wiF B A=true:=by simpa using h2
  exact Ay (fun _ _=>⟨some a,rfl,fun u' k1 _=>by
   rw[←hAn,←hBn,Nat.or_comm,wiF_or hB.ok hA.ok h2,hAn];exact hp.sub k1⟩)
  refine Am (.bool (wiF A B)) O O O O fn138 O O (fun E w' F hs=>within_any a b A B w' (hA.sub ⟨fun b o hb=>hs.imm.h b o hb⟩) (hB.sub ⟨fun b o hb=>hs.imm.h b o hb⟩)) ?_
  refine Ab Aa ?_
  refine Ap (fun h3=>?_) (fun h3=>?_)
  have h3:wiF A B=true:=h3
  exact Ay (fun _ _=>⟨some b,rfl,fun u' k1 _=>by
   rw[←hAn,←hBn,wiF_or hA.ok hB.ok h3,hBn];exact hq.sub k1⟩)
  obtain⟨⟨ba,AA,ca,rfl,a2,a3,a7⟩,a4,a6⟩:=hA
  obtain⟨⟨bb,AB,cb,rfl,b2,b3,b7⟩,b4,b6⟩:=hB
  refine x_ptr 0 [.slice AA (u64Y.d A).n ca] rfl (ptAt_box a2) ?_
  refine x_ptr 1 [.slice AB (u64Y.d B).n cb] rfl (ptAt_box b2) ?_
  refine x_draw mix (by kernel_rfl) (Cq Aa ?_)
  refine Ap (fun h4=>?_) (fun h4=>?_)
  have h4:((A.length:Nat):Int)<((B.length:Nat):Int):=of_decide_eq_true h4
  obtain⟨nn,hnn⟩:∃nn,nn=wN B ||| wN A:=⟨_,rfl⟩
  have hgoal:n ||| m=nn:=by rw[hnn,←hAn,←hBn,Nat.or_comm]
  refine xl_callO 201 (u64Y.d B) O O O O fn103 O O (fun E w' F hs=>cloneW_own _ _ w' (b3.imm hs.imm) b6) ?_
  refine Ab Aa ?_
  refine x_sl 52 rfl a3 ?_
  refine Br (σ:=Nat×List Nat) (fun(i,L)=>⟨[(54,.v (.int .i64 (i:Int))),(53,.v (.int .i64 ((A.length:Nat):Int))),(52,.r 3),(5,.r 2)],[],[(2,.row 201 (u64Y.d L)),(3,.sl (u64Y.d A))],4⟩)
   (fun(i,L) _=>i≤A.length∧L=orW B A i) (fun(i,_)=>A.length-i) (fun _=>Nat.le_refl _) (0,B) [] .z ⟨Nat.zero_le _,(orW_zero _ _).symm⟩ ?_
  rintro⟨i,L⟩ u5 hu5 ⟨g1,g2⟩
  have hLl:L.length=B.length:=by rw[g2,orW_len]
  refine Ao Aa ?_
  refine Ap (fun h5=>?_) (fun h5=>?_)
  have h5:(i:Int)<((A.length:Nat):Int):=of_decide_eq_true h5
  repeat refine sdI ?_
  have hLi:L.getD i 0=B.getD i 0:=by rw[g2,orW_get _ _ _ _ (by omega),if_neg (by omega)]
  refine xl_binV (.int .u64 ((B.getD i 0 ||| A.getD i 0:Nat):Int)) rfl rfl rfl rfl rfl rfl (fun w=>rfl) (fun _ w _=>by
   show(binOp .or 201 (.int .u64 ((L.getD ((i:Nat):Int).toNat 0:Nat):Int)) (.int .u64 ((A.getD i 0:Nat):Int)):Sem Value).run _ w=_
   rw[Int.toNat_natCast,hLi]
   exact run_orU 201 _ _ (okW_getD b4 i) (okW_getD a4 i) w) ?_
  refine Ab Aa ?_
  repeat refine sdI ?_
  refine Bv Aa u64Y L (B.getD i 0 ||| A.getD i 0) (cs:=[.int .u64 ((B.getD i 0 ||| A.getD i 0:Nat):Int)]) rfl rfl rfl rfl rfl rfl rfl (by omega) (by omega) rfl rfl (Nat.le_refl 1) rfl ?_
  refine Ab Aa ?_
  repeat refine sdI ?_
  rw[Int.toNat_natCast]
  exact Bj (i+1,_) [] .z ⟨by omega,by rw[g2,orW_succ (by omega)]⟩ (by show A.length-(i+1)<A.length-i;omega)
  have h5:¬(i:Int)<((A.length:Nat):Int):=of_decide_eq_false h5
  have hL:L=orW B A A.length:=by rw[g2,show i=A.length by omega]
  refine xl_freezeN 2 rfl (fun A2 c2 u2 hu2 hsl hnew=>?_)
  refine Ab Aa ?_
  rw[hgoal]
  exact finP (fun E w' F hs hle=>set_ret u0 hs hle (k:=4) rfl ((hsl.newer hnew hu5).keep (Im.le.refl _)) (by rw[hL];exact orW_ok b4 a4 _) (by rw[hL,orW_N b4 a4 (by omega),hnn]) (by omega))
  have h4:¬((A.length:Nat):Int)<((B.length:Nat):Int):=of_decide_eq_false h4
  obtain⟨nn,hnn⟩:∃nn,nn=wN A ||| wN B:=⟨_,rfl⟩
  have hgoal:n ||| m=nn:=by rw[hnn,←hAn,←hBn]
  refine xl_callO 201 (u64Y.d A) O O O O fn103 O O (fun E w' F hs=>cloneW_own _ _ w' (a3.imm hs.imm) a6) ?_
  refine Ab Aa ?_
  refine x_sl 52 rfl b3 ?_
  refine Br (σ:=Nat×List Nat) (fun(i,L)=>⟨[(54,.v (.int .i64 (i:Int))),(53,.v (.int .i64 ((B.length:Nat):Int))),(52,.r 3),(5,.r 2)],[],[(2,.row 201 (u64Y.d L)),(3,.sl (u64Y.d B))],4⟩)
   (fun(i,L) _=>i≤B.length∧L=orW A B i) (fun(i,_)=>B.length-i) (fun _=>Nat.le_refl _) (0,A) [] .z ⟨Nat.zero_le _,(orW_zero _ _).symm⟩ ?_
  rintro⟨i,L⟩ u5 hu5 ⟨g1,g2⟩
  have hLl:L.length=A.length:=by rw[g2,orW_len]
  refine Ao Aa ?_
  refine Ap (fun h5=>?_) (fun h5=>?_)
  have h5:(i:Int)<((B.length:Nat):Int):=of_decide_eq_true h5
  repeat refine sdI ?_
  have hLi:L.getD i 0=A.getD i 0:=by rw[g2,orW_get _ _ _ _ (by omega),if_neg (by omega)]
  refine xl_binV (.int .u64 ((A.getD i 0 ||| B.getD i 0:Nat):Int)) rfl rfl rfl rfl rfl rfl (fun w=>rfl) (fun _ w _=>by
   show(binOp .or 201 (.int .u64 ((L.getD ((i:Nat):Int).toNat 0:Nat):Int)) (.int .u64 ((B.getD i 0:Nat):Int)):Sem Value).run _ w=_
   rw[Int.toNat_natCast,hLi]
   exact run_orU 201 _ _ (okW_getD a4 i) (okW_getD b4 i) w) ?_
  refine Ab Aa ?_
  repeat refine sdI ?_
  refine Bv Aa u64Y L (A.getD i 0 ||| B.getD i 0) (cs:=[.int .u64 ((A.getD i 0 ||| B.getD i 0:Nat):Int)]) rfl rfl rfl rfl rfl rfl rfl (by omega) (by omega) rfl rfl (Nat.le_refl 1) rfl ?_
  refine Ab Aa ?_
  repeat refine sdI ?_
  rw[Int.toNat_natCast]
  exact Bj (i+1,_) [] .z ⟨by omega,by rw[g2,orW_succ (by omega)]⟩ (by show B.length-(i+1)<B.length-i;omega)
  have h5:¬(i:Int)<((B.length:Nat):Int):=of_decide_eq_false h5
  have hL:L=orW A B B.length:=by rw[g2,show i=B.length by omega]
  refine xl_freezeN 2 rfl (fun A2 c2 u2 hu2 hsl hnew=>?_)
  refine Ab Aa ?_
  rw[hgoal]
  exact finP (fun E w' F hs hle=>set_ret u0 hs hle (k:=4) rfl ((hsl.newer hnew hu5).keep (Im.le.refl _)) (by rw[hL];exact orW_ok a4 b4 _) (by rw[hL,orW_N a4 b4 (by omega),hnn]) (by omega))
end Go.Proofs.YtnjlkdhdinfejaaGreat
namespace Go.Lx
abbrev Bs:=List Int
def letter (c:Int):Bool:=(decide (97≤c)&&decide (c≤122))||(decide (65≤c)&&decide (c≤90))||decide (c=95)
def digit (c:Int):Bool:=decide (48≤c)&&decide (c≤57)
def white (c:Int):Bool:=decide (c=32)||decide (c=9)||decide (c=11)||decide (c=12)
def sign (c:Int):Bool:=decide (c=43)||decide (c=45)
def expo (c:Int):Bool:=decide (c=101)||decide (c=69)||decide (c=112)||decide (c=80)
def alnum (c:Int):Bool:=letter c||digit c
def okc (c:Int):Bool:=alnum c||decide (c=46)
def run (p:Int→Bool):Bs→Nat
 |[]=>0
 |c::r=>match p c with
  |true=>run p r+1
  |false=>0
def wordN:Bs→Nat
 |[]=>0
 |c::r=>match letter c with
  |true=>run alnum r+1
  |false=>0
def isWord:Bs→Bool
 |[]=>false
 |c::r=>letter c&&r.all alnum
theorem all_take_run (p:Int→Bool):∀(l:Bs) (m:Nat),m≤l.length→((l.take m).all p=true↔m≤run p l)
 |[],m,h=>by simp at h;subst h;simp[run]
 |c::r,0,_=>by simp
 |c::r,m+1,h=>by
  simp only[List.length_cons,Nat.add_le_add_iff_right]at h
  have ih:=all_take_run p r m h
  simp only[List.take_succ_cons,List.all_cons,run,Bool.and_eq_true]
  cases hp:p c with
  |true=>simp[ih]
  |false=>simp
theorem run_le (p:Int→Bool):∀l:Bs,run p l≤l.length
 |[]=>Nat.le_refl _
 |c::r=>by
  have:=run_le p r
  simp only[run,List.length_cons]
  split<;>omega
theorem isWord_take {l:Bs} {m:Nat} (h:m≤l.length):isWord (l.take m)=true↔1≤m∧m≤wordN l:=by
 cases l with
 |nil=>simp at h;subst h;simp[isWord]
 |cons c r=>
  cases m with
  |zero=>simp[isWord]
  |succ m=>
   simp only[List.length_cons,Nat.add_le_add_iff_right]at h
   simp only[List.take_succ_cons,isWord,wordN,Bool.and_eq_true,all_take_run alnum r m h]
   cases letter c with
   |true=>simp
   |false=>simp
theorem wordN_le (l:Bs):wordN l≤l.length:=by
 cases l with
 |nil=>exact Nat.le_refl _
 |cons c r=>
  have:=run_le alnum r
  simp only[wordN,List.length_cons]
  split<;>omega
def okp (a b:Int):Bool:=okc b||(sign b&&expo a)
def runP:Int→Bs→Nat
 |_,[]=>0
 |a,b::r=>match okp a b with
  |true=>runP b r+1
  |false=>0
theorem runP_le:∀(l:Bs) (a:Int),runP a l≤l.length
 |[],_=>Nat.le_refl _
 |c::r,a=>by
  have:=runP_le r c
  simp only[runP,List.length_cons]
  split<;>omega
def numN:Bs→Nat
 |[]=>0
 |c::r=>match digit c with
  |true=>runP c r+1
  |false=>match decide (c=46),r with
   |true,d::r'=>match digit d with
    |true=>runP d r'+2
    |false=>0
   |_,_=>0
theorem numN_le (l:Bs):numN l≤l.length:=by
 match l with
 |[]=>exact Nat.le_refl _
 |[c]=>
  simp only[numN,runP,List.length_cons,List.length_nil]
  cases digit c with
  |true=>simp
  |false=>cases decide (c=46)<;>simp
 |c::d::r=>
  have h1:=runP_le (d::r) c
  have h2:=runP_le r d
  simp only[List.length_cons]at h1 ⊢
  simp only[numN]
  cases digit c with
  |true=>simp only;omega
  |false=>
   cases decide (c=46)with
   |false=>simp
   |true=>
    show(match digit d with
     |true=>runP d r+2
     |false=>0)≤_
    split
    show runP d r+2≤r.length+1+1
    omega
    exact Nat.zero_le _
def bodyN (q:Int):Bs→Nat
 |[]=>0
 |[c]=>match decide (c=q)&&decide (c≠10)with
  |true=>1
  |false=>0
 |c::d::r=>match decide (c=10)with
  |true=>0
  |false=>match decide (c=q)with
   |true=>1
   |false=>match decide (c=92)with
    |true=>match decide (d=10),bodyN q r with
     |false,n+1=>n+3
     |_,_=>0
    |false=>match bodyN q (d::r)with
     |0=>0
     |n+1=>n+2
theorem bodyN_le (q:Int):∀l:Bs,bodyN q l≤l.length
 |[]=>Nat.le_refl _
 |[c]=>by
  simp only[bodyN,List.length_cons,List.length_nil]
  split<;>omega
 |c::d::r=>by
  have h1:=bodyN_le q r
  have h2:=bodyN_le q (d::r)
  simp only[List.length_cons]at h2 ⊢
  unfold bodyN
  split
  omega
  split
  omega
  split
  split<;>omega
  split<;>omega
def punS:List Bs:=[[91],[93],[40],[41],[123],[125],[46],[45,62],[43,43],[45,45],[38],[42],[43],[45],[126],[33],[47],[37],[60,60],[62,62],[60],[62],[60,61],[62,61],[61,61],[33,61],[94],[124],[38,38],[124,124],[63],[58],[59],[46,46,46],[61],[42,61],[47,61],[37,61],[43,61],[45,61],[60,60,61],[62,62,61],[38,61],[94,61],[124,61],[44],[35],[35,35],[60,58],[58,62],[60,37],[37,62],[37,58],[37,58,37,58]]
def isPun (t:Bs):Bool:=punS.contains t
def punDown:Nat→Bs→Nat
 |0,_=>0
 |n+1,l=>match isPun (l.take (n+1))with
  |true=>n+1
  |false=>punDown n l
def punN (l:Bs):Nat:=punDown (min 4 l.length) l
def quoteB (c:Int):Bool:=decide (c=39)||decide (c=34)
def noPun (c:Int):Bool:=alnum c||quoteB c||decide (c=10)||white c||decide (c=92)
theorem pun_facts:∀t∈punS,(1≤t.length∧t.length≤4)∧t.all (fun c=>!noPun c)=true∧(t.head?=some 46→t.length=1∨t[1]?=some 46):=by decide
theorem isPun_mem {t:Bs}:isPun t=true↔t∈punS:=by unfold isPun;simp
theorem punDown_le:∀(n:Nat) (l:Bs),punDown n l≤n
 |0,_=>Nat.le_refl _
 |n+1,l=>by
  have:=punDown_le n l
  simp only[punDown];split<;>omega
theorem punDown_is:∀(n:Nat) (l:Bs),0<punDown n l→isPun (l.take (punDown n l))=true
 |0,_,h=>by cases h
 |n+1,l,h=>by
  have ih:=punDown_is n l
  simp only[punDown]at h ⊢
  split
  assumption
  rename_i hh;rw[hh]at h;exact ih h
theorem punN_is {l:Bs} (h:0<punN l):isPun (l.take (punN l))=true:=punDown_is _ l h
theorem punN_le (l:Bs):punN l≤l.length:=Nat.le_trans (punDown_le _ l) (Nat.min_le_right ..)
def prefN:Bs→Nat
 |[]=>0
 |c::r=>match decide (c=117)&&decide (r.head?=some 56)&&decide (r[1]?=some 34)with
  |true=>2
  |false=>match decide (c=117)||decide (c=85)||decide (c=76)with
   |true=>1
   |false=>0
def litQ (l:Bs):Int×Nat:=
 match l.drop (prefN l)with
 |[]=>(0,0)
 |q::r=>
  if q=34 then(match bodyN 34 r with
   |0=>(0,0)
   |n+1=>(4,prefN l+1+(n+1)))
  else if q=39 then(match bodyN 39 r with
   |0=>(0,0)
   |1=>(0,0)
   |n+2=>(3,prefN l+1+(n+2)))
  else(0,0)
theorem quote_getD {q c:Int} (h:q=39∨q=34) (e:c=q):quoteB c=true:=by subst e;rcases h with rfl|rfl<;>rfl
theorem drop_cons_of {l:Bs} {k:Nat} {q:Int} (h:l[k]?=some q):l.drop k=q::l.drop (k+1):=by
 obtain⟨hk,rfl⟩:=List.getElem?_eq_some_iff.1 h
 exact List.drop_eq_getElem_cons hk
theorem drop_nil_of {l:Bs} {k:Nat} (h:l[k]?=none):l.drop k=[]:=List.drop_eq_nil_of_le (List.getElem?_eq_none_iff.1 h)
theorem litQ_facts (l:Bs):((litQ l).1=0∧(litQ l).2=0)∨(((litQ l).1=3∨(litQ l).1=4)∧2≤(litQ l).2∧(litQ l).2≤l.length∧prefN l+2≤(litQ l).2∧∃q,(q=39∨q=34)∧l[prefN l]?=some q):=by
 unfold litQ
 cases hd:l[prefN l]? with
 |none=>rw[drop_nil_of hd];exact .inl ⟨rfl,rfl⟩
 |some q=>
  rw[drop_cons_of hd]
  have hk:=(List.getElem?_eq_some_iff.1 hd).1
  have hb:=bodyN_le q (l.drop (prefN l+1))
  rw[List.length_drop]at hb
  by_cases h34:q=34
  subst h34
  simp only[if_true]
  split
  exact .inl ⟨rfl,rfl⟩
  rename_i n hn
  exact .inr ⟨.inr rfl,by show 2≤prefN l+1+(n+1);omega,by show prefN l+1+(n+1)≤_;omega,by show _≤prefN l+1+(n+1);omega,34,.inr rfl,rfl⟩
  simp only[if_neg h34]
  by_cases h39:q=39
  subst h39
  simp only[if_true]
  split
  exact .inl ⟨rfl,rfl⟩
  exact .inl ⟨rfl,rfl⟩
  rename_i n hn
  exact .inr ⟨.inl rfl,by show 2≤prefN l+1+(n+2);omega,by show prefN l+1+(n+2)≤_;omega,by show _≤prefN l+1+(n+2);omega,39,.inl rfl,rfl⟩
  simp only[if_neg h39]
  exact .inl (by simp)
def bestL (l:Bs):Int×Nat:=
 if 0<(litQ l).2 then litQ l else if 0<wordN l then(1,wordN l)else if 0<numN l then(2,numN l)else if 0<punN l then(5,punN l)else(0,0)
def bestG (l:Bs):Int×Nat:=
 let a:=if 0<(litQ l).2 then litQ l else(0,0)
 let b:=if a.2<wordN l then(1,wordN l)else a
 let c:=if b.2<numN l then(2,numN l)else b
 if c.2<punN l then(5,punN l)else c
theorem letter_cases {c:Int} (h:letter c=true):(97≤c∧c≤122)∨(65≤c∧c≤90)∨c=95:=by
 unfold letter at h
 simp only[Bool.or_eq_true,Bool.and_eq_true,decide_eq_true_eq]at h
 omega
theorem digit_cases {c:Int} (h:digit c=true):48≤c∧c≤57:=by
 unfold digit at h
 simpa only[Bool.and_eq_true,decide_eq_true_eq]using h
theorem wordN_head {l:Bs} (h:0<wordN l):∃c r,l=c::r∧letter c=true:=by
 cases l with
 |nil=>cases h
 |cons c r=>
  cases hc:letter c with
  |true=>exact⟨c,r,rfl,hc⟩
  |false=>simp[wordN,hc]at h
theorem numN_head {l:Bs} (h:0<numN l):∃c r,l=c::r∧(digit c=true∨(c=46∧∃d r',r=d::r'∧digit d=true∧2≤numN l)):=by
 cases l with
 |nil=>cases h
 |cons c r=>
  refine⟨c,r,rfl,?_⟩
  cases hc:digit c with
  |true=>exact .inl rfl
  |false=>
   right
   simp only[numN,hc]at h ⊢
   by_cases h46:c=46
   rw[decide_eq_true h46]at h ⊢
   cases r with
   |nil=>cases h
   |cons d r'=>
    simp only at h ⊢
    cases hd:digit d with
    |true=>exact⟨h46,d,r',rfl,hd,by simp⟩
    |false=>rw[hd]at h;cases h
   rw[decide_eq_false h46]at h
   simp at h
theorem punN_head {l:Bs} (h:0<punN l):∃c r,l=c::r∧noPun c=false∧(c=46→punN l=1∨r.head?=some 46):=by
 have h1:=punN_is h
 have h2:=pun_facts _ (isPun_mem.1 h1)
 cases l with
 |nil=>simp at h2
 |cons c r=>
  obtain⟨k,hk⟩:∃k,punN (c::r)=k+1:=⟨punN (c::r)-1,by omega⟩
  have hle:=punN_le (c::r)
  rw[hk]at h1 h2 hle ⊢
  simp only[List.length_cons,Nat.add_le_add_iff_right]at hle
  simp only[List.take_succ_cons,List.all_cons,Bool.and_eq_true,Bool.not_eq_true',List.head?_cons,Option.some.injEq,List.length_cons,List.length_take,List.getElem?_cons_succ]at h2
  refine⟨c,r,rfl,h2.2.1.1,fun hc=>?_⟩
  rcases h2.2.2 hc with h3|h3
  left;omega
  right
  rw[List.getElem?_take]at h3
  split at h3
  rw[List.head?_eq_getElem?];exact h3
  cases h3
theorem prefN_head (c:Int) (r:Bs):prefN (c::r)=0∨((c=117∨c=85∨c=76)∧prefN (c::r)≤2∧1≤prefN (c::r)):=by
 simp only[prefN]
 split
 rename_i h
 simp only[Bool.and_eq_true,decide_eq_true_eq]at h
 exact .inr ⟨.inl h.1.1,Nat.le_refl _,by omega⟩
 split
 rename_i h
 simp only[Bool.or_eq_true,decide_eq_true_eq]at h
 refine .inr ⟨?_,by omega,Nat.le_refl _⟩
 rcases h with(h|h)|h
 exact .inl h
 exact .inr (.inl h)
 exact .inr (.inr h)
 exact .inl rfl
theorem lit_head {l:Bs} (h:0<(litQ l).2):∃c r,l=c::r∧(quoteB c=true∨c=117∨c=85∨c=76):=by
 rcases litQ_facts l with⟨_,h0⟩|⟨_,_,_,_,q,hq,hl⟩
 omega
 cases l with
 |nil=>simp at hl
 |cons c r=>
  refine⟨c,r,rfl,?_⟩
  rcases prefN_head c r with h1|⟨h1,_⟩
  rw[h1]at hl
  simp at hl
  exact .inl (quote_getD hq hl)
  exact .inr h1
theorem noPun_quote {c:Int} (h:quoteB c=true):noPun c=true:=by unfold noPun;rw[h];simp
theorem noPun_letter {c:Int} (h:letter c=true):noPun c=true:=by unfold noPun alnum;rw[h];simp
theorem noPun_digit {c:Int} (h:digit c=true):noPun c=true:=by unfold noPun alnum;rw[h];simp
theorem quote_cases {c:Int} (h:quoteB c=true):c=39∨c=34:=by
 unfold quoteB at h
 simpa only[Bool.or_eq_true,decide_eq_true_eq]using h
theorem lit_num {l:Bs} (h:0<(litQ l).2):numN l=0:=by
 obtain⟨c,r,rfl,hc⟩:=lit_head h
 rcases Nat.eq_zero_or_pos (numN (c::r))with h0|h0
 exact h0
 obtain⟨c',r',e,h1⟩:=numN_head h0
 cases e
 exfalso
 have hcc:c=39∨c=34∨c=117∨c=85∨c=76:=by
  rcases hc with hc|hc
  rcases quote_cases hc with hc|hc
  exact .inl hc
  exact .inr (.inl hc)
  exact .inr (.inr hc)
 rcases h1 with h1|⟨h1,_⟩
 have:=digit_cases h1;omega
 omega
theorem lit_pun {l:Bs} (h:0<(litQ l).2):punN l=0:=by
 obtain⟨c,r,rfl,hc⟩:=lit_head h
 rcases Nat.eq_zero_or_pos (punN (c::r))with h0|h0
 exact h0
 obtain⟨c',r',e,h1,_⟩:=punN_head h0
 cases e
 exfalso
 have:noPun c=true:=by
  rcases hc with hc|hc
  exact noPun_quote hc
  apply noPun_letter
  unfold letter
  simp only[Bool.or_eq_true,Bool.and_eq_true,decide_eq_true_eq]
  omega
 rw[this]at h1;cases h1
theorem word_num {l:Bs} (h:0<wordN l):numN l=0:=by
 obtain⟨c,r,rfl,hc⟩:=wordN_head h
 rcases Nat.eq_zero_or_pos (numN (c::r))with h0|h0
 exact h0
 obtain⟨c',r',e,h1⟩:=numN_head h0
 cases e
 exfalso
 have:=letter_cases hc
 rcases h1 with h1|⟨h1,_⟩
 have:=digit_cases h1;omega
 omega
theorem word_pun {l:Bs} (h:0<wordN l):punN l=0:=by
 obtain⟨c,r,rfl,hc⟩:=wordN_head h
 rcases Nat.eq_zero_or_pos (punN (c::r))with h0|h0
 exact h0
 obtain⟨c',r',e,h1,_⟩:=punN_head h0
 cases e
 rw[noPun_letter hc]at h1;cases h1
theorem num_pun {l:Bs} (h:0<numN l):punN l<numN l:=by
 obtain⟨c,r,rfl,h1⟩:=numN_head h
 rcases Nat.eq_zero_or_pos (punN (c::r))with h0|h0
 omega
 obtain⟨c',r',e,h2,h3⟩:=punN_head h0
 cases e
 rcases h1 with h1|⟨h1,d,r',rfl,hd,h5⟩
 rw[noPun_digit h1]at h2;cases h2
 rcases h3 h1 with h4|h4
 omega
 simp at h4
 subst h4
 cases hd
theorem lit_word {l:Bs} (h:0<(litQ l).2):wordN l<(litQ l).2:=by
 rcases litQ_facts l with⟨_,h0⟩|⟨_,h2,h3,h4,q,hq,hl⟩
 omega
 rcases Nat.lt_or_ge (prefN l) (wordN l)with hlt|hge
 exfalso
 have:=(isWord_take (l:=l) (m:=prefN l+1) (by have:=(List.getElem?_eq_some_iff.1 hl).1;omega)).2 ⟨by omega,hlt⟩
 have hk:=(List.getElem?_eq_some_iff.1 hl).1
 have hm:q∈l.take (prefN l+1):=by
  rw[List.take_add_one,hl];simp
 have hall:∀x∈l.take (prefN l+1),alnum x=true:=by
  intro x hx
  cases l with
  |nil=>simp at hx
  |cons c r=>
   simp only[List.take_succ_cons,isWord,Bool.and_eq_true,List.all_eq_true]at this hx
   rcases List.mem_cons.1 hx with rfl|hx
   unfold alnum;rw[this.1];rfl
   exact this.2 x hx
 have:=hall q hm
 rcases hq with rfl|rfl<;>cases this
 omega
theorem bestG_eq (l:Bs):bestG l=bestL l:=by
 unfold bestG bestL
 by_cases h1:0<(litQ l).2
 have a1:=lit_num h1
 have a2:=lit_pun h1
 have a3:=lit_word h1
 simp only[if_pos h1,if_neg (show ¬(litQ l).2<wordN l by omega),a1,a2,Nat.not_lt_zero,if_false]
 simp only[if_neg h1]
 by_cases h2:0<wordN l
 have a1:=word_num h2
 have a2:=word_pun h2
 simp only[if_pos h2,a1,a2,Nat.not_lt_zero,if_false]
 simp only[if_neg h2]
 by_cases h3:0<numN l
 have:=num_pun h3
 simp only[if_pos h3,if_neg (show ¬numN l<punN l by omega)]
 simp only[if_neg h3]
theorem bestL_le (l:Bs):(bestL l).2≤l.length:=by
 unfold bestL
 have h1:=wordN_le l
 have h2:=numN_le l
 have h3:=punN_le l
 split
 rcases litQ_facts l with⟨_,h0⟩|⟨_,h2,h3,_⟩<;>omega
 split
 exact h1
 split
 exact h2
 split
 exact h3
 exact Nat.zero_le _
theorem bestL_zero (l:Bs):(bestL l).1=0↔(bestL l).2=0:=by
 unfold bestL
 split
 rename_i h
 rcases litQ_facts l with⟨_,h0⟩|⟨h1,h2,_⟩
 omega
 constructor
 intro h3;rw[h3]at h1;omega
 intro h3;omega
 split
 simp;omega
 split
 simp;omega
 split
 simp;omega
 simp
def hdrGo (close:Int):Bs→Nat
 |[]=>0
 |c::r=>match decide (c=10)with
  |true=>0
  |false=>match decide (c=close)with
   |true=>1
   |false=>match hdrGo close r with
    |0=>0
    |n+1=>n+2
def hdrN:Bs→Nat
 |[]=>0
 |c::r=>
  if c=60 then(match hdrGo 62 r with
   |0=>0
   |n+1=>n+2)
  else if c=34 then(match hdrGo 34 r with
   |0=>0
   |n+1=>n+2)
  else 0
def endC:Bs→Nat
 |[]=>0
 |[_]=>0
 |a::b::r=>match decide (a=42)&&decide (b=47)with
  |true=>2
  |false=>match endC (b::r)with
   |0=>0
   |n+1=>n+2
def notNl (c:Int):Bool:=!decide (c=10)
structure Item where
 kind:Int
 len:Nat
 err:Int
 deriving DecidableEq
def isOpen (l:Bs):Bool:=decide (l.take 2=[47,42])
def isLine (l:Bs):Bool:=decide (l.take 2=[47,47])
def qHead:Bs→Bool
 |c::_=>quoteB c
 |[]=>false
def itemP (hdr:Bool) (l:Bs):Item:=
 if hdr=true∧0<hdrN l then⟨7,hdrN l,0⟩
 else if isOpen l=true then(match endC (l.drop 2)with
  |0=>⟨0,0,20⟩
  |n+1=>⟨8,n+3,0⟩)
 else if isLine l=true then⟨8,run notNl l,0⟩
 else if l.head?=some 10 then⟨9,1,0⟩
 else if(bestL l).1≠0 then⟨(bestL l).1,(bestL l).2,0⟩
 else if qHead l=true then⟨0,0,21⟩
 else⟨6,1,0⟩
theorem hdrGo_le (q:Int):∀l:Bs,hdrGo q l≤l.length
 |[]=>Nat.le_refl _
 |c::r=>by
  have:=hdrGo_le q r
  simp only[hdrGo,List.length_cons]
  split
  omega
  split
  omega
  split<;>omega
theorem hdrN_le (l:Bs):hdrN l≤l.length:=by
 cases l with
 |nil=>exact Nat.le_refl _
 |cons c r=>
  have h1:=hdrGo_le 62 r
  have h2:=hdrGo_le 34 r
  simp only[hdrN,List.length_cons]
  split
  split<;>omega
  split
  split<;>omega
  omega
theorem endC_le:∀l:Bs,endC l≤l.length
 |[]=>Nat.le_refl _
 |[_]=>Nat.zero_le _
 |a::b::r=>by
  have:=endC_le (b::r)
  simp only[List.length_cons]at this ⊢
  simp only[endC]
  split
  omega
  split<;>omega
theorem itemP_le (hdr:Bool) {l:Bs} (hl:l≠[]):(itemP hdr l).len≤l.length∧((itemP hdr l).err=0→1≤(itemP hdr l).len):=by
 have hpos:1≤l.length:=by
  cases l with
  |nil=>exact absurd rfl hl
  |cons=>simp
 unfold itemP
 split
 rename_i h;exact⟨hdrN_le l,fun _=>h.2⟩
 split
 rename_i h
 have h1:=endC_le (l.drop 2)
 rw[List.length_drop]at h1
 split
 exact⟨Nat.zero_le _,fun h=>by cases h⟩
 rename_i n hn
 exact⟨by show n+3≤_;omega,fun _=>by show 1≤n+3;omega⟩
 split
 rename_i h
 refine⟨run_le _ l,fun _=>?_⟩
 simp only[isLine,decide_eq_true_eq]at h
 match l,h with
 |a::b::r,h=>
  simp at h
  obtain⟨rfl,rfl⟩:=h
  simp[run,notNl]
 |[a],h=>simp at h
 split
 exact⟨hpos,fun _=>Nat.le_refl _⟩
 split
 rename_i h
 refine⟨bestL_le l,fun _=>?_⟩
 have:(bestL l).2≠0:=fun hh=>h ((bestL_zero l).2 hh)
 show 1≤(bestL l).2
 omega
 split
 exact⟨Nat.zero_le _,fun h=>by cases h⟩
 exact⟨hpos,fun _=>Nat.le_refl _⟩
def after (st kind:Int) (t:Bs):Int:=
 if kind=8 then st else if kind=9 then 0
 else if st=0∧kind=5∧(t=[35]∨t=[37,58])then 1
 else if st=1∧kind=1∧t=[105,110,99,108,117,100,101]then 2 else 3
structure Tk where
 kind:Int
 lo:Nat
 hi:Nat
 err:Int
 deriving DecidableEq
def itemsF:Nat→Int→Nat→Bs→List Tk
 |0,_,_,_=>[]
 |_+1,_,_,[]=>[]
 |n+1,st,i,c::r=>
  match white c with
  |true=>itemsF n st (i+1) r
  |false=>
   if(itemP (decide (st=2)) (c::r)).err≠0 then[⟨0,0,0,(itemP (decide (st=2)) (c::r)).err⟩]
   else⟨(itemP (decide (st=2)) (c::r)).kind,i,i+(itemP (decide (st=2)) (c::r)).len,0⟩ ::
    itemsF n (after st (itemP (decide (st=2)) (c::r)).kind ((c::r).take (itemP (decide (st=2)) (c::r)).len)) (i+(itemP (decide (st=2)) (c::r)).len) ((c::r).drop (itemP (decide (st=2)) (c::r)).len)
def itemsL (l:Bs):List Tk:=itemsF l.length 0 0 l
theorem itemsF_fuel:∀(n m:Nat) (st:Int) (i:Nat) (l:Bs),l.length≤n→l.length≤m→itemsF n st i l=itemsF m st i l
 |0,0,_,_,_,_,_=>rfl
 |0,m+1,_,_,l,h,_=>by
  have:l=[]:=List.eq_nil_of_length_eq_zero (by omega)
  subst this;rfl
 |n+1,0,_,_,l,_,h=>by
  have:l=[]:=List.eq_nil_of_length_eq_zero (by omega)
  subst this;rfl
 |n+1,m+1,st,i,[],_,_=>rfl
 |n+1,m+1,st,i,c::r,h1,h2=>by
  simp only[List.length_cons]at h1 h2
  simp only[itemsF]
  split
  exact itemsF_fuel n m _ _ r (by omega) (by omega)
  split
  rfl
  rename_i h
  have hle:=itemP_le (decide (st=2)) (l:=c::r) (by simp)
  have h3:=hle.2 (by simpa using h)
  rw[itemsF_fuel n m _ _ _ (by rw[List.length_drop,List.length_cons];omega) (by rw[List.length_drop,List.length_cons];omega)]
def chain:Nat→Nat→List Tk→Prop
 |i,n,[]=>i≤n
 |i,n,t::r=>(t.err=0∧i≤t.lo∧t.lo<t.hi∧t.hi≤n∧chain t.hi n r)∨(t.err≠0∧r=[])
theorem chain_weaken:∀ {xs:List Tk} {i j n:Nat},j≤i→chain i n xs→chain j n xs
 |[],_,_,_,h,hc=>Nat.le_trans h hc
 |_::_,_,_,_,h,hc=>by
  rcases hc with⟨h1,h2,h3⟩|h1
  exact .inl ⟨h1,by omega,h3⟩
  exact .inr h1
theorem itemsF_chain:∀(n:Nat) (st:Int) (i:Nat) (l:Bs),chain i (i+l.length) (itemsF n st i l)
 |0,_,i,l=>Nat.le_add_right ..
 |n+1,st,i,[]=>Nat.le_refl _
 |n+1,st,i,c::r=>by
  simp only[itemsF]
  split
  have:=itemsF_chain n st (i+1) r
  rw[List.length_cons,show i+(r.length+1)=i+1+r.length by omega]
  exact chain_weaken (Nat.le_succ i) this
  split
  rename_i h
  exact .inr ⟨h,rfl⟩
  rename_i h
  have hle:=itemP_le (decide (st=2)) (l:=c::r) (by simp)
  have h3:=hle.2 (by simpa using h)
  have:=itemsF_chain n (after st (itemP (decide (st=2)) (c::r)).kind ((c::r).take (itemP (decide (st=2)) (c::r)).len)) (i+(itemP (decide (st=2)) (c::r)).len) ((c::r).drop (itemP (decide (st=2)) (c::r)).len)
  rw[List.length_drop,show i+(itemP (decide (st=2)) (c::r)).len+((c::r).length-(itemP (decide (st=2)) (c::r)).len)=i+(c::r).length by omega]at this
  exact .inl ⟨rfl,Nat.le_refl _,by show i<i+_;omega,by show i+_≤_;omega,this⟩
def oneL (l:Bs):Option Int:=
 match itemsL l with
 |[t]=>if t.err=0∧t.hi-t.lo=l.length then some t.kind else none
 |_=>none
def oneG (n:Nat):Int×Nat→List Tk→Int×Nat
 |s,[]=>s
 |s,t::r=>if t.err≠0∨t.hi-t.lo≠n then(s.1,0)else oneG n (t.kind,s.2+1) r
theorem itemsF_nil (n:Nat) (st:Int) (i:Nat):itemsF n st i []=[]:=by cases n<;>rfl
theorem one_bad {l:Bs} {t:Tk} {r:List Tk} (hx:itemsL l=t::r) (hne:t.err≠0∨t.hi-t.lo≠l.length):oneL l=none∧oneG l.length (0,0) (itemsL l)=(0,0):=by
 unfold oneL
 rw[hx]
 constructor
 split
 rename_i t' ht
 rw[List.cons.injEq]at ht
 obtain⟨rfl,_⟩:=ht
 rw[if_neg (fun hh=>hne.elim (fun h=>h hh.1) (fun h=>h hh.2))]
 rfl
 simp only[oneG]
 rw[if_pos hne]
theorem oneG_eq (l:Bs):oneL l=if(oneG l.length (0,0) (itemsL l)).2=1 then some (oneG l.length (0,0) (itemsL l)).1 else none:=by
 cases l with
 |nil=>rfl
 |cons c r=>
  cases hw:white c with
  |true=>
   have e:itemsL (c::r)=itemsF r.length 0 1 r:=by
    unfold itemsL;simp only[List.length_cons,itemsF,hw,Nat.zero_add]
   have hc:=itemsF_chain r.length 0 1 r
   cases hx:itemsF r.length 0 1 r with
   |nil=>unfold oneL;rw[e,hx];rfl
   |cons t q=>
    rw[hx]at hc e
    have hne:t.err≠0∨t.hi-t.lo≠(c::r).length:=by
     rcases hc with⟨h1,h2,h3,h4,_⟩|⟨h1,_⟩
     right;simp only[List.length_cons];omega
     exact .inl h1
    obtain⟨e1,e2⟩:=one_bad e hne
    rw[e1,e2];rfl
  |false=>
   have e:itemsL (c::r)=if(itemP false (c::r)).err≠0 then[⟨0,0,0,(itemP false (c::r)).err⟩]
    else⟨(itemP false (c::r)).kind,0,0+(itemP false (c::r)).len,0⟩ ::
     itemsF r.length (after 0 (itemP false (c::r)).kind ((c::r).take (itemP false (c::r)).len)) (0+(itemP false (c::r)).len) ((c::r).drop (itemP false (c::r)).len):=by
    unfold itemsL
    simp only[List.length_cons,itemsF,hw,show decide ((0:Int)=2)=false from rfl]
   by_cases he:(itemP false (c::r)).err=0
   rw[if_neg (by simpa using he)]at e
   by_cases hn:(itemP false (c::r)).len=(c::r).length
   rw[hn,List.drop_eq_nil_of_le (Nat.le_refl _),itemsF_nil]at e
   unfold oneL
   rw[e]
   simp[oneG]
   obtain⟨e1,e2⟩:=one_bad e (.inr (by simpa using hn))
   rw[e1,e2];rfl
   rw[if_pos he]at e
   obtain⟨e1,e2⟩:=one_bad e (.inl he)
   rw[e1,e2];rfl
end Go.Lx
namespace Go.Proofs.YtnjlkdhdinfejaaGreat
open Go.GV Go.RowKit
def bl (s:ByteArray):Lx.Bs:=s.data.toList.map fun b=>(b.toNat:Int)
def tl (s:ByteArray) (i:Int):Lx.Bs:=(bl s).drop i.toNat
theorem bl_len (s:ByteArray):(bl s).length=s.size:=by rw[bl,List.length_map,Array.length_toList];rfl
theorem tl_len (s:ByteArray) (i:Int):(tl s i).length=s.size-i.toNat:=by rw[tl,List.length_drop,bl_len]
theorem bl_get (s:ByteArray) {n:Nat} (h:n<s.size):(bl s)[n]?=some (bt s n):=by
 unfold bl bt
 have h':n<s.data.toList.length:=by rw[Array.length_toList];exact h
 simp only[List.getElem?_map,List.getD_eq_getElem?_getD,Int.toNat_natCast,List.getElem?_eq_getElem h',Option.map_some,Option.getD_some]
theorem tl_cons {s:ByteArray} {i:Int} (h0:0≤i) (h:i<s.size):tl s i=bt s i::tl s (i+1):=by
 have hl:i.toNat<(bl s).length:=by rw[bl_len];omega
 unfold tl
 rw[List.drop_eq_getElem_cons hl,show(i+1).toNat=i.toNat+1 by omega]
 have h2:=bl_get s (n:=i.toNat) (by omega)
 rw[List.getElem?_eq_getElem hl]at h2
 rw[Option.some.inj h2]
 rfl
theorem tl_nil {s:ByteArray} {i:Int} (h:s.size≤i):tl s i=[]:=List.drop_eq_nil_of_le (by rw[bl_len];omega)
theorem tl_zero (s:ByteArray):tl s 0=bl s:=rfl
theorem white_any (c:Int) (w:World):Calls Tryz.prog 91 #[.int .u8 c] w (Bc w fun v _=>v=.bool (Lx.white c)):=by
 refine Bq Aa Tryz.func91 O O [] 0 [.v (.int .u8 c)] O O O O (fun b hb=>by cases hb) ?_
 refine Ao Aa ?_
 exact Ay (fun _ _=>rfl)
theorem letter_any (c:Int) (w:World):Calls Tryz.prog 164 #[.int .u8 c] w (Bc w fun v _=>v=.bool (Lx.letter c)):=by
 refine Bq Aa Tryz.func164 O O [] 0 [.v (.int .u8 c)] O O O O (fun b hb=>by cases hb) ?_
 refine Ao Aa ?_
 exact Ay (fun _ _=>rfl)
theorem digit_any (c:Int) (w:World):Calls Tryz.prog 165 #[.int .u8 c] w (Bc w fun v _=>v=.bool (Lx.digit c)):=by
 refine Bq Aa Tryz.func165 O O [] 0 [.v (.int .u8 c)] O O O O (fun b hb=>by cases hb) ?_
 refine Ao Aa ?_
 exact Ay (fun _ _=>rfl)
theorem hdrGo_pos (q:Int) (c:Int) (r:Lx.Bs):Lx.hdrGo q (c::r)=if c=10 then 0 else if c=q then 1 else if Lx.hdrGo q r=0 then 0 else Lx.hdrGo q r+1:=by
 simp only[Lx.hdrGo]
 by_cases h1:c=10
 simp[h1]
 by_cases h2:c=q
 subst h2;simp[h1]
 simp only[h1,h2,decide_false,if_false]
 cases Lx.hdrGo q r<;>simp
def atE (k:Int) (n:Nat):Int:=if n=0 then 0 else k+n
theorem atE_one (k:Int):atE k 1=k+1:=rfl
theorem atE_up (k:Int) (n:Nat):atE k (if n=0 then 0 else n+1)=atE (k+1) n:=by
 unfold atE
 by_cases h:n=0
 simp[h]
 simp[h];omega
def hdrE (s:ByteArray) (i:Int):Int:=atE i (Lx.hdrN (tl s i))
theorem hdrE_eq {s:ByteArray} {i:Int} (h0:0≤i) (h1:i<s.size):hdrE s i =
 if bt s i=60 then atE (i+1) (Lx.hdrGo 62 (tl s (i+1)))
 else if bt s i=34 then atE (i+1) (Lx.hdrGo 34 (tl s (i+1)))else 0:=by
 have e:∀n:Nat,atE i (match n with|0=>0|n+1=>n+2:Nat)=atE (i+1) n:=by
  intro n
  rw[←atE_up];congr 1
  cases n<;>simp
 unfold hdrE
 rw[tl_cons h0 h1]
 simp only[Lx.hdrN]
 split
 exact e _
 split
 exact e _
 rfl
theorem hdr_any (s:ByteArray) (i:Int) (h0:0≤i) (h1:i<s.size) (hz:s.size≤140737488355328) (w:World) :
 Calls Tryz.prog 126 #[.string s,.int .i64 i] w (Bc w fun v _=>v=.int .i64 (hdrE s i)):=by
 refine Bq Aa Tryz.func126 O O [] 0 [.v (.string s),.v (.int .i64 i)] O O O O (fun b hb=>by cases hb) ?_
 refine Az ?_
 refine Ao Aa ?_
 refine Az ?_
 refine Ao Aa ?_
 repeat refine sdI ?_
 have hE:=hdrE_eq h0 h1
 refine x_cut (σ:=Int) (fun q=>⟨[(5,.v (.int .u8 q)),(1,.v (.int .i64 i)),(0,.v (.string s))],[],[],0⟩)
  (fun q _=>hdrE s i=atE (i+1) (Lx.hdrGo q (tl s (i+1)))) (fun _=>Nat.le_refl _) ?_ ?_
 refine Ao Aa ?_
 refine Ap (fun h=>?_) (fun h=>?_)
 rw[if_pos (of_decide_eq_true h)]at hE
 exact Af 62 [] .z hE
 rw[if_neg (of_decide_eq_false h)]at hE
 refine Ap (fun h=>?_) (fun h=>?_)
 have h34:=of_decide_eq_true h
 rw[if_pos h34,←h34]at hE
 exact Af (bt s i) [] .z hE
 rw[if_neg (of_decide_eq_false h)]at hE
 rw[hE]
 exact Ay (fun _ _=>rfl)
 rintro q u hu g
 clear hE
 refine Ao Aa ?_
 repeat refine sdI ?_
 refine Br (σ:=Int) (fun k=>⟨[(6,.v (.int .i64 k)),(5,.v (.int .u8 q)),(0,.v (.string s))],[],[],0⟩)
  (fun k _=>0≤k∧k≤s.size∧hdrE s i=atE k (Lx.hdrGo q (tl s k))) (fun k=>(s.size-k).toNat) (fun _=>Nat.le_refl _) (i+1) [] .z
  ⟨by omega,by omega,g⟩ ?_
 rintro k u2 hu2 ⟨g1,g2,g3⟩
 refine Ao Aa ?_
 repeat refine sdI ?_
 refine Ap (fun h=>?_) (fun h=>?_)
 obtain⟨ha,hb⟩:=Bool.and_eq_true_iff.1 h
 have h2:k<s.size:=of_decide_eq_true ha
 have h3:¬bt s k=10:=of_decide_eq_true hb
 rw[tl_cons g1 h2,hdrGo_pos,if_neg h3]at g3
 repeat refine sdI ?_
 refine Ap (fun h5=>?_) (fun h5=>?_)
 rw[if_pos (of_decide_eq_true h5)]at g3
 repeat refine sdI ?_
 rw[g3]
 exact Ay (fun _ _=>rfl)
 repeat refine sdI ?_
 rw[if_neg (of_decide_eq_false h5),atE_up]at g3
 exact Bj (k+1) [] .z ⟨by omega,by omega,g3⟩ (by omega)
 have g4:hdrE s i=0:=by
  rw[g3]
  by_cases h2:k<s.size
  have hb:bt s k=10:=by
   have h3:decide (bt s k≠10)=false:=by
    have ha:decide (k<(s.size:Int))=true:=decide_eq_true h2
    have h':(decide (k<(s.size:Int))&&decide (bt s k≠10))=false:=h
    rw[ha,Bool.true_and]at h';exact h'
   exact Classical.not_not.1 (of_decide_eq_false h3)
  rw[tl_cons g1 h2,hdrGo_pos,if_pos hb];rfl
  rw[tl_nil (by omega)];rfl
 rw[g4]
 exact Ay (fun _ _=>rfl)
end Go.Proofs.YtnjlkdhdinfejaaGreat
