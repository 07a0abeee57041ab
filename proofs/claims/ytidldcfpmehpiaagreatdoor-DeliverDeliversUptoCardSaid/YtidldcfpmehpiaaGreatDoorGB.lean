/- Texts that the laws rest on, packed. -/
import Derived.Test.YtidldcfpmehpiaaGreatDoorGA
import Derived.Laws.AppendOwn
import Derived.Recover
set_option linter.unusedSimpArgs false
set_option linter.unusedVariables false
set_option maxRecDepth 20000
set_option maxHeartbeats 4000000
namespace Go.Proofs.YtidldcfpmehpiaaGreatDoor
section
open Go.RowKit
theorem RZ {α:Type} {R:α->α->Prop} (hs:∀a b,R a b->R b a):∀{l:List α} {a b:α},l.Pairwise R->a∈l->b∈l->a≠b->R a b
 | x::l,a,b,hp,ha,hb,hne=>by
  have hp':=List.pairwise_cons.1 hp
  rcases List.mem_cons.1 ha with ea|ha
  ·all_goals grind
  ·rcases List.mem_cons.1 hb with eb|hb
   ·rw[eb];exact hs _ _ (hp'.1 a ha)
   ·exact RZ hs hp'.2 ha hb hne
section
variable {P:Program} {T:Ap} {G:Gh} {h:AH} {w:World}
def BX (F:Js) (k:Nat) (src:List (List D)) (cells:List Value):Prop:=
 cells.length=src.length*k/\(∀r∈src,r.length=k)/\(∀v∈cells,v.oneCell'=true)/\∀(i:Nat) (r:List D) (j:Nat) (x:D),src[i]?=some r->r[j]?=some x->∃v,cells[i*k+j]?=some v/\VD F x v
theorem BX.mono {F F':Js} (hF:∀b o u,F b o=some u->F' b o=some u) {k:Nat} {src:List (List D)} {cells:List Value} (hc:BX F k src cells):BX F' k src cells:=
 ⟨hc.1,hc.2.1,hc.2.2.1,λi r j x h1 h2=>by obtain⟨v,h3,h4⟩:=hc.2.2.2 i r j x h1 h2;exact⟨v,h3,h4.mono hF⟩⟩
theorem BX.append {F:Js} {k:Nat} {a b:List (List D)} {x y:List Value} (ha:BX F k a x) (hb:BX F k b y):BX F k (a++b) (x++y):=by
 obtain⟨a1,a2,a3,a4⟩:=ha
 obtain⟨b1,b2,b3,b4⟩:=hb
 refine⟨by simp[a1,b1,Nat.add_mul],λr hr=>(List.mem_append.1 hr).elim (a2 r) (b2 r),λv hv=>(List.mem_append.1 hv).elim (a3 v) (b3 v),λi r j d h1 h2=>?_⟩
 rcases Nat.lt_or_ge i a.length with hi|hi
 ·grind
 ·rw[List.getElem?_append_right hi] at h1
  obtain⟨v,h3,h4⟩:=b4 (i-a.length) r j d h1 h2
  have e:i*k+j=x.length+((i-a.length)*k+j):=by
   rw[a1,<-Nat.add_assoc,<-Nat.add_mul]
   congr 2
   omega
  grind
theorem VD.of_cells {F:Js} {k:Nat} {rows:List (List D)} {cells:List Value} (hc:BX F k rows cells) {b c:Nat} (hf:∀o u,cells[o]?=some u->F b o=some u) (hn:rows.length<=c) (hm:c<=maxLen):VD F (.slc k rows) (.slice (some ⟨b,0,none⟩) rows.length c):=by
 obtain⟨h1,h2,_,h4⟩:=hc
 rcases Nat.eq_zero_or_pos rows.length with h0|h0
 ·have:rows=[]:=List.eq_nil_of_length_eq_zero h0
  subst this
  exact .slc0 k _ c (λe=>by cases e) hm
 ·refine .slc k rows b 0 c (λi j=>cells.getD (i*k+j) Go.undef) h0 hn hm h2 (λi r j x e1 e2=>?_) (λi r j x e1 e2=>?_)
  ·grind
  ·grind
theorem Gi {k q:Nat} (hk:0<k):q=q/k*k+q%k:=by rw[Nat.mul_comm];exact(Nat.div_add_mod q k).symm
theorem Le {k:Nat} {rows:List (List D)} {A:Option Addr} {c:Nat} (hk:0<k) (hd:VD G.frz (.slc k rows) (.slice A rows.length c)) (hfr:∀b o u,G.frz b o=some u->w.cell? ⟨b,o,none⟩=some u):
    ∃cells:List Value,BX G.frz k rows cells/\(∀w':World,w'.heap=w.heap->(Builtin.firstCells k rows.length (.slice A rows.length c)).run P w'= .ok cells.toArray w')/\(A=none->cells=[])/\∀b,A=some ⟨b,0,none⟩->∀o u,cells[o]?=some u->G.frz b o=some u:=by
  obtain⟨A',c',e,g1,g2,g3,g4,g5⟩:=hd.slc_inv
  injection e with e1 e2 e3
  subst e1 e3
  rcases Nat.eq_zero_or_pos rows.length with h0|h0
  · have hnil:rows=[]:=List.eq_nil_of_length_eq_zero h0
    subst hnil
    refine⟨[],⟨by simp,by simp,by simp,λi r j x e=>by simp at e⟩,λw' _=>?_,λ_=>rfl,λb _ o u e=>by simp at e⟩
    cases A with
    |none=>rfl
    |some a=>simp[Builtin.firstCells,loadCells,loadCellsFrom]
  · obtain ⟨b,off,val,rfl,g6⟩:=g5 h0
    have hq:∀q,q<rows.length*k->G.frz b (off+q)=some (val (q/k) (q%k))/\(val (q/k) (q%k)).oneCell'=true:=λq hq=>by
      have hi:q/k<rows.length:=Nat.div_lt_of_lt_mul (by rw[Nat.mul_comm];exact hq)
      have hr:rows[q/k]?=some rows[q/k]:=List.getElem?_eq_getElem hi
      have hj:q%k<rows[q/k].length:=by rw[g4 _ (List.getElem_mem hi)];exact Nat.mod_lt _ hk
      obtain⟨h1,h2⟩:=g6 (q/k) _ (q%k) _ hr (List.getElem?_eq_getElem hj)
      rw[<-Gi hk] at h1
      exact⟨h1,h2.one⟩
    refine⟨(List.range (rows.length*k)).map λq=>val (q/k) (q%k),⟨by simp,g4,λv hv=>?_,λi r j x e1 e2=>?_⟩,λw' hw'=>?_,(λe=>by cases e),λb' e o u hu=>?_⟩
    · obtain ⟨q,hq',rfl⟩:=List.mem_map.1 hv
      exact(hq q (List.mem_range.1 hq')).2
    · have hi:i<rows.length:=(List.getElem?_eq_some_iff.1 e1).1
      have hj:j<k:=by rw[<-g4 r (List.mem_of_getElem? e1)];exact(List.getElem?_eq_some_iff.1 e2).1
      have hlt:i*k+j<rows.length*k:=by
        calc i*k+j<i*k+k:=by omega
          _=(i+1)*k:=by rw[Nat.succ_mul]
          _<=rows.length*k:=Nat.mul_le_mul_right _ (by omega)
      refine⟨val i j,?_,(g6 i r j x e1 e2).2⟩
      rw[List.getElem?_map,List.getElem?_range hlt,Option.map_some]
      congr 2
      · rw [Nat.mul_comm,Nat.mul_add_div hk,Nat.div_eq_of_lt hj,Nat.add_zero]
      · rw [Nat.mul_comm,Nat.mul_add_mod,Nat.mod_eq_of_lt hj]
    · have:=run_loadCells_list (P:=P) w' ⟨b,off,none⟩ ((List.range (rows.length*k)).map λq=>val (q/k) (q%k)) (λq v hv=>by
        rw[List.getElem?_map] at hv
        rcases Nat.lt_or_ge q (rows.length*k) with hlt|hge
        · rw [List.getElem?_range hlt,Option.map_some] at hv
          injection hv with hv
          rw[Fd,<-hv]
          have:=hfr _ _ _ (hq q hlt).1
          simpa[World.cell?,hw'] using this
        · rw [List.getElem?_eq_none (by simpa using hge)] at hv;cases hv)
      simpa[Builtin.firstCells] using this
    · injection e with e
      injection e with e1 e2
      subst e1 e2
      rw[List.getElem?_map] at hu
      rcases Nat.lt_or_ge o (rows.length*k) with hlt|hge
      · rw [List.getElem?_range hlt,Option.map_some] at hu
        injection hu with hu
        have:=(hq o hlt).1
        rw[Nat.zero_add] at this
        rw[this,hu]
      · rw [List.getElem?_eq_none (by simpa using hge)] at hu;cases hu
def Eh (t t':Nat):List Nat->List Nat
 |[]=>[]
 |x::r=>if(x==t)=true then t'::r else x::Eh t t' r
theorem DH {t t' x:Nat} :∀{l:List Nat},l.Pairwise (λa b=>a≠b)->x∈Eh t t' l->x=t'\/(x∈l/\x≠t)
 | y::r,hp,hx=>by
  unfold Eh at hx
  have hp':=List.pairwise_cons.1 hp
  split at hx
  ·all_goals grind
  ·rename_i hy
   rcases List.mem_cons.1 hx with rfl|hx
   ·exact .inr ⟨List.mem_cons_self ..,by simpa using hy⟩
   ·rcases DH hp'.2 hx with h|⟨h1,h2⟩
    ·exact .inl h
    ·exact .inr ⟨List.mem_cons_of_mem _ h1,h2⟩
theorem DA {t t':Nat} {R:Nat->Nat->Prop} :∀{l:List Nat},l.Pairwise R->(∀x∈l,x≠t->R x t'/\R t' x)->l.Pairwise (λa b=>a≠b)->(Eh t t' l).Pairwise R
 |[],_,_,_=>by simp[Eh]
 | y::r,hp,hR,hn=>by
  have hp':=List.pairwise_cons.1 hp
  have hn':=List.pairwise_cons.1 hn
  unfold Eh
  split
  ·rename_i hy
   have hy:y=t:=by simpa using hy
   subst hy
   exact List.pairwise_cons.2 ⟨λx hx=>(hR x (List.mem_cons_of_mem _ hx) (λe=>hn'.1 x hx e.symm)).2,hp'.2⟩
  ·rename_i hy
   have hy:y≠t:=by simpa using hy
   refine List.pairwise_cons.2 ⟨λx hx=>?_,DA hp'.2 (λx hx=>hR x (List.mem_cons_of_mem _ hx)) hn'.2⟩
   all_goals grind[DH]
theorem SS {t t2 e k by_:Nat} (ty:TypeId) (hsl:BL P t=some (e,k,by_)) (ht2:∃d,P.underlying t2=some d/\∀kk,d≠ .int kk) (S:Bl T G h w) {tk:Nat} (htk:tk∈h.live) {rows src:List (List D)} {A:Option Addr} {c:Nat}
  (hv:VD G.frz (.slc k rows) (.slice A rows.length c)) (hT:G.tok tk=some (k,.slice A rows.length c)) {x:Value} {new:List Value} (hnew:BX G.frz k src new) (hlen:∀w',(Builtin.lenOf x).run P w'= .ok src.length w')
  (hread:∀w':World,w'.heap=w.heap->(Builtin.firstCells k src.length x).run P w'= .ok new.toArray w') (h63:rows.length+src.length<=maxLen) (hby:(rows.length+src.length)*by_<=140737488355328)
  {R:Value->World->Prop} {old:List Value} (ho1:BX G.frz k rows old) (ho2:∀w':World,w'.heap=w.heap->(Builtin.firstCells k rows.length (.slice A rows.length c)).run P w'= .ok old.toArray w') (ho4:∀b,A=some ⟨b,0,none⟩->∀o u,old[o]?=some u->G.frz b o=some u)
  (fin:∀(b c2:Nat) (w':World) (vs:Array Value) (ty:TypeId) (fz:Nat×Nat),G.base.heap.size<=b->rows.length+src.length<=c2->c2<=maxLen->Below G.base.heap.size w w'->w'.heap[b]?=some (.cells vs ty fz)->vs.size=c2*k->
   (∀o,o<vs.size->(decide (fz.1<=o)&&decide (o<fz.2))=false)->(∀o,o<(rows.length+src.length)*k->vs[o]?=(old++new)[o]?)->(∀b',b'≠b->b'<w.heap.size->w'.heap[b']?=w.heap[b']?)->
   (∀o u,G.frz b o=some u->o<rows.length*k/\old[o]?=some u)->b∉h.objs.map Prod.fst->(∀t∈h.live,t≠tk->AT G t≠some b)->
   R (.slice (some ⟨b,0,none⟩) (rows.length+src.length) c2) w') (hnil:rows.length=c->src=[]->R (.slice A rows.length c) w):
  ∃v w',(Builtin.append_ #[t,t2] ty #[.slice A rows.length c,x]).run P w= .ok v w'/\R v w':=by
 obtain⟨i,hu,hi,hsz,hbytes,hz,hk⟩:=Ch hsl
 obtain⟨z,hz1,hz2⟩:=Option.map_eq_some_iff.1 hz
 obtain⟨d2,hu2,hd2⟩:=ht2
 have hTok:=S.liv tk htk
 obtain⟨k',n',c',A',hT',hnc,hcm,_,hA0,hA⟩:=hTok.mem hT hk
 rw[hT] at hT'
 simp only[Option.some.injEq,Prod.mk.injEq,Value.slice.injEq] at hT'
 obtain⟨rfl,rfl,rfl,rfl⟩:=hT'
 have hne:h.live.Pairwise λa b=>a≠b:=S.lnd
 have hnt:∀t∈h.live,t≠G.nt:=λt ht e=>by
  obtain⟨_,e2⟩:=(S.liv _ ht).any
  rw[S.fin t (by omega)] at e2
  cases e2
 have hcells:new.length=src.length*k:=hnew.1
 have holdlen:old.length=rows.length*k:=ho1.1
 have hnint:(match d2 with| .int _=>true|_=>false)=false:=by cases d2<;>first|rfl|exact absurd rfl (hd2 _)
 have hT':∀kk,P.underlying t2≠some (.int kk):=λkk e=>by rw[hu2] at e;injection e with e;exact hd2 kk e
 have hzero:∀w',(match (#[t,t2]:Array TypeId)[1]? with
   |some xType=>do pure ((<-underlying xType) matches .int _)
   |none=>pure false:Sem Bool).run P w'= .ok false w':=λw'=>by
  show(do pure ((<-underlying t2) matches .int _):Sem Bool).run P w'=_
  rw[Sem.run_bind,run_underlying hu2]
  simp only[Result.andThen_ok,Sem.run_pure]
 have hnum:((rows.length+src.length:Nat):Int)<=IntKind.i64.max:=by
  have:IntKind.i64.max=9223372036854775807:=by decide
  unfold maxLen at h63
  omega
 by_cases hfull:rows.length=c/\src=[]
 ·obtain⟨hc0,hsn⟩:=hfull
  subst hsn
  refine⟨.slice A rows.length c,w,?_,hnil hc0 rfl⟩
  have h1:(Builtin.firstCells k 0 x).run P w= .ok new.toArray w:=by simpa using hread w rfl
  have hn0:new=[]:=List.eq_nil_of_length_eq_zero (by rw[hcells];simp)
  have hle0:rows.length<=c:=by omega
  cases A<;>simp[Builtin.append_,run_underlying hu,AS hi,hsz,run_underlying hu2,hnint,hlen,h1,hn0,storeCells,hle0]
 by_cases hfit:rows.length+src.length<=c
 ·have hroom:rows.length<c:=by
   rcases Nat.lt_or_ge rows.length c with h'|h'
   ·exact h'
   ·exact absurd ⟨by omega,List.eq_nil_of_length_eq_zero (by omega)⟩ hfull
  cases A with
  |none=>
   obtain⟨hr0,hc0⟩:=hA0 rfl
   omega
  |some a=>
   obtain⟨g,vs,ety,fz,rfl,hgb,hheap,hvs,hfz,hfree⟩:=hA a rfl hroom
   have hle:(rows.length+src.length)*k<=vs.size:=by rw[hvs];exact Nat.mul_le_mul_right _ hfit
   obtain⟨vs',q1,q2,q3⟩:=Dy g new (rows.length*k) w vs ety fz hheap
   have hold4:=ho4 g rfl
   have hR:=fin g c (w.setCells g (rows.length*k) new) vs' ety fz hgb hfit hcm ((Cq g _ _ w).below hgb) q1 (by rw[q2];exact hvs) (by rw[q2];exact hfz) (λo ho=>by
     rw[q3 o (by omega)]
     by_cases hon:rows.length*k<=o
     ·rw[if_pos (by rw[hcells];rw[Nat.add_mul] at ho;omega),List.getElem?_append_right (by omega),holdlen]
     ·rw[if_neg (by omega),List.getElem?_append_left (by omega)]
      have e1:old[o]?=some (old[o]'(by omega)):=List.getElem?_eq_getElem _
      have e2:=S.frz _ _ _ (hold4 o _ e1)
      rw[cell_of_row _ _ _ vs ety fz hheap] at e2
      rw[e2,e1]) (λb' hb' _=>(Cq g _ _ w).block b' hb') (λo u e=>by
     rcases Nat.lt_or_ge o (rows.length*k) with hlt|hge
     ·refine⟨hlt,?_⟩
      have e1:old[o]?=some (old[o]'(by omega)):=List.getElem?_eq_getElem _
      have e2:=hold4 o _ e1
      rw[e] at e2
      rw[e1,<-e2]
     ·rw[hfree o hge] at e;cases e) (S.todis tk htk g (by unfold AT;rw[hT];exact if_pos hroom)) (λt ht htn e=>by
     exact RZ (R:=λt t'=> ∀g,AT G t=some g->AT G t'=some g->False) (λa b hh g h1 h2=>hh g h2 h1) S.tdis ht htk htn g e (by unfold AT;rw[hT];exact if_pos hroom))
   refine⟨_,_,?_,hR⟩
   have h1:=hread w rfl
   have hst:=run_storeCells_cells (P:=P) g (rows.length*k) new 0 w (λj hj=>by
     rw[cell_of_row _ _ _ vs ety fz hheap,Nat.add_zero,Array.getElem?_eq_getElem (by rw[Nat.add_mul] at hle;omega)]
     rfl) (λj hj=>by
     have:=hfz (rows.length*k+j) (by rw[Nat.add_mul] at hle;omega)
     simp only[World.frozen?,hheap,Nat.add_zero]
     exact this) hnew.2.2.1
   simp only[Nat.add_zero] at hst
   simp[Builtin.append_,run_underlying hu,AS hi,hsz,run_underlying hu2,hnint,hlen,h1,hfit,Fd,hst]
 ·have hneed:c<rows.length+src.length:=by omega
  let q:=Question.appendCap (rows.length+src.length) c e
  have hcap:rows.length+src.length<=q.cut (w.tape w.drawn q)/\q.cut (w.tape w.drawn q)<=maxLen:=by
   have h0:0<2^63-(rows.length+src.length):=by unfold maxLen at h63;omega
   have:=Nat.mod_lt (w.tape w.drawn q) h0
   show rows.length+src.length<=rows.length+src.length+w.tape w.drawn q%_/\_+w.tape w.drawn q%_<=_
   unfold maxLen at*
   omega
  generalize hq:q.cut (w.tape w.drawn q)=cap at hcap
  let vs:Array Value:=old.toArray++new.toArray++Builtin.zeroCells z.cells (cap-(rows.length+src.length))
  have hzs:(Builtin.zeroCells z.cells (cap-(rows.length+src.length))).size=(cap-(rows.length+src.length))*k:=by simp[Builtin.zeroCells,hz2]
  have hvs:vs.size=cap*k:=by
   show(old.toArray++new.toArray++_).size=_
   rw[Array.size_append,Array.size_append,hzs]
   simp only[List.size_toArray,holdlen,hcells]
   rw[<-Nat.add_mul,<-Nat.add_mul]
   congr 1
   omega
  have hR:=fin w.heap.size cap (w.drew.alloc (.cells vs e)) vs e (0,0) S.below.size hcap.1 hcap.2 ((Below.refl _ _).drew.alloc S.below.size _) (heap_alloc_new w.drew _) hvs (λo _=>by simp) (λo ho=>by
    have h1:o<(old++new).length:=by rw[List.length_append,holdlen,hcells,<-Nat.add_mul];exact ho
    show(old.toArray++new.toArray++_)[o]?=_
    rw[Array.getElem?_append_left (by simpa using h1)]
    simp) (λb' hb' hlt=>Below.heap_alloc w.drew _ b' hlt) (λo u e'=>by have:=S.frzlt e';omega) (λhm=>by
    obtain⟨p,hp,e'⟩:=List.mem_map.1 hm
    have:=S.fresh p hp
    omega) (λt ht _ e'=>by have:=(S.liv t ht).lt e';omega)
  refine⟨_,_,?_,hR⟩
  have hd:=hread w.drew rfl
  have hod:=ho2 w.drew rfl
  have hfits:¬((Builtin.nextslicecap (rows.length+src.length) c*i.bytes)>2^48):=by
   have:=growslice_fits (need:=rows.length+src.length) (old:=c) (bytes:=by_) hneed hby
   rw[hbytes]
   omega
  have hask:∀n w',(askRoom n).run P w'= .ok () w':=λn w'=>by unfold askRoom;split<;>rfl
  have hforced:q.forced=false:=rfl
  have hnum':¬((((rows.length:Int)+(src.length:Int))>IntKind.i64.max)/\(False\/i.bytes=0)):=λhh=>by have:=hh.1;omega
  have hnum2:¬(((rows.length+src.length:Nat):Int)>IntKind.i64.max):=by omega
  have hchoose:(choose q).run P w= .ok cap w.drew:=by
   show(if q.forced=true then _ else _:Result Nat)=_
   rw[hforced]
   simp only[Bool.false_eq_true,if_false]
   rw[<-hq]
   rfl
  have hch:(choose (.appendCap (rows.length+src.length) c e)).run P w= .ok cap w.drew:=hchoose
  have hfits':¬(2^48<Builtin.nextslicecap (rows.length+src.length) c*i.bytes):=hfits
  simp only[Builtin.append_,Sem.run_bind,run_underlying hu,run_underlying hu2,AS hi,Result.andThen_ok,List.getElem?_toArray,List.getElem?_cons_zero,List.getElem?_cons_succ,Sem.run_pure,hsz,hnint,hlen,bind_assoc,pure_bind,Bool.false_eq_true,if_false]
  rw[if_neg hfit]
  have hti:∀w',(typeInfo e).run P w'= .ok i w':=λw'=>by simp[typeInfo,hi]
  have hzv:(zeroValue e).run P w.drew= .ok z w.drew:=by simp[zeroValue,typeInfo,hi,hz1]
  have hb1:(if((rows.length+src.length:Nat):Int)>IntKind.i64.max then(do pure (decide (false=true\/(<-typeInfo e).bytes=0)):Sem Bool) else pure false).run P w= .ok false w:=by rw[if_neg hnum2];rfl
  simp only[Sem.run_bind,Sem.run_ite,Result.andThen_ok,hti,hod,hd,hask,hch,hzv,Sem.run_pure,hfits,if_false,bind_assoc,pure_bind]
  rw[if_neg (λhh=>hnum2 hh.1)]
  simp[hti,hfits',hod,hd,hzv,hask,newRow,newObj,Sem.run]
  simp[vs]
theorem MZ {t t2 e k by_:Nat} (ty:TypeId) (hsl:BL P t=some (e,k,by_)) (ht2:∃d,P.underlying t2=some d/\∀kk,d≠ .int kk) (S:Bl T G h w) {tk:Nat} (htk:tk∈h.live) {rows src:List (List D)} {A:Option Addr} {c:Nat}
  (hv:VD G.frz (.slc k rows) (.slice A rows.length c)) (hT:G.tok tk=some (k,.slice A rows.length c)) {x:Value} {new:List Value} (hnew:BX G.frz k src new) (hlen:∀w',(Builtin.lenOf x).run P w'= .ok src.length w')
  (hread:∀w':World,w'.heap=w.heap->(Builtin.firstCells k src.length x).run P w'= .ok new.toArray w') (h63:rows.length+src.length<=maxLen) (hby:(rows.length+src.length)*by_<=140737488355328):
  ∃G' v w',(Builtin.append_ #[t,t2] ty #[.slice A rows.length c,x]).run P w= .ok v w'/\B8 G G'/\Bl T G' ⟨h.objs,Eh tk G.nt h.live⟩ w'/\VR G' (.own G.nt k (rows++src)) v:=by
 obtain⟨i,hu,hi,hsz,hbytes,hz,hk⟩:=Ch hsl
 obtain⟨z,hz1,hz2⟩:=Option.map_eq_some_iff.1 hz
 obtain⟨d2,hu2,hd2⟩:=ht2
 obtain⟨old,ho1,ho2,ho3,ho4⟩:=Le (P:=P) (w:=w) hk hv S.frz
 have hcat:=ho1.append hnew
 have hTok:=S.liv tk htk
 obtain⟨k',n',c',A',hT',hnc,hcm,_,hA0,hA⟩:=hTok.mem hT hk
 rw[hT] at hT'
 simp only[Option.some.injEq,Prod.mk.injEq,Value.slice.injEq] at hT'
 obtain⟨rfl,rfl,rfl,rfl⟩:=hT'
 have hne:h.live.Pairwise λa b=>a≠b:=S.lnd
 have hnt:∀t∈h.live,t≠G.nt:=λt ht e=>by
  obtain⟨_,e2⟩:=(S.liv _ ht).any
  rw[S.fin t (by omega)] at e2
  cases e2
 have hcells:new.length=src.length*k:=hnew.1
 have holdlen:old.length=rows.length*k:=ho1.1
 have hnint:(match d2 with| .int _=>true|_=>false)=false:=by cases d2<;>first|rfl|exact absurd rfl (hd2 _)
 have hT':∀kk,P.underlying t2≠some (.int kk):=λkk e=>by rw[hu2] at e;injection e with e;exact hd2 kk e
 -- the new ghost state, whatever block b holds the row
 have fin:∀(b c2:Nat) (w':World) (vs:Array Value) (ty:TypeId) (fz:Nat×Nat),G.base.heap.size<=b->rows.length+src.length<=c2->c2<=maxLen->Below G.base.heap.size w w'->w'.heap[b]?=some (.cells vs ty fz)->vs.size=c2*k->
   (∀o,o<vs.size->(decide (fz.1<=o)&&decide (o<fz.2))=false)->(∀o,o<(rows.length+src.length)*k->vs[o]?=(old++new)[o]?)->(∀b',b'≠b->b'<w.heap.size->w'.heap[b']?=w.heap[b']?)->
   (∀o u,G.frz b o=some u->o<rows.length*k/\old[o]?=some u)->b∉h.objs.map Prod.fst->(∀t∈h.live,t≠tk->AT G t≠some b)->
   ∃G':Gh,B8 G G'/\Bl T G' ⟨h.objs,Eh tk G.nt h.live⟩ w'/\VR G' (.own G.nt k (rows++src)) (.slice (some ⟨b,0,none⟩) (rows.length+src.length) c2):=by
  intro b c2 w' vs ety fz hb hc2 hcm2 hbel hheap hvs hfz hsame hoth hold hbo hbt
  let F':Js:=λb' o=>if b'=b then(if o<(rows.length+src.length)*k then vs[o]? else none) else G.frz b' o
  let G':Gh:= {base:=G.base,frz:=F',tok:=λt=>if t=G.nt then some (k,.slice (some ⟨b,0,none⟩) (rows.length+src.length) c2) else G.tok t,nt:=G.nt+1 }
  have hcatlen:(old++new).length=(rows.length+src.length)*k:=by rw[List.length_append,holdlen,hcells,Nat.add_mul]
  have hF:∀b' o u,G.frz b' o=some u->F' b' o=some u:=λb' o u e=>by
   show(if b'=b then _ else _)=_
   by_cases hbb:b'=b
   ·subst hbb
    obtain⟨h1,h2⟩:=hold o u e
    have hlt:o<(rows.length+src.length)*k:=by rw[Nat.add_mul];omega
    rw[if_pos rfl,if_pos hlt,hsame o hlt,List.getElem?_append_left (by omega)]
    exact h2
   ·rw[if_neg hbb];exact e
  have hG:B8 G G':=⟨rfl,hF,λb' o u e=>by
    have e':(if b'=b then(if o<(rows.length+src.length)*k then vs[o]? else none) else G.frz b' o)=some u:=e
    by_cases hbb:b'=b
    ·exact .inr (by rw[hbb];exact hb)
    ·rw[if_neg hbb] at e';exact .inl e',λt x e=>by
    show(if t=G.nt then _ else _)=_
    rw[if_neg (λe'=>by rw[S.fin t (by omega)] at e;cases e)]
    exact e⟩
  have hblk:∀t∈h.live,AT G' t=AT G t:=λt ht=>CD hG (S.liv t ht)
  have hnewblk:∀g,AT G' G.nt=some g->g=b:=λg hg=>by
   unfold AT at hg
   have e1:G'.tok G.nt=some (k,Value.slice (some ⟨b,0,none⟩) (rows.length+src.length) c2):=by show(if G.nt=G.nt then _ else _)=_;rw[if_pos rfl]
   rw[e1] at hg
   dsimp only at hg
   split at hg
   ·injection hg with hg;exact hg.symm
   ·cases hg
  have hne_b:∀b',b'≠b->∀o,G.frz b' o=none->F' b' o=none:=λb' hb' o e=>by
   show(if b'=b then _ else _)=_
   rw[if_neg hb'];exact e
  have S':Bl T G' ⟨h.objs,Eh tk G.nt h.live⟩ w':=by
   refine⟨S.below.trans hbel,λg j x hx=>?_,λb' o u e=>?_,λt ht=>?_,λp hp=>?_,S.nd,λt ht=>?_,?_,λt ht g hg=>?_,?_⟩
   ·obtain⟨u,h1,h2⟩:=S.glob g j x hx
    exact⟨u,hF _ _ _ h1,h2.mono hF⟩
   ·have e':(if b'=b then(if o<(rows.length+src.length)*k then vs[o]? else none) else G.frz b' o)=some u:=e
    by_cases hbb:b'=b
    ·subst hbb
     rw[if_pos rfl] at e'
     split at e'
     ·rw[cell_of_row _ _ _ vs ety fz hheap];exact e'
     ·cases e'
    ·rw[if_neg hbb] at e'
     have:=S.frz b' o u e'
     rw[<-this]
     exact World.cell?_of_block (w:=w) (a:=⟨b',o,none⟩) (hoth b' hbb (S.frzlt e'))
   ·show(if t=G.nt then _ else _)=_
    have ht':G.nt+1<=t:=ht
    rw[if_neg (by omega)]
    exact S.fin t (by omega)
   ·have hO:=S.obj p hp
    have hpb:p.1≠b:=λe=>hbo (by rw[<-e];exact List.mem_map_of_mem hp)
    exact(hO.mono hG (λo ho=>hne_b _ hpb o ho)).world (hoth _ hpb hO.lt)
   ·rcases DH hne ht with rfl|⟨ht,htne⟩
    ·exact .ofMem ⟨k,rows.length+src.length,c2,some ⟨b,0,none⟩,by show(if G.nt=G.nt then _ else _)=_;rw[if_pos rfl],hc2,hcm2,hk,(λe=>by cases e),λa ha=>by
      intro _
      injection ha with ha
      exact⟨b,vs,ety,fz,ha.symm,hb,hheap,hvs,hfz,λo ho=>by
       show(if b=b then(if o<_ then _ else none) else _)=none
       rw[if_pos rfl,if_neg (by omega)]⟩⟩
    ·have hL:=S.liv t ht
     have hbk:=hbt t ht htne
     exact(hL.mono hG (λg hg o ho=>hne_b g (λe=>hbk (by rw[<-e];exact hg)) o ho)).world (λg hg=>by
      rw[hblk t ht] at hg
      exact hoth g (λe=>hbk (by rw[<-e];exact hg)) (hL.lt hg))
   ·refine DA (S.tdis.imp_of_mem fun {a b'} ha hb' hd g h1 h2=>hd g (by rw[<-hblk a ha];exact h1) (by rw[<-hblk b' hb'];exact h2)) (λx hx hxt=>⟨λg h1 h2=>?_,λg h1 h2=>?_⟩) hne
    ·have h2:=hnewblk _ h2
     subst h2
     rw[hblk x hx] at h1
     exact hbt x hx hxt h1
    ·have h1:=hnewblk _ h1
     subst h1
     rw[hblk x hx] at h2
     exact hbt x hx hxt h2
   ·rcases DH hne ht with rfl|⟨ht,_⟩
    ·have hg:=hnewblk _ hg
     subst hg
     exact hbo
    ·rw[hblk t ht] at hg
     exact S.todis t ht g hg
   ·exact DA S.lnd (λx hx _=>⟨hnt x hx,λe=>hnt x hx e.symm⟩) hne
  refine⟨G',hG,S',.own ?_ (by show(if G.nt=G.nt then _ else _)=_;rw[if_pos rfl])⟩
  have:=VD.of_cells (F:=F') (b:=b) (c:=c2) (hcat.mono hF) (λo u hu=>by
   have hlt:o<(rows.length+src.length)*k:=by rw[<-hcatlen];exact(List.getElem?_eq_some_iff.1 hu).1
   show(if b=b then(if o<_ then vs[o]? else none) else _)=_
   rw[if_pos rfl,if_pos hlt,hsame o hlt]
   exact hu) (by simpa using hc2) hcm2
  simpa using this
 have hnilc:rows.length=c->src=[]->∃G':Gh,B8 G G'/\Bl T G' ⟨h.objs,Eh tk G.nt h.live⟩ w/\VR G' (.own G.nt k (rows++src)) (.slice A rows.length c):=by
  intro hc hs
  subst hs
  let G':Gh:= {G with tok:=λt=>if t=G.nt then some (k,.slice A rows.length c) else G.tok t,nt:=G.nt+1 }
  have hG:B8 G G':=⟨rfl,λ_ _ _ e=>e,λ_ _ _ e=> .inl e,λt x e=>by
   show(if t=G.nt then _ else _)=_
   rw[if_neg (λe'=>by rw[S.fin t (by omega)] at e;cases e)]
   exact e⟩
  have S1:Bl T G' h w:=S.grow (Below.refl _ _) hG (λt ht=>by
    show(if t=G.nt then _ else _)=_
    have ht':G.nt+1<=t:=ht
    rw[if_neg (by omega)]
    exact S.fin t (by omega)) (λ_ _ _ e=> .inl e) S.frz
  have hnewblk:AT G' G.nt=none:=by
   unfold AT
   rw[show G'.tok G.nt=some (k,Value.slice A rows.length c) from if_pos rfl]
   cases A with
   |none=>rfl
   |some a=>exact if_neg (by omega)
  refine⟨G',hG,⟨S1.below,S1.glob,S1.frz,S1.fin,S1.obj,S1.nd,λt ht=>?_,?_,λt ht g hg=>?_,?_⟩,.own (by simpa using hv.mono hG.frz) (by show(if G.nt=G.nt then _ else _)=_;rw[if_pos rfl])⟩
  ·rcases DH hne ht with rfl|⟨ht,_⟩
   ·exact .ofMem ⟨k,rows.length,c,A,by show(if G.nt=G.nt then _ else _)=_;rw[if_pos rfl],hnc,hcm,hk,hA0,λa e hlt=>absurd hlt (by omega)⟩
   ·exact S1.liv t ht
  ·exact DA S1.tdis (λx hx hxt=>⟨λg _ h2=>(by rw[hnewblk] at h2;cases h2),λg h1 _=>(by rw[hnewblk] at h1;cases h1)⟩) hne
  ·rcases DH hne ht with rfl|⟨ht,_⟩
   ·rw[hnewblk] at hg;cases hg
   ·exact S1.todis t ht g hg
  ·exact DA S.lnd (λx hx _=>⟨hnt x hx,λe=>hnt x hx e.symm⟩) hne
 obtain⟨v,w',h1,G',h2⟩:=SS ty hsl ⟨d2,hu2,hd2⟩ S htk hv hT hnew hlen hread h63 hby (R:=λv w'=> ∃G':Gh,B8 G G'/\Bl T G' ⟨h.objs,Eh tk G.nt h.live⟩ w'/\VR G' (.own G.nt k (rows++src)) v) ho1 ho2 ho4 fin hnilc
 exact⟨G',v,w',h1,h2⟩
def TL:AV->Option (Nat×List (List D))
 | .d (.slc k r)=>some (k,r)
 | .own _ k r=>some (k,r)
 | .nils=>some (1,[])
 | .full k r=>some (k,r)
 | .nn k r=>some (k,r)
 | .d (.str s)=>some (1,Du s)
 |_=>none
def Ae (t:Nat):List Nat->Prop
 |[]=>True
 |x::r=>((x==t)=false/\(t==x)=false)/\Ae t r
theorem Dm:∀{l:List Nat} {t:Nat},(∀x∈l,x≠t)->Ae t l
 |[],_,_=>trivial
 |x::r,t,h=>⟨⟨by simpa using h x (List.mem_cons_self ..),by simpa using(h x (List.mem_cons_self ..)).symm⟩,Dm λy hy=>h y (List.mem_cons_of_mem _ hy)⟩
theorem TM {a:AV} {k k':Nat} {r:List (List D)} {v:Value} (hk:0<k) (e:TL a=some (k',r)) (hkk:k'=k\/r=[]) (S:Bl T G h w) (hv:VR G a v):
  ∃new,BX G.frz k r new/\(∀w',(Builtin.lenOf v).run P w'= .ok r.length w')/\∀w':World,w'.heap=w.heap->(Builtin.firstCells k r.length v).run P w'= .ok new.toArray w':=by
 have slc:∀{k':Nat} {r:List (List D)},(k'=k\/r=[])->VD G.frz (.slc k' r) v->∃new,BX G.frz k r new/\(∀w',(Builtin.lenOf v).run P w'= .ok r.length w')/\∀w':World,w'.heap=w.heap->(Builtin.firstCells k r.length v).run P w'= .ok new.toArray w':=λhkk hd=>by
  have hd':=hd.slc_k hkk
  obtain⟨A,c,rfl,_⟩:=hd'.slc_inv
  obtain⟨cells,h1,h2,_⟩:=Le (P:=P) (w:=w) hk hd' S.frz
  exact⟨cells,h1,λw'=>rfl,h2⟩
 unfold TL at e
 split at e
 ·injection e with e
  simp only[Prod.mk.injEq] at e
  obtain⟨rfl,rfl⟩:=e
  cases hv with|d hd=>exact slc hkk hd
 ·injection e with e
  simp only[Prod.mk.injEq] at e
  obtain⟨rfl,rfl⟩:=e
  cases hv with|own hd _=>exact slc hkk hd
 ·injection e with e
  simp only[Prod.mk.injEq] at e
  obtain⟨rfl,rfl⟩:=e
  cases hv
  exact slc (k':=k) (.inl rfl) (.slc0 k none 0 (λ_=>rfl) (by decide))
 ·injection e with e
  simp only[Prod.mk.injEq] at e
  obtain⟨rfl,rfl⟩:=e
  cases hv with|full hd=>exact slc hkk hd
 ·injection e with e
  simp only[Prod.mk.injEq] at e
  obtain⟨rfl,rfl⟩:=e
  cases hv with|nn hd=>exact slc hkk hd
 ·rename_i s
  injection e with e
  simp only[Prod.mk.injEq] at e
  obtain⟨rfl,rfl⟩:=e
  obtain⟨t,rfl,h1,_⟩:=hv.str_inv
  subst h1
  have hlen:(Du t.data.toList).length=t.size:=by unfold Du;rw[List.length_map,Bm]
  have hk1:k=1\/t.size=0:=hkk.elim (λe=> .inl e.symm) (λe=> .inr (by rw[<-hlen,e];rfl))
  refine⟨t.data.toList.map λb=> .int .u8 (b.toNat:Int),⟨?_,λr hr=>?_,λv hv=>?_,λi r j x e1 e2=>?_⟩,λw'=>by rw[hlen];rfl,λw' _=>?_⟩
  ·rw[hlen,List.length_map,Bm]
   rcases hk1 with rfl|h0
   ·omega
   ·simp[h0]
  ·unfold Du at hr
   obtain⟨c,hc,rfl⟩:=List.mem_map.1 hr
   rcases hk1 with rfl|h0
   ·rfl
   ·have:t.data.toList=[]:=List.eq_nil_of_length_eq_zero (by rw[Bm];exact h0)
    rw[this] at hc
    cases hc
  ·obtain⟨c,_,rfl⟩:=List.mem_map.1 hv
   rfl
  ·obtain⟨c,h1,rfl⟩:=J8 e1
   have hk1:k=1:=hk1.resolve_right (λh0=>by
    grind)
   subst hk1
   cases j with
   |zero=>simp at e2;subst e2;exact⟨.int .u8 (c.toNat:Int),by simp[h1],.int _ _⟩
   |succ j=>simp at e2
  ·rw[hlen]
   simp[Builtin.firstCells]
   exact Array.ext' (by simp)
 ·cases e
variable {sl:List AV} {ops:Array Oper} {rest:List Oper} {o:Oper} {K:List AV->AH->Prop} {X:AV->AH->Prop} {cp:Bool}
theorem E5 {s x:Operand} {tys:Array TypeId} (ho:o.op= .call {callee:= .builtin .append,args:= #[s,x],argTypes:=tys }) (hg:o.guard=none):BP cp o=true:=by
 unfold BP
 rw[hg,ho]
theorem BF {s x:Operand} {t t2 e k by_ tk:Nat} {rows src:List (List D)} {k':Nat} (ho:o.op= .call {callee:= .builtin .append,args:= #[s,x],argTypes:= #[t,t2]}) (hg:o.guard=none) (hs:ev T sl s= .own tk k rows) (hx:TL (ev T sl x)=some (k',src))
  (hsl:BL P t=some (e,k,by_)) (ht2:(P.underlying t2).isSome=true) (hti:Hv P t2=none) (hlive:h.live.contains tk=true) (hkk:k'=k\/src=[]) (h63:rows.length+src.length<=9223372036854775807) (hby:(rows.length+src.length)*by_<=140737488355328)
  (kk:∀t',Ae t' h.live->lvc P T cp ops rest (AO o.dst (.own t' k (rows++src)) sl) ⟨h.objs,Eh tk t' h.live⟩ K X):DW P T cp ops (o::rest) sl h K X:=by
 unfold DW
 rw[if_pos (E5 ho hg)]
 refine⟨hg,λG w a S hv Kc Q hK _=>?_⟩
 obtain⟨_,_,_,_,_,_,hk⟩:=Ch hsl
 have hvs:=hv s (by simp[ho,Op.operands,Call.operands])
 have hvx:=hv x (by simp[ho,Op.operands,Call.operands])
 rw[hs] at hvs
 generalize hz:a.eval s=z at hvs
 cases hvs with
 | own hd hT=>
  obtain⟨A,c,rfl,_⟩:=hd.slc_inv
  obtain⟨new,h1,h2,h3⟩:=TM (P:=P) hk hx hkk S hvx
  obtain⟨d2,hd2⟩:=Option.isSome_iff_exists.1 ht2
  obtain⟨G',v,w',hrun,hG',S',hv'⟩:=MZ o.type hsl ⟨d2,hd2,λkk e=>by unfold Hv at hti;rw[hd2,e] at hti;cases hti⟩ S (by simpa using hlive) hd hT h1 h2 h3 (by unfold maxLen;omega) hby
  have hrun':(execOp a.eval o).run P w= .ok (.value v) w':=by
   unfold execOp
   simp only[ho,resolve,invoke,builtin,Sem.run_bind,Sem.run_pure,Result.andThen_ok,List.map_toArray,List.map_cons,List.map_nil,hz,hrun]
  unfold Oper.wp
  rw[hrun']
  refine hK _ _ G' v w' (AN rest _ _ (kk G.nt (Dm λy hy e=>?_))) hG' S' hv'
  obtain⟨_,e2⟩:=(S.liv _ hy).any
  rw[S.fin y (by omega)] at e2
  cases e2
theorem Bl.newFull (S:Bl T G h w) {k n:Nat} {A:Option Addr} (hk:0<k) (hA:A=none->n=0) (hm:n<=maxLen):∃G':Gh,B8 G G'/\Bl T G' ⟨h.objs,G.nt::h.live⟩ w/\G'.tok G.nt=some (k,.slice A n n)/\G'.nt=G.nt+1:=by
 let G':Gh:= {G with tok:=λt=>if t=G.nt then some (k,.slice A n n) else G.tok t,nt:=G.nt+1 }
 have hG:B8 G G':=⟨rfl,λ_ _ _ e=>e,λ_ _ _ e=> .inl e,λt x e=>by
  show(if t=G.nt then _ else _)=_
  rw[if_neg (λe'=>by rw[S.fin t (by omega)] at e;cases e)]
  exact e⟩
 have S1:Bl T G' h w:=S.grow (Below.refl _ _) hG (λt ht=>by
   show(if t=G.nt then _ else _)=_
   have ht':G.nt+1<=t:=ht
   rw[if_neg (by omega)]
   exact S.fin t (by omega)) (λ_ _ _ e=> .inl e) S.frz
 have hnew:AT G' G.nt=none:=by
  unfold AT
  grind
 have htok:G'.tok G.nt=some (k,.slice A n n):=by show(if G.nt=G.nt then _ else _)=_;rw[if_pos rfl]
 refine⟨G',hG,⟨S1.below,S1.glob,S1.frz,S1.fin,S1.obj,S1.nd,λt ht=>?_,List.pairwise_cons.2 ⟨λt ht g h1=>(by rw[hnew] at h1;cases h1),S1.tdis⟩,λt ht g hg=>?_,List.nodup_cons.2 ⟨λhm=>?_,S.lnd⟩⟩,htok,rfl⟩
 ·rcases List.mem_cons.1 ht with rfl|ht
  ·exact .ofMem ⟨k,n,n,A,htok,Nat.le_refl _,hm,hk,λe=>⟨hA e,hA e⟩,λa e hlt=>absurd hlt (by omega)⟩
  ·exact S1.liv t ht
 ·rcases List.mem_cons.1 ht with rfl|ht
  ·rw[hnew] at hg;cases hg
  ·exact S1.todis t ht g hg
 ·obtain⟨_,e⟩:=(S.liv _ hm).any
  rw[S.fin _ (Nat.le_refl _)] at e
  cases e
theorem Bl.newNil (S:Bl T G h w) {k:Nat} (hk:0<k):∃G':Gh,B8 G G'/\Bl T G' ⟨h.objs,G.nt::h.live⟩ w/\G'.tok G.nt=some (k,.slice none 0 0)/\G'.nt=G.nt+1:=S.newFull hk (λ_=>rfl) (by decide)
theorem Ko {s x:Operand} {t t2 e k by_:Nat} {src:List (List D)} {k':Nat} (ho:o.op= .call {callee:= .builtin .append,args:= #[s,x],argTypes:= #[t,t2]}) (hg:o.guard=none) (hs:ev T sl s= .nils) (hx:TL (ev T sl x)=some (k',src))
  (hsl:BL P t=some (e,k,by_)) (ht2:(P.underlying t2).isSome=true) (hti:Hv P t2=none) (hkk:k'=k\/src=[]) (h63:src.length<=9223372036854775807) (hby:src.length*by_<=140737488355328)
  (kk:∀t',Ae t' h.live->lvc P T cp ops rest (AO o.dst (.own t' k src) sl) ⟨h.objs,t'::h.live⟩ K X):DW P T cp ops (o::rest) sl h K X:=by
 unfold DW
 rw[if_pos (E5 ho hg)]
 refine⟨hg,λG w a S hv Kc Q hK _=>?_⟩
 obtain⟨_,_,_,_,_,_,hk⟩:=Ch hsl
 have hvs:=hv s (by simp[ho,Op.operands,Call.operands])
 have hvx:=hv x (by simp[ho,Op.operands,Call.operands])
 rw[hs] at hvs
 generalize hz:a.eval s=z at hvs
 cases hvs
 obtain⟨G1,hG1,S1,hT,hnt⟩:=S.newNil hk
 obtain⟨new,h1,h2,h3⟩:=TM (P:=P) hk hx hkk S1 (hvx.mono hG1)
 obtain⟨d2,hd2⟩:=Option.isSome_iff_exists.1 ht2
 obtain⟨G',v,w',hrun,hG',S',hv'⟩:=MZ (rows:=[]) (A:=none) (c:=0) o.type hsl ⟨d2,hd2,λkk e=>by unfold Hv at hti;rw[hd2,e] at hti;cases hti⟩ S1 (List.mem_cons_self ..) (.slc0 k none 0 (λ_=>rfl) (by decide)) hT h1 h2 h3 (by unfold maxLen;simp only[List.length_nil];omega) (by simpa using hby)
 have hrun':(execOp a.eval o).run P w= .ok (.value v) w':=by
  unfold execOp
  simp only[List.length_nil] at hrun
  simp only[ho,resolve,invoke,builtin,Sem.run_bind,Sem.run_pure,Result.andThen_ok,List.map_toArray,List.map_cons,List.map_nil,hz,hrun]
 unfold Oper.wp
 rw[hrun']
 have hrep:Eh G.nt G1.nt (G.nt::h.live)=G1.nt::h.live:=by simp[Eh]
 rw[hrep] at S'
 refine hK _ _ G' v w' (AN rest _ _ (kk G1.nt (Dm λy hy e=>?_))) (hG1.trans hG') S' (by simpa using hv')
 obtain⟨_,e2⟩:=(S.liv _ hy).any
 rw[S.fin y (by omega)] at e2
 cases e2
end
end
section
open Go.RowKit
def Ei (md:Region.Mode) (ops:Array Oper):Nat->Nat->Nat->Bool
 |0,_,_=>false
 |n+1,j,i=>match ops[j]? with
  |some o=>o.after.toList.any λe=>Region.binds md e&&(e.on==i||Ei md ops n e.on i)
  |none=>false
def Ht (cp:Bool) (md:Region.Mode) (ops:Array Oper) (listed:Array Bool) (i:Nat):Bool:=
 match ops[i]? with
 |some oi=>(List.range ops.size).all λj=>j==i||listed.getD j true||Ei md ops ops.size j i||(match ops[j]? with
  |some oj=>oi.apart ops oj&&(!BP cp oj||Np oi)
  |none=>true)
 |none=>false
def JR (cp:Bool) (md:Region.Mode) (ops:Array Oper):List Nat->Array Bool->Bool
 |[],listed=>(Region.ready md ops listed).isEmpty
 |i::r,listed=>(Region.ready md ops listed).contains i&&(match ops[i]? with
  |some o=>if BP cp o=true then Region.ready md ops listed==[i] else Ht cp md ops listed i
  |none=>false)&&JR cp md ops r (listed.setIfInBounds i true)
def DC (md:Region.Mode) (ops:Array Oper) (listed:Array Bool):Prop:=
 ∀j o,ops[j]?=some o->listed.getD j false=true->∀e∈o.after,Region.binds md e=true->listed.getD e.on false=true
section
variable {P:Program} {T:Ap} {cp:Bool} {md:Region.Mode} {ops:Array Oper} {K:List AV->AH->Prop} {X:AV->AH->Prop}
theorem Ea {listed:Array Bool} (hd:DC md ops listed) {i:Nat} (hi:listed.getD i false=false):∀(n j:Nat) (o:Oper),ops[j]?=some o->(∀e∈o.after,Region.binds md e=true->listed.getD e.on false=true)->Ei md ops n j i=false
 |0,_,_,_,_=>rfl
 | n+1,j,o,ho,hall=>by
  unfold Ei
  rw[ho]
  dsimp only
  rw[List.any_eq_false]
  intro e he hc
  simp only[Bool.and_eq_true,Bool.or_eq_true,beq_iff_eq] at hc
  obtain⟨hb,hc⟩:=hc
  have he':e∈o.after:=by simpa using he
  have hl:=hall e he' hb
  rcases hc with rfl|hc
  ·rw[hi] at hl;cases hl
  ·cases ho2:ops[e.on]? with
   |none=>
    cases n with
    |zero=>simp[Ei] at hc
    |succ n=>unfold Ei at hc;rw[ho2] at hc;cases hc
   |some o2=>
    rw[Ea hd hi n e.on o2 ho2 (hd _ _ ho2 hl)] at hc
    cases hc
theorem Ev {listed:Array Bool} {i:Nat} (h:listed.getD i true=false):listed.getD i false=false:=by
 all_goals grind
theorem DC.step {listed:Array Bool} (hd:DC md ops listed) {i:Nat} (hi:i∈Region.ready md ops listed):DC md ops (listed.setIfInBounds i true):=by
 intro j o ho hj e he hb
 obtain⟨_,oi,hoi,hall⟩:=mem_ready.1 hi
 by_cases hji:j=i
 ·subst hji
  rw[hoi] at ho
  injection ho with ho
  subst ho
  exact getD_set_true (hall e he hb)
 ·rw[getD_set_ne false (Ne.symm hji)] at hj
  exact getD_set_true (hd j o ho hj e he hb)
theorem Tg {o:Oper} {sl:List AV} {d:Option Tmp} {v:AV} (h:∀x,d=some x->x∉o.looksAt ops):∀x∈o.op.operands.toList,ev T (AO d v sl) x=ev T sl x:=λx hx=>by
 cases d with
 |none=>rfl
 | some d=>
  cases x with
  | tmp t=>
   have ht:d≠t:=λe=>h d rfl (by
    subst e
    exact List.mem_append_left _ (List.mem_filterMap.2 ⟨.tmp d,hx,rfl⟩))
   grind[ev,AO]
  |_=>rfl
theorem U9 {o:Oper} {sl:List AV} {d:Option Tmp} {v:AV} {g:Nat×Bool} (hg:o.guard=some g) (h:∀x,d=some x->x∉o.looksAt ops):U8 ops (AO d v sl) g.1 g.2=U8 ops sl g.1 g.2:=by
 cases d with
 |none=>rfl
 | some d=>
  unfold U8
  cases hq:(ops[g.1]?).bind (·.dst) with
  |none=>rfl
  | some t=>
   have ht:d≠t:=λe=>h d rfl (by
    subst e
    unfold Oper.looksAt
    rw[hg]
    exact List.mem_append_right _ (by simp[hq]))
   grind[AO]
theorem Jn.put {o:Oper} {sl:List AV} {h:AH} {d:Option Tmp} {v x:AV} (hd:∀x,d=some x->x∉o.looksAt ops) (H:Jn P T o (ev T sl) h v):Jn P T o (ev T (AO d x sl)) h v:=
 λG w a S hv Kc Q hK=>H G w a S (λy hy=>by rw[<-Tg (T:=T) (sl:=sl) (v:=x) hd y hy];exact hv y hy) Kc Q hK
theorem Jn.unput {o:Oper} {sl:List AV} {h:AH} {d:Option Tmp} {v x:AV} (hd:∀x,d=some x->x∉o.looksAt ops) (H:Jn P T o (ev T (AO d x sl)) h v):Jn P T o (ev T sl) h v:=
 λG w a S hv Kc Q hK=>H G w a S (λy hy=>by rw[Tg (T:=T) (sl:=sl) (v:=x) hd y hy];exact hv y hy) Kc Q hK
theorem Yg.put {o:Oper} {sl:List AV} {h:AH} {d:Option Tmp} {v x:AV} (hd:∀x,d=some x->x∉o.looksAt ops) (H:Yg P T ops o v sl h):Yg P T ops o v (AO d x sl) h:=by
 unfold Yg at*
 split at H
 ·exact H.put hd
 ·rename_i g hg
  obtain⟨t,v0,h1,h2,h3⟩:=H
  exact⟨t,v0,by rw[U9 hg hd];exact h1,h2,λe=>(h3 e).put hd⟩
theorem Yg.unput {o:Oper} {sl:List AV} {h:AH} {d:Option Tmp} {v x:AV} (hd:∀x,d=some x->x∉o.looksAt ops) (H:Yg P T ops o v (AO d x sl) h):Yg P T ops o v sl h:=by
 unfold Yg at*
 split at H
 ·exact H.unput hd
 ·rename_i g hg
  obtain⟨t,v0,h1,h2,h3⟩:=H
  exact⟨t,v0,by rw[U9 hg hd] at h1;exact h1,h2,λe=>(h3 e).unput hd⟩
theorem Jf.unput {o:Oper} {sl:List AV} {h:AH} {d:Option Tmp} {x:AV} {N N':AV->AH->Prop} (hd:∀x,d=some x->x∉o.looksAt ops) (H:Jf P T o (AO d x sl) h N X) (hN:∀r h',N r h'->N' r h'):Jf P T o sl h N' X:=
 ⟨H.1,λG w a S hv Kc Q hK hX=>H.2 G w a S (λy hy=>by rw[Tg (T:=T) (sl:=sl) (v:=x) hd y hy];exact hv y hy) Kc Q (λr h' G' u w' hr=>hK r h' G' u w' (hN _ _ hr)) hX⟩
theorem Gu {d e:Option Tmp} {v u:AV} {sl:List AV} (h:∀x,d=some x->e≠some x):AO d v (AO e u sl)=AO e u (AO d v sl):=by
 cases d with
 |none=>rfl
 | some d=>
  cases e with
  |none=>rfl
  |some e=>
   have:d≠e:=λhe=>h d rfl (by rw[he])
   simp only[AO]
   rw[List.set_comm _ _ (Ne.symm this)]
def Kl (P:Program) (T:Ap) (cp:Bool) (ops:Array Oper) (X:AV->AH->Prop) (i:Nat) (N:List AV->AH->Prop) (sl:List AV) (h:AH):Prop:=
 match ops[i]? with
 |none=>N sl h
 |some o=>if BP cp o=true then Jf P T o sl h (λr h'=>N (AO o.dst r sl) h') X
  else∃v,Yg P T ops o v sl h/\(Np o=true->∀h',Yg P T ops o v sl h')/\N (AO o.dst v sl) h
def BK (P:Program) (T:Ap) (cp:Bool) (md:Region.Mode) (ops:Array Oper) (K:List AV->AH->Prop) (X:AV->AH->Prop):Nat->Array Bool->List AV->AH->Prop
 |0,listed,sl,h=>Region.ready md ops listed=[]/\K sl h
 |fuel+1,listed,sl,h=>(Region.ready md ops listed=[]->K sl h)/\∀i∈Region.ready md ops listed,Kl P T cp ops X i (BK P T cp md ops K X fuel (listed.setIfInBounds i true)) sl h
theorem BK.wp:∀(fuel:Nat) (listed:Array Bool) (sl:List AV) (h:AH),BK P T cp md ops K X fuel listed sl h->∀(G0 G:Gh) (w:World) (a:Act) (ds:List Deferred),B8 G0 G->Bl T G h w->Dz G sl a.tmps->a.defers=ds->wpAny P md ops (IH T (LQ K X) G0 ds) fuel listed a w
 |0,listed,sl,h,H=>λG0 G w a ds hG S R hd=>⟨H.1,hd,.normal,sl,h,G,H.2,trivial,hG,S,R⟩
 | fuel+1,listed,sl,h,H=>λG0 G w a ds hG S R hd=>by
  refine⟨λh0=>⟨hd,.normal,sl,h,G,H.1 h0,trivial,hG,S,R⟩,λi hi=>?_⟩
  have hop:=H.2 i hi
  unfold Kl at hop
  unfold wpOp
  split
  ·rename_i ho
   rw[ho] at hop
   exact BK.wp fuel _ _ _ hop G0 G w a ds hG S R hd
  ·rename_i o ho
   rw[ho] at hop
   dsimp only at hop
   split at hop
   ·obtain⟨hg,hop⟩:=hop
    rw[if_pos (by simp[Region.wanted,hg])]
    refine .inl (hop G w a S (λx _=>F4 S R x) _ _ (λr h' G' u w' hr hG' S' hu=>?_) (λp h' G' u w' hp hG' S' hu=>?_))
    ·exact BK.wp fuel _ _ _ hr G0 G' w' _ ds (hG.trans hG') S' ((R.mono hG').put hu o.dst) (by rw[Bv];exact hd)
    ·exact⟨hd,.pan p,sl,h',G',hp,⟨u,rfl,hu⟩,hG.trans hG',S',R.mono hG'⟩
   ·obtain⟨v,hy,_,hr⟩:=hop
    have:=hy.run S R (Kc:=wpAny P md ops (IH T (LQ K X) G0 ds) fuel (listed.setIfInBounds i true)) (Q:=IH T (LQ K X) G0 ds) λG' u w' hG' S' hu=>BK.wp fuel _ _ _ hr G0 G' w' _ ds (hG.trans hG') S' ((R.mono hG').put hu o.dst) (by rw[Bv];exact hd)
    all_goals grind
theorem EZ {i:Nat} {oi:Oper} {v:AV} (hi:ops[i]?=some oi) (hni:BP cp oi=false):∀(fuel:Nat) (listed:Array Bool) (sl:List AV) (h:AH),DC md ops listed->
  (∀j oj,ops[j]?=some oj->j≠i->listed.getD j true=false->Ei md ops ops.size j i=false->oi.apart ops oj=true/\(BP cp oj=true->Np oi=true))->
  i∈Region.ready md ops listed->Yg P T ops oi v sl h->(Np oi=true->∀h',Yg P T ops oi v sl h')->
  BK P T cp md ops K X fuel (listed.setIfInBounds i true) (AO oi.dst v sl) h->BK P T cp md ops K X (fuel+1) listed sl h:=by
 intro fuel
 induction fuel with
 | zero=>
  intro listed sl h hdc _ hr hy hhi H
  refine⟨λh0=>(by rw[h0] at hr;cases hr),λj hj=>?_⟩
  by_cases hji:j=i
  ·subst hji
   unfold Kl
   rw[hi]
   dsimp only
   rw[if_neg (by rw[hni];simp)]
   exact⟨v,hy,hhi,H⟩
  ·have:=ready_mono hj hji
   rw[H.1] at this
   cases this
 | succ fuel ih=>
  intro listed sl h hdc hfree hr hy hhi H
  refine⟨λh0=>(by rw[h0] at hr;cases hr),λj hj=>?_⟩
  by_cases hji:j=i
  ·subst hji
   unfold Kl
   rw[hi]
   dsimp only
   rw[if_neg (by rw[hni];simp)]
   exact⟨v,hy,hhi,H⟩
  ·have h1:=H.2 j (ready_mono hj hji)
   obtain⟨hjun,oj,hoj,hall⟩:=mem_ready.1 hj
   have hiun:=Ev (mem_ready.1 hr).1
   obtain⟨hap,hke⟩:=hfree j oj hoj hji hjun (Ea hdc hiun _ _ _ hoj hall)
   obtain⟨a1,a2,a3⟩:=Oper.apart_spec hap
   have hfree':∀k ok,ops[k]?=some ok->k≠i->(listed.setIfInBounds j true).getD k true=false->Ei md ops ops.size k i=false->oi.apart ops ok=true/\(BP cp ok=true->Np oi=true):=λk ok hk hki hun hw=>by
    refine hfree k ok hk hki ?_ hw
    by_cases hjk:j=k
    ·subst hjk;exact hjun
    ·rw[getD_set_ne true hjk] at hun;exact hun
   have next:∀(u:AV) (h':AH),(Np oi=true\/h'=h)->BK P T cp md ops K X fuel ((listed.setIfInBounds i true).setIfInBounds j true) (AO oj.dst u (AO oi.dst v sl)) h'->BK P T cp md ops K X (fuel+1) (listed.setIfInBounds j true) (AO oj.dst u sl) h':=λu h' hk hN=>by
    have hy':Yg P T ops oi v sl h':=by
     all_goals grind
    refine ih (listed.setIfInBounds j true) (AO oj.dst u sl) h' (hdc.step hj) hfree' (ready_mono hr (Ne.symm hji)) (hy'.put a3) (λhk h2=>(hhi hk h2).put a3) ?_
    rw[Array.setIfInBounds_comm _ _ hji,Gu a2]
    exact hN
   unfold Kl at h1⊢
   rw[hoj] at h1⊢
   dsimp only at h1⊢
   split
   ·rename_i he
    rw[if_pos he] at h1
    exact h1.unput a1 λr h' hN=>next r h' (.inl (hke he)) hN
   ·rename_i he
    rw[if_neg he] at h1
    obtain⟨u,g1,g2,g3⟩:=h1
    exact⟨u,g1.unput a1,λhk h2=>(g2 hk h2).unput a1,next u h (.inr rfl) g3⟩
theorem E7 {listed:Array Bool} {i:Nat} {oi:Oper} (hi:ops[i]?=some oi) (h:Ht cp md ops listed i=true):
  ∀j oj,ops[j]?=some oj->j≠i->listed.getD j true=false->Ei md ops ops.size j i=false->oi.apart ops oj=true/\(BP cp oj=true->Np oi=true):=by
 intro j oj hj hji hun hw
 unfold Ht at h
 rw[hi] at h
 dsimp only at h
 have:=List.all_eq_true.1 h j (List.mem_range.2 (Array.getElem?_eq_some_iff.1 hj).1)
 rw[hj,hun,hw] at this
 have hne:(j==i)=false:=by simpa using hji
 rw[hne] at this
 simp only[Bool.false_or,Bool.and_eq_true,Bool.or_eq_true,Bool.not_eq_true'] at this
 exact⟨this.1,λhe=>this.2.resolve_left (by rw[he];simp)⟩
theorem DW.any:∀(ord:List Nat) (l:List Oper) (listed:Array Bool) (sl:List AV) (h:AH),l.length=ord.length->(∀(n i:Nat),ord[n]?=some i->l[n]?=ops[i]?)->DC md ops listed->JR cp md ops ord listed=true->DW P T cp ops l sl h K X->BK P T cp md ops K X ord.length listed sl h
 |[],[],listed,sl,h,_,_,_,hB,H=>⟨by simpa[JR] using hB,H⟩
 |[],_::_,_,_,_,hl,_,_,_,_=>by simp at hl
 |_::_,[],_,_,_,hl,_,_,_,_=>by simp at hl
 | i::ord,o::l,listed,sl,h,hl,hmap,hdc,hB,H=>by
  have hi:ops[i]?=some o:=(hmap 0 i rfl).symm
  unfold JR at hB
  rw[hi] at hB
  simp only[Bool.and_eq_true] at hB
  obtain⟨⟨hr,hf⟩,hB'⟩:=hB
  have hr:i∈Region.ready md ops listed:=by simpa using hr
  have rest:=λsl h H=>DW.any ord l (listed.setIfInBounds i true) sl h (by simpa using hl) (λn k e=>by simpa using hmap (n+1) k (by simpa using e)) (hdc.step hr) hB' H
  unfold DW at H
  split at H
  ·rename_i he
   rw[if_pos he] at hf
   have hone:Region.ready md ops listed=[i]:=by simpa using hf
   refine⟨λh0=>(by rw[h0] at hr;cases hr),λj hj=>?_⟩
   rw[hone] at hj
   have hj:j=i:=by simpa using hj
   subst hj
   unfold Kl
   rw[hi]
   dsimp only
   rw[if_pos he]
   exact⟨H.1,λG w a S hv Kc Q hK hX=>H.2 G w a S hv Kc Q (λr h' G' u w' hr=>hK r h' G' u w' (rest _ _ hr)) hX⟩
  ·rename_i he
   rw[if_neg he] at hf
   obtain⟨v,g1,g2,g3⟩:=H
   exact EZ hi (by simpa using he) ord.length listed sl h hdc (E7 hi hf) hr g1 g2 (rest _ _ g3)
def pick (ops:List Oper) (ord:List Nat):List Oper:=ord.filterMap λi=>ops[i]?
theorem Ca {ops:List Oper} :∀{ord:List Nat},(∀i∈ord,i<ops.length)->(pick ops ord).length=ord.length/\∀(n i:Nat),ord[n]?=some i->(pick ops ord)[n]?=ops[i]?
 |[],_=>⟨rfl,λn i e=>by simp at e⟩
 |i::ord,h=>by
  have hlt:=h i (List.mem_cons_self ..)
  have hi:ops[i]?=some ops[i]:=List.getElem?_eq_getElem hlt
  obtain⟨h1,h2⟩:=Ca (ops:=ops) (ord:=ord) λj hj=>h j (List.mem_cons_of_mem _ hj)
  grind[pick]
def O5 (cp:Bool) (ops:List Oper) (ord:List Nat):Bool:=ord.length==ops.length&&ord.all (λi=>decide (i<ops.length))&&JR cp .any ops.toArray ord (Array.replicate ops.length false)
theorem Ji {id:Nat} {l:List Oper} {Q:AQ} {sl:List AV} {h:AH} (cp:Bool) (ord:List Nat) (hm:P.follows .mixedOrders=true) (hB:O5 cp l ord=true)
  (H:lvc P T cp l.toArray (pick l ord) sl h (λs h=>Q .normal s h) (λp h=> ∀s,Q (.pan p) s h)):Aa P T (.region id l.toArray true) Q sl h:=by
 simp only[O5,Bool.and_eq_true,beq_iff_eq] at hB
 obtain⟨⟨hlen,hall⟩,hB⟩:=hB
 have hlt:∀i∈ord,i<l.length:=λi hi=>by simpa using List.all_eq_true.1 hall i hi
 obtain⟨h1,h2⟩:=Ca hlt
 refine CB λG w a S R=>wp_region_any hm ?_
 have hany:=DW.any (P:=P) (T:=T) (K:=λs h=>Q .normal s h) (X:=λp h=> ∀s,Q (.pan p) s h) ord (pick l ord) (Array.replicate l.length false) sl h h1 (λn i e=>by rw[h2 n i e];simp) (λj o _ hj=>by
  simp[Array.getElem?_replicate] at hj
  grind) hB (AN _ _ _ H)
 rw[hlen] at hany
 have:=BK.wp _ _ _ _ hany G G w.drew a a.defers (B8.refl G) S.drew R rfl
 simpa using this
theorem OM {id:Nat} {l:List Oper} {y:Code} {Q:AQ} {sl:List AV} {h:AH} (cp:Bool) (ord:List Nat) (hm:P.follows .mixedOrders=true) (hB:O5 cp l ord=true)
  (H:∀K:List AV->AH->Prop,(∀s h,Aa P T y Q s h->K s h)->lvc P T cp l.toArray (pick l ord) sl h K (λp h=> ∀s,Q (.pan p) s h)):Aa P T (.seq (.region id l.toArray true) y) Q sl h:=
 Aa.seq λK hK=>Ji cp ord hm hB (H K hK)
theorem ED {id:Nat} {l:List Oper} {Q:AQ} {sl:List AV} {h:AH} (H:∀K:List AV->AH->Prop,(∀s h,Q .normal s h->K s h)->lvc P T false l.toArray l sl h K (λp h=> ∀s,Q (.pan p) s h)):Aa P T (.region id l.toArray false) Q sl h:=
 Jm (H _ λ_ _ h=>h)
theorem Aea {id:Nat} {l:List Oper} {Q:AQ} {sl:List AV} {h:AH} (cp:Bool) (ord:List Nat) (hm:P.follows .mixedOrders=true) (hB:O5 cp l ord=true)
  (H:∀K:List AV->AH->Prop,(∀s h,Q .normal s h->K s h)->lvc P T cp l.toArray (pick l ord) sl h K (λp h=> ∀s,Q (.pan p) s h)):Aa P T (.region id l.toArray true) Q sl h:=
 Ji cp ord hm hB (H _ λ_ _ h=>h)
section
variable {Q:AQ} {s:List AV} {h:AH} {id i:Nat}
theorem Ac {K:List AV->AH->Prop} (H:K s h):Am K Q .normal s h:=H
theorem Ak {K:List AV->AH->Prop} (H:Q (.exit i) s h):Am K Q (.exit i) s h:=H
theorem Ai (H:Q .normal s h):Bo id Q .normal s h:=H
theorem Bh (H:Q .normal s h):Bo id Q (.exit id) s h:=by simp only[Bo,if_true];exact H
theorem EG (hne:i≠id) (H:Q (.exit i) s h):Bo id Q (.exit i) s h:=by simp only[Bo,if_neg hne];exact H
end
end
end
section
variable {P:Program} {T:Ap} {Q:AQ} {sl:List AV} {h:AH} {G:Gh} {w:World}
theorem Bj.get {kp:Bool} :∀{l l':List AV},Bj kp l l'->∀{i:Nat} {b:AV},l'[i]?=some b->∃a,l[i]?=some a/\Aj kp a b
 |[],[],_,_,_,e=>by simp at e
 |a::l,b::l',hl,i,x,e=>by
  unfold Bj at hl
  cases i with
  |zero=>simp only[List.getElem?_cons_zero,Option.some.injEq] at e;subst e;exact⟨a,rfl,hl.1⟩
  |succ i=>simp only[List.getElem?_cons_succ] at e⊢;exact Bj.get hl.2 e
 |[],_::_,hl,_,_,_=>by simp[Bj] at hl
 |_::_,[],hl,_,_,_=>by simp[Bj] at hl
theorem Aj.okT {a b:AV} {v:Value} (hl:Aj true a b) (hv:VR G a v):VR G b v:=by
 have:=Aj.ok a b v hl hv
 exact this
theorem Dz.le {l l':List AV} {vs:Array Value} (R:Dz G l vs) (hl:Bj true l l'):Dz G l' vs:=by
 refine⟨R.1.trans hl.len,λi b e=>?_⟩
 obtain⟨a,ha,hab⟩:=hl.get e
 obtain⟨v,h1,h2⟩:=R.2 i a ha
 exact⟨v,h1,hab.okT h2⟩
def Cv:List (List AV)->List (List AV)->Prop
 |[],[]=>True
 |r::l,r'::l'=>Bj true r r'/\r'.all AV.one=true/\Cv l l'
 |_,_=>False
def Cy:Af->Af->Prop
 |[],[]=>True
 |p::l,q::l'=>p.1=q.1/\p.2.k=q.2.k/\p.2.c=q.2.c/\Cv p.2.rows q.2.rows/\Cy l l'
 |_,_=>False
theorem Cv.len:∀{l l':List (List AV)},Cv l l'->l.length=l'.length
 |[],[],_=>rfl
 |_::_,_::_,hl=>by unfold Cv at hl;simp[Cv.len hl.2.2]
 |[],_::_,hl=>by simp[Cv] at hl
 |_::_,[],hl=>by simp[Cv] at hl
theorem Cv.get:∀{l l':List (List AV)},Cv l l'->∀{i:Nat} {r':List AV},l'[i]?=some r'->∃r,l[i]?=some r/\Bj true r r'/\r'.all AV.one=true
 |[],[],_,_,_,e=>by simp at e
 |a::l,b::l',hl,i,x,e=>by
  unfold Cv at hl
  cases i with
  |zero=>simp only[List.getElem?_cons_zero,Option.some.injEq] at e;subst e;exact⟨a,rfl,hl.1,hl.2.1⟩
  |succ i=>simp only[List.getElem?_cons_succ] at e⊢;exact Cv.get hl.2.2 e
 |[],_::_,hl,_,_,_=>by simp[Cv] at hl
 |_::_,[],hl,_,_,_=>by simp[Cv] at hl
theorem LW.le {b:Nat} {o o':Ob} (hk:o.k=o'.k) (hc:o.c=o'.c) (hr:Cv o.rows o'.rows) (R:LW G w b o):LW G w b o':=by
 obtain⟨vs,e,fz,h1,h2,h3,h4⟩:=R.mem
 refine⟨R.low,?_,by rw[<-hr.len,<-hk];exact R.rest,?_,?_,hc▸R.cmax,vs,e,fz,h1,by rw[<-hc,<-hk];exact h2,h3,?_⟩
 ·intro i r' j e1 hj
  obtain⟨r,hr1,hr2,_⟩:=hr.get e1
  rw[<-hk]
  exact R.free i r j hr1 (by rw[hr2.len];exact hj)
 ·intro r' hr'
  obtain⟨i,hi⟩:=List.mem_iff_getElem?.1 hr'
  obtain⟨r,hr1,hr2,_⟩:=hr.get hi
  rw[<-hr2.len,<-hk]
  refine(R.lenk r (List.mem_of_getElem? hr1)).imp_right λe=>?_
  have:=hr2.len
  grind
 ·rw[<-hr.len,<-hc];exact R.fits
 ·intro i r' j a' e1 e2
  obtain⟨r,hr1,hr2,hr3⟩:=hr.get e1
  obtain⟨a,ha,hab⟩:=hr2.get e2
  obtain⟨_,v,hv1,hv2⟩:=h4 i r j a hr1 ha
  exact⟨List.all_eq_true.1 hr3 a' (List.mem_of_getElem? e2),v,hk▸hv1,hab.okT hv2⟩
theorem Cy.fst:∀{l l':Af},Cy l l'->l.map Prod.fst=l'.map Prod.fst
 |[],[],_=>rfl
 |p::l,q::l',hl=>by unfold Cy at hl;rw[List.map_cons,List.map_cons,hl.1,Cy.fst hl.2.2.2.2]
 |[],_::_,hl=>by simp[Cy] at hl
 |_::_,[],hl=>by simp[Cy] at hl
theorem Cy.obj:∀{l l':Af},Cy l l'->(∀p∈l,LW G w p.1 p.2)->∀p∈l',LW G w p.1 p.2
 |[],[],_,_=>λp hp=>by simp at hp
 |p::l,q::l',hl,H=>by
  unfold Cy at hl
  obtain⟨h1,h2,h3,h4,h5⟩:=hl
  intro x hx
  rcases List.mem_cons.1 hx with rfl|hx
  ·exact h1▸LW.le h2 h3 h4 (H p (List.mem_cons_self ..))
  ·exact Cy.obj h5 (λy hy=>H y (List.mem_cons_of_mem _ hy)) x hx
 |[],_::_,hl,_=>by simp[Cy] at hl
 |_::_,[],hl,_=>by simp[Cy] at hl
theorem Bl.le {o:Af} (S:Bl T G h w) (hl:Cy h.objs o):Bl T G ⟨o,h.live⟩ w:=
 ⟨S.below,S.glob,S.frz,S.fin,Cy.obj hl S.obj,by rw[<-hl.fst];exact S.nd,S.liv,S.tdis,λt ht g hg=>by rw[<-hl.fst];exact S.todis t ht g hg,S.lnd⟩
theorem Aa.le {c:Code} (x y:Nat) {o:Af} {s:List AV} (h1:Cy (h.objs.drop x) o) (h2:Bj true sl s) (H:Aa P T c Q s ⟨o,h.live.drop y⟩):Aa P T c Q sl h:=
 λG w a S R=>H G w a ((S.drop (h':=⟨h.objs.drop x,h.live.drop y⟩) (List.drop_sublist ..) (List.drop_sublist ..)).le h1) (R.le h2)
theorem Jk {x y:Code} (I:List AV->AH->Prop) (H:Aa P T x (Am (λs h'=> ∃a b o s',Cy (h'.objs.drop a) o/\Bj true s s'/\I s' ⟨o,h'.live.drop b⟩) Q) sl h) (H2:∀s h',I s h'->Aa P T y Q s h'):Aa P T (.seq x y) Q sl h:=
 L5 _ H λ_ _ ⟨a,b,_,_,h1,h2,hi⟩=>Aa.le a b h1 h2 (H2 _ _ hi)
end
section
open Go.RowKit
inductive Tr where
 |done
 |seg (i:Nat) (t:Tr)
 |many (r:Tr)
 |alt (i:Nat) (t r:Tr)
 |nil
section
variable {P:Program} {T:Ap} {cp:Bool} {md:Region.Mode} {ops:Array Oper} {K:List AV->AH->Prop} {X:AV->AH->Prop}
def TW (P:Program) (T:Ap) (cp:Bool) (ops:Array Oper) (K:List AV->AH->Prop) (X:AV->AH->Prop):Tr->List AV->AH->Prop
 | .done,s,h=>K s h
 | .seg i t,s,h=>match ops[i]? with|some o=>lvc P T cp ops [o] s h (TW P T cp ops K X t) X|none=>False
 | .many r,s,h=>TW P T cp ops K X r s h
 | .alt i t r,s,h=>(match ops[i]? with|some o=>lvc P T cp ops [o] s h (TW P T cp ops K X t) X|none=>False)/\TW P T cp ops K X r s h
 | .nil,_,_=>True
def Tr.heads:Tr->List Nat
 | .alt i _ r=>i::r.heads
 |_=>[]
def Tr.top:Tr->Bool
 | .done| .seg .. | .many _=>true
 |_=>false
def KY (cp:Bool) (md:Region.Mode) (ops:Array Oper):Tr->Nat->Array Bool->Bool
 | .done,n,l=>n==0&&(Region.ready md ops l).isEmpty
 | .seg i t,n+1,l=>(Region.ready md ops l).contains i&&(match ops[i]? with
  |some o=>if BP cp o=true then Region.ready md ops l==[i] else Ht cp md ops l i
  |none=>false)&&t.top&&KY cp md ops t n (l.setIfInBounds i true)
 | .many r,n+1,l=>!(Region.ready md ops l).isEmpty&&(Region.ready md ops l).all (λj=>r.heads.contains j)&&KY cp md ops r (n+1) l
 | .alt i t r,n+1,l=>t.top&&(ops[i]?).isSome&&KY cp md ops t n (l.setIfInBounds i true)&&KY cp md ops r (n+1) l
 | .nil,_,_=>true
 |_,_,_=>false
theorem UV {i:Nat} {o:Oper} {N N':List AV->AH->Prop} {sl:List AV} {h:AH} (hi:ops[i]?=some o) (H:lvc P T cp ops [o] sl h N X) (hN:∀s h,N s h->N' s h):Kl P T cp ops X i N' sl h:=by
 have H:=AN _ _ _ H
 unfold Kl
 rw[hi]
 dsimp only
 unfold DW at H
 split at H
 ·rename_i he
  rw[if_pos he]
  exact⟨H.1,λG w a S hv Kc Q hK hX=>H.2 G w a S hv Kc Q (λr h' G' u w' hr=>hK r h' G' u w' (hN _ _ (by unfold DW at hr;exact hr))) hX⟩
 ·grind[DW]
mutual
theorem TW.any:∀(t:Tr) (n:Nat) (listed:Array Bool) (sl:List AV) (h:AH),t.top=true->DC md ops listed->KY cp md ops t n listed=true->TW P T cp ops K X t sl h->BK P T cp md ops K X n listed sl h
 | .done,n,listed,sl,h,_,hdc,hB,H=>by
  simp only[KY,Bool.and_eq_true,beq_iff_eq,List.isEmpty_iff] at hB
  obtain⟨rfl,hB⟩:=hB
  exact⟨hB,H⟩
 | .seg i t,0,listed,sl,h,_,hdc,hB,H=>by simp[KY] at hB
 | .seg i t,n+1,listed,sl,h,_,hdc,hB,H=>by
  unfold KY at hB
  simp only[Bool.and_eq_true] at hB
  obtain⟨⟨⟨hr,hf⟩,ht⟩,hB'⟩:=hB
  have hr:i∈Region.ready md ops listed:=by simpa using hr
  cases ho:ops[i]? with
  |none=>rw[ho] at hf;cases hf
  | some o=>
   rw[ho] at hf
   dsimp only at hf
   have H':lvc P T cp ops [o] sl h (TW P T cp ops K X t) X:=by unfold TW at H;rw[ho] at H;exact H
   have rest:=λsl h=>TW.any t n (listed.setIfInBounds i true) sl h ht (hdc.step hr) hB'
   have ha:Kl P T cp ops X i (BK P T cp md ops K X n (listed.setIfInBounds i true)) sl h:=UV ho H' λs h=>rest s h
   by_cases he:BP cp o=true
   ·rw[if_pos he] at hf
    have hone:Region.ready md ops listed=[i]:=by simpa using hf
    refine⟨λh0=>(by rw[h0] at hr;cases hr),λj hj=>?_⟩
    grind
   ·rw[if_neg he] at hf
    unfold Kl at ha
    rw[ho] at ha
    dsimp only at ha
    rw[if_neg he] at ha
    obtain⟨v,g1,g2,g3⟩:=ha
    exact EZ ho (by simpa using he) n listed sl h hdc (E7 ho hf) hr g1 g2 g3
 | .many r,0,listed,sl,h,_,hdc,hB,H=>by simp[KY] at hB
 | .many r,n+1,listed,sl,h,_,hdc,hB,H=>by
  unfold KY at hB
  simp only[Bool.and_eq_true,Bool.not_eq_true',List.all_eq_true] at hB
  obtain⟨⟨h1,h2⟩,h3⟩:=hB
  unfold TW at H
  refine⟨λh0=>(by rw[h0] at h1;cases h1),λj hj=>Uc r n listed sl h hdc h3 H j (by simpa using h2 j hj) hj⟩
 | .alt i t r,_,_,_,_,h1,_,_,_=>by simp[Tr.top] at h1
 | .nil,_,_,_,_,h1,_,_,_=>by simp[Tr.top] at h1
theorem Uc:∀(r:Tr) (n:Nat) (listed:Array Bool) (sl:List AV) (h:AH),DC md ops listed->KY cp md ops r (n+1) listed=true->TW P T cp ops K X r sl h->∀j∈r.heads,j∈Region.ready md ops listed->Kl P T cp ops X j (BK P T cp md ops K X n (listed.setIfInBounds j true)) sl h
 | .alt i t r,n,listed,sl,h,hdc,hB,H=>by
  unfold KY at hB
  simp only[Bool.and_eq_true] at hB
  obtain⟨⟨⟨ht,hs⟩,h1⟩,h2⟩:=hB
  obtain⟨o,ho⟩:=Option.isSome_iff_exists.1 hs
  unfold TW at H
  rw[ho] at H
  intro j hj hr
  by_cases hji:j=i
  ·subst hji
   exact UV ho H.1 λs h=>TW.any t n (listed.setIfInBounds j true) s h ht (hdc.step hr) h1
  ·refine Uc r n listed sl h hdc h2 H.2 j ?_ hr
   grind[Tr.heads]
 | .done,_,_,_,_,_,_,_=>λj hj=>by simp[Tr.heads] at hj
 | .seg ..,_,_,_,_,_,_,_=>λj hj=>by simp[Tr.heads] at hj
 | .many _,_,_,_,_,_,_,_=>λj hj=>by simp[Tr.heads] at hj
 | .nil,_,_,_,_,_,_,_=>λj hj=>by simp[Tr.heads] at hj
end
def trB (cp:Bool) (l:List Oper) (t:Tr):Bool:=t.top&&KY cp .any l.toArray t l.length (Array.replicate l.length false)
theorem DL {id:Nat} {l:List Oper} {Q:AQ} {sl:List AV} {h:AH} (cp:Bool) (t:Tr) (hm:P.follows .mixedOrders=true) (hB:trB cp l t=true)
  (H:∀K:List AV->AH->Prop,(∀s h,Q .normal s h->K s h)->TW P T cp l.toArray K (λp h=> ∀s,Q (.pan p) s h) t sl h):Aa P T (.region id l.toArray true) Q sl h:=by
 simp only[trB,Bool.and_eq_true] at hB
 refine CB λG w a S R=>wp_region_any hm ?_
 have hany:=TW.any (P:=P) (T:=T) (K:=λs h=>Q .normal s h) (X:=λp h=> ∀s,Q (.pan p) s h) t l.length (Array.replicate l.length false) sl h hB.1 (λj o _ hj=>by
  simp[Array.getElem?_replicate] at hj
  grind) hB.2 (H _ λ_ _ h=>h)
 have:=BK.wp _ _ _ _ hany G G w.drew a a.defers (B8.refl G) S.drew R rfl
 simpa using this
theorem Kn {id:Nat} {l:List Oper} {y:Code} {Q:AQ} {sl:List AV} {h:AH} (cp:Bool) (t:Tr) (hm:P.follows .mixedOrders=true) (hB:trB cp l t=true)
  (H:∀K:List AV->AH->Prop,(∀s h,Aa P T y Q s h->K s h)->TW P T cp l.toArray K (λp h=> ∀s,Q (.pan p) s h) t sl h):Aa P T (.seq (.region id l.toArray true) y) Q sl h:=
 Aa.seq λK hK=>DL cp t hm hB λK' hK'=>H K' λs h q=>hK' s h (hK s h q)
end
end
section
def N4:AV->AV
 | .own _ k r=> .d (.slc k r)
 | .full k r=> .d (.slc k r)
 | .nn k r=> .d (.slc k r)
 |a=>a
def PP:AV->Bool
 | .d _| .own .. | .full .. | .nn .. | .ptr .. | .elt .. | .nilp| .nilf| .nili=>true
 |_=>false
def UU:AV->Bool
 | .agg l=>l.all λ| .d _=>true|_=>false
 | .fn _ l=>l.all λ| .ptr .. =>true|_=>false
 |a=>PP a
theorem Ay.rfl' (x:D):Ay x x:=by cases x<;>simp[Ay]
theorem Q3 {l:List AV} (h:(l.all λ| .d _=>true|_=>false)=true):Bj false l l:=by
 induction l with
 |nil=>simp[Bj]
 |cons a l ih=>
  grind[Bj,Aj,Ay.rfl']
theorem VU {l:List AV} (h:(l.all λ| .ptr .. =>true|_=>false)=true):Bj false l l:=by
 induction l with
 |nil=>simp[Bj]
 |cons a l ih=>
  grind[Bj,Aj]
theorem Bj.frz:∀{l:List AV},l.all UU=true->Bj false l (l.map N4)
 |[],_=>by simp[Bj]
 |a::l,h=>by
  simp only[List.all_cons,Bool.and_eq_true] at h
  simp only[List.map_cons,Bj]
  refine⟨?_,Bj.frz h.2⟩
  have h1:=h.1
  cases a with
  |d x=>simp only[N4,Aj];exact Ay.rfl' _
  |agg l=>simp only[N4,Aj];exact Q3 h1
  |fn f l=>simp only[N4,Aj,true_and];exact VU h1
  |tup l=>simp[UU,PP] at h1
  |ifc t a=>simp[UU,PP] at h1
  |cnd g a=>simp[UU,PP] at h1
  |undef=>simp[UU,PP] at h1
  |any=>simp[UU,PP] at h1
  |arr b k n c=>simp[UU,PP] at h1
  |nils=>simp[UU,PP] at h1
  |mp t ks=>simp[UU,PP] at h1
  |_=>simp[N4,Aj]
section
variable {P:Program} {T:Ap} {h:AH} {sl:List AV} {ops:Array Oper} {rest:List Oper} {o:Oper} {K:List AV->AH->Prop} {X:AV->AH->Prop} {cp:Bool}
theorem Aw {c:Call} {fo:Operand} {f:FuncId} {cap args:List AV} {r:AV} (ho:o.op= .call c) (hg:o.guard=none) (hc:c.callee= .value fo) (hf:ev T sl fo= .fn f cap)
  (C:PC P T f args r) (ha:(c.args.toList.map (ev T sl)++cap).map N4=args) (hk:(c.args.toList.map (ev T sl)++cap).all UU=true) (k:lvc P T cp ops rest (AO o.dst r sl) h K X):DW P T cp ops (o::rest) sl h K X:=
 DW.pc ho hg hc hf C (by rw[<-ha];exact Bj.frz hk) k
theorem B7 {c:Call} {fo:Operand} {f:FuncId} {cap args:List AV} {r:AV} {g:Nat×Bool} {t:Bool} (ho:o.op= .call c) (hg:o.guard=some g) (ht:U8 ops sl g.1 g.2=some t) (hc:c.callee= .value fo) (hf:Ri T sl fo= .fn f cap)
  (C:t=true->PC P T f args r) (hok:t=true->okL T sl (fo::c.args.toList)=true) (ha:(c.args.toList.map (Ri T sl)++cap).map N4=args) (hk:(c.args.toList.map (Ri T sl)++cap).all UU=true) (k:lvc P T cp ops rest (AO o.dst (.cnd t r) sl) h K X):DW P T cp ops (o::rest) sl h K X:=
 Aec ho hg ht hc hf C hok (by rw[<-ha];exact Bj.frz hk) k
end
abbrev Tx:=List UInt8
def Aq (s:List UInt8):List D:=[.str s]
def TO (l:List (List UInt8)):D:= .slc 1 (l.map Aq)
theorem Al {α β:Type} (f:α->β) (l:List α) (i:Nat) (d:β) (h:i<l.length):(l.map f).getD i d=f (l[i]'h):=by
 grind
@[go_sem] theorem AiZ (b:Bool):(b==true)=b:=by cases b<;>rfl
@[go_sem] theorem AiY (b:Bool):(b==false)=!b:=by cases b<;>rfl
@[go_sem] theorem AhR (a b:Bool):(bif a then b else false)=(a&&b):=by cases a<;>rfl
@[go_sem] theorem Aiq (a b:Bool):(bif a then true else b)=(a||b):=by cases a<;>rfl
section
variable (T:Ap) (sl:List AV)
@[go_sem] theorem Aiw (t:Tmp):ev T sl (.tmp t)=sl.getD t .any:=rfl
@[go_sem] theorem AgP (v:Value):ev T sl (.const v)=ofV v:=rfl
@[go_sem] theorem AfW (g:Nat):ev T sl (.global g)= .elt (T g).length [T g] 0 0:=rfl
@[go_sem] theorem AhU (f:FuncId):ev T sl (.func f)= .fn f []:=rfl
@[go_sem] theorem AhV (t:Tmp):Ri T sl (.tmp t)=(sl.getD t .any).strip:=rfl
@[go_sem] theorem AfX (v:Value):Ri T sl (.const v)=(ofV v).strip:=rfl
@[go_sem] theorem AeY (g:Nat):Ri T sl (.global g)= .elt (T g).length [T g] 0 0:=rfl
@[go_sem] theorem AgQ (f:FuncId):Ri T sl (.func f)= .fn f []:=rfl
@[go_sem] theorem Aii (x:D):(AV.d x).strip= .d x:=rfl
@[go_sem] theorem Agh (g:Bool) (a:AV):(AV.cnd g a).strip=a:=rfl
@[go_sem] theorem Agj (t k:Nat) (r:List (List D)):(AV.own t k r).strip= .own t k r:=rfl
@[go_sem] theorem Agk (b k i o:Nat):(AV.ptr b k i o).strip= .ptr b k i o:=rfl
@[go_sem] theorem Agi (k:Nat) (r:List (List D)) (i o:Nat):(AV.elt k r i o).strip= .elt k r i o:=rfl
@[go_sem] theorem Agf (l:List AV):(AV.agg l).strip= .agg l:=rfl
@[go_sem] theorem Agl (l:List AV):(AV.tup l).strip= .tup l:=rfl
@[go_sem] theorem AhE (f:FuncId) (l:List AV):(AV.fn f l).strip= .fn f l:=rfl
@[go_sem] theorem AfK:AV.nils.strip= .nils:=rfl
@[go_sem] theorem AhF (k:Nat) (r:List (List D)):(AV.nn k r).strip= .nn k r:=rfl
@[go_sem] theorem Ai6 (k:Nat) (r:List (List D)):(AV.nn k r).okc=true:=rfl
@[go_sem] theorem Agg (b k n c:Nat):(AV.arr b k n c).strip= .arr b k n c:=rfl
@[go_sem] theorem Aia (b k n c:Nat):(AV.arr b k n c).okc=true:=rfl
@[go_sem] theorem AfJ (k:Nat) (r:List (List D)):(AV.full k r).strip= .full k r:=rfl
@[go_sem] theorem Ahy (k:Nat) (r:List (List D)):(AV.full k r).okc=true:=rfl
@[go_sem] theorem AiK (x:D):(AV.d x).okc=true:=rfl
@[go_sem] theorem Aib (g:Bool) (a:AV):(AV.cnd g a).okc=g:=rfl
@[go_sem] theorem Aid (t k:Nat) (r:List (List D)):(AV.own t k r).okc=true:=rfl
@[go_sem] theorem Aie (b k i o:Nat):(AV.ptr b k i o).okc=true:=rfl
@[go_sem] theorem Aic (k:Nat) (r:List (List D)) (i o:Nat):(AV.elt k r i o).okc=true:=rfl
@[go_sem] theorem AhZ (l:List AV):(AV.agg l).okc=true:=rfl
@[go_sem] theorem Aif (l:List AV):(AV.tup l).okc=true:=rfl
@[go_sem] theorem Ai5 (f:FuncId) (l:List AV):(AV.fn f l).okc=true:=rfl
@[go_sem] theorem Ahz:AV.nils.okc=true:=rfl
end
attribute [go_sem] true_or or_true okL opL Option.toList_none Option.toList_some Bool.and_true Bool.true_and Bool.and_self imp_self implies_true
attribute [go_sem] List.getElem?_toArray
attribute [go_sem] lvc MO opG Wx O8 Gt RA Aag unP Fk Mw Hq Fl M6 Zv ZK Yh Mf FJ Nc eqP N1 Eo
 Mh Oc E4 Jb toD Sq AV.cells AV.plain AV.one WW Ny Nf NW PB A9 C8 ldA stA Fr ofV AO U8
 Ab Ae Eh TL pick DY WY Aa1 Aj Bj Ay Ew inR Aat Ais Am Bo Hw
attribute [go_sem] List.filterMap_cons List.filterMap_nil List.length_map TO Aq Int.toNat_natCast Int.natCast_nonneg and_self Option.some.injEq D.bool.injEq D.int.injEq D.str.injEq D.slc.injEq AV.d.injEq AV.tup.injEq AV.agg.injEq List.cons.injEq exists_eq_left' exists_eq_left exists_eq' Nat.add_zero Nat.zero_add List.contains_cons List.contains_nil Bool.true_or Bool.or_true Bool.or_false Bool.false_or beq_self_eq_true
attribute [go_sem] List.length_cons List.length_nil List.replicate List.set_cons_zero List.set_cons_succ List.getD_cons_zero List.getD_cons_succ List.getElem?_cons_zero List.getElem?_cons_succ
 List.take_succ_cons List.take_zero List.drop_succ_cons List.drop_zero List.map_cons List.map_nil List.cons_append List.nil_append List.append_nil Option.map_some Option.map_none Option.bind_some Option.getD_some Option.getD_none
 List.all_cons List.all_nil List.headD_cons List.isEmpty_nil
 Option.isSome_some Option.isSome_none true_and and_true if_true if_false eq_self Bool.false_eq_true not_true_eq_false not_false_eq_true ite_self
attribute [go_sem_proc] Nat.reduceAdd Nat.reduceMul Nat.reduceSub Nat.reduceLeDiff Nat.reduceLT Nat.reduceBEq Nat.reduceEqDiff Nat.reduceDiv Nat.reduceMod reduceIte
attribute [go_sem] TW and_true true_and Cy Cv AV.one List.all_cons List.all_nil or_self
end
section
open Go.RowKit
structure Ub (h h':AH):Prop where
 o:h.objs.Perm h'.objs
 l:h.live.Perm h'.live
section
variable {P:Program} {T:Ap} {G:Gh} {h h':AH} {w:World} {sl:List AV} {ops:Array Oper} {rest:List Oper} {o:Oper} {K:List AV->AH->Prop} {X:AV->AH->Prop} {Q:AQ} {cp:Bool}
theorem Bl.perm (S:Bl T G h w) (p:Ub h h'):Bl T G h' w:=
 ⟨S.below,S.glob,S.frz,S.fin,λq hq=>S.obj q (p.o.mem_iff.2 hq),(p.o.map _).nodup_iff.1 S.nd,λt ht=>S.liv t (p.l.mem_iff.2 ht),
  (p.l.pairwise_iff (fun {x y} H g h1 h2=>H g h2 h1)).1 S.tdis,λt ht g hg hm=>S.todis t (p.l.mem_iff.2 ht) g hg ((p.o.map _).mem_iff.2 hm),p.l.nodup_iff.1 S.lnd⟩
def Nz (b:Nat):Af->Af
 |[]=>[]
 |p::r=>if(p.1==b)=true then r else p::Nz b r
def mvO (b:Nat) (l:Af):Af:=
 match A9 b l with
 |some ob=>(b,ob)::Nz b l
 |none=>l
def N0 (t:Nat):List Nat->List Nat
 |[]=>[]
 |x::r=>if(x==t)=true then r else x::N0 t r
def mvT (t:Nat) (l:List Nat):List Nat:=if l.contains t=true then t::N0 t l else l
theorem Aae (b:Nat):∀l:Af,l.Perm (mvO b l):=by
 have key:∀(l:Af) (ob:Ob),A9 b l=some ob->l.Perm ((b,ob)::Nz b l):=λl=>by
  induction l with
  |nil=>intro ob e;simp[A9] at e
  | cons p r ih=>
   intro ob e
   unfold A9 at e
   unfold Nz
   split at e
   ·rename_i hb
    injection e with e
    have:p.1=b:=by simpa using hb
    rw[if_pos hb,<-e,<-this]
   ·rename_i hb
    rw[if_neg hb]
    exact((ih ob e).cons p).trans (.swap ..)
 intro l
 unfold mvO
 split
 ·rename_i ob e;exact key l ob e
 ·exact .refl _
theorem Aaf (t:Nat) (l:List Nat):l.Perm (mvT t l):=by
 have key:∀l:List Nat,t∈l->l.Perm (t::N0 t l):=λl=>by
  induction l with
  |nil=>intro e;cases e
  |cons p r ih=>
   all_goals grind[N0]
 all_goals grind[mvT]
def M1 (bs ts:List Nat) (h:AH):AH:=⟨bs.foldr mvO h.objs,ts.foldr mvT h.live⟩
theorem Lo (bs ts:List Nat) (h:AH):Ub h (M1 bs ts h):=by
 have k1:∀l:Af,l.Perm (bs.foldr mvO l):=λl=>by
  induction bs with
  |nil=>exact .refl _
  |cons b r ih=>exact ih.trans (Aae b _)
 have k2:∀l:List Nat,l.Perm (ts.foldr mvT l):=λl=>by
  induction ts with
  |nil=>exact .refl _
  |cons b r ih=>exact ih.trans (Aaf b _)
 exact⟨k1 _,k2 _⟩
theorem Jf.perm {N:AV->AH->Prop} (p:Ub h h') (H:Jf P T o sl h' N X):Jf P T o sl h N X:=
 ⟨H.1,λG w a S hv Kc Q hK hX=>H.2 G w a (S.perm p) hv Kc Q hK hX⟩
theorem AI {c:Call} {fo:Operand} {f:FuncId} {cap args:List AV} {h0:AH} {R:AR->AH->Prop} (bs ts:List Nat) (ho:o.op= .call c) (hg:o.guard=none) (hc:c.callee= .value fo) (hf:ev T sl fo= .fn f cap)
  (hh:M1 bs ts h=h0) (ha:c.args.toList.map (ev T sl)++cap=args) (C:AC P T f args h0 R)
  (k:∀x h',R x h'->match x with
   | .ret r=>lvc P T false ops rest (AO o.dst r sl) h' K X
   | .pan p=>X p h'):DW P T false ops (o::rest) sl h K X:=by
 subst hh
 unfold DW
 rw[if_pos (by rw[If ho hg hc false];rfl)]
 refine Jf.perm (Lo bs ts h) (XA ho hg hc hf (by rw[ha];exact C) λx h' hR=>?_)
 have:=k x h' hR
 cases x with
 |ret r=>exact AN rest _ _ this
 |pan p=>exact this
theorem Ao.le {f:FuncId} {args args':List AV} {R:AR->AH->Prop} (c:Ao P T f args' h R) (hle:Bj true args args'):Ao P T f args h R:=
 λG w vs S Rs=>c G w vs S (Rs.le hle)
theorem AC.le {f:FuncId} {args args':List AV} {R:AR->AH->Prop} (c:AC P T f args' h R) (hle:Bj true args args'):AC P T f args h R:=⟨c.call,c.run.le hle⟩
theorem AC.mono {f:FuncId} {args:List AV} {R R':AR->AH->Prop} (c:AC P T f args h R) (hR:∀x h',R x h'->R' x h'):AC P T f args h R':=
 ⟨c.call,λG w vs S Rs=>(c.run G w vs S Rs).mono λe w' ⟨x,h',G',h1,h2⟩=>⟨x,h',G',hR _ _ h1,h2⟩⟩
theorem Jf.panic {N:AV->AH->Prop} {x:Operand} {t:TypeId} {a:AV} (ho:o.op= .panic x) (hg:o.guard=none) (hx:ev T sl x= .ifc t a) (k:X (.ifc t a) h):Jf P T o sl h N X:=by
 refine⟨hg,λG w act S hv Kc Q _ hX=>?_⟩
 have hvx:=hv x (by simp[ho,Op.operands])
 rw[hx] at hvx
 obtain⟨u,hu⟩:∃u,act.eval x= .iface t u:=by
  generalize act.eval x=z at hvx
  cases hvx with
  |ifc t h=>exact⟨_,rfl⟩
 have hrun:(execOp act.eval o).run P w= .halt (.panic (act.eval x)) w:=by
  unfold execOp
  simp only[ho,hu]
  rfl
 unfold Oper.wp
 rw[hrun]
 exact hX _ h G _ w k (B8.refl G) S hvx
theorem DW.panic {x:Operand} {t:TypeId} {a:AV} (ho:o.op= .panic x) (hg:o.guard=none) (hx:ev T sl x= .ifc t a) (k:X (.ifc t a) h):DW P T cp ops (o::rest) sl h K X:=by
 grind[DW,BP,Jf.panic]
theorem CC {c:Code} (b i j k:Nat) {ob:Ob} {r:List AV} (hg:A9 b h.objs=some ob) (hr:ob.rows[i]?=some r) (hj:r[j]?=some .nils) (hk:0<k)
  (H:∀t,Ae t h.live->Aa P T c Q sl ⟨C8 b ⟨ob.k,ob.c,ob.rows.set i (r.set j (.own t k []))⟩ h.objs,t::h.live⟩):Aa P T c Q sl h:=by
 intro G w a S R
 obtain⟨G',hG,S',ht,_⟩:=S.newNil hk
 have hfr:Ae G.nt h.live:=Dm λx hx e=>by
  subst e
  have:=S'.lnd
  grind
 have hO:=S'.obj _ (De hg)
 have hwr:GQ b w w:=⟨rfl,rfl,rfl,rfl,λ_ _=>rfl⟩
 have hob:LW G' w b ⟨ob.k,ob.c,ob.rows.set i (r.set j (.own G.nt k []))⟩:=by
  obtain⟨vs,ty,fz,h1,h2,h3,h4⟩:=hO.mem
  have hi:i<ob.rows.length:=(List.getElem?_eq_some_iff.1 hr).1
  refine⟨hO.low,λi' r' j' hr' hj'=>?_,by simpa using hO.rest,λr' hr'=>?_,by simpa using hO.fits,hO.cmax,vs,ty,fz,h1,h2,h3,λi' r' j' a' e1 e2=>?_⟩
  ·dsimp only at hr'⊢
   by_cases hii:i=i'
   ·subst hii
    rw[List.getElem?_set_self hi] at hr'
    injection hr' with hr'
    exact hO.free i r j' hr (by rw[<-hr',List.length_set] at hj';exact hj')
   ·rw[List.getElem?_set_ne hii] at hr'
    exact hO.free i' r' j' hr' hj'
  ·rcases List.mem_or_eq_of_mem_set hr' with hr'|rfl
   ·exact hO.lenk r' hr'
   ·rw[List.length_set]
    refine(hO.lenk r (List.mem_of_getElem? hr)).imp_right λe=>?_
    grind
  ·dsimp only at e1 e2⊢
   by_cases hii:i=i'
   ·subst hii
    rw[List.getElem?_set_self hi] at e1
    injection e1 with e1
    subst e1
    by_cases hjj:j=j'
    ·subst hjj
     rw[List.getElem?_set_self (List.getElem?_eq_some_iff.1 hj).1] at e2
     injection e2 with e2
     subst e2
     obtain⟨_,v,hv1,hv2⟩:=h4 i r j _ hr hj
     refine⟨rfl,v,hv1,?_⟩
     cases hv2
     exact .own (.slc0 k none 0 (λ_=>rfl) (by decide)) ht
    ·grind
   ·grind
 have:=S'.write hg hwr (λ_ _ _=>rfl) hob
 exact wp_mono (H G.nt hfr G' w a this (R.mono hG)) λe a' w' hh=>hh.mono hG (λ_ _ _ q=>q)
end
attribute [go_sem] Nz mvO N0 mvT M1
end
section
open Go.RowKit
abbrev SL:=List (Nat×AV)
structure Av {α:Type} (a b:α):Prop where
 e:a=b
def Bd (df:AV) (t:Nat):SL->AV
 |[]=>df
 |p::l=>if p.1=t then p.2 else Bd df t l
def EI (t:Nat) (v:AV):SL->SL
 |[]=>[(t,v)]
 |p::l=>if p.1=t then(t,v)::l else if t<p.1 then(t,v)::p::l else p::EI t v l
def Ct (df:AV) (l:SL):Nat->Nat->List AV
 |0,_=>[]
 |n+1,i=>Bd df i l::Ct df l n (i+1)
def BC:List Bool->SL->SL
 |true::m,p::l=>p::BC m l
 |false::m,_::l=>BC m l
 |_,_=>[]
theorem Dn (df:AV) (l:SL):∀n i,(Ct df l n i).length=n
 |0,_=>rfl
 |n+1,i=>by simp[Ct,Dn df l n (i+1)]
theorem CS (df:AV) (l:SL):∀n i t,t<n->(Ct df l n i)[t]?=some (Bd df (i+t) l)
 |n+1,i,0,_=>by simp[Ct]
 |n+1,i,t+1,h=>by
  simp only[Ct,List.getElem?_cons_succ]
  rw[CS df l n (i+1) t (by omega)]
  congr 2
  omega
 |0,_,_,h=>by omega
@[go_sem] theorem Ahr {df d:AV} {l:SL} {n t:Nat} (h:t<n):(Ct df l n 0).getD t d=Bd df t l:=by
 grind[CS]
theorem EX {df:AV} {t u:Nat} {v:AV} :∀l:SL,Bd df u (EI t v l)=if t=u then v else Bd df u l
 |[]=>by simp only[EI,Bd]
 | p::l=>by
  unfold EI
  split
  ·grind[Bd]
  ·split
   ·simp only[Bd]
   ·simp only[Bd]
    rw[EX l]
    all_goals grind
theorem RN {df:AV} {l:SL} {v:AV} :∀(n i t:Nat),(Ct df l n i).set t v=Ct df (EI (i+t) v l) n i:=by
 intro n
 induction n with
 |zero=>intro i t;simp[Ct]
 | succ n ih=>
  intro i t
  have hne:∀(n j:Nat),i+t<j->Ct df l n j=Ct df (EI (i+t) v l) n j:=λn=>by
   induction n with
   |zero=>intro j _;rfl
   |succ n ihn=>intro j hj;simp only[Ct];rw[EX,if_neg (by omega),<-ihn (j+1) (by omega)]
  cases t with
  |zero=>
   grind[Ct,EX]
  |succ t=>
   grind[Ct,EX]
@[go_sem] theorem GH {df:AV} {l:SL} {v:AV} {n t:Nat} :(Ct df l n 0).set t v=Ct df (EI t v l) n 0:=by
 grind[RN]
@[go_sem] theorem Agb (df:AV) (t:Nat):Bd df t []=df:=rfl
@[go_sem] theorem Afw (df:AV) (t i:Nat) (v:AV) (l:SL):Bd df t ((i,v)::l)=if i=t then v else Bd df t l:=rfl
@[go_sem] theorem Ahg (t:Nat) (v:AV):EI t v []=[(t,v)]:=rfl
@[go_sem] theorem AfZ (t i:Nat) (v u:AV) (l:SL):EI t v ((i,u)::l)=if i=t then(t,v)::l else if t<i then(t,v)::(i,u)::l else(i,u)::EI t v l:=rfl
@[go_sem] theorem AhX (m:List Bool) (p:Nat×AV) (l:SL):BC (true::m) (p::l)=p::BC m l:=rfl
@[go_sem] theorem AhW (m:List Bool) (p:Nat×AV) (l:SL):BC (false::m) (p::l)=BC m l:=rfl
def IP:Nat->List AV->SL
 |_,[]=>[]
 |i,a::l=>(i,a)::IP (i+1) l
theorem Oa {df:AV} :∀(l:List AV) (i t:Nat),Bd df (i+t) (IP i l)=l.getD t df
 |[],i,t=>by simp[IP,Bd]
 |a::l,i,0=>by simp[IP,Bd]
 |a::l,i,t+1=>by
  simp only[IP,Bd]
  rw[if_neg (by omega),show i+(t+1)=(i+1)+t by omega,Oa l (i+1) t]
  simp
theorem LG (args:List AV) (n:Nat) (h:args.length<=n):args++List.replicate (n-args.length) .undef=Ct .undef (IP 0 args) n 0:=by
 apply List.ext_getElem?
 intro t
 rcases Nat.lt_or_ge t n with ht|ht
 ·rw[CS _ _ _ _ _ ht,Oa]
  all_goals grind
 ·rw[List.getElem?_eq_none (by simp;omega),List.getElem?_eq_none (by rw[Dn];exact ht)]
@[go_sem] theorem AgN (i:Nat):IP i []=[]:=rfl
@[go_sem] theorem AfV (i:Nat) (a:AV) (l:List AV):IP i (a::l)=(i,a)::IP (i+1) l:=rfl
def LeS (df:AV) (l l':SL):Prop:=∀t,Bd .any t l'=Bd df t l\/Bd .any t l'= .any
theorem GD {df:AV} {t:Nat} :∀(m:List Bool) (l:SL),(l.map Prod.fst).Pairwise (· < ·)->Bd .any t (BC m l)=Bd df t l\/Bd .any t (BC m l)= .any
 |[],l,_=>by cases l<;>exact .inr rfl
 |true::m,[],_=> .inr rfl
 |false::m,[],_=> .inr rfl
 |true::m,p::l,hs=>by
  simp only[List.map_cons,List.pairwise_cons] at hs
  simp only[BC,Bd]
  split
  ·exact .inl rfl
  ·exact GD m l hs.2
 | false::m,p::l,hs=>by
  simp only[List.map_cons,List.pairwise_cons] at hs
  simp only[BC,Bd]
  split
  ·rename_i hp
   refine .inr ?_
   have:∀(m:List Bool) (l:SL),(∀x∈l.map Prod.fst,t<x)->Bd .any t (BC m l)= .any:=λm=>by
    induction m with
    |nil=>intro l _;cases l<;>rfl
    | cons b m ih=>
     intro l hl
     cases l with
     |nil=>cases b<;>rfl
     |cons q l=>
      have hq:=hl q.1 (by simp)
      cases b with
      |true=>simp only[BC,Bd];rw[if_neg (by omega)];exact ih l λx hx=>hl x (by simp;exact .inr (by simpa using hx))
      |false=>exact ih l λx hx=>hl x (by simp;exact .inr (by simpa using hx))
   grind
  ·exact GD m l hs.2
def FS:SL->Bool
 |p::q::l=>decide (p.1<q.1)&&FS (q::l)
 |_=>true
theorem PD:∀{l:SL},FS l=true->(l.map Prod.fst).Pairwise (· < ·)
 |[],_=> .nil
 |[p],_=>by simp
 |p::q::l,h=>by
  simp only[FS,Bool.and_eq_true,decide_eq_true_eq] at h
  have ih:=PD h.2
  simp only[List.map_cons,List.pairwise_cons] at ih⊢
  all_goals grind
theorem LeS.mask {df:AV} {l:SL} (m:List Bool) (h:FS l=true):LeS df l (BC m l):=λ_=>GD m l (PD h)
section
variable {P:Program} {T:Ap} {G:Gh} {h:AH} {Q:AQ} {N:Nat} {l l':SL} {df:AV} {c:Code}
theorem Dz.leS {tmps:Array Value} (R:Dz G (Ct df l N 0) tmps) (hl:LeS df l l'):Dz G (Ct .any l' N 0) tmps:=by
 refine⟨by rw[Dn];rw[<-Dn df l N 0];exact R.1,λi a e=>?_⟩
 have hi:i<N:=by
  grind[Dn]
 rw[CS _ _ _ _ _ hi,Nat.zero_add] at e
 injection e with e
 obtain⟨v,h1,h2⟩:=R.2 i _ (CS df l N 0 i hi)
 rw[Nat.zero_add] at h2
 refine⟨v,h1,?_⟩
 rcases hl i with h3|h3
 ·rw[<-e,h3];exact h2
 ·rw[<-e,h3];exact .any v
theorem Aa.leS (hl:LeS df l l') (H:Aa P T c Q (Ct .any l' N 0) h):Aa P T c Q (Ct df l N 0) h:=λG w a S R=>H G w a S (R.leS hl)
theorem Aa.mask (m:List Bool) (hs:FS l=true) (H:Aa P T c Q (Ct .any (BC m l) N 0) h):Aa P T c Q (Ct df l N 0) h:=H.leS (LeS.mask m hs)
def BO (h h':AH):Prop:=∀(T:Ap) (G:Gh) (w:World),Bl T G h w->Bl T G h' w
theorem BO.refl (h:AH):BO h h:=λ_ _ _ S=>S
theorem BO.trans {h h' h'':AH} (p:BO h h') (q:BO h' h''):BO h h'':=λT G w S=>q T G w (p T G w S)
theorem BO.perm {h h':AH} (p:Ub h h'):BO h h':=λ_ _ _ S=>S.perm p
theorem Rf (b:Nat):∀l:Af,(Nz b l).Sublist l
 |[]=> .slnil
 |p::r=>by
  unfold Nz
  split
  ·exact .cons _ (.refl _)
  ·exact(Rf b r).cons_cons _
theorem Rg (t:Nat):∀l:List Nat,(N0 t l).Sublist l
 |[]=> .slnil
 |p::r=>by
  unfold N0
  split
  ·exact .cons _ (.refl _)
  ·exact(Rg t r).cons_cons _
def MP (gs gt bs ts:List Nat) (h:AH):AH:=M1 bs ts ⟨gs.foldr Nz h.objs,gt.foldr N0 h.live⟩
theorem BO.ord (gs gt bs ts:List Nat) (h:AH):BO h (MP gs gt bs ts h):=by
 have k1:∀l:Af,(gs.foldr Nz l).Sublist l:=λl=>by
  induction gs with
  |nil=>exact .refl _
  |cons b r ih=>exact(Rf b _).trans ih
 have k2:∀l:List Nat,(gt.foldr N0 l).Sublist l:=λl=>by
  induction gt with
  |nil=>exact .refl _
  |cons b r ih=>exact(Rg b _).trans ih
 exact λT G w S=>(S.drop (h':=⟨gs.foldr Nz h.objs,gt.foldr N0 h.live⟩) (k1 _) (k2 _)).perm (Lo bs ts _)
theorem Aa.leH {sl:List AV} {h':AH} (p:BO h h') (H:Aa P T c Q sl h'):Aa P T c Q sl h:=λG w a S R=>H G w a (p _ _ _ S) R
theorem Aa.ord {sl:List AV} {h':AH} (gs gt bs ts:List Nat) (e:MP gs gt bs ts h=h') (H:Aa P T c Q sl h'):Aa P T c Q sl h:=H.leH (e▸BO.ord gs gt bs ts h)
def DJ:SL->SL->SL
 |[],l=>l
 |p::r,l=>DJ r (EI p.1 p.2 l)
theorem Ox {t:Nat} :∀(u l:SL),(∃v,(t,v)∈u/\Bd .any t (DJ u l)=v)\/Bd .any t (DJ u l)=Bd .any t l
 |[],l=> .inr rfl
 |p::r,l=>by
  rcases Ox (t:=t) r (EI p.1 p.2 l) with⟨v,h1,h2⟩|h1
  ·exact .inl ⟨v,List.mem_cons_of_mem _ h1,h2⟩
  ·all_goals grind[DJ,EX]
theorem Ow {df:AV} {t:Nat} {v:AV} :∀{l:SL},(l.map Prod.fst).Pairwise (· < ·)->(t,v)∈l->Bd df t l=v
 | p::l,hs,h=>by
  simp only[List.map_cons,List.pairwise_cons] at hs
  simp only[Bd]
  rcases List.mem_cons.1 h with rfl|h
  ·rw[if_pos rfl]
  ·have:=hs.1 t (List.mem_map_of_mem (f:=Prod.fst) h)
   rw[if_neg (by omega)]
   exact Ow hs.2 h
theorem KI {x:Nat×AV} :∀{m:List Bool} {l:SL},x∈BC m l->x∈l
 |[],l,h=>by cases l<;>simp[BC] at h
 |true::m,[],h=>by simp[BC] at h
 |false::m,[],h=>by simp[BC] at h
 |true::m,p::l,h=>by
  simp only[BC,List.mem_cons] at h⊢
  exact h.imp id KI
 |false::m,p::l,h=>List.mem_cons_of_mem _ (KI (m:=m) h)
theorem TZ {df:AV} {l:SL} (mu mc:List Bool) (hs:FS l=true):LeS df l (DJ (BC mu l) (BC mc l)):=λt=>by
 all_goals grind[Ox,BC,Ow,PD,KI,GD]
def Kt:SL->SL->Prop
 |[],[]=>True
 |p::l,q::l'=>p.1=q.1/\Aj true p.2 q.2/\Kt l l'
 |_,_=>False
theorem Aaa {n i:Nat} :∀{l l':SL},Kt l l'->∀t,Aj true (Bd .any t l) (Bd .any t l')
 |[],[],_,t=>by simp[Bd,Aj]
 |p::l,q::l',h,t=>by
  obtain⟨h1,h2,h3⟩:=h
  simp only[Bd]
  rw[<-h1]
  split
  ·exact h2
  ·exact Aaa (n:=n) (i:=i) h3 t
 |[],_::_,h,_=>by simp[Kt] at h
 |_::_,[],h,_=>by simp[Kt] at h
theorem Abt {h:AH} {o:Af} (hl:Cy h.objs o):BO h ⟨o,h.live⟩:=λ_ _ _ S=>S.le hl
theorem XH:∀a:AV,(match a with| .cnd .. | .agg _| .tup _| .ifc .. | .fn .. =>False|_=>True)->Aj true a a
 | .d x,_=>by simp only[Aj];exact Ay.rfl' x
 | .own ..,_=>by simp[Aj]
 | .nils,_=>by simp[Aj]
 | .full ..,_=>by simp[Aj]
 | .nn ..,_=>by simp[Aj]
 | .ptr ..,_=>by simp[Aj]
 | .elt ..,_=>by simp[Aj]
 | .arr ..,_=>by simp[Aj]
 | .lar ..,_=>by simp[Aj]
 | .nilf,_=>by simp[Aj]
 | .mp ..,_=>by simp[Aj]
 | .nilp,_=>by simp[Aj]
 | .nili,_=>by simp[Aj]
 | .undef,_=>by simp[Aj]
 | .any,_=>by simp[Aj]
def WkS (J:SL->AH->Prop) (lc:SL) (hc:AH):Prop:=J lc hc\/∃lc' o,Kt lc lc'/\Cy hc.objs o/\J lc' ⟨o,hc.live⟩
theorem WkS.e {J:SL->AH->Prop} {lc:SL} {hc:AH} (h:J lc hc):WkS J lc hc:= .inl h
theorem WkS.w {J:SL->AH->Prop} {lc:SL} {hc:AH} (lc':SL) (o:Af) (h1:Kt lc lc') (h2:Cy hc.objs o) (h3:J lc' ⟨o,hc.live⟩):WkS J lc hc:= .inr ⟨lc',o,h1,h2,h3⟩
theorem Z7 {lc lc':SL} (hl:Kt lc lc'):∀(u:SL) (t:Nat),Aj true (Bd .any t (DJ u lc)) (Bd .any t (DJ u lc'))\/Bd .any t (DJ u lc)=Bd .any t (DJ u lc'):=by
 have ins:∀(u:SL) (a b:SL),(∀t,Aj true (Bd .any t a) (Bd .any t b)\/Bd .any t a=Bd .any t b)->∀t,Aj true (Bd .any t (DJ u a)) (Bd .any t (DJ u b))\/Bd .any t (DJ u a)=Bd .any t (DJ u b):=λu=>by
  induction u with
  |nil=>exact λa b h=>h
  |cons p r ih=>
   intro a b h
   refine ih _ _ λt=>?_
   all_goals grind[EX]
 exact λu=>ins u lc lc' λt=> .inl (Aaa (n:=0) (i:=0) hl t)
theorem Aek {un:SL} {J:SL->AH->Prop} {lc:SL} {hc:AH} {w:World} {tmps:Array Value} (e:WkS J lc hc) (S:Bl T G hc w) (R:Dz G (Ct .any (DJ un lc) N 0) tmps):∃lc hc,J lc hc/\Bl T G hc w/\Dz G (Ct .any (DJ un lc) N 0) tmps:=by
 rcases e with e|⟨lc',o,h1,h2,h3⟩
 ·exact⟨_,_,e,S,R⟩
 refine⟨_,_,h3,S.le h2,by rw[Dn];rw[<-Dn .any (DJ un lc) N 0];exact R.1,λi a e=>?_⟩
 have hi:i<N:=by
  grind[Dn]
 rw[CS _ _ _ _ _ hi,Nat.zero_add] at e
 injection e with e
 obtain⟨v,g1,g2⟩:=R.2 i _ (CS .any (DJ un lc) N 0 i hi)
 rw[Nat.zero_add] at g2
 refine⟨v,g1,e▸?_⟩
 rcases Z7 h1 un i with h4|h4
 ·exact h4.okT g2
 ·rw[<-h4];exact g2
def GX (N:Nat) (un:SL) (J:SL->AH->Prop) (s':List AV) (h':AH):Prop:=
 ∃df' l' mu mc hc,s'=Ct df' l' N 0/\FS l'=true/\BO h' hc/\BC mu l'=un/\WkS J (BC mc l') hc
theorem GX.mk {un:SL} {J:SL->AH->Prop} {df':AV} {l':SL} {h':AH} (mu mc:List Bool) (gs gt bs ts:List Nat) (hs:FS l'=true)
    (hu:BC mu l'=un) (hj:WkS J (BC mc l') (MP gs gt bs ts h')):GX N un J (Ct df' l' N 0) h':=⟨df',l',mu,mc,_,rfl,hs,BO.ord gs gt bs ts h',hu,hj⟩
theorem XB {un:SL} {J:SL->AH->Prop} {df':AV} {l':SL} {h':AH} (mu mc:List Bool) (hs:FS l'=true) (hu:BC mu l'=un) (hj:WkS J (BC mc l') h'):GX N un J (Ct df' l' N 0) h':=
 ⟨df',l',mu,mc,h',rfl,hs,BO.refl _,hu,hj⟩
theorem Q6 {un:SL} {J:SL->AH->Prop} {s':List AV} {h':AH} {w:World} {tmps:Array Value} (e:GX N un J s' h') (S:Bl T G h' w) (R:Dz G s' tmps):∃lc hc,J lc hc/\Bl T G hc w/\Dz G (Ct .any (DJ un lc) N 0) tmps:=by
 obtain⟨df',l',mu,mc,hc,rfl,hs',hp,rfl,hj⟩:=e
 exact Aek hj (hp _ _ _ S) (R.leS (TZ mu mc hs'))
theorem AcM {K:List AV->AH->Prop} {s:List AV} (H:Am K Q .normal s h):K s h:=H
theorem V6 {body:Code} (mu mc:List Bool) (I:Nat->SL->AH->Prop) (hs:FS l=true) (h0:∃n,I n (BC mc l) h)
  (round:∀n lc hc,I n lc hc->Aa P T body (Am (GX N (BC mu l) λlc' hc'=> ∃n',n'<n/\I n' lc' hc') Q) (Ct .any (DJ (BC mu l) lc) N 0) hc):Aa P T (.loop body) Q (Ct df l N 0) h:=by
 intro G w a S R
 let J:Nat->Act->World->Prop:=λn a' w'=>a'.defers=a.defers/\∃lc h' G',I n lc h'/\B8 G G'/\Bl T G' h' w'/\Dz G' (Ct .any (DJ (BC mu l) lc) N 0) a'.tmps
 have hex:∀a' w',(∃n,J n a' w')->∃n,J n a' w'/\∀m,J m a' w'->n<=m:=λa' w' ⟨n,hn⟩=>by
  induction n using Nat.strongRecOn with
  | _ n ih=>
   by_cases hm:∃m,m<n/\J m a' w'
   ·obtain⟨m,hlt,hj⟩:=hm
    exact ih m hlt hj
   ·grind
 refine wp_loop (λa' w'=> ∃n,J n a' w') (λa' w'=>Classical.epsilon λn=>J n a' w'/\∀m,J m a' w'->n<=m) ?_ ?_
 ·obtain⟨n,hn⟩:=h0
  exact⟨n,rfl,_,h,G,hn,B8.refl G,S,R.leS (TZ mu mc hs)⟩
 ·intro a1 w1 hI
  obtain⟨⟨hd,lc,h',G',hi,hG,S',R'⟩,hmin⟩:=Classical.epsilon_spec (p:=λn=>J n a1 w1/\∀m,J m a1 w1->n<=m) (hex a1 w1 hI)
  refine wp_mono (round _ lc h' hi G' w1 a1 S' R') ?_
  rintro e a2 w2 ⟨hd2,x,s2,h2,G2,hq,hx,hG2,S2,R2⟩
  cases x with
  |normal=>
   cases e<;>simp only[He] at hx
   obtain⟨lc',hc',⟨n',hlt,hi'⟩,S3,R3⟩:=Q6 (N:=N) (AcM hq) S2 R2
   have hj:J n' a2 w2:=⟨hd2.trans hd,lc',_,G2,hi',hG.trans hG2,S3,R3⟩
   refine⟨⟨n',hj⟩,?_⟩
   have:=(Classical.epsilon_spec (p:=λn=>J n a2 w2/\∀m,J m a2 w2->n<=m) (hex a2 w2 ⟨n',hj⟩)).2 n' hj
   exact Nat.lt_of_le_of_lt this hlt
  |exit i=>
   cases e<;>simp only[He] at hx
   exact⟨hd2.trans hd,_,s2,h2,G2,hq,hx,hG.trans hG2,S2,R2⟩
  |ret=>
   cases e<;>simp only[He] at hx
   exact⟨hd2.trans hd,_,s2,h2,G2,hq,trivial,hG.trans hG2,S2,R2⟩
  |pan p=>
   cases e<;>simp only[He] at hx
   exact⟨hd2.trans hd,_,s2,h2,G2,hq,hx,hG.trans hG2,S2,R2⟩
theorem Km {x y:Code} {K:List AV->AH->Prop} (hK:∀s h,Aa P T y Q s h->K s h) (mu:List Bool) (I:SL->AH->Prop) (H:Aa P T x (Am (GX N (BC mu l) I) Q) (Ct df l N 0) h)
  (H2:∀lc hc,I lc hc->Aa P T y Q (Ct .any (DJ (BC mu l) lc) N 0) hc):Aa P T x (Am K Q) (Ct df l N 0) h:=by
 refine Aa.mono (λx s h q=>?_) H
 cases x with
 |normal=>
  refine hK _ _ λG w a S R=>?_
  obtain⟨lc,hc,hj,S3,R3⟩:=Q6 (N:=N) (show GX N _ _ s h from q) S R
  exact H2 lc hc hj G w a S3 R3
 |_=>exact q
theorem V5 {x y:Code} (mu:List Bool) (I:SL->AH->Prop) (H:Aa P T x (Am (GX N (BC mu l) I) Q) (Ct df l N 0) h)
  (H2:∀lc hc,I lc hc->Aa P T y Q (Ct .any (DJ (BC mu l) lc) N 0) hc):Aa P T (.seq x y) Q (Ct df l N 0) h:=
 Aa.seq λK hK=>Km hK mu I H H2
end
section
variable {P:Program} {T:Ap} {f:FuncId} {fn:Func} {c:Code} {args:List AV} {h:AH} {N:Nat}
theorem Ar.enterS {r:AV} (hf:P.funcs[f]?=some fn) (hb:fn.body=some c) (hN:fn.ntmps=N) (hl:Nat.ble args.length N=true)
  (H:(∀a∈args,a.bnd)->Aa P T c (Aat P fn.results r) (Ct .undef (IP 0 args) N 0) ⟨[],[]⟩):Ar P T f args r:=
 Ar.enter hf hb hN λhb=>by rw[LG _ _ (Nat.le_of_ble_eq_true hl)];exact H hb
def YB (P:Program) (rs:Array ResultVar) (R:AR->AH->Prop):AQ
 | .normal,s,h=> ∃r,DY P s h rs.toList=some r/\∃r',Aj true r r'/\∃hc,BO h hc/\R (.ret r') hc
 | .ret,s,h=> ∃r,DY P s h rs.toList=some r/\∃r',Aj true r r'/\∃hc,BO h hc/\R (.ret r') hc
 | .pan p,s,h=> ∃hc,BO h hc/\R (.pan p) hc
 | .exit _,_,_=>False
theorem Ao.enterS {R:AR->AH->Prop} (hf:P.funcs[f]?=some fn) (hb:fn.body=some c) (hN:fn.ntmps=N) (hl:Nat.ble args.length N=true)
  (H:(∀a∈args,a.bnd)->Aa P T c (YB P fn.results R) (Ct .undef (IP 0 args) N 0) h):Ao P T f args h R:=by
 intro G w vs S Rs
 refine calls_of_wp hf hb ?_
 have hw:=H Rs.bnd G w {tmps:=vs++Array.replicate (fn.ntmps-vs.size) undef,defers:=[]} S (by rw[hN,<-LG _ _ (Nat.le_of_ble_eq_true hl)];exact Rs.enter N)
 refine wp_mono hw ?_
 rintro e a w' ⟨hd,x,s,h',G',hq,hx,hG,S',R'⟩
 have hret:(∃r,DY P s h' fn.results.toList=some r/\∃r',Aj true r r'/\∃hc,BO h' hc/\R (.ret r') hc)->∃v,(results fn a.tmps).run P w'= .ok v w'/\(∃x h' G',R x h'/\B8 G G'/\Bl T G' h' w'/\match x with
   | .ret r=> ∃u,Ending.returned v= .returned u/\VR G' r u
   | .pan p=> ∃u,Ending.returned v= .panicked [{v:=u,recovered:=false }]/\VR G' p u):=by
  rintro⟨r,hr,r',hle,hc,hp,hR⟩
  obtain⟨v,h1,h2⟩:=JY S' R' hr
  exact⟨v,h1,_,_,G',hR,hG,hp _ _ _ S',v,rfl,Aj.ok r r' v hle h2⟩
 cases x with
 |normal=>
  cases e<;>simp only[He] at hx
  obtain⟨v,h1,h2⟩:=hret hq
  exact⟨hd,v,h1,h2⟩
 |ret=>
  cases e<;>simp only[He] at hx
  obtain⟨v,h1,h2⟩:=hret hq
  exact⟨hd,v,h1,h2⟩
 |exit i=>exact hq.elim
 |pan p=>
  cases e<;>simp only[He] at hx
  obtain⟨v,rfl,hv⟩:=hx
  obtain⟨hc,hp,hR⟩:=hq
  exact⟨hd,_,_,G',hR,hG,hp _ _ _ S',v,rfl,hv⟩
theorem Ah {R:AR->AH->Prop} {rs:Array ResultVar} {s:List AV} {r r':AV} (gs gt bs ts:List Nat) (hr:DY P s h rs.toList=some r) (hR:R (.ret r') (MP gs gt bs ts h)) (hle:Aj true r r'):YB P rs R .ret s h:=⟨r,hr,r',hle,_,BO.ord gs gt bs ts h,hR⟩
theorem Cd {R:AR->AH->Prop} {rs:Array ResultVar} {s:List AV} {r r':AV} (gs gt bs ts:List Nat) (hr:DY P s h rs.toList=some r) (hR:R (.ret r') (MP gs gt bs ts h)) (hle:Aj true r r'):YB P rs R .normal s h:=⟨r,hr,r',hle,_,BO.ord gs gt bs ts h,hR⟩
theorem FR {R:AR->AH->Prop} {rs:Array ResultVar} {s:List AV} {p:AV} (gs gt bs ts:List Nat) (hR:R (.pan p) (MP gs gt bs ts h)):YB P rs R (.pan p) s h:=⟨_,BO.ord gs gt bs ts h,hR⟩
end
section
variable {P:Program} {T:Ap} {Q:AQ} {h:AH} {N:Nat} {l:SL} {df:AV}
theorem Abd {x y:Code} {K:List AV->AH->Prop} {z:Bool} (hK:∀s h,Aa P T y Q s h->K s h) (mu:List Bool) (t:Nat) (H:Aa P T x (Am (GX N (BC mu l) λlc hc=>Av lc [(t,.d (.bool z))]/\Av hc h) Q) (Ct df l N 0) h)
  (H2:Aa P T y Q (Ct .any (DJ (BC mu l) [(t,.d (.bool z))]) N 0) h):Aa P T x (Am K Q) (Ct df l N 0) h:=
 Km hK mu _ H λlc hc ⟨⟨h1⟩,⟨h2⟩⟩=>by subst h1 h2;exact H2
theorem ES {b v y:Bool} (hb:b=false) (h:v=y):v=(b||y):=by rw[hb,Bool.false_or];exact h
theorem Hc {b y:Bool} (hb:b=true):b=(b||y):=by rw[hb,Bool.true_or]
theorem nfB {b:Bool} (h:b=false):(!b)=true:=by rw[h];rfl
theorem BD {t:Nat} {v z:Bool} (h:v=z):Av [(t,AV.d (.bool v))] [(t,AV.d (.bool z))]:=⟨by rw[h]⟩
end
@[go_sem] theorem Ah5 (l:List UInt8) (a b:AV) (h:l.length<=4096):(if(ByteArray.mk l.toArray).size<=maxLen then a else b)=a:=by
 rw[if_pos]
 show l.toArray.size<=maxLen
 have:(4096:Nat)<=maxLen:=by decide
 simp;omega
attribute [go_sem] MP List.foldr_cons List.foldr_nil Int.toNat_zero Int.toNat_one
section
variable {P:Program} {T:Ap} {Q:AQ} {h:AH} {N:Nat} {l:SL} {df:AV}
theorem Bs {c:Code} (i k:Nat) (hi:Bd df i l= .nils) (hN:Nat.blt i N=true) (hk:0<k) (H:∀t,Ae t h.live->Aa P T c Q (Ct df (EI i (.own t k []) l) N 0) ⟨h.objs,t::h.live⟩):Aa P T c Q (Ct df l N 0) h:=by
 intro G w a S R
 refine IG (P:=P) (T:=T) (c:=c) (Q:=Q) i k (by rw[CS _ _ _ _ _ (by simpa[Nat.blt_eq] using hN),Nat.zero_add,hi]) hk (λt=>?_) G w a S R
 rw[GH]
 intro G' w' a' S' R'
 exact H t (Dm λx hx e=>by subst e;have:=S'.lnd;simp only[List.nodup_cons] at this;exact this.1 hx) G' w' a' S' R'
end
section
variable {P:Program} {T:Ap} {G:Gh} {h:AH} {w:World} {sl:List AV} {ops:Array Oper} {rest:List Oper} {o:Oper} {K:List AV->AH->Prop} {X:AV->AH->Prop} {Q:AQ}
theorem Bl.iceTok (S:Bl T G h w) (vs:Array Value) (e:TypeId) (n k:Nat) (hk:0<k) (hs:vs.size=n*k) (hm:n<=maxLen):
  ∃G',B8 (G.ice w.heap.size vs) G'/\Bl T G' ⟨h.objs,G.nt::h.live⟩ (w.alloc (.cells vs e))/\G'.tok G.nt=some (k,.slice (some ⟨w.heap.size,0,none⟩) n n):=by
 have S0:=S.ice vs e (0,0)
 let G1:=G.ice w.heap.size vs
 let G':Gh:= {G1 with tok:=λt=>if t=G.nt then some (k,.slice (some ⟨w.heap.size,0,none⟩) n n) else G.tok t,nt:=G.nt+1 }
 have hG:B8 G1 G':=⟨rfl,λ_ _ _ e=>e,λ_ _ _ e=> .inl e,λt x e=>by
  show(if t=G.nt then _ else _)=_
  have e:G.tok t=some x:=e
  rw[if_neg (λe'=>by rw[S.fin t (by omega)] at e;cases e)]
  exact e⟩
 have S1:Bl T G' h (w.alloc (.cells vs e)):=S0.grow (Below.refl _ _) hG (λt ht=>by
   show(if t=G.nt then _ else _)=_
   have ht':G.nt+1<=t:=ht
   rw[if_neg (by omega)]
   exact S.fin t (by omega)) (λ_ _ _ e=> .inl e) S0.frz
 have htok:G'.tok G.nt=some (k,.slice (some ⟨w.heap.size,0,none⟩) n n):=by show(if G.nt=G.nt then _ else _)=_;rw[if_pos rfl]
 have hnew:AT G' G.nt=none:=by
  grind[AT]
 refine⟨G',hG,⟨S1.below,S1.glob,S1.frz,S1.fin,S1.obj,S1.nd,λt ht=>?_,List.pairwise_cons.2 ⟨λt ht g h1 h2=>?_,S1.tdis⟩,λt ht g hg=>?_,List.nodup_cons.2 ⟨λhm'=>?_,S.lnd⟩⟩,htok⟩
 ·rcases List.mem_cons.1 ht with rfl|ht
  ·exact .ofMem ⟨k,n,n,_,htok,Nat.le_refl _,hm,hk,(λe=>by cases e),λa ha hlt=>absurd hlt (by omega)⟩
  ·exact S1.liv t ht
 ·rw[hnew] at h1
  cases h1
 ·rcases List.mem_cons.1 ht with rfl|ht
  ·rw[hnew] at hg
   cases hg
  ·exact S1.todis t ht g hg
 ·obtain⟨_,e⟩:=(S.liv _ hm').any
  rw[S.fin _ (Nat.le_refl _)] at e
  cases e
theorem Kq {t len k e by_:Nat} {ps:Array (Nat×Operand)} {rows:List (List D)} (ho:o.op= .buildSlice t len ps) (hg:o.guard=none) (hsl:BL P t=some (e,k,by_)) (hr:Jb k 0 (ps.toList.map λp=>(p.1,ev T sl p.2))=some rows) (hl:ps.size=len) (hb:len*k<=16777216)
  (kk:∀t',Ae t' h.live->lvc P T false ops rest (AO o.dst (.own t' k rows) sl) ⟨h.objs,t'::h.live⟩ K X) (he:BP false o=true:=by rfl):DW P T false ops (o::rest) sl h K X:=by
 subst hl
 unfold DW
 rw[if_pos he]
 refine⟨hg,λG w a S hv Kc Q hK _=>?_⟩
 obtain⟨i,hu,hi,hsz,_,hz,hk⟩:=Ch hsl
 obtain⟨z,hz1,hz2⟩:=Option.map_eq_some_iff.1 hz
 obtain⟨ps⟩:=ps
 have hp:=JS (G:=G) (ρ:=ev T sl) (e:=a.eval) (l:=ps) (λx hx=>hv x (by simpa[ho,Op.operands] using hx))
 obtain⟨vs',h1,h2,_,h4,h5,h6⟩:=KP (G:=G) (ps.map λp=>(p.1,ev T sl p.2)) (ps.map λp=>(p.1,a.eval p.2)) 0 ((Array.range (ps.length*k)).map (z.cells[· %z.cells.size]!)) rows (by simp) (by simp) hp hr
 have hsz':vs'.size=ps.length*k:=by rw[h2];simp
 simp only[List.size_toArray] at hb
 have hml:ps.length<=maxLen:=by
  rcases Nat.eq_zero_or_pos ps.length with h0|h0
  ·rw[h0];decide
  ·have:ps.length*1<=ps.length*k:=Nat.mul_le_mul_left _ hk
   unfold maxLen
   omega
 obtain⟨G',hG1,S',ht⟩:=S.iceTok vs' e ps.length k hk hsz' hml
 have hrl:rows.length=ps.length:=by simpa using h4
 have hd:=P9 S vs' e (0,0) ps.length hrl (Nat.le_refl _) hml h5 (λn r j d e1 e2=>by simpa using h6 n r j d e1 e2)
 have hd:VD G'.frz (.slc k rows) (.slice (some ⟨w.heap.size,0,none⟩) ps.length ps.length):=by
  cases hd with|d hd=>exact hd.mono hG1.frz
 have hrun:(execOp a.eval o).run P w= .ok (.value (.slice (some ⟨w.heap.size,0,none⟩) ps.length ps.length)) (w.alloc (.cells vs' e)):=by
  unfold execOp
  simp only[ho]
  simp only[Instr.buildSlice,Sem.run_bind,run_underlying hu,Result.andThen_ok,AS hi,hsz,List.size_toArray]
  rw[if_neg (by omega)]
  rcases Nat.eq_zero_or_pos ps.length with h0|h0
  ·have hps:ps=[]:=List.eq_nil_of_length_eq_zero h0
   subst hps
   have hv0:vs'= #[]:=Array.eq_empty_of_size_eq_zero (by rw[h2];simp)
   subst hv0
   simp[Instr.fill,newRow,newObj,Sem.run,zeroValue,typeInfo,hi,hz1,program]
   grind
  ·have hne:ps.length*k≠0:=Nat.mul_ne_zero (by omega) (by omega)
   rw[if_neg hne]
   simp only[zeroValue,typeInfo,Sem.run_bind,bind_assoc,pure_bind]
   simp[program,Sem.run,hi,hz1]
   have h1':Instr.fill (λi=>some (i*k,k)) (Array.map (λx=>z.cells[x%z.cells.size]!) (Array.range (ps.length*k))) (ps.map λp=>(p.1,a.eval p.2))=some vs':=h1
   rw[h1']
   simp[newRow,newObj,Sem.run]
 unfold Oper.wp
 rw[hrun]
 have hfr:Ae G.nt h.live:=Dm λx hx e=>by
  subst e
  have:=S'.lnd
  grind
 exact hK _ _ G' _ _ (AN _ _ _ (kk G.nt hfr)) ((S.gle_ice vs').trans hG1) S' (.own hd ht)
theorem DW.append {cp:Bool} :∀(l1:List Oper) {l2:List Oper} (sl:List AV) (h:AH),DW P T cp ops l1 sl h (λs h=>DW P T cp ops l2 s h K X) X->DW P T cp ops (l1++l2) sl h K X
 |[],_,_,_,H=>H
 | o::l1,l2,sl,h,H=>by
  rw[List.cons_append]
  unfold DW at H⊢
  by_cases he:BP cp o=true
  ·rw[if_pos he] at H⊢
   exact⟨H.1,λG w a S hv Kc Q hK hX=>H.2 G w a S hv Kc Q (λr h' G' u w' hr=>hK r h' G' u w' (DW.append l1 _ _ hr)) hX⟩
  ·rw[if_neg he] at H⊢
   obtain⟨v,g1,g2,g3⟩:=H
   exact⟨v,g1,g2,DW.append l1 _ _ g3⟩
theorem Aa.cut {id:Nat} {l:List Oper} {y:Code} (n:Nat) (H:∀K:List AV->AH->Prop,(∀s h,Aa P T y Q s h->K s h)->lvc P T false l.toArray (l.take n) sl h (λs h=>DW P T false l.toArray (l.drop n) s h K (λp h=> ∀s,Q (.pan p) s h)) (λp h=> ∀s,Q (.pan p) s h)):Aa P T (.seq (.region id l.toArray false) y) Q sl h:=
 Aa.seq λK hK=>CB λG w a S R=>wp_region_lit (Jp l sl h (by have:=DW.append _ _ _ (AN _ _ _ (H K hK));rwa [List.take_append_drop] at this) G G w a a.defers (B8.refl G) S R rfl)
end
@[go_sem] theorem Aht (l:SL):DJ [] l=l:=rfl
@[go_sem] theorem Agc (i:Nat) (v:AV) (r l:SL):DJ ((i,v)::r) l=DJ r (EI i v l):=rfl
@[go_sem] theorem Ahc (p:Nat×AV):FS [p]=true:=rfl
@[go_sem] theorem Ahb:FS []=true:=rfl
@[go_sem] theorem Ahd (i j:Nat) (u v:AV) (l:SL):FS ((i,u)::(j,v)::l)=(decide (i<j)&&FS ((j,v)::l)):=rfl
end
section
open Go.RowKit
@[reducible] def Nx (P:Program) (T:Ap) (c:Code) (Q:AQ) (s:List AV) (h:AH):Prop:=Aa P T c Q s h
@[reducible] def Px (Q:AQ) (p:AV) (h:AH):Prop:=∀s,Q (.pan p) s h
@[congr] theorem Nx.cg {P:Program} {T:Ap} {c:Code} {Q:AQ} {s s':List AV} {h h':AH} (e:s=s') (f:h=h'):Nx P T c Q s h=Nx P T c Q s' h':=by rw[e,f]
@[congr] theorem lvc.cg {P:Program} {T:Ap} {cp:Bool} {ops:Array Oper} {l:List Oper} {s s':List AV} {h h':AH} {K:List AV->AH->Prop} {X:AV->AH->Prop} (e:s=s') (f:h=h'):
    lvc P T cp ops l s h K X=lvc P T cp ops l s' h' K X:=by rw[e,f]
@[congr] theorem DW.cg {P:Program} {T:Ap} {cp:Bool} {ops:Array Oper} {l:List Oper} {s s':List AV} {h h':AH} {K:List AV->AH->Prop} {X:AV->AH->Prop} (e:s=s') (f:h=h'):
    DW P T cp ops l s h K X=DW P T cp ops l s' h' K X:=by rw[e,f]
theorem ZT {p:Prop} (e:p:=by first|omega|(intro _;omega)|(exact nfB)|(intro _;exact nfB)|(intro hg;refine⟨hg,?_⟩;omega)):p:=e
theorem ZS {p:Prop} (e:p:=by first|omega|(intro _;omega)|decide|(exact nfB)|(intro _;exact nfB)|(intro hg;refine⟨hg,?_⟩;omega)|(simp;done)|(simp;omega)|(intro hg;simp at hg;done)|(intro hg;simp at hg⊢;first|omega|exact hg|grind)):p:=e
def CR:Nat->SL->SL
 |_,[]=>[]
 |n,p::l=>if n%2=1 then p::CR (n/2) l else CR (n/2) l
@[go_sem] theorem WQ (n:Nat):CR n []=[]:=by cases n<;>rfl
@[go_sem] theorem T4 (n:Nat) (p:Nat×AV) (l:SL):CR n (p::l)=if n%2=1 then p::CR (n/2) l else CR (n/2) l:=by cases n<;>rfl
def Yi:Nat->Nat->List Bool
 |0,_=>[]
 |k+1,n=>decide (n%2=1)::Yi k (n/2)
theorem DU:∀(l:SL) (n:Nat),CR n l=BC (Yi l.length n) l
 |[],n=>by rw[WQ];rfl
 |p::l,n=>by
  rw[T4,List.length_cons,Yi]
  by_cases h:n%2=1
  ·rw[if_pos h,decide_eq_true h,BC,DU l]
  ·rw[if_neg h,decide_eq_false h,BC,DU l]
section
variable {P:Program} {T:Ap} {Q:AQ} {h:AH} {N:Nat} {l:SL} {df:AV} {sl:List AV} {K:List AV->AH->Prop}
theorem Zm {c:Code} (n:Nat) (H:Aa P T c Q (Ct .any (CR n l) N 0) h) (hs:FS l=true:=by rfl):Aa P T c Q (Ct df l N 0) h:=by
 rw[DU] at H
 exact Aa.mask _ hs H
theorem Zs {x y:Code} (H:Aa P T x (Am (Nx P T y Q) Q) sl h):Aa P T (.seq x y) Q sl h:=L5 (Aa P T y Q) H λ_ _ k=>k
theorem Zk (H:K sl h):Aa P T .skip (Am K Q) sl h:=Aa.skip (Ac H)
theorem Zx {id:Nat} {os:List Oper} {y:Code} (H:lvc P T false os.toArray os sl h (Nx P T y Q) (Px Q)):Aa P T (.seq (.region id os.toArray false) y) Q sl h:=
 L5 (Aa P T y Q) (Jm H) λ_ _ k=>k
theorem Zq {id:Nat} {os:List Oper} (H:∀K:List AV->AH->Prop,(∀s h,Q .normal s h->K s h)->lvc P T false os.toArray os sl h K (Px Q)):Aa P T (.region id os.toArray false) Q sl h:=Jm (H _ λ_ _ k=>k)
theorem Zd {id:Nat} {os:List Oper} {y:Code} (cp:Bool) (ord:List Nat) (H:lvc P T cp os.toArray (pick os ord) sl h (Nx P T y Q) (Px Q)) (hm:P.follows .mixedOrders=true:=by rfl) (hB:O5 cp os ord=true:=by kernel_rfl):
  Aa P T (.seq (.region id os.toArray true) y) Q sl h:=
 L5 (Aa P T y Q) (Ji cp ord hm hB H) λ_ _ k=>k
theorem Zt {id:Nat} {os:List Oper} (cp:Bool) (ord:List Nat) (H:∀K:List AV->AH->Prop,(∀s h,Q .normal s h->K s h)->lvc P T cp os.toArray (pick os ord) sl h K (Px Q)) (hm:P.follows .mixedOrders=true:=by rfl) (hB:O5 cp os ord=true:=by kernel_rfl):
    Aa P T (.region id os.toArray true) Q sl h:=Ji cp ord hm hB (H _ λ_ _ k=>k)
theorem Zp {id:Nat} {os:List Oper} {y:Code} {df':AV} {l':SL} {N':Nat} {h':AH} (m:Nat) (H:Aa P T y Q (Ct .any (CR m l') N' 0) h')
  (e:∀(K:List AV->AH->Prop) (X:AV->AH->Prop),K (Ct df' l' N' 0) h'->lvc P T false os.toArray os sl h K X:=by
   intro K X k
   first
    |(simp only[go_sem];exact k)
    |(simp only[go_sem, *,-k];(repeat(with_reducible refine And.intro ZT ?_));exact k)
    |(simp only[go_sem, *,-k];(repeat(with_reducible refine And.intro ZS ?_));exact k))
  (hs:FS l'=true:=by rfl):Aa P T (.seq (.region id os.toArray false) y) Q sl h:=
 Zx (e _ _ (Zm m H hs))
theorem Zr {id:Nat} {os:List Oper} {s':List AV} {h':AH} (H:Q .normal s' h')
    (e:∀(K:List AV->AH->Prop) (X:AV->AH->Prop),K s' h'->lvc P T false os.toArray os sl h K X:=by
      intro K X k
      first
        |(simp only[go_sem];exact k)
        |(simp only[go_sem, *,-k];(repeat(with_reducible refine And.intro ZT ?_));exact k)
        |(simp only[go_sem, *,-k];(repeat(with_reducible refine And.intro ZS ?_));exact k)):
    Aa P T (.region id os.toArray false) Q sl h:=Jm (e _ _ H)
theorem Zc {c:Operand} {x y:Code} {b:Bool} {p q:Prop} (ht:p->Aa P T x Q sl h) (hf:q->Aa P T y Q sl h) (e:ev T sl c= .d (.bool b):=by first|rfl|(simp only[go_sem];done))
    (h1:(b=true)=p:=by(try simp only[decide_eq_true_eq,decide_eq_false_iff_not,Bool.not_eq_true',Bool.not_eq_false',Bool.and_eq_true,Bool.or_eq_true,Bool.and_eq_false_iff,Bool.or_eq_false_iff,Int.not_lt,Int.not_le,beq_iff_eq,beq_eq_false_iff_ne,ne_eq,Bool.not_eq_true,Bool.not_eq_false])<;>rfl)
    (h2:(b=false)=q:=by(try simp only[decide_eq_true_eq,decide_eq_false_iff_not,Bool.not_eq_true',Bool.not_eq_false',Bool.and_eq_true,Bool.or_eq_true,Bool.and_eq_false_iff,Bool.or_eq_false_iff,Int.not_lt,Int.not_le,beq_iff_eq,beq_eq_false_iff_ne,ne_eq,Bool.not_eq_true,Bool.not_eq_false])<;>rfl):
    Aa P T (.cond c x y) Q sl h:=Aa.cond b e (λg=>ht (h1▸g)) λg=>hf (h2▸g)
theorem Z1 {id:Nat} {os:List Oper} {y:Code} {df':AV} {l':SL} {N':Nat} {h':AH} {f:FuncId} {az:List AV} {r:AV} (m:Nat) (C:PC P T f az r) (H:Aa P T y Q (Ct .any (CR m l') N' 0) h')
  (e:PC P T f az r->∀(K:List AV->AH->Prop) (X:AV->AH->Prop),K (Ct df' l' N' 0) h'->lvc P T false os.toArray os sl h K X:=by
   intro C K X k
   first
    |(simp only[go_sem];refine Aw rfl rfl rfl rfl C rfl rfl ?_;simp only[go_sem];exact k)
    |(simp only[go_sem, *,-k,-C];(repeat(with_reducible refine And.intro ZT ?_));refine Aw rfl rfl rfl rfl C rfl rfl ?_;simp only[go_sem, *,-k,-C];(repeat(with_reducible refine And.intro ZT ?_));exact k))
  (hs:FS l'=true:=by rfl):Aa P T (.seq (.region id os.toArray false) y) Q sl h:=
 Zx (e C _ _ (Zm m H hs))
theorem Ze {un:SL} {J:SL->AH->Prop} {df':AV} {l':SL} {h':AH} (mu mc:Nat) (gs gt bs ts:List Nat) (hj:WkS J (CR mc l') (MP gs gt bs ts h'))
  (hu:CR mu l'=un:=by first|rfl|(simp only[go_sem];done)|(simp only[go_sem]<;>rfl)|(simp only[go_sem, *];done)) (hs:FS l'=true:=by rfl):GX N un J (Ct df' l' N 0) h':=by
 rw[DU] at hj hu
 exact GX.mk _ _ gs gt bs ts hs hu hj
theorem Zf {un:SL} {J:SL->AH->Prop} {df':AV} {l':SL} {h':AH} (mu mc:Nat) (hj:WkS J (CR mc l') h')
  (hu:CR mu l'=un:=by first|rfl|(simp only[go_sem];done)|(simp only[go_sem]<;>rfl)|(simp only[go_sem, *];done)) (hs:FS l'=true:=by rfl):GX N un J (Ct df' l' N 0) h':=by
 rw[DU] at hj hu
 exact XB _ _ hs hu hj
theorem Zl {body:Code} (mu mc:Nat) (I:Nat->SL->AH->Prop) (h0:∃n,I n (CR mc l) h)
  (round:∀n lc hc,I n lc hc->Aa P T body (Am (GX N (CR mu l) λlc' hc'=> ∃n',n'<n/\I n' lc' hc') Q) (Ct .any (DJ (CR mu l) lc) N 0) hc) (hs:FS l=true:=by rfl):Aa P T (.loop body) Q (Ct df l N 0) h:=by
 rw[DU] at h0 round
 exact V6 _ _ I hs h0 round
theorem Zj {x y:Code} (mu:Nat) (I:SL->AH->Prop) (H:Aa P T x (Am (GX N (CR mu l) I) Q) (Ct df l N 0) h)
  (H2:∀lc hc,I lc hc->Aa P T y Q (Ct .any (DJ (CR mu l) lc) N 0) hc):Aa P T (.seq x y) Q (Ct df l N 0) h:=by
 rw[DU] at H H2
 exact V5 _ I H H2
theorem Zi {x y:Code} (mu:Nat) (I:SL->AH->Prop) (H:Aa P T x (Am (GX N (CR mu l) I) Q) (Ct df l N 0) h)
  (H2:∀lc hc,I lc hc->Aa P T y Q (Ct .any (DJ (CR mu l) lc) N 0) hc):Aa P T x (Am (Nx P T y Q) Q) (Ct df l N 0) h:=by
 rw[DU] at H H2
 exact Km (λ_ _ k=>k) _ I H H2
theorem Za {x y:Code} {z:Bool} (mu t:Nat) (H:Aa P T x (Am (GX N (CR mu l) λlc hc=>Av lc [(t,.d (.bool z))]/\Av hc h) Q) (Ct df l N 0) h)
  (H2:Aa P T y Q (Ct .any (DJ (CR mu l) [(t,.d (.bool z))]) N 0) h):Aa P T x (Am (Nx P T y Q) Q) (Ct df l N 0) h:=by
 rw[DU] at H H2
 exact Abd (λ_ _ k=>k) _ t H H2
end
theorem Bi (n:Nat):(n:Int)+1=((n+1:Nat):Int):=rfl
theorem ZE {α:Type} {a b:α} (e:Av a b:=by(first|exact⟨rfl⟩|((try simp only[go_sem])<;>first|exact⟨rfl⟩|(constructor;simp;done))|((try simp only[go_sem, *])<;>first|exact⟨rfl⟩|(constructor;simp;done)))):Av a b:=e
theorem ZG {α:Type} {a b:α} (e:Av a b:=by(first|((try simp only[go_sem])<;>first|exact⟨rfl⟩|(constructor;grind))|((try simp only[go_sem, *])<;>first|exact⟨rfl⟩|(constructor;grind)))):Av a b:=e
theorem ZG2 {p:Prop} (e:p:=by first|omega|grind):p:=e
theorem ZI {p:Prop} (e:p:=by first|omega|rfl|(simp;done)|(simp;omega)|assumption):p:=e
theorem ZN {p:Prop} (e:p:=by first|omega|assumption|grind):p:=e
theorem ZM {a b:Nat} (e:a<b:=by first|omega|(simp;omega)|grind):a<b:=e
end
section
open Go.RowKit
def DO (G:Gh):Option AV->List Deferred->Prop
 |none,ds=>ds=[]
 |some (.fn f cap),ds=> ∃vs:Array Value,ds=[⟨.fn (.func f) vs, #[]⟩]/\Dz G cap vs
 |_,_=>False
abbrev DQ:=AX->Option AV->List AV->AH->Prop
def OP (P:Program) (T:Ap) (c:Code) (Q:DQ) (sl:List AV) (h:AH):Prop:=
 ∀(G:Gh) (w:World) (a:Act),Bl T G h w->Dz G sl a.tmps->a.defers=[]->
  c.wp P (λe a' w'=> ∃x o s h' G',Q x o s h'/\He G' x e/\B8 G G'/\Bl T G' h' w'/\Dz G' s a'.tmps/\DO G' o a'.defers) a w
section
variable {P:Program} {T:Ap} {G:Gh} {h:AH} {w:World} {sl:List AV} {Q:DQ}
theorem OP.seq {x y:Code} (H:∀K:List AV->AH->Prop,(∀s h,OP P T y Q s h->K s h)->Aa P T x (Am K λx s h=>Q x none s h) sl h):OP P T (.seq x y) Q sl h:=by
 intro G w a S R hd
 refine wp_seq (wp_mono (H _ (λs h hh=>hh) G w a S R) ?_)
 rintro e a' w' ⟨h1,x,s,h',G',hq,hx,hG,S',R'⟩
 cases x with
 |normal=>
  cases e<;>simp only[He] at hx
  exact wp_mono (hq G' w' a' S' R' (h1.trans hd)) λe a w ⟨x,o,s,h',G2,hq,hx,hG2,r⟩=>⟨x,o,s,h',G2,hq,hx,hG.trans hG2,r⟩
 |exit i=>
  cases e<;>simp only[He] at hx
  exact⟨_,none,s,h',G',hq,hx,hG,S',R',h1.trans hd⟩
 |ret=>
  cases e<;>simp only[He] at hx
  exact⟨_,none,s,h',G',hq,trivial,hG,S',R',h1.trans hd⟩
 |pan p=>
  cases e<;>simp only[He] at hx
  exact⟨_,none,s,h',G',hq,hx,hG,S',R',h1.trans hd⟩
theorem OP.defer {id:Nat} {o0 o1:Oper} {z:Code} {f:FuncId} {t:Nat} {cap:Array Operand} (ho0:o0.op= .makeFunc (.func f) #[] cap) (hg0:o0.guard=none) (hd0:o0.dst=some t) (ht:t<sl.length)
  (ho1:o1.op= .defer {callee:= .value (.tmp t),args:= #[],argTypes:= #[]}) (hg1:o1.guard=none)
  (H:Aa P T z (λx s h=>Q x (some (.fn f (cap.toList.map (ev T sl)))) s h) (AO o1.dst .undef (AO o0.dst (.fn f (cap.toList.map (ev T sl))) sl)) h):OP P T (.seq (.region id #[o0,o1] false) z) Q sl h:=by
 intro G w a S R hd
 have hvs:Dz G (cap.toList.map (ev T sl)) (cap.map a.eval):=⟨by simp,λi x e=>by
  rw[List.getElem?_map] at e
  obtain⟨q,hq,rfl⟩:=Option.map_eq_some_iff.1 e
  rw[Array.getElem?_toList] at hq
  exact⟨a.eval q,by rw[Array.getElem?_map,hq];rfl,F4 S R q⟩⟩
 have hfn:VR G (.fn f (cap.toList.map (ev T sl))) (.func (.func f) #[] (cap.map a.eval)):=by
  have:=VR.fn (G:=G) f (cap.toList.map (ev T sl)) (cap.map a.eval).toList (by simp) (λi x v h1 h2=>by
   obtain⟨u,h3,h4⟩:=hvs.2 i x h1
   rw[Array.getElem?_toList] at h2
   rw[h2] at h3
   injection h3 with h3
   rw[h3];exact h4)
  rwa [Array.toArray_toList] at this
 refine wp_seq (wp_region_lit (l:=[o0,o1]) ?_)
 refine wpList_plain hg0 λK hK=>?_
 have hrun0:(execOp a.eval o0).run P w= .ok (.value (.func (.func f) #[] (cap.map a.eval))) w:=by
  unfold execOp
  simp only[ho0]
  simp[Instr.makeFunc]
 unfold Oper.wp
 rw[hrun0]
 refine hK _ _ (wpList_plain hg1 λK' hK'=>?_)
 have R1:=R.put hfn o0.dst
 have hev:(a.put o0.dst (.func (.func f) #[] (cap.map a.eval))).eval (.tmp t)= .func (.func f) #[] (cap.map a.eval):=by
  have hts:t<a.tmps.size:=by rw[R.1];exact ht
  simp[Act.eval,Act.put,hd0,hts]
 have hrun1:(execOp (a.put o0.dst (.func (.func f) #[] (cap.map a.eval))).eval o1).run P w= .ok (.defer ⟨.fn (.func f) (cap.map a.eval), #[]⟩) w:=by
  unfold execOp
  simp only[ho1,resolve,hev,Deferred.ofValue]
  simp
 unfold Oper.wp
 rw[hrun1]
 refine hK' _ _ (wpList_nil ?_)
 have R2:Dz G (AO o1.dst .undef (AO o0.dst (.fn f (cap.toList.map (ev T sl))) sl)) (({(a.put o0.dst (.func (.func f) #[] (cap.map a.eval))) with defers:=⟨.fn (.func f) (cap.map a.eval), #[]⟩::(a.put o0.dst (.func (.func f) #[] (cap.map a.eval))).defers } :Act).put o1.dst Go.undef).tmps:=
  Dz.put (act:= {(a.put o0.dst (.func (.func f) #[] (cap.map a.eval))) with defers:=⟨.fn (.func f) (cap.map a.eval), #[]⟩::(a.put o0.dst (.func (.func f) #[] (cap.map a.eval))).defers }) R1 .undef o1.dst
 refine wp_mono (H G w _ S R2) ?_
 rintro e a' w' ⟨h1,x,s,h',G',hq,hx,hG,S',R'⟩
 refine⟨x,_,s,h',G',hq,hx,hG,S',R',cap.map a.eval,?_,hvs.mono hG⟩
 rw[h1,Bv]
 show⟨.fn (.func f) (cap.map a.eval), #[]⟩::(a.put o0.dst _).defers=_
 rw[Bv,hd]
def CZ (P:Program) (T:Ap) (g:FuncId) (cap:List AV) (h:AH) (m:Option AV) (R:AH->Prop):Prop:=
 (∀az w,(callFunc g az).run P w= .ok (.enter g az) w)/\
 ∀(G:Gh) (w:World) (vs:Array Value) (u:FrameMode),Bl T G h w->Dz G cap vs->
  (match m with|none=>u= .returning|some p=> ∃v,u= .panicking [{v:=v,recovered:=false }]/\VR G p v)->
  CallsD P g vs u w λe u' w'=>(∃r,e= .returned r)/\settle u'= .returning/\∃h' G',R h'/\B8 G G'/\Bl T G' h' w'
def AbW (P:Program) (T:Ap) (rs:Array ResultVar) (R:AR->AH->Prop):DQ
 |x,none,s,h=>YB P rs R x s h
 | .exit _,some _,_,_=>False
 | .pan p,some (.fn g cap),s,h=>CZ P T g cap h (some p) λh'=> ∃r,DY P s h' rs.toList=some r/\∃r',Aj true r r'/\∃hc,BO h' hc/\R (.ret r') hc
 |_,some (.fn g cap),s,h=>CZ P T g cap h none λh'=> ∃r,DY P s h' rs.toList=some r/\∃r',Aj true r r'/\∃hc,BO h' hc/\R (.ret r') hc
 |_,_,_,_=>False
theorem Nq {f:FuncId} {fn:Func} {c:Code} {args:List AV} {N:Nat} {R:AR->AH->Prop} (hf:P.funcs[f]?=some fn) (hb:fn.body=some c) (hN:fn.ntmps=N) (hl:Nat.ble args.length N=true)
  (H:(∀a∈args,a.bnd)->OP P T c (AbW P T fn.results R) (Ct .undef (IP 0 args) N 0) h):Ao P T f args h R:=by
 intro G w vs S Rs
 refine calls_of_wp_defers hf hb ?_
 have hw:=H Rs.bnd G w {tmps:=vs++Array.replicate (fn.ntmps-vs.size) undef,defers:=[]} S (by rw[hN,<-LG _ _ (Nat.le_of_ble_eq_true hl)];exact Rs.enter N) rfl
 refine wp_mono hw ?_
 rintro e a w' ⟨x,o,s,h',G',hq,hx,hG,S',R',hd⟩
 have hret:∀(h2:AH) (G2:Gh) (w2:World),(∃r,DY P s h2 fn.results.toList=some r/\∃r',Aj true r r'/\∃hc,BO h2 hc/\R (.ret r') hc)->B8 G' G2->Bl T G2 h2 w2->∃v,(results fn a.tmps).run P w2= .ok v w2/\(∃x h' G',R x h'/\B8 G G'/\Bl T G' h' w2/\match x with
   | .ret r=> ∃u,Ending.returned v= .returned u/\VR G' r u
   | .pan p=> ∃u,Ending.returned v= .panicked [{v:=u,recovered:=false }]/\VR G' p u):=by
  rintro h2 G2 w2 ⟨r,hr,r',hle,hc,hp,hR⟩ hG2 S2
  obtain⟨v,h1,h2⟩:=JY S2 (R'.mono hG2) hr
  exact⟨v,h1,_,_,G2,hR,hG.trans hG2,hp _ _ _ S2,v,rfl,Aj.ok r r' v hle h2⟩
 cases o with
 | none=>
  have hd:a.defers=[]:=hd
  cases x with
  |normal=>
   cases e<;>simp only[He] at hx
   simp only[bodyPostD,hd,Leaves]
   exact hret h' G' w' hq (B8.refl _) S'
  |ret=>
   cases e<;>simp only[He] at hx
   simp only[bodyPostD,hd,Leaves]
   exact hret h' G' w' hq (B8.refl _) S'
  |exit i=>exact hq.elim
  |pan p=>
   cases e<;>simp only[He] at hx
   obtain⟨v,rfl,hv⟩:=hx
   obtain⟨hc,hp,hR⟩:=hq
   simp only[bodyPostD,hd,Leaves]
   exact⟨_,_,G',hR,hG,hp _ _ _ S',v,rfl,hv⟩
 | some d=>
  cases d with
  | fn g cap=>
   obtain⟨us,hd,hus⟩:=hd
   have fin:∀(m:Option AV) (u:FrameMode),u≠ .run->(match m with|none=>u= .returning|some p=> ∃v,u= .panicking [{v:=v,recovered:=false }]/\VR G' p v)->
     (CZ P T g cap h' m λh'=> ∃r,DY P s h' fn.results.toList=some r/\∃r',Aj true r r'/\∃hc,BO h' hc/\R (.ret r') hc)->
     Leaves P fn a.tmps (λe w'=> ∃x h' G',R x h'/\B8 G G'/\Bl T G' h' w'/\match x with
      | .ret r=> ∃v,e= .returned v/\VR G' r v
      | .pan p=> ∃v,e= .panicked [{v:=v,recovered:=false }]/\VR G' p v) [⟨.fn (.func g) us, #[]⟩] u w':=λm u hu hm hA=>by
    refine leaves_cons hu (args:=us) (f:=g) ?_ ?_
    ·simp only[invoke]
     have:=hA.1 (#[]++us) w'
     simpa using this
    ·refine(hA.2 G' w' us u S' hus hm).mono ?_
     rintro e2 u2 w2 ⟨⟨r2,rfl⟩,hs2,h2,G2,hr2,hG2,S2⟩
     show Leaves P fn a.tmps _ [] (settle u2) w2
     rw[hs2]
     exact hret h2 G2 w2 hr2 hG2 S2
   cases x with
   |normal=>
    cases e<;>simp only[He] at hx
    simp only[bodyPostD,hd]
    exact fin none .returning (by simp) rfl hq
   |ret=>
    cases e<;>simp only[He] at hx
    simp only[bodyPostD,hd]
    exact fin none .returning (by simp) rfl hq
   |exit i=>exact hq.elim
   |pan p=>
    cases e<;>simp only[He] at hx
    obtain⟨v,rfl,hv⟩:=hx
    simp only[bodyPostD,hd]
    exact fin (some p) _ (by simp) ⟨v,rfl,hv⟩ hq
  |_=>cases x<;>exact hd.elim
theorem CZ.enter {g:FuncId} {gfn:Func} {id:Nat} {o0 o1:Oper} {c:Code} {cap:List AV} {m:Option AV} {R:AH->Prop} {N t0 t1:Nat} (hcall:∀az w,(callFunc g az).run P w= .ok (.enter g az) w) (hf:P.funcs[g]?=some gfn) (hb:gfn.body=some (.seq (.region id #[o0,o1] false) c)) (hN:gfn.ntmps=N) (hrs:gfn.results= #[]) (hl:Nat.ble cap.length N=true)
  (ho0:o0.op= .call {callee:= .builtin .recover,args:= #[],argTypes:= #[]}) (hg0:o0.guard=none) (hd0:o0.dst=some t0) (ht0:Nat.blt t0 N=true) (ho1:o1.op= .assign (.tmp t0)) (hg1:o1.guard=none) (hd1:o1.dst=some t1)
  (hm:match m with|none=>True|some p=>match p with| .ifc .. =>True|_=>False)
  (H:Aa P T c (λx s h'=>match x with| .normal=>R h'| .ret=>R h'|_=>False) (Ct .undef (EI t1 (m.getD .nili) (EI t0 (m.getD .nili) (IP 0 cap))) N 0) h):CZ P T g cap h m R:=by
 refine⟨hcall,λG w vs u S Rs hu=>?_⟩
 refine callsD_of_wpS hf hb λc0 cs hc0=>?_
 have R0:Dz G (Ct .undef (IP 0 cap) N 0) (vs++Array.replicate (gfn.ntmps-vs.size) undef):=by rw[hN,<-LG _ _ (Nat.le_of_ble_eq_true hl)];exact Rs.enter N
 -- what recover answers, and the frame below then
 obtain⟨v,u',hv,hset,hrec⟩:∃(v:Value) (u':FrameMode),VR G (m.getD .nili) v/\settle u'= .returning/\((recoverD (c0::cs)=some (v,{c0 with mode:=u' } ::cs))\/(recoverD (c0::cs)=none/\v= .nilIface/\u'=c0.mode)):=by
  cases m with
  |none=>
   have hu:u= .returning:=hu
   refine⟨.nilIface,c0.mode,.nili,by rw[hc0,hu];rfl,.inr ⟨?_,rfl,rfl⟩⟩
   simp only[recoverD,hc0,hu]
  |some p=>
   obtain⟨v,hu,hv⟩:=hu
   refine⟨v,.panicking [{v:=v,recovered:=true }],hv,rfl,.inl ?_⟩
   simp only[recoverD,hc0,hu]
 refine wpS_seq (wpS_region ?_)
 let act:Act:= {tmps:=vs++Array.replicate (gfn.ntmps-vs.size) undef,defers:=[]}
 let act2:Act:=(act.put o0.dst v).put o1.dst v
 have R1:=R0.put (act:=act) hv o0.dst
 have R2:Dz G (Ct .undef (EI t1 (m.getD .nili) (EI t0 (m.getD .nili) (IP 0 cap))) N 0) act2.tmps:=by
  have:=R1.put hv o1.dst
  grind[AO,GH]
 have hlt0:t0<act.tmps.size:=by rw[R0.1,Dn];simpa[Nat.blt_eq] using ht0
 have hrest:∀cs':List Frame,cs'= {c0 with mode:=u' } ::cs->c.wpS P (bodyPostS P gfn c0 cs λe u' w'=>(∃r,e= .returned r)/\settle u'= .returning/\∃h' G',R h'/\B8 G G'/\Bl T G' h' w') act2 cs' w:=λcs' hcs=>by
  refine wpS_of_wp (wp_mono (H G w act2 S R2) ?_)
  rintro e a' w' ⟨h1,x,s,h',G',hq,hx,hG,S',R'⟩
  have hdf:a'.defers=[]:=by rw[h1];simp[act2,act,Bv]
  have hres:(results gfn a'.tmps).run P w'= .ok (.tuple #[]) w':=by
   obtain⟨v,h1,h2⟩:=JY (fn:=gfn) S' R' (r:= .tup []) (by rw[hrs];rfl)
   cases h2 with
   |tup _ us hl _=>
    have:us=[]:=List.eq_nil_of_length_eq_zero (by simpa using hl)
    subst this
    exact h1
  cases x with
  |normal=>
   cases e<;>simp only[He] at hx
   exact⟨hdf,u',hcs,_,hres,⟨_,rfl⟩,hset,h',G',hq,hG,S'⟩
  |ret=>
   cases e<;>simp only[He] at hx
   exact⟨hdf,u',hcs,_,hres,⟨_,rfl⟩,hset,h',G',hq,hG,S'⟩
  |exit i=>exact hq.elim
  |pan p=>exact hq.elim
 show wpOpsS P #[o0,o1] _ [0,1] act (c0::cs) w
 have hw0:Region.wanted o0 (yielded #[o0,o1] act.tmps)=true:=by simp[Region.wanted,hg0]
 have hr0:(execOp act.eval o0).run P w= .ok .recover w:=by
  unfold execOp
  simp only[ho0,resolve]
  simp[invoke,builtin]
 unfold wpOpsS
 simp only[List.getElem?_toArray,List.getElem?_cons_zero,hw0,if_true,hr0]
 have hstep:∀cs':List Frame,cs'= {c0 with mode:=u' } ::cs->wpOpsS P #[o0,o1] (Exit.thenS (c.wpS P (bodyPostS P gfn c0 cs λe u' w'=>(∃r,e= .returned r)/\settle u'= .returning/\∃h' G',R h'/\B8 G G'/\Bl T G' h' w')) (bodyPostS P gfn c0 cs λe u' w'=>(∃r,e= .returned r)/\settle u'= .returning/\∃h' G',R h'/\B8 G G'/\Bl T G' h' w')) [1] (act.put o0.dst v) cs' w:=λcs' hcs=>by
  have hw1:Region.wanted o1 (yielded #[o0,o1] (act.put o0.dst v).tmps)=true:=by simp[Region.wanted,hg1]
  have hev:(act.put o0.dst v).eval (.tmp t0)=v:=by simp[Act.eval,Act.put,hd0,hlt0]
  have hr1:(execOp (act.put o0.dst v).eval o1).run P w= .ok (.value v) w:=by
   unfold execOp
   simp only[ho1,hev]
   rfl
  unfold wpOpsS
  simp only[List.getElem?_toArray,List.getElem?_cons_succ,List.getElem?_cons_zero,hw1,if_true,hr1,Oper.upon]
  unfold wpOpsS
  exact hrest cs' hcs
 rcases hrec with hrec|⟨hrec,rfl,rfl⟩
 ·rw[hrec]
  exact hstep _ rfl
 ·rw[hrec]
  exact hstep _ rfl
end
end
section
open Go.RowKit
def Ah3 (t:Nat):List Nat->List Nat
 |[]=>[]
 |x::r=>if(x==t)=true then r else x::Ah3 t r
def ME (n:Nat) (r:List AV):List (List AV):=List.replicate n []++[r]
theorem WO (n:Nat) (r:List AV):(ME n r).length=n+1:=by simp[ME]
theorem WN (n:Nat) (r:List AV):(ME n r)[n]?=some r:=by simp[ME]
theorem WP (n:Nat) (r r':List AV):(ME n r).set n r'=ME n r':=by simp[ME]
theorem M0 {b:Nat} :∀{l:Af},(∀p∈l,p.1≠b)->Ab b l
 |[],_=>trivial
 |p::r,h=>⟨⟨by simpa using h p (List.mem_cons_self ..),by simpa using(h p (List.mem_cons_self ..)).symm⟩,M0 λq hq=>h q (List.mem_cons_of_mem _ hq)⟩
section
variable {P:Program} {T:Ap} {G:Gh} {h:AH} {w:World}
theorem Bl.recell (S:Bl T G h w) {b i j:Nat} {ob:Ob} {r:List AV} {a a':AV} (hg:A9 b h.objs=some ob) (hr:ob.rows[i]?=some r) (hj:r[j]?=some a) (h1:a'.one=true) (hv:∀v,VR G a v->VR G a' v):
  Bl T G ⟨C8 b ⟨ob.k,ob.c,ob.rows.set i (r.set j a')⟩ h.objs,h.live⟩ w:=by
 have hO:=S.obj _ (De hg)
 obtain⟨vs,ty,fz,g1,g2,g3,g4⟩:=hO.mem
 have hi:i<ob.rows.length:=(List.getElem?_eq_some_iff.1 hr).1
 refine S.write hg ⟨rfl,rfl,rfl,rfl,λ_ _=>rfl⟩ (λ_ _ _=>rfl) ⟨hO.low,λi' r' j' hr' hj'=>?_,by simpa using hO.rest,λr' hr'=>?_,by simpa using hO.fits,hO.cmax,vs,ty,fz,g1,g2,g3,λi' r' j' a2 e1 e2=>?_⟩
 ·dsimp only at hr'⊢
  by_cases hii:i=i'
  ·subst hii
   rw[List.getElem?_set_self hi] at hr'
   injection hr' with hr'
   exact hO.free i r j' hr (by rw[<-hr',List.length_set] at hj';exact hj')
  ·rw[List.getElem?_set_ne hii] at hr'
   exact hO.free i' r' j' hr' hj'
 ·rcases List.mem_or_eq_of_mem_set hr' with hr'|rfl
  ·exact hO.lenk r' hr'
  ·rw[List.length_set]
   refine(hO.lenk r (List.mem_of_getElem? hr)).imp_right λe=>?_
   rw[e] at hj;simp at hj
 ·dsimp only at e1 e2⊢
  by_cases hii:i=i'
  ·subst hii
   rw[List.getElem?_set_self hi] at e1
   injection e1 with e1
   subst e1
   by_cases hjj:j=j'
   ·subst hjj
    rw[List.getElem?_set_self (List.getElem?_eq_some_iff.1 hj).1] at e2
    injection e2 with e2
    subst e2
    obtain⟨_,v,hv1,hv2⟩:=g4 i r j _ hr hj
    exact⟨h1,v,hv1,hv v hv2⟩
   ·rw[List.getElem?_set_ne hjj] at e2
    exact g4 i r j' a2 hr e2
  ·rw[List.getElem?_set_ne hii] at e1
   exact g4 i' r' j' a2 e1 e2
end
section
variable {P:Program} {T:Ap} {sl:List AV} {h:AH} {ops:Array Oper} {rest:List Oper} {o:Oper} {K:List AV->AH->Prop} {X:AV->AH->Prop} {cp:Bool} {Q:AQ}
end
attribute [go_sem] Ah3 WN WP WO
end
section
open Go.RowKit
def lst:List Nat->Array Bool->Array Bool
 |[],l=>l
 |i::r,l=>lst r (l.setIfInBounds i true)
def GI (cp:Bool) (md:Region.Mode) (ops:Array Oper):List Nat->Array Bool->Bool
 |[],_=>true
 |i::r,listed=>(Region.ready md ops listed).contains i&&(match ops[i]? with
  |some o=>if BP cp o=true then Region.ready md ops listed==[i] else Ht cp md ops listed i
  |none=>false)&&GI cp md ops r (listed.setIfInBounds i true)
section
variable {P:Program} {T:Ap} {cp:Bool} {md:Region.Mode} {ops:Array Oper} {K:List AV->AH->Prop} {X:AV->AH->Prop}
theorem DC.lst:∀(ord:List Nat) {listed:Array Bool},DC md ops listed->GI cp md ops ord listed=true->DC md ops (lst ord listed)
 |[],_,hd,_=>hd
 |i::r,_,hd,hB=>by
  unfold GI at hB
  simp only[Bool.and_eq_true] at hB
  exact DC.lst r (hd.step (by simpa using hB.1.1)) hB.2
theorem Jo {fuel:Nat} :∀(ord:List Nat) (l:List Oper) (listed:Array Bool) (sl:List AV) (h:AH),l.length=ord.length->(∀(n i:Nat),ord[n]?=some i->l[n]?=ops[i]?)->DC md ops listed->GI cp md ops ord listed=true->
  DW P T cp ops l sl h (λs h=>BK P T cp md ops K X fuel (lst ord listed) s h) X->BK P T cp md ops K X (ord.length+fuel) listed sl h
 |[],[],listed,sl,h,_,_,_,hB,H=>by
  have H:BK P T cp md ops K X fuel listed sl h:=H
  simpa using H
 |[],_::_,_,_,_,hl,_,_,_,_=>by simp at hl
 |_::_,[],_,_,_,hl,_,_,_,_=>by simp at hl
 | i::ord,o::l,listed,sl,h,hl,hmap,hdc,hB,H=>by
  have hi:ops[i]?=some o:=(hmap 0 i rfl).symm
  unfold GI at hB
  rw[hi] at hB
  simp only[Bool.and_eq_true] at hB
  obtain⟨⟨hr,hf⟩,hB'⟩:=hB
  have hr:i∈Region.ready md ops listed:=by simpa using hr
  have rest:=λsl h H=>Jo (fuel:=fuel) ord l (listed.setIfInBounds i true) sl h (by simpa using hl) (λn k e=>by simpa using hmap (n+1) k (by simpa using e)) (hdc.step hr) hB' H
  rw[List.length_cons,Nat.succ_add]
  unfold DW at H
  split at H
  ·rename_i he
   rw[if_pos he] at hf
   have hone:Region.ready md ops listed=[i]:=by simpa using hf
   refine⟨λh0=>(by rw[h0] at hr;cases hr),λj hj=>?_⟩
   rw[hone] at hj
   have hj:j=i:=by simpa using hj
   subst hj
   unfold Kl
   rw[hi]
   dsimp only
   rw[if_pos he]
   exact⟨H.1,λG w a S hv Kc Q hK hX=>H.2 G w a S hv Kc Q (λr h' G' u w' hr=>hK r h' G' u w' (rest _ _ hr)) hX⟩
  ·rename_i he
   rw[if_neg he] at hf
   obtain⟨v,g1,g2,g3⟩:=H
   exact EZ hi (by simpa using he) (ord.length+fuel) listed sl h hdc (E7 hi hf) hr g1 g2 (rest _ _ g3)
theorem Jf.monoN {o:Oper} {sl:List AV} {h:AH} {N N':AV->AH->Prop} (hN:∀r h',N r h'->N' r h') (H:Jf P T o sl h N X):Jf P T o sl h N' X:=
 ⟨H.1,λG w a S hv Kc Q hK hX=>H.2 G w a S hv Kc Q (λr h' G' u w' hr=>hK r h' G' u w' (hN _ _ hr)) hX⟩
theorem FZ {K':List AV->AH->Prop} (hK:∀s h,K s h->K' s h):∀(l:List Oper) (sl:List AV) (h:AH),DW P T cp ops l sl h K X->DW P T cp ops l sl h K' X
 |[],sl,h,H=>hK _ _ H
 | o::r,sl,h,H=>by
  unfold DW at H⊢
  split at H
  ·rename_i he
   rw[if_pos he]
   exact H.monoN λ_ _ hh=>FZ hK r _ _ hh
  ·rename_i he
   rw[if_neg he]
   obtain⟨v,g1,g2,g3⟩:=H
   exact⟨v,g1,g2,FZ hK r _ _ g3⟩
def T9 (r:Option PV) (v:AV):Prop:=
 match r with
 |some r=>r.1/\r.2=v
 |none=>False
theorem Jn.of_okV {o:Oper} {ρ:Operand->AV} {h:AH} {v:AV} (e:T9 (MO P o.op ρ h) v):Jn P T o ρ h v:=by
 unfold T9 at e
 split at e
 ·rename_i r he
  obtain⟨h1,rfl⟩:=e
  exact .of_opP he h1
 ·exact e.elim
theorem Yg.of_okV {o:Oper} {sl:List AV} {h:AH} {v:AV} (hg:o.guard=none) (e:T9 (MO P o.op (ev T sl) h) v):Yg P T ops o v sl h:=by
 unfold Yg
 rw[hg]
 exact .of_okV e
end
attribute [go_sem] T9
end
section
open Go.RowKit
theorem Zy {G g:Prop} (k:G) (e:G->g:=by intro k;simp only[go_sem];exact k):g:=e k
theorem Z3 {G g:Prop} (k:G) (e:G->g:=by intro k;(try simp only[go_sem, *,-k]);(repeat(with_reducible refine And.intro ZS ?_));exact k):g:=e k
theorem ZH {p:Prop} (e:p:=by((try simp only[go_sem, *])<;>rfl)):p:=e
theorem ZO {p:Prop} (e:p:=by omega):p:=e
theorem ZD {p:Prop} (e:p:=by decide):p:=e
theorem ZX {p:Prop} (e:p:=by simp):p:=e
theorem ZJ {p:Prop} (e:p:=by first|exact .inl rfl|exact .inr rfl):p:=e
theorem ZR {p:Prop} (e:p:=by first|rfl|(simp only[go_sem, *];done)|(simp only[go_sem, *];rfl)):p:=e
section
variable {P:Program} {T:Ap} {Q:AQ} {K K1 K2:List AV->AH->Prop} {sl:List AV} {h:AH} {i:Nat}
theorem Z4 (H:K sl h):Aa P T (.exit i) (Am K1 (Am K2 (Bo i (Am K Q)))) sl h:=Aa.exit (Ak (Ak (Bh (Ac H))))
theorem Z5 (H:K sl h):Aa P T .skip (Bo i (Am K Q)) sl h:=Aa.skip (Ai (Ac H))
theorem Z6 {id:Nat} {os:List Oper} {s':List AV} {h':AH} (H:K s' h')
    (e:∀(K:List AV->AH->Prop) (X:AV->AH->Prop),K s' h'->lvc P T false os.toArray os sl h K X:=by
      intro K X k
      first
        |(simp only[go_sem];exact k)
        |(simp only[go_sem, *,-k];(repeat(with_reducible refine And.intro ZT ?_));exact k)
        |(simp only[go_sem, *,-k];(repeat(with_reducible refine And.intro ZS ?_));exact k)):
    Aa P T (.region id os.toArray false) (Am K Q) sl h:=Zr (Ac H) e
end
section
variable {P:Program} {T:Ap} {cp:Bool} {ops:Array Oper} {K:List AV->AH->Prop} {X:AV->AH->Prop} {o:Oper} {rest:List Oper} {sl:List AV} {h:AH}
theorem ZA {fo:Operand} {aa:Array Operand} {tt:Array TypeId} {d:Option Nat} {ty:TypeId} {ps:String} {af:Array Edge} {f:FuncId} {cap args:List AV} {h0:AH} {R:AR->AH->Prop} (bs ts:List Nat)
  (C:AC P T f args h0 R)
  (k:∀x h',R x h'->match x with
   | .ret r=>lvc P T false ops rest (AO d r sl) h' K X
   | .pan p=>X p h')
  (hf:ev T sl fo= .fn f cap:=by rfl) (hh:M1 bs ts h=h0:=by first|rfl|((try simp only[go_sem, *])<;>rfl)) (ha:aa.toList.map (ev T sl)++cap=args:=by rfl):
  DW P T false ops ({dst:=d,op:= .call {callee:= .value fo,args:=aa,argTypes:=tt },type:=ty,pos:=ps,after:=af,guard:=none } ::rest) sl h K X:=
 AI bs ts rfl rfl rfl hf hh ha C k
theorem ZP {fo:Operand} {aa:Array Operand} {tt:Array TypeId} {d:Option Nat} {ty:TypeId} {ps:String} {af:Array Edge} {f:FuncId} {cap args:List AV} {r:AV} (C:PC P T f args r) (k:lvc P T cp ops rest (AO d r sl) h K X)
  (hf:ev T sl fo= .fn f cap:=by rfl) (ha:(aa.toList.map (ev T sl)++cap).map N4=args:=by rfl) (hk:(aa.toList.map (ev T sl)++cap).all UU=true:=by rfl):
  DW P T cp ops ({dst:=d,op:= .call {callee:= .value fo,args:=aa,argTypes:=tt },type:=ty,pos:=ps,after:=af,guard:=none } ::rest) sl h K X:=
 Aw rfl rfl rfl hf C ha hk k
theorem ZQ {fo:Operand} {aa:Array Operand} {tt:Array TypeId} {d:Option Nat} {ty:TypeId} {ps:String} {af:Array Edge} {g:Nat×Bool} {f:FuncId} {cap args:List AV} {r:AV} {t:Bool} (C:t=true->PC P T f args r) (k:lvc P T cp ops rest (AO d (.cnd t r) sl) h K X)
  (ht:U8 ops sl g.1 g.2=some t:=by rfl) (hf:Ri T sl fo= .fn f cap:=by rfl) (hok:t=true->okL T sl (fo::aa.toList)=true:=by(intro hg;(try simp only[go_sem, *,-hg])<;>first|exact hg|(exfalso;simp at hg;done)|(simpa using hg)|grind))
  (ha:(aa.toList.map (Ri T sl)++cap).map N4=args:=by rfl) (hk:(aa.toList.map (Ri T sl)++cap).all UU=true:=by rfl):
  DW P T cp ops ({dst:=d,op:= .call {callee:= .value fo,args:=aa,argTypes:=tt },type:=ty,pos:=ps,after:=af,guard:=some g } ::rest) sl h K X:=
 B7 rfl rfl ht rfl hf C hok ha hk k
theorem ZW {s x:Operand} {t t2 e k by_ tk:Nat} {d:Option Nat} {ty:TypeId} {ps:String} {af:Array Edge} {rows src:List (List D)} {k':Nat}
  (kk:∀t',Ae t' h.live->lvc P T cp ops rest (AO d (.own t' k (rows++src)) sl) ⟨h.objs,Eh tk t' h.live⟩ K X)
  (hs:ev T sl s= .own tk k rows:=by rfl) (hx:TL (ev T sl x)=some (k',src):=by rfl) (hsl:BL P t=some (e,k,by_):=by(simp only[go_sem]<;>rfl)) (ht2:(P.underlying t2).isSome=true:=by rfl) (hti:Hv P t2=none:=by rfl)
  (hlive:h.live.contains tk=true:=by first|rfl|(simp only[go_sem, *])) (hkk:k'=k\/src=[]:=by first|exact .inl rfl|exact .inr rfl)
  (h63:rows.length+src.length<=9223372036854775807:=by first|omega|(simp only[go_sem]<;>omega)|(simp only[go_sem,List.length_take,List.length_map,List.length_append,List.length_cons,List.length_nil]<;>omega)|(simp<;>omega))
  (hby:(rows.length+src.length)*by_<=140737488355328:=by first|omega|(simp only[go_sem]<;>omega)|(simp only[go_sem,List.length_take,List.length_map,List.length_append,List.length_cons,List.length_nil]<;>omega)|(simp<;>omega)):
  DW P T cp ops ({dst:=d,op:= .call {callee:= .builtin .append,args:= #[s,x],argTypes:= #[t,t2]},type:=ty,pos:=ps,after:=af,guard:=none } ::rest) sl h K X:=
 BF rfl rfl hs hx hsl ht2 hti hlive hkk h63 hby kk
end
section
variable {P:Program} {T:Ap} {Q:AQ} {h:AH} {N:Nat} {l l':SL} {df:AV}
theorem Zn {c:Code} (n:Nat) (H:Aa P T c Q (Ct .any l' N 0) h) (e:CR n l=l':=by(simp only[go_sem]<;>rfl)) (hs:FS l=true:=by rfl):Aa P T c Q (Ct df l N 0) h:=Zm n (by rw[e];exact H) hs
end
end
section
open Go.RowKit
@[go_sem] theorem Agd (a b:AV):(if(#[]:Array UInt8).size<=maxLen then a else b)=a:=if_pos (Nat.zero_le _)
section
variable {P:Program} {T:Ap} {G:Gh} {h:AH} {w:World} {sl:List AV} {cp:Bool} {md:Region.Mode} {ops:Array Oper} {K:List AV->AH->Prop} {X:AV->AH->Prop}
theorem CZ.leH {g:FuncId} {cap:List AV} {h':AH} {m:Option AV} {R:AH->Prop} (p:BO h h') (H:CZ P T g cap h' m R):CZ P T g cap h m R:=⟨H.1,λG w vs u S=>H.2 G w vs u (p _ _ _ S)⟩
theorem CZ.mono {g:FuncId} {cap:List AV} {m:Option AV} {R R':AH->Prop} (H:CZ P T g cap h m R) (hR:∀h,R h->R' h):CZ P T g cap h m R':=
 ⟨H.1,λG w vs u S Rs hu=>(H.2 G w vs u S Rs hu).mono λe u' w' ⟨h1,h2,h',G',h3,h4⟩=>⟨h1,h2,h',G',hR _ h3,h4⟩⟩
def AeQ (P:Program) (rs:List ResultVar) (s:List AV) (R:AR->AH->Prop):AH->Prop:=λh'=> ∃r,DY P s h' rs=some r/\∃r',Aj true r r'/\∃hc,BO h' hc/\R (.ret r') hc
theorem Y6 {R:AR->AH->Prop} {rs:Array ResultVar} {s:List AV} {g:FuncId} {cap:List AV} (gs gt bs ts:List Nat) (H:CZ P T g cap (MP gs gt bs ts h) none (AeQ P rs.toList s R)):AbW P T rs R .ret (some (.fn g cap)) s h:=H.leH (BO.ord gs gt bs ts h)
theorem Y5 {R:AR->AH->Prop} {rs:Array ResultVar} {s:List AV} {g:FuncId} {cap:List AV} {p:AV} (gs gt bs ts:List Nat) (H:CZ P T g cap (MP gs gt bs ts h) (some p) (AeQ P rs.toList s R)):AbW P T rs R (.pan p) (some (.fn g cap)) s h:=H.leH (BO.ord gs gt bs ts h)
theorem LE {R:AR->AH->Prop} {rs:List ResultVar} {s:List AV} {r r':AV} (gs gt bs ts:List Nat) (hr:DY P s h rs=some r) (hR:R (.ret r') (MP gs gt bs ts h)) (hle:Aj true r r'):AeQ P rs s R h:=⟨r,hr,r',hle,_,BO.ord gs gt bs ts h,hR⟩
theorem Xy {i c:Nat} {oi oc:Oper} {ord2:List Nat} {l2:List Oper} {listed:Array Bool} {s:List AV} {h:AH} {v:AV} (hi:ops[i]?=some oi) (hc:ops[c]?=some oc) (hni:BP cp oi=false) (hec:BP cp oc=true)
  (hdc:DC md ops listed) (hri:i∈Region.ready md ops listed) (hr:∀x∈Region.ready md ops listed,x=i\/x=c) (hrc:c∈Region.ready md ops listed) (hic:i≠c)
  (hap:oi.apart ops oc=true) (hl:l2.length=ord2.length) (hmap:∀(n i:Nat),ord2[n]?=some i->l2[n]?=ops[i]?)
  (hBA:JR cp md ops (c::ord2) (listed.setIfInBounds i true)=true) (hone:(Region.ready md ops (listed.setIfInBounds c true)).contains i=true) (hfi:Ht cp md ops (listed.setIfInBounds c true) i=true) (hBB:JR cp md ops ord2 ((listed.setIfInBounds c true).setIfInBounds i true)=true)
  (hy:Yg P T ops oi v s h)
  (H:Jf P T oc (AO oi.dst v s) h (λr h'=>Yg P T ops oi v s h'/\DW P T cp ops l2 (AO oc.dst r (AO oi.dst v s)) h' K X) X)
  (hlo:Np oi=false):BK P T cp md ops K X (ord2.length+2) listed s h:=by
 obtain⟨a1,a2,a3⟩:=Oper.apart_spec hap
 refine⟨λh0=>(by rw[h0] at hri;cases hri),λx hx=>?_⟩
 rcases hr x hx with rfl|rfl
 ·unfold Kl
  rw[hi]
  dsimp only
  rw[if_neg (by rw[hni];simp)]
  refine⟨v,hy,λhh=>(by rw[hlo] at hh;cases hh),?_⟩
  refine DW.any (c::ord2) (oc::l2) _ _ _ (by simp[hl]) (λn k e=>?_) (hdc.step hri) hBA ?_
  ·match n with
   |0=>simp at e;subst e;simp[hc]
   |n+1=>simp at e⊢;exact hmap n k e
  ·unfold DW
   rw[if_pos hec]
   exact⟨H.1,λG w a S hv Kc Q hK hX=>H.2 G w a S hv Kc Q (λr h' G' u' w' hr=>hK r h' G' u' w' hr.2) hX⟩
 ·unfold Kl
  rw[hc]
  dsimp only
  rw[if_pos hec]
  refine Jf.unput (ops:=ops) a1 H λr h' hh=>?_
  obtain⟨hy',hD⟩:=hh
  have hri':i∈Region.ready md ops (listed.setIfInBounds x true):=by simpa using hone
  have hdc2:DC md ops ((listed.setIfInBounds x true).setIfInBounds i true):=(hdc.step hx).step hri'
  refine EZ hi hni (ord2.length) (listed.setIfInBounds x true) _ h' (hdc.step hx) (E7 hi hfi) hri' (hy'.put a3) (λhh=>(by rw[hlo] at hh;cases hh)) ?_
  refine DW.any ord2 l2 _ _ _ hl hmap hdc2 hBB ?_
  rw[Gu a2]
  exact hD
def PS (ops:List Oper) (ord1:List Nat) (i c:Nat) (ord2:List Nat):Bool:=
 let A:=ops.toArray
 let L0:=Array.replicate ops.length false
 let L1:=lst ord1 L0
 ord1.length+(ord2.length+2)==ops.length&&ord1.all (λi=>decide (i<ops.length))&&ord2.all (λi=>decide (i<ops.length))&&GI false .any A ord1 L0&&
 (Region.ready .any A L1).contains i&&(Region.ready .any A L1).contains c&&(Region.ready .any A L1).all (λx=>x==i||x==c)&&!(i==c)&&
 (match ops[i]?,ops[c]? with
  |some oi,some oc=>!BP false oi&&BP false oc&&!Np oi&&oi.guard.isNone&&oi.apart A oc
  |_,_=>false)&&
 JR false .any A (c::ord2) (L1.setIfInBounds i true)&&(Region.ready .any A (L1.setIfInBounds c true)).contains i&&Ht false .any A (L1.setIfInBounds c true) i&&JR false .any A ord2 ((L1.setIfInBounds c true).setIfInBounds i true)
theorem Sz {id:Nat} {l:List Oper} {Q:AQ} {sl:List AV} {h:AH} (ord1:List Nat) (i c:Nat) (ord2:List Nat) {oi oc:Oper} (hm:P.follows .mixedOrders=true) (hB:PS l ord1 i c ord2=true) (hi:l[i]?=some oi) (hc:l[c]?=some oc)
  (H:lvc P T false l.toArray (pick l ord1) sl h (λs1 h1=> ∃v,T9 (MO P oi.op (ev T s1) h1) v/\
   DW P T false l.toArray [oc] (AO oi.dst v s1) h1 (λs2 h2=>T9 (MO P oi.op (ev T s1) h2) v/\lvc P T false l.toArray (pick l ord2) s2 h2 (λs h=>Q .normal s h) (λp h=> ∀s,Q (.pan p) s h)) (λp h=> ∀s,Q (.pan p) s h)) (λp h=> ∀s,Q (.pan p) s h)):
  Aa P T (.region id l.toArray true) Q sl h:=by
 simp only[PS,hi,hc,Bool.and_eq_true,beq_iff_eq,Bool.not_eq_true',Option.isNone_iff_eq_none] at hB
 obtain⟨⟨⟨⟨⟨⟨⟨⟨⟨⟨⟨⟨hlen,hall1⟩,hall2⟩,hpre⟩,hri⟩,hrc⟩,hrall⟩,hic⟩,⟨⟨⟨⟨k1,k3⟩,k5⟩,k6⟩,k8⟩⟩,hBA⟩,hone⟩,hfi⟩,hBB⟩:=hB
 have hlt1:∀i∈ord1,i<l.length:=λi hi=>by simpa using List.all_eq_true.1 hall1 i hi
 have hlt2:∀i∈ord2,i<l.length:=λi hi=>by simpa using List.all_eq_true.1 hall2 i hi
 obtain⟨p1,p2⟩:=Ca hlt1
 obtain⟨q1,q2⟩:=Ca hlt2
 have hdc0:DC .any l.toArray (Array.replicate l.length false):=λj o _ hj=>by
  simp[Array.getElem?_replicate] at hj
  grind
 refine CB λG w a S R=>wp_region_any hm ?_
 have hany:=Jo (P:=P) (T:=T) (cp:=false) (K:=λs h=>Q .normal s h) (X:=λp h=> ∀s,Q (.pan p) s h) (fuel:=ord2.length+2) ord1 (pick l ord1) (Array.replicate l.length false) sl h p1 (λn i e=>by rw[p2 n i e];simp) hdc0 hpre
  (FZ (λs1 h1 hh=>by
   obtain⟨v,e1,D⟩:=hh
   unfold DW at D
   rw[if_pos k3] at D
   refine Xy (oi:=oi) (oc:=oc) (l2:=pick l ord2) (by simpa using hi) (by simpa using hc) k1 k3 (hdc0.lst (cp:=false) ord1 hpre) (by simpa using hri) (λx hx=>by simpa using List.all_eq_true.1 hrall x hx) (by simpa using hrc) (by simpa using hic) k8 q1 (λn i e=>by rw[q2 n i e];simp) hBA hone hfi hBB
    (Yg.of_okV k6 e1) ?_ k5
   exact⟨D.1,λG w a S hv Kc Q hK hX=>D.2 G w a S hv Kc Q (λr h' G' u w' hr=>hK r h' G' u w' ⟨Yg.of_okV k6 hr.1,AN _ _ _ hr.2⟩) hX⟩) _ _ _ (AN _ _ _ H))
 rw[hlen] at hany
 have:=BK.wp _ _ _ _ hany G G w.drew a a.defers (B8.refl G) S.drew R rfl
 simpa using this
theorem Qo {id:Nat} {l:List Oper} {y:Code} {Q:AQ} {sl:List AV} {h:AH} (ord1:List Nat) (i c:Nat) (ord2:List Nat) {oi oc:Oper} (hm:P.follows .mixedOrders=true) (hB:PS l ord1 i c ord2=true) (hi:l[i]?=some oi) (hc:l[c]?=some oc)
  (H:∀K:List AV->AH->Prop,(∀s h,Aa P T y Q s h->K s h)->lvc P T false l.toArray (pick l ord1) sl h (λs1 h1=> ∃v,T9 (MO P oi.op (ev T s1) h1) v/\
   DW P T false l.toArray [oc] (AO oi.dst v s1) h1 (λs2 h2=>T9 (MO P oi.op (ev T s1) h2) v/\lvc P T false l.toArray (pick l ord2) s2 h2 K (λp h=> ∀s,Q (.pan p) s h)) (λp h=> ∀s,Q (.pan p) s h)) (λp h=> ∀s,Q (.pan p) s h)):
  Aa P T (.seq (.region id l.toArray true) y) Q sl h:=
 Aa.seq λK hK=>Sz ord1 i c ord2 hm hB hi hc (H K hK)
theorem Ar.of_ac {f:FuncId} {args:List AV} {r0 r:AV} (H:Ao P T f args ⟨[],[]⟩ (λx _=>x= .ret r0)) (hle:Aj false r0 r):Ar P T f args r:=by
 intro F w vs hF hT Rs
 have S:Bl T (Qj w F) ⟨[],[]⟩ w:=⟨Below.refl _ _,hT,hF,λ_ _=>rfl,by simp,by simp,by simp,by simp,by simp,by simp⟩
 refine(H (Qj w F) w vs S Rs).mono ?_
 rintro e w' ⟨x,h',G',rfl,hG,S',v,rfl,hv⟩
 refine⟨v,G'.frz,rfl,?_,hG.frz,hG.new,S'.frz,?_⟩
 ·have:=S'.below;rw[hG.base] at this;exact this
 ·have:=Aj.ok r0 r v hle hv
  exact this.mono2 (G:=G'.keepT false) (G':=Qj w G'.frz) (λ_ _ _ e=>e) (λt x e=>by simp[Gh.keepT] at e)
theorem PC.of_ac {f:FuncId} {args:List AV} {r0 r:AV} (H:AC P T f args ⟨[],[]⟩ (λx _=>x= .ret r0)) (hle:Aj false r0 r):PC P T f args r:=⟨H.call,Ar.of_ac H.run hle⟩
end
end
section
open Go.RowKit
def FE (ks:List (Nat×AV)) (s:List AV):Prop:=∀p∈ks,s.getD p.1 .undef=p.2
theorem FE.put {ks:List (Nat×AV)} {s:List AV} {d:Option Tmp} {v:AV} (h:FE ks s) (hd:∀t,d=some t->∀p∈ks,p.1≠t):FE ks (AO d v s):=λp hp=>by
 cases d with
 |none=>exact h p hp
 |some t=>
  have hne:=hd t rfl p hp
  have h1:=h p hp
  grind[AO]
def Pf (ks:List (Nat×AV)) (ops:List Oper):Bool:=ops.all λo=>match o.dst with|none=>true|some t=>ks.all λp=>!(p.1==t)
theorem QC {ks:List (Nat×AV)} {ops:List Oper} (h:Pf ks ops=true) {o:Oper} (ho:o∈ops) {s:List AV} {v:AV} (hs:FE ks s):FE ks (AO o.dst v s):=hs.put λt ht p hp e=>by
 have h1:=List.all_eq_true.1 h o ho
 grind
def LQA (K:List AV->AH->Prop) (X:AV->AH->Prop) (Ag:List AV->Prop):AQ
 | .normal,s,h=>K s h
 | .pan p,s,h=>X p h/\Ag s
 |_,_,_=>False
section
variable {P:Program} {T:Ap} {G:Gh} {h:AH} {w:World} {sl:List AV} {cp:Bool} {md:Region.Mode} {ops:Array Oper} {K:List AV->AH->Prop} {X:AV->AH->Prop} {ks:List (Nat×AV)}
theorem LR {cp:Bool} :∀(l:List Oper) (sl:List AV) (h:AH),Pf ks l=true->FE ks sl->DW P T cp ops l sl h K X->∀(G0 G:Gh) (w:World) (a:Act) (ds:List Deferred),B8 G0 G->Bl T G h w->Dz G sl a.tmps->a.defers=ds->wpList P ops (IH T (LQA K X (FE ks)) G0 ds) l a w
 |[],sl,h,_,_,H=>λG0 G w a ds hG S R hd=>⟨hd,.normal,sl,h,G,H,trivial,hG,S,R⟩
 | o::rest,sl,h,hok,hag,H=>by
  have hput:∀v,FE ks (AO o.dst v sl):=λv=>QC hok (List.mem_cons_self ..) hag
  have hok':Pf ks rest=true:=by
   grind[Pf]
  intro G0 G w a ds hG S R hd
  unfold DW at H
  split at H
  ·obtain⟨hg,H⟩:=H
   refine wpList_plain hg λK' hK'=>H G w a S (λx _=>F4 S R x) K' _ (λr h' G' u w' hr hG' S' hu=>?_) (λp h' G' u w' hp hG' S' hu=>?_)
   ·exact hK' _ _ (LR rest _ _ hok' (hput r) hr G0 G' w' _ ds (hG.trans hG') S' ((R.mono hG').put hu o.dst) (by rw[Bv];exact hd))
   ·exact⟨hd,.pan p,sl,h',G',⟨hp,hag⟩,⟨u,rfl,hu⟩,hG.trans hG',S',R.mono hG'⟩
  ·obtain⟨v,hy,_,hr⟩:=H
   refine wpList_step λK' hK'=>hy.run S R λG' u w' hG' S' hu=>?_
   exact hK' _ _ (LR rest _ _ hok' (hput v) hr G0 G' w' _ ds (hG.trans hG') S' ((R.mono hG').put hu o.dst) (by rw[Bv];exact hd))
theorem Jl {c:Code} {Q:AQ} (ks:List (Nat×AV)) (H:∀(G:Gh) (w:World) (a:Act),Bl T G h w->Dz G sl a.tmps->c.wp P (IH T (LQA (λs h=>Q .normal s h) (λp h=> ∀s,FE ks s->Q (.pan p) s h) (FE ks)) G a.defers) a w):Aa P T c Q sl h:=by
 intro G w a S R
 refine wp_mono (H G w a S R) ?_
 rintro e a' w' ⟨hd,x,s,h',G',hq,hx,hG,S',R'⟩
 cases x with
 |normal=>exact⟨hd,.normal,s,h',G',hq,hx,hG,S',R'⟩
 |pan p=>exact⟨hd,.pan p,s,h',G',hq.1 s hq.2,hx,hG,S',R'⟩
 |exit i=>exact hq.elim
 |ret=>exact hq.elim
theorem X4 {id:Nat} {l:List Oper} {Q:AQ} (ks:List (Nat×AV)) (hag:FE ks sl) (hok:Pf ks l=true) (H:lvc P T false l.toArray l sl h (λs h=>Q .normal s h) (λp h=> ∀s,FE ks s->Q (.pan p) s h)):Aa P T (.region id l.toArray false) Q sl h:=
 Jl ks λG w a S R=>wp_region_lit (LR l sl h hok hag (AN l sl h H) G G w a a.defers (B8.refl G) S R rfl)
theorem TT {id:Nat} {l:List Oper} {y:Code} {Q:AQ} (ks:List (Nat×AV)) (hag:FE ks sl) (hok:Pf ks l=true) (H:∀K:List AV->AH->Prop,(∀s h,Aa P T y Q s h->K s h)->lvc P T false l.toArray l sl h K (λp h=> ∀s,FE ks s->Q (.pan p) s h)):Aa P T (.seq (.region id l.toArray false) y) Q sl h:=
 Aa.seq λK hK=>X4 ks hag hok (H K hK)
theorem Jh (hok:Pf ks ops.toList=true):∀(fuel:Nat) (listed:Array Bool) (sl:List AV) (h:AH),FE ks sl->BK P T cp md ops K X fuel listed sl h->∀(G0 G:Gh) (w:World) (a:Act) (ds:List Deferred),B8 G0 G->Bl T G h w->Dz G sl a.tmps->a.defers=ds->wpAny P md ops (IH T (LQA K X (FE ks)) G0 ds) fuel listed a w
 |0,listed,sl,h,_,H=>λG0 G w a ds hG S R hd=>⟨H.1,hd,.normal,sl,h,G,H.2,trivial,hG,S,R⟩
 | fuel+1,listed,sl,h,hag,H=>λG0 G w a ds hG S R hd=>by
  refine⟨λh0=>⟨hd,.normal,sl,h,G,H.1 h0,trivial,hG,S,R⟩,λi hi=>?_⟩
  have hop:=H.2 i hi
  unfold Kl at hop
  unfold wpOp
  split
  ·rename_i ho
   rw[ho] at hop
   exact Jh hok fuel _ _ _ hag hop G0 G w a ds hG S R hd
  ·rename_i o ho
   have hput:∀v,FE ks (AO o.dst v sl):=λv=>QC hok (by rw[<-Array.getElem?_toList] at ho;exact List.mem_of_getElem? ho) hag
   rw[ho] at hop
   dsimp only at hop
   split at hop
   ·obtain⟨hg,hop⟩:=hop
    rw[if_pos (by simp[Region.wanted,hg])]
    refine .inl (hop G w a S (λx _=>F4 S R x) _ _ (λr h' G' u w' hr hG' S' hu=>?_) (λp h' G' u w' hp hG' S' hu=>?_))
    ·exact Jh hok fuel _ _ _ (hput r) hr G0 G' w' _ ds (hG.trans hG') S' ((R.mono hG').put hu o.dst) (by rw[Bv];exact hd)
    ·exact⟨hd,.pan p,sl,h',G',⟨hp,hag⟩,⟨u,rfl,hu⟩,hG.trans hG',S',R.mono hG'⟩
   ·obtain⟨v,hy,_,hr⟩:=hop
    have:=hy.run S R (Kc:=wpAny P md ops (IH T (LQA K X (FE ks)) G0 ds) fuel (listed.setIfInBounds i true)) (Q:=IH T (LQA K X (FE ks)) G0 ds) λG' u w' hG' S' hu=>Jh hok fuel _ _ _ (hput v) hr G0 G' w' _ ds (hG.trans hG') S' ((R.mono hG').put hu o.dst) (by rw[Bv];exact hd)
    all_goals grind
theorem FE.one {k:Nat} {v:AV} {ks:List (Nat×AV)} {s:List AV} (h:FE ((k,v)::ks) s):s.getD k .undef=v:=h _ (List.mem_cons_self ..)
theorem FE.tl {p:Nat×AV} {ks:List (Nat×AV)} {s:List AV} (h:FE (p::ks) s):FE ks s:=λq hq=>h q (List.mem_cons_of_mem _ hq)
theorem Abi {df:AV} {l:SL} {N:Nat} {ks:List (Nat×AV)} (h:(ks.all λp=>Nat.blt p.1 N)=true) (hk:∀p∈ks,Bd df p.1 l=p.2):FE ks (Ct df l N 0):=λp hp=>by
 have h1:=List.all_eq_true.1 h p hp
 simp only[List.getD]
 rw[CS _ _ _ _ _ (by simpa[Nat.blt_eq] using h1),Nat.zero_add,hk p hp];rfl
theorem OQ {df:AV} {l:SL} {N a b:Nat} {x y:AV} (ha:Nat.blt a N=true) (hx:Bd df a l=x) (hb:Nat.blt b N=true) (hy:Bd df b l=y):FE [(a,x),(b,y)] (Ct df l N 0):=Abi (by simp[ha,hb]) λp hp=>by
 grind
end
end
section
open Go.RowKit
section
variable {P:Program} {T:Ap} {cp:Bool} {md:Region.Mode} {ops:Array Oper} {K:List AV->AH->Prop} {X:AV->AH->Prop}
def CHE (P:Program) (T:Ap) (cp:Bool) (ops:Array Oper) (oi:Oper) (v:AV) (s0:List AV) (l2:List Oper) (K:List AV->AH->Prop) (X:AV->AH->Prop):List Oper->List AV->AH->Prop
 |[],s,h=>DW P T cp ops l2 s h K X
 |oc::r,s,h=>Jf P T oc s h (λrv h'=>Yg P T ops oi v s0 h'/\CHE P T cp ops oi v s0 l2 K X r (AO oc.dst rv s) h') X
def IK (cp:Bool) (md:Region.Mode) (ops:Array Oper) (i:Nat) (ord2:List Nat):List Nat->Array Bool->Bool
 |[],listed=>(Region.ready md ops listed).contains i&&Ht cp md ops listed i&&JR cp md ops ord2 (listed.setIfInBounds i true)
 |c::cs,listed=>(Region.ready md ops listed).contains i&&(Region.ready md ops listed).contains c&&(Region.ready md ops listed).all (λx=>x==i||x==c)&&!(i==c)&&
  (match ops[i]?,ops[c]? with|some oi,some oc=>BP cp oc&&oi.apart ops oc|_,_=>false)&&JR cp md ops (c::(cs++ord2)) (listed.setIfInBounds i true)&&IK cp md ops i ord2 cs (listed.setIfInBounds c true)
theorem X5 {oi:Oper} {v:AV} {s0:List AV} {l2:List Oper} :∀(ocs:List Oper) (s:List AV) (h:AH),(∀o∈ocs,BP cp o=true)->CHE P T cp ops oi v s0 l2 K X ocs s h->DW P T cp ops (ocs++l2) s h K X
 |[],s,h,_,H=>H
 |oc::r,s,h,he,H=>by
  have H:Jf P T oc s h (λrv h'=>Yg P T ops oi v s0 h'/\CHE P T cp ops oi v s0 l2 K X r (AO oc.dst rv s) h') X:=H
  show DW P T cp ops (oc::(r++l2)) s h K X
  unfold DW
  rw[if_pos (he _ (List.mem_cons_self ..))]
  exact H.monoN λrv h' hh=>X5 r _ _ (λo ho=>he o (List.mem_cons_of_mem _ ho)) hh.2
theorem LO {i:Nat} {oi:Oper} {v:AV} {s0:List AV} {ord2:List Nat} {l2:List Oper} (hi:ops[i]?=some oi) (hni:BP cp oi=false) (hlo:Np oi=false) (hl:l2.length=ord2.length) (hmap:∀(n i:Nat),ord2[n]?=some i->l2[n]?=ops[i]?):
  ∀(cs:List Nat) (ocs:List Oper) (listed:Array Bool) (s:List AV) (h:AH),ocs.length=cs.length->(∀(n c:Nat),cs[n]?=some c->ocs[n]?=ops[c]?)->DC md ops listed->IK cp md ops i ord2 cs listed=true->(∀h,Yg P T ops oi v s0 h->Yg P T ops oi v s h)->Yg P T ops oi v s0 h->
   CHE P T cp ops oi v s0 l2 K X ocs (AO oi.dst v s) h->BK P T cp md ops K X (cs.length+(ord2.length+1)) listed s h
 |[],ocs,listed,s,h,hlen,_,hdc,hB,hys,hy,H=>by
  obtain rfl:ocs=[]:=List.eq_nil_of_length_eq_zero hlen
  simp only[IK,Bool.and_eq_true] at hB
  obtain⟨⟨h1,h2⟩,h3⟩:=hB
  have hri:i∈Region.ready md ops listed:=by simpa using h1
  rw[List.length_nil,Nat.zero_add]
  exact EZ hi hni ord2.length listed s h hdc (E7 hi h2) hri (hys _ hy) (λhh=>(by rw[hlo] at hh;cases hh)) (DW.any ord2 l2 _ _ _ hl hmap (hdc.step hri) h3 H)
 |c::cs,[],_,_,_,hlen,_,_,_,_,_,_=>by simp at hlen
 |c::cs,oc::ocs,listed,s,h,hlen,hcm,hdc,hB,hys,hy,H=>by
  have hc:ops[c]?=some oc:=(hcm 0 c rfl).symm
  have hBc:=hB
  unfold IK at hB
  rw[hi,hc] at hB
  simp only[Bool.and_eq_true,Bool.not_eq_true'] at hB
  obtain⟨⟨⟨⟨⟨⟨h1,h2⟩,h3⟩,h4⟩,hec,hap⟩,hBA⟩,hBC⟩:=hB
  have hri:i∈Region.ready md ops listed:=by simpa using h1
  have hrc:c∈Region.ready md ops listed:=by simpa using h2
  obtain⟨a1,a2,a3⟩:=Oper.apart_spec hap
  have hcm':∀(n c:Nat),cs[n]?=some c->ocs[n]?=ops[c]?:=λn k e=>by simpa using hcm (n+1) k (by simpa using e)
  have hlen':ocs.length=cs.length:=by simpa using hlen
  have heff:∀o∈oc::ocs,BP cp o=true:=by
   -- each chain member is an effect, by the check
   have key:∀(cs:List Nat) (ocs:List Oper) (listed:Array Bool),ocs.length=cs.length->(∀(n c:Nat),cs[n]?=some c->ocs[n]?=ops[c]?)->IK cp md ops i ord2 cs listed=true->∀o∈ocs,BP cp o=true:=by
    intro cs
    induction cs with
    |nil=>intro ocs _ hl _ _ o ho;rw[List.eq_nil_of_length_eq_zero hl] at ho;cases ho
    | cons c cs ih=>
     intro ocs listed hl hm hB o ho
     cases ocs with
     |nil=>cases ho
     |cons oc ocs=>
      have hc:ops[c]?=some oc:=(hm 0 c rfl).symm
      unfold IK at hB
      rw[hi,hc] at hB
      simp only[Bool.and_eq_true] at hB
      rcases List.mem_cons.1 ho with rfl|ho
      ·exact hB.1.1.2.1
      ·exact ih ocs _ (by simpa using hl) (λn k e=>by simpa using hm (n+1) k (by simpa using e)) hB.2 o ho
   exact key (c::cs) (oc::ocs) listed hlen hcm hBc
  rw[List.length_cons,Nat.succ_add]
  refine⟨λh0=>(by rw[h0] at hri;cases hri),λx hx=>?_⟩
  have hxc:x=i\/x=c:=by simpa using List.all_eq_true.1 h3 x hx
  rcases hxc with rfl|rfl
  ·unfold Kl
   rw[hi]
   dsimp only
   rw[if_neg (by rw[hni];simp)]
   refine⟨v,hys _ hy,λhh=>(by rw[hlo] at hh;cases hh),?_⟩
   have:=DW.any (c::(cs++ord2)) (oc::(ocs++l2)) _ _ _ (by simp[hl,hlen']) (λn k e=>by
    match n with
    |0=>simp at e;subst e;simp[hc]
    | n+1=>
     simp only[List.getElem?_cons_succ] at e⊢
     rcases Nat.lt_or_ge n cs.length with hn|hn
     ·rw[List.getElem?_append_left hn] at e
      rw[List.getElem?_append_left (by omega)]
      exact hcm' n k e
     ·rw[List.getElem?_append_right hn] at e
      rw[List.getElem?_append_right (by omega),hlen']
      exact hmap _ k e) (hdc.step hri) hBA (X5 (oc::ocs) _ _ heff H)
   have e1:(c::(cs++ord2)).length=cs.length+(ord2.length+1):=by simp;omega
   rw[e1] at this
   exact this
  ·unfold Kl
   rw[hc]
   dsimp only
   rw[if_pos hec]
   have H:Jf P T oc (AO oi.dst v s) h (λrv h'=>Yg P T ops oi v s0 h'/\CHE P T cp ops oi v s0 l2 K X ocs (AO oc.dst rv (AO oi.dst v s)) h') X:=H
   refine Jf.unput (ops:=ops) a1 H λr h' hh=>?_
   obtain⟨hy',hD⟩:=hh
   refine LO hi hni hlo hl hmap cs ocs _ _ _ hlen' hcm' (hdc.step hx) hBC (λh hh=>(hys h hh).put a3) hy' ?_
   rw[Gu a2]
   exact hD
def CHL (P:Program) (T:Ap) (ops:Array Oper) (oi:Oper) (v:AV) (s0:List AV) (l2:List Oper) (K:List AV->AH->Prop) (X:AV->AH->Prop):List Oper->List AV->AH->Prop
 |[],s,h=>lvc P T false ops l2 s h K X
 |oc::r,s,h=>DW P T false ops [oc] s h (λs2 h2=>T9 (MO P oi.op (ev T s0) h2) v/\CHL P T ops oi v s0 l2 K X r s2 h2) X
theorem TV {oi:Oper} {v:AV} {s0:List AV} {l2:List Oper} (hg:oi.guard=none):∀(ocs:List Oper) (s:List AV) (h:AH),(∀o∈ocs,BP false o=true)->CHL P T ops oi v s0 l2 K X ocs s h->CHE P T false ops oi v s0 l2 K X ocs s h
 |[],s,h,_,H=>AN _ _ _ H
 |oc::r,s,h,he,H=>by
  have H:DW P T false ops [oc] s h (λs2 h2=>T9 (MO P oi.op (ev T s0) h2) v/\CHL P T ops oi v s0 l2 K X r s2 h2) X:=H
  show Jf P T oc s h _ X
  unfold DW at H
  rw[if_pos (he _ (List.mem_cons_self ..))] at H
  refine H.monoN λrv h' hh=>?_
  unfold DW at hh
  exact⟨Yg.of_okV hg hh.1,TV hg r _ _ (λo ho=>he o (List.mem_cons_of_mem _ ho)) hh.2⟩
def TA (ops:List Oper) (ord1:List Nat) (i:Nat) (cs ord2:List Nat):Bool:=
 let A:=ops.toArray
 let L0:=Array.replicate ops.length false
 let L1:=lst ord1 L0
 ord1.length+(cs.length+(ord2.length+1))==ops.length&&ord1.all (λi=>decide (i<ops.length))&&ord2.all (λi=>decide (i<ops.length))&&cs.all (λi=>decide (i<ops.length))&&GI false .any A ord1 L0&&
 (match ops[i]? with|some oi=>!BP false oi&&!Np oi&&oi.guard.isNone|none=>false)&&cs.all (λc=>match ops[c]? with|some oc=>BP false oc|none=>false)&&IK false .any A i ord2 cs L1
theorem V2 {id:Nat} {l:List Oper} {Q:AQ} {sl:List AV} {h:AH} (ks:List (Nat×AV)) (hag:FE ks sl) (hok:Pf ks l=true) (ord1:List Nat) (i:Nat) (cs ord2:List Nat) {oi:Oper} (hm:P.follows .mixedOrders=true) (hB:TA l ord1 i cs ord2=true) (hi:l[i]?=some oi)
  (H:lvc P T false l.toArray (pick l ord1) sl h (λs1 h1=> ∃v,T9 (MO P oi.op (ev T s1) h1) v/\CHL P T l.toArray oi v s1 (pick l ord2) (λs h=>Q .normal s h) (λp h=> ∀s,FE ks s->Q (.pan p) s h) (pick l cs) (AO oi.dst v s1) h1) (λp h=> ∀s,FE ks s->Q (.pan p) s h)):
  Aa P T (.region id l.toArray true) Q sl h:=by
 simp only[TA,hi,Bool.and_eq_true,beq_iff_eq,Bool.not_eq_true',Option.isNone_iff_eq_none] at hB
 obtain⟨⟨⟨⟨⟨⟨⟨hlen,hall1⟩,hall2⟩,hall3⟩,hpre⟩,⟨⟨k1,k5⟩,k6⟩⟩,hce⟩,hch⟩:=hB
 have hlt1:∀i∈ord1,i<l.length:=λi hi=>by simpa using List.all_eq_true.1 hall1 i hi
 have hlt2:∀i∈ord2,i<l.length:=λi hi=>by simpa using List.all_eq_true.1 hall2 i hi
 have hlt3:∀i∈cs,i<l.length:=λi hi=>by simpa using List.all_eq_true.1 hall3 i hi
 obtain⟨p1,p2⟩:=Ca hlt1
 obtain⟨q1,q2⟩:=Ca hlt2
 obtain⟨r1,r2⟩:=Ca hlt3
 have heff:∀o∈pick l cs,BP false o=true:=λo ho=>by
  obtain⟨n,hn⟩:=List.mem_iff_getElem?.1 ho
  grind
 have hdc0:DC .any l.toArray (Array.replicate l.length false):=λj o _ hj=>by
  simp[Array.getElem?_replicate] at hj
  grind
 refine Jl ks λG w a S R=>wp_region_any hm ?_
 have hany:=Jo (P:=P) (T:=T) (cp:=false) (K:=λs h=>Q .normal s h) (X:=λp h=> ∀s,FE ks s->Q (.pan p) s h) (fuel:=cs.length+(ord2.length+1)) ord1 (pick l ord1) (Array.replicate l.length false) sl h p1 (λn i e=>by rw[p2 n i e];simp) hdc0 hpre
  (FZ (λs1 h1 hh=>by
   obtain⟨v,e1,D⟩:=hh
   exact LO (by simpa using hi) k1 k5 q1 (λn i e=>by rw[q2 n i e];simp) cs (pick l cs) _ s1 h1 r1 (λn c e=>by rw[r2 n c e];simp) (hdc0.lst (cp:=false) ord1 hpre) hch (λ_ hh=>hh) (Yg.of_okV k6 e1) (TV k6 _ _ _ heff D)) _ _ _ (AN _ _ _ H))
 rw[hlen] at hany
 have:=Jh (ops:=l.toArray) (by simpa using hok) _ _ _ _ hag hany G G w.drew a a.defers (B8.refl G) S.drew R rfl
 simpa using this
theorem ON {id:Nat} {l:List Oper} {y:Code} {Q:AQ} {sl:List AV} {h:AH} (ks:List (Nat×AV)) (hag:FE ks sl) (hok:Pf ks l=true) (ord1:List Nat) (i:Nat) (cs ord2:List Nat) {oi:Oper} (hm:P.follows .mixedOrders=true) (hB:TA l ord1 i cs ord2=true) (hi:l[i]?=some oi)
    (H:∀K:List AV->AH->Prop,(∀s h,Aa P T y Q s h->K s h)->lvc P T false l.toArray (pick l ord1) sl h (λs1 h1=> ∃v,T9 (MO P oi.op (ev T s1) h1) v/\CHL P T l.toArray oi v s1 (pick l ord2) K (λp h=> ∀s,FE ks s->Q (.pan p) s h) (pick l cs) (AO oi.dst v s1) h1) (λp h=> ∀s,FE ks s->Q (.pan p) s h)):
    Aa P T (.seq (.region id l.toArray true) y) Q sl h:=Aa.seq λK hK=>V2 ks hag hok ord1 i cs ord2 hm hB hi (H K hK)
theorem FE.nil {s:List AV} :FE [] s:=λp hp=>by cases hp
end
attribute [go_sem] CHL
@[go_sem] theorem Age (l:List UInt8) (a b:AV) (h:l.length<=4096):(if l.toArray.size<=maxLen then a else b)=a:=by
 rw[if_pos]
 have:(4096:Nat)<=maxLen:=by decide
 simp;omega
end
section
open Go.RowKit
section
variable {P:Program} {T:Ap} {c:Code} {Q:AQ} {h:AH}
theorem TU {sl:List AV} (o:Af) (hl:Cy h.objs o) (H:Aa P T c Q sl ⟨o,h.live⟩):Aa P T c Q sl h:=H.leH (Abt hl)
end
end
section
open Go.RowKit
section
variable {P:Program} {T:Ap} {cp:Bool} {md:Region.Mode} {ops:Array Oper} {K:List AV->AH->Prop} {X:AV->AH->Prop}
theorem BK.free {i:Nat} {oi:Oper} {v:AV} (hi:ops[i]?=some oi) (hni:BP cp oi=false):∀(fuel:Nat) (listed:Array Bool) (sl:List AV) (h:AH),DC md ops listed->
  (∀j oj,ops[j]?=some oj->j≠i->listed.getD j true=false->Ei md ops ops.size j i=false->oi.apart ops oj=true)->
  i∈Region.ready md ops listed->(∀h',Yg P T ops oi v sl h')->
  BK P T cp md ops K X fuel (listed.setIfInBounds i true) (AO oi.dst v sl) h->BK P T cp md ops K X (fuel+1) listed sl h:=by
 intro fuel
 induction fuel with
 | zero=>
  intro listed sl h hdc _ hr hy H
  refine⟨λh0=>(by rw[h0] at hr;cases hr),λj hj=>?_⟩
  by_cases hji:j=i
  ·subst hji
   unfold Kl
   rw[hi]
   dsimp only
   rw[if_neg (by rw[hni];simp)]
   exact⟨v,hy h,λ_=>hy,H⟩
  ·have:=ready_mono hj hji
   rw[H.1] at this
   cases this
 | succ fuel ih=>
  intro listed sl h hdc hfree hr hy H
  refine⟨λh0=>(by rw[h0] at hr;cases hr),λj hj=>?_⟩
  by_cases hji:j=i
  ·subst hji
   unfold Kl
   rw[hi]
   dsimp only
   rw[if_neg (by rw[hni];simp)]
   exact⟨v,hy h,λ_=>hy,H⟩
  ·have h1:=H.2 j (ready_mono hj hji)
   obtain⟨hjun,oj,hoj,hall⟩:=mem_ready.1 hj
   have hiun:=Ev (mem_ready.1 hr).1
   have hap:=hfree j oj hoj hji hjun (Ea hdc hiun _ _ _ hoj hall)
   obtain⟨a1,a2,a3⟩:=Oper.apart_spec hap
   have hfree':∀k ok,ops[k]?=some ok->k≠i->(listed.setIfInBounds j true).getD k true=false->Ei md ops ops.size k i=false->oi.apart ops ok=true:=λk ok hk hki hun hw=>by
    refine hfree k ok hk hki ?_ hw
    by_cases hjk:j=k
    ·subst hjk;exact hjun
    ·rw[getD_set_ne true hjk] at hun;exact hun
   have next:∀(u:AV) (h':AH),BK P T cp md ops K X fuel ((listed.setIfInBounds i true).setIfInBounds j true) (AO oj.dst u (AO oi.dst v sl)) h'->BK P T cp md ops K X (fuel+1) (listed.setIfInBounds j true) (AO oj.dst u sl) h':=λu h' hN=>by
    refine ih (listed.setIfInBounds j true) (AO oj.dst u sl) h' (hdc.step hj) hfree' (ready_mono hr (Ne.symm hji)) (λh2=>(hy h2).put a3) ?_
    rw[Array.setIfInBounds_comm _ _ hji,Gu a2]
    exact hN
   unfold Kl at h1⊢
   rw[hoj] at h1⊢
   dsimp only at h1⊢
   split
   ·rename_i he
    rw[if_pos he] at h1
    exact h1.unput a1 λr h' hN=>next r h' hN
   ·rename_i he
    rw[if_neg he] at h1
    obtain⟨u,g1,g2,g3⟩:=h1
    exact⟨u,g1.unput a1,λhk h2=>(g2 hk h2).unput a1,next u h g3⟩
def U7 (md:Region.Mode) (ops:Array Oper) (listed:Array Bool) (i:Nat):Bool:=
 match ops[i]? with
 |some oi=>(List.range ops.size).all λj=>j==i||listed.getD j true||Ei md ops ops.size j i||(match ops[j]? with
  |some oj=>oi.apart ops oj
  |none=>true)
 |none=>false
theorem Mz {listed:Array Bool} {i:Nat} {oi:Oper} (hi:ops[i]?=some oi) (h:U7 md ops listed i=true):
  ∀j oj,ops[j]?=some oj->j≠i->listed.getD j true=false->Ei md ops ops.size j i=false->oi.apart ops oj=true:=by
 intro j oj hj hji hun hw
 unfold U7 at h
 rw[hi] at h
 dsimp only at h
 have:=List.all_eq_true.1 h j (List.mem_range.2 (Array.getElem?_eq_some_iff.1 hj).1)
 rw[hj,hun,hw] at this
 have hne:(j==i)=false:=by simpa using hji
 rw[hne] at this
 simpa using this
def FRL (P:Program) (T:Ap) (K:List AV->Prop):List Oper->List AV->Prop
 |[],s=>K s
 |o::r,s=> ∃v,(∀h',T9 (MO P o.op (ev T s) h') v)/\FRL P T K r (AO o.dst v s)
def Ac7 (cp:Bool) (md:Region.Mode) (ops:Array Oper) (ord2:List Nat):List Nat->Array Bool->Bool
 |[],listed=>JR cp md ops ord2 listed
 |i::r,listed=>(Region.ready md ops listed).contains i&&(match ops[i]? with
  |some o=>!BP cp o&&o.guard.isNone
  |none=>false)&&U7 md ops listed i&&Ac7 cp md ops ord2 r (listed.setIfInBounds i true)
theorem Qm {ord2:List Nat} {l2:List Oper} (hl:l2.length=ord2.length) (hmap:∀(n i:Nat),ord2[n]?=some i->l2[n]?=ops[i]?) {h:AH} :
  ∀(fr:List Nat) (lf:List Oper) (listed:Array Bool) (s:List AV),lf.length=fr.length->(∀(n i:Nat),fr[n]?=some i->lf[n]?=ops[i]?)->DC md ops listed->Ac7 cp md ops ord2 fr listed=true->
   FRL P T (λs=>DW P T cp ops l2 s h K X) lf s->BK P T cp md ops K X (fr.length+ord2.length) listed s h
 |[],[],listed,s,_,_,hdc,hB,H=>by
  rw[List.length_nil,Nat.zero_add]
  exact DW.any ord2 l2 listed s h hl hmap hdc hB H
 |[],_::_,_,_,hlen,_,_,_,_=>by simp at hlen
 |_::_,[],_,_,hlen,_,_,_,_=>by simp at hlen
 |i::fr,o::lf,listed,s,hlen,hm,hdc,hB,H=>by
  have hi:ops[i]?=some o:=(hm 0 i rfl).symm
  unfold Ac7 at hB
  rw[hi] at hB
  simp only[Bool.and_eq_true,Bool.not_eq_true',Option.isNone_iff_eq_none] at hB
  obtain⟨⟨⟨hr,he,hg⟩,hf⟩,hB⟩:=hB
  have hr:i∈Region.ready md ops listed:=by simpa using hr
  obtain⟨v,hv,H⟩:=H
  rw[List.length_cons,Nat.succ_add]
  exact BK.free hi he _ listed s h hdc (Mz hi hf) hr (λh'=>Yg.of_okV hg (hv h')) (Qm hl hmap fr lf _ _ (by simpa using hlen) (λn k e=>by simpa using hm (n+1) k (by simpa using e)) (hdc.step hr) hB H)
def TB (cp:Bool) (ops:List Oper) (ord1 fr ord2:List Nat):Bool:=
 let A:=ops.toArray
 let L0:=Array.replicate ops.length false
 let L1:=lst ord1 L0
 ord1.length+(fr.length+ord2.length)==ops.length&&ord1.all (λi=>decide (i<ops.length))&&ord2.all (λi=>decide (i<ops.length))&&fr.all (λi=>decide (i<ops.length))&&GI cp .any A ord1 L0&&Ac7 cp .any A ord2 fr L1
theorem FRL.mono {K K':List AV->Prop} (hK:∀s,K s->K' s):∀{lf:List Oper} {s:List AV},FRL P T K lf s->FRL P T K' lf s
 |[],s,H=>hK s H
 |_::_,_,⟨v,hv,H⟩=>⟨v,hv,FRL.mono hK H⟩
theorem V3 {id:Nat} {l:List Oper} {Q:AQ} {sl:List AV} {h:AH} (cp:Bool) (ord1 fr ord2:List Nat) (hm:P.follows .mixedOrders=true) (hB:TB cp l ord1 fr ord2=true)
  (H:lvc P T cp l.toArray (pick l ord1) sl h (λs1 h1=>FRL P T (λs2=>lvc P T cp l.toArray (pick l ord2) s2 h1 (λs h=>Q .normal s h) (λp h=> ∀s,Q (.pan p) s h)) (pick l fr) s1) (λp h=> ∀s,Q (.pan p) s h)):
  Aa P T (.region id l.toArray true) Q sl h:=by
 simp only[TB,Bool.and_eq_true,beq_iff_eq] at hB
 obtain⟨⟨⟨⟨⟨hlen,hall1⟩,hall2⟩,hall3⟩,hpre⟩,hch⟩:=hB
 have hlt1:∀i∈ord1,i<l.length:=λi hi=>by simpa using List.all_eq_true.1 hall1 i hi
 have hlt2:∀i∈ord2,i<l.length:=λi hi=>by simpa using List.all_eq_true.1 hall2 i hi
 have hlt3:∀i∈fr,i<l.length:=λi hi=>by simpa using List.all_eq_true.1 hall3 i hi
 obtain⟨p1,p2⟩:=Ca hlt1
 obtain⟨q1,q2⟩:=Ca hlt2
 obtain⟨r1,r2⟩:=Ca hlt3
 have hdc0:DC .any l.toArray (Array.replicate l.length false):=λj o _ hj=>by
  simp[Array.getElem?_replicate] at hj
  grind
 refine CB λG w a S R=>wp_region_any hm ?_
 have hany:=Jo (P:=P) (T:=T) (cp:=cp) (K:=λs h=>Q .normal s h) (X:=λp h=> ∀s,Q (.pan p) s h) (fuel:=fr.length+ord2.length) ord1 (pick l ord1) (Array.replicate l.length false) sl h p1 (λn i e=>by rw[p2 n i e];simp) hdc0 hpre
  (FZ (λs1 h1 hh=>Qm q1 (λn i e=>by rw[q2 n i e];simp) fr (pick l fr) _ s1 r1 (λn c e=>by rw[r2 n c e];simp) (hdc0.lst (cp:=cp) ord1 hpre) hch (hh.mono λs hs=>AN _ _ _ hs)) _ _ _ (AN _ _ _ H))
 rw[hlen] at hany
 have:=BK.wp _ _ _ _ hany G G w.drew a a.defers (B8.refl G) S.drew R rfl
 simpa using this
theorem Abe {id:Nat} {l:List Oper} {y:Code} {Q:AQ} {sl:List AV} {h:AH} (cp:Bool) (ord1 fr ord2:List Nat) (hm:P.follows .mixedOrders=true) (hB:TB cp l ord1 fr ord2=true)
    (H:∀K:List AV->AH->Prop,(∀s h,Aa P T y Q s h->K s h)->lvc P T cp l.toArray (pick l ord1) sl h (λs1 h1=>FRL P T (λs2=>lvc P T cp l.toArray (pick l ord2) s2 h1 K (λp h=> ∀s,Q (.pan p) s h)) (pick l fr) s1) (λp h=> ∀s,Q (.pan p) s h)):
    Aa P T (.seq (.region id l.toArray true) y) Q sl h:=Aa.seq λK hK=>V3 cp ord1 fr ord2 hm hB (H K hK)
end
attribute [go_sem] FRL
end
end Go.Proofs.YtidldcfpmehpiaaGreatDoor
