/- Texts that the laws rest on, packed. -/
import Derived.Test.YtidldcfpmehpiaaGreatDoorGB
import Derived.MapKept
set_option linter.unusedSimpArgs false
set_option linter.unusedVariables false
set_option maxRecDepth 20000
set_option maxHeartbeats 4000000
namespace Go.Proofs.YtidldcfpmehpiaaGreatDoor
section
open Go.RowKit
def mA (b k c n:Nat):AV:=if c=0 then .full k [] else .arr b k n c
def mO (b k c:Nat) (rows:List (List AV)) (F:Af):Af:=if c=0 then F else(b,⟨k,c,rows⟩)::F
theorem CF (b k n:Nat):mA b k 0 n= .full k []:=rfl
theorem AG {b k c n:Nat} (h:0<c):mA b k c n= .arr b k n c:=if_neg (by omega)
theorem D9 (b k:Nat) (rows:List (List AV)) (F:Af):mO b k 0 rows F=F:=rfl
theorem Bk {b k c:Nat} {rows:List (List AV)} {F:Af} (h:0<c):mO b k c rows F=(b,⟨k,c,rows⟩)::F:=if_neg (by omega)
def As (src:List (List D)):List (List AV):=src.map λr=>r.map .d
section
variable {P:Program} {T:Ap} {G:Gh} {h:AH} {w:World}
theorem QG {t t2 e k by_:Nat} (ty:TypeId) (hsl:BL P t=some (e,k,by_)) (ht2:∃d,P.underlying t2=some d/\∀kk,d≠ .int kk) {B:Nat} (hB:B<=w.heap.size) {n m:Nat} {A:Option Addr} {c:Nat}
  {x:Value} {old new:List Value} (holdlen:old.length=n*k) (hcells:new.length=m*k) (hone:∀v∈new,v.oneCell'=true) (hlen:∀w',(Builtin.lenOf x).run P w'= .ok m w')
  (hread:∀w':World,w'.heap=w.heap->(Builtin.firstCells k m x).run P w'= .ok new.toArray w') (h63:n+m<=maxLen) (hby:(n+m)*by_<=140737488355328) (hm:0<m)
  (ho2:∀w':World,w'.heap=w.heap->(Builtin.firstCells k n (.slice A n c)).run P w'= .ok old.toArray w') (hcm:c<=maxLen)
  (hA0:A=none->c=0) (hA:∀a,A=some a->0<c->∃(g:Nat) (vs:Array Value) (ety:TypeId) (fz:Nat×Nat),a=⟨g,0,none⟩/\B<=g/\w.heap[g]?=some (.cells vs ety fz)/\vs.size=c*k/\
   (∀o,o<vs.size->(decide (fz.1<=o)&&decide (o<fz.2))=false)/\∀o,o<n*k->vs[o]?=old[o]?)
  {R:Value->World->Prop}
  (fin:∀(b c2:Nat) (w':World) (vs:Array Value) (ty:TypeId) (fz:Nat×Nat),B<=b->n+m<=c2->c2<=maxLen->Below B w w'->w'.heap[b]?=some (.cells vs ty fz)->vs.size=c2*k->
   (∀o,o<vs.size->(decide (fz.1<=o)&&decide (o<fz.2))=false)->(∀o,o<(n+m)*k->vs[o]?=(old++new)[o]?)->(∀b',b'≠b->b'<w.heap.size->w'.heap[b']?=w.heap[b']?)->
   ((A=some ⟨b,0,none⟩/\0<c)\/b=w.heap.size)->R (.slice (some ⟨b,0,none⟩) (n+m) c2) w'):
  ∃v w',(Builtin.append_ #[t,t2] ty #[.slice A n c,x]).run P w= .ok v w'/\R v w':=by
 obtain⟨i,hu,hi,hsz,hbytes,hz,hk⟩:=Ch hsl
 obtain⟨z,hz1,hz2⟩:=Option.map_eq_some_iff.1 hz
 obtain⟨d2,hu2,hd2⟩:=ht2
 have hnint:(match d2 with| .int _=>true|_=>false)=false:=by cases d2<;>first|rfl|exact absurd rfl (hd2 _)
 have hnum2:¬(((n+m:Nat):Int)>IntKind.i64.max):=by
  have:IntKind.i64.max=9223372036854775807:=by decide
  unfold maxLen at h63
  omega
 by_cases hfit:n+m<=c
 ·cases A with
  |none=>
   have:=hA0 rfl
   omega
  |some a=>
   obtain⟨g,vs,ety,fz,rfl,hgb,hheap,hvs,hfz,hsame⟩:=hA a rfl (by omega)
   have hle:(n+m)*k<=vs.size:=by rw[hvs];exact Nat.mul_le_mul_right _ hfit
   obtain⟨vs',q1,q2,q3⟩:=Dy g new (n*k) w vs ety fz hheap
   have hR:=fin g c (w.setCells g (n*k) new) vs' ety fz hgb hfit hcm ((Cq g _ _ w).below hgb) q1 (by rw[q2];exact hvs) (by rw[q2];exact hfz) (λo ho=>by
     all_goals grind) (λb' hb' _=>(Cq g _ _ w).block b' hb') (.inl ⟨rfl,by omega⟩)
   refine⟨_,_,?_,hR⟩
   have h1:=hread w rfl
   have hst:=run_storeCells_cells (P:=P) g (n*k) new 0 w (λj hj=>by
     rw[cell_of_row _ _ _ vs ety fz hheap,Nat.add_zero,Array.getElem?_eq_getElem (by rw[Nat.add_mul] at hle;omega)]
     rfl) (λj hj=>by
     have:=hfz (n*k+j) (by rw[Nat.add_mul] at hle;omega)
     simp only[World.frozen?,hheap,Nat.add_zero]
     exact this) hone
   simp only[Nat.add_zero] at hst
   simp[Builtin.append_,run_underlying hu,AS hi,hsz,run_underlying hu2,hnint,hlen,h1,hfit,Fd,hst]
 ·have hneed:c<n+m:=by omega
  let q:=Question.appendCap (n+m) c e
  have hcap:n+m<=q.cut (w.tape w.drawn q)/\q.cut (w.tape w.drawn q)<=maxLen:=by
   have h0:0<2^63-(n+m):=by unfold maxLen at h63;omega
   have:=Nat.mod_lt (w.tape w.drawn q) h0
   show n+m<=n+m+w.tape w.drawn q%_/\_+w.tape w.drawn q%_<=_
   unfold maxLen at*
   omega
  generalize hq:q.cut (w.tape w.drawn q)=cap at hcap
  let vs:Array Value:=old.toArray++new.toArray++Builtin.zeroCells z.cells (cap-(n+m))
  have hzs:(Builtin.zeroCells z.cells (cap-(n+m))).size=(cap-(n+m))*k:=by simp[Builtin.zeroCells,hz2]
  have hvs:vs.size=cap*k:=by
   show(old.toArray++new.toArray++_).size=_
   rw[Array.size_append,Array.size_append,hzs]
   simp only[List.size_toArray,holdlen,hcells]
   rw[<-Nat.add_mul,<-Nat.add_mul]
   congr 1
   omega
  have hR:=fin w.heap.size cap (w.drew.alloc (.cells vs e)) vs e (0,0) hB hcap.1 hcap.2 ((Below.refl _ _).drew.alloc hB _) (heap_alloc_new w.drew _) hvs (λo _=>by simp) (λo ho=>by
    grind) (λb' hb' hlt=>Below.heap_alloc w.drew _ b' hlt) (.inr rfl)
  refine⟨_,_,?_,hR⟩
  have hd:=hread w.drew rfl
  have hod:=ho2 w.drew rfl
  have hfits:¬((Builtin.nextslicecap (n+m) c*i.bytes)>2^48):=by
   have:=growslice_fits (need:=n+m) (old:=c) (bytes:=by_) hneed hby
   rw[hbytes]
   omega
  have hask:∀n w',(askRoom n).run P w'= .ok () w':=λn w'=>by unfold askRoom;split<;>rfl
  have hforced:q.forced=false:=rfl
  have hchoose:(choose q).run P w= .ok cap w.drew:=by
   show(if q.forced=true then _ else _:Result Nat)=_
   rw[hforced]
   simp only[Bool.false_eq_true,if_false]
   rw[<-hq]
   rfl
  have hch:(choose (.appendCap (n+m) c e)).run P w= .ok cap w.drew:=hchoose
  have hfits':¬(2^48<Builtin.nextslicecap (n+m) c*i.bytes):=hfits
  simp only[Builtin.append_,Sem.run_bind,run_underlying hu,run_underlying hu2,AS hi,Result.andThen_ok,List.getElem?_toArray,List.getElem?_cons_zero,List.getElem?_cons_succ,Sem.run_pure,hsz,hnint,hlen,bind_assoc,pure_bind,Bool.false_eq_true,if_false]
  rw[if_neg hfit]
  have hti:∀w',(typeInfo e).run P w'= .ok i w':=λw'=>by simp[typeInfo,hi]
  have hzv:(zeroValue e).run P w.drew= .ok z w.drew:=by simp[zeroValue,typeInfo,hi,hz1]
  simp only[Sem.run_bind,Sem.run_ite,Result.andThen_ok,hti,hod,hd,hask,hch,hzv,Sem.run_pure,hfits,if_false,bind_assoc,pure_bind]
  rw[if_neg (λhh=>hnum2 hh.1)]
  simp[hti,hfits',hod,hd,hzv,hask,newRow,newObj,Sem.run]
  simp[vs]
theorem Bl.setM {H F:Af} {L:List Nat} {w':World} (S:Bl T G ⟨H,L⟩ w) (hF:F.Sublist H) {b:Nat} {ob:Ob} (hno:∀o,G.frz b o=none) (hbF:b∉F.map Prod.fst) (hbt:∀t∈L,AT G t≠some b)
  (hbel:Below G.base.heap.size w w') (hoth:∀b',b'≠b->b'<w.heap.size->w'.heap[b']?=w.heap[b']?) (hob:LW G w' b ob):Bl T G ⟨(b,ob)::F,L⟩ w':=by
 refine⟨S.below.trans hbel,S.glob,λb' o u e=>?_,S.fin,λp hp=>?_,?_,λt ht=>?_,S.tdis,λt ht g hg=>?_,S.lnd⟩
 ·by_cases hbb:b'=b
  ·subst hbb;rw[hno] at e;cases e
  ·have:=S.frz b' o u e
   rw[<-this]
   exact World.cell?_of_block (w:=w) (a:=⟨b',o,none⟩) (hoth b' hbb (S.frzlt e))
 ·rcases List.mem_cons.1 hp with rfl|hp
  ·exact hob
  ·have hO:=S.obj p (hF.subset hp)
   exact hO.world (hoth _ (λe=>hbF (by rw[<-e];exact List.mem_map_of_mem hp)) hO.lt)
 ·rw[List.map_cons,List.nodup_cons]
  exact⟨hbF,S.nd.sublist (hF.map _)⟩
 ·have hL:=S.liv t ht
  exact hL.world (λg hg=>hoth g (λe=>hbt t ht (by rw[<-e];exact hg)) (hL.lt hg))
 ·rw[List.map_cons,List.mem_cons]
  rintro(rfl|hm)
  ·exact hbt t ht hg
  ·exact S.todis t ht g hg ((hF.map _).subset hm)
def Xz (G:Gh) (k:Nat) (src:List (List AV)) (cells:List Value):Prop:=
 cells.length=src.length*k/\(∀r∈src,r.length=k)/\(∀v∈cells,v.oneCell'=true)/\∀(i:Nat) (r:List AV) (j:Nat) (a:AV),src[i]?=some r->r[j]?=some a->a.one=true/\∃v,cells[i*k+j]?=some v/\VR G a v
theorem Wt {src:List (List D)} {i:Nat} {r:List AV} (h:(As src)[i]?=some r):∃q,src[i]?=some q/\r=q.map .d:=by
 grind[As]
@[go_sem] theorem AB (src:List (List D)):(As src).length=src.length:=by simp[As]
theorem BX.a {k:Nat} {src:List (List D)} {cells:List Value} (h:BX G.frz k src cells):Xz G k (As src) cells:=
 ⟨by rw[AB];exact h.1,λr hr=>by
  obtain⟨q,hq,rfl⟩:=List.mem_map.1 hr
  rw[List.length_map];exact h.2.1 q hq,h.2.2.1,λi r j a e1 e2=>by
  obtain⟨q,h1,rfl⟩:=Wt e1
  rw[List.getElem?_map] at e2
  obtain⟨d,hd,rfl⟩:=Option.map_eq_some_iff.1 e2
  obtain⟨v,h3,h4⟩:=h.2.2.2 _ _ _ _ h1 hd
  exact⟨rfl,v,h3,.d h4⟩⟩
theorem Lt {t t2 e k by_:Nat} (ty:TypeId) (hsl:BL P t=some (e,k,by_)) (ht2:∃d,P.underlying t2=some d/\∀kk,d≠ .int kk) {b0 c0:Nat} {rows:List (List AV)} {F:Af} {L:List Nat} {src:List (List AV)} (hc0:c0=0->rows=[])
    (S:Bl T G ⟨mO b0 k c0 rows F,L⟩ w) (hfull:∀r∈rows,r.length=k) {v0:Value} (hv:VR G (mA b0 k c0 rows.length) v0) {x:Value} {new:List Value} (hnew:Xz G k src new) (hlen:∀w',(Builtin.lenOf x).run P w'= .ok src.length w')
    (hread:∀w':World,w'.heap=w.heap->(Builtin.firstCells k src.length x).run P w'= .ok new.toArray w') (h63:rows.length+src.length<=maxLen) (hby:(rows.length+src.length)*by_<=140737488355328) (hm:0<src.length):
    ∃v w',(Builtin.append_ #[t,t2] ty #[v0,x]).run P w= .ok v w'/\∃b c,0<c/\Ab b F/\Bl T G ⟨(b,⟨k,c,rows++src⟩)::F,L⟩ w'/\VR G (.arr b k (rows.length+src.length) c) v:=by
  obtain⟨_,_,_,_,_,_,hk⟩:=Ch hsl
  have hcells:new.length=src.length*k:=hnew.1
  -- what the append needs of memory
  obtain⟨A,c,old,rfl,holdlen,ho2,hcm,hA0,hA,hF,hval,hbo⟩:∃(A:Option Addr) (c:Nat) (old:List Value),v0= .slice A rows.length c/\old.length=rows.length*k/\(∀w':World,w'.heap=w.heap->(Builtin.firstCells k rows.length (.slice A rows.length c)).run P w'= .ok old.toArray w')/\c<=maxLen/\
      (A=none->c=0)/\(∀a,A=some a->0<c->∃(g:Nat) (vs:Array Value) (ety:TypeId) (fz:Nat×Nat),a=⟨g,0,none⟩/\G.base.heap.size<=g/\w.heap[g]?=some (.cells vs ety fz)/\vs.size=c*k/\
        (∀o,o<vs.size->(decide (fz.1<=o)&&decide (o<fz.2))=false)/\∀o,o<rows.length*k->vs[o]?=old[o]?)/\F.Sublist (mO b0 k c0 rows F)/\
      (∀(i:Nat) (r:List AV) (j:Nat) (a:AV),rows[i]?=some r->r[j]?=some a->a.one=true/\∃v,old[i*k+j]?=some v/\VR G a v)/\
      (∀b,A=some ⟨b,0,none⟩->0<c->(∀o,G.frz b o=none)/\b∉F.map Prod.fst/\∀t∈L,AT G t≠some b):=by
    rcases Nat.eq_zero_or_pos c0 with h0|h0
    · have hr:rows=[]:=hc0 h0
      subst hr
      subst h0
      rw[CF] at hv
      cases hv with
      | @full _ _ A hd=>
      refine⟨A,0,[],rfl,by simp,λw' _=>?_,by decide,λ_=>rfl,λa e h=>(by omega),List.Sublist.refl _,λi r j a e=>by simp at e,λb e h=>by omega⟩
      cases A<;>simp[Builtin.firstCells,loadCells,loadCellsFrom]
    · rw [AG h0] at hv
      rw[Bk h0] at S⊢
      cases hv
      have hO:=S.obj _ (List.mem_cons_self ..)
      obtain⟨vs,ety,fz,hheap,hvs,hfz,hm⟩:=hO.mem
      have hfit:=hO.fits
      dsimp only at hvs hm hheap hfit
      have hle:rows.length*k<=vs.size:=by rw[hvs];exact Nat.mul_le_mul_right _ hfit
      have hcell:∀o,o<rows.length*k->(vs.toList.take (rows.length*k))[o]?=vs[o]?:=λo ho=>by rw[List.getElem?_take_of_lt ho,Array.getElem?_toList]
      refine⟨some ⟨b0,0,none⟩,c0,vs.toList.take (rows.length*k),rfl,by simp;exact Nat.min_eq_left hle,λw' hw'=>?_,hO.cmax,(λe=>by cases e),λa e _=>?_,List.sublist_cons_self ..,λi r j a h1 h2=>?_,λb e _=>?_⟩
      · have:=run_loadCells_list (P:=P) w' ⟨b0,0,none⟩ (vs.toList.take (rows.length*k)) (λq v hv=>by
          have hq:q<rows.length*k:=by
            have:=(List.getElem?_eq_some_iff.1 hv).1
            simp at this;omega
          rw[hcell q hq] at hv
          rw[Fd,Nat.zero_add]
          have:=cell_of_row w b0 q vs ety fz hheap
          rw[hv] at this
          simpa[World.cell?,hw'] using this)
        simpa[Builtin.firstCells,Nat.min_eq_left hle] using this
      · injection e with e
        exact⟨b0,vs,ety,fz,e.symm,hO.low,hheap,hvs,hfz,λo ho=>(hcell o ho).symm⟩
      · obtain ⟨h3,v,h4,h5⟩:=hm i r j a h1 h2
        refine⟨h3,v,?_,h5⟩
        have hi:i<rows.length:=(List.getElem?_eq_some_iff.1 h1).1
        have hj:j<k:=by rw[<-hfull r (List.mem_of_getElem? h1)];exact(List.getElem?_eq_some_iff.1 h2).1
        have hlt:i*k+j<rows.length*k:=by
          calc i*k+j<i*k+k:=by omega
            _=(i+1)*k:=by rw[Nat.succ_mul]
            _<=rows.length*k:=Nat.mul_le_mul_right _ (by omega)
        rw[hcell _ hlt];exact h4
      · injection e with e
        injection e with e1
        subst e1
        refine⟨λo=>?_,(List.nodup_cons.1 S.nd).1,λt ht e=>S.todis t ht _ e (List.mem_cons_self ..)⟩
        rcases Nat.lt_or_ge o (rows.length*k) with ho|ho
        · have hi:o/k<rows.length:=Nat.div_lt_of_lt_mul (by rw[Nat.mul_comm];exact ho)
          have h1:rows[o/k]?=some rows[o/k]:=List.getElem?_eq_getElem hi
          have:=hO.free (o/k) _ (o%k) h1 (by rw[hfull _ (List.getElem_mem hi)];exact Nat.mod_lt _ hk)
          dsimp only at this
          rwa [<-Gi hk] at this
        · exact hO.rest o ho
  refine QG ty hsl ht2 S.below.size holdlen hcells hnew.2.2.1 hlen hread h63 hby hm ho2 hcm hA0 hA (R:=λv w'=> ∃b c,0<c/\Ab b F/\Bl T G ⟨(b,⟨k,c,rows++src⟩)::F,L⟩ w'/\VR G (.arr b k (rows.length+src.length) c) v) ?_
  intro b c2 w' vs ety fz hb hc2 hcm2 hbel hheap hvs hfz hsame hoth hwhere
  obtain⟨hno,hbF,hbt⟩:(∀o,G.frz b o=none)/\b∉F.map Prod.fst/\∀t∈L,AT G t≠some b:=by
    rcases hwhere with⟨e,hc⟩|e
    · exact hbo b e hc
    · subst e
      refine⟨λo=>S.nofrz (Nat.le_refl _) o,λhm=>?_,λt ht e=>?_⟩
      · obtain ⟨p,hp,e⟩:=List.mem_map.1 hm
        have:=S.fresh p (hF.subset hp)
        omega
      · have:=(S.liv t ht).lt e
        omega
  refine⟨b,c2,by omega,M0 λp hp e=>hbF (by rw[<-e];exact List.mem_map_of_mem hp),S.setM hF hno hbF hbt hbel hoth ⟨hb,λ_ _ _ _ _=>hno _,λ_ _=>hno _,λr hr=> .inl ?_,by simp;exact hc2,hcm2,vs,ety,fz,hheap,hvs,hfz,λi r j a hr ha=>?_⟩,.arr b k _ c2⟩
  · rcases List.mem_append.1 hr with hr|hr
    · exact hfull r hr
    · exact hnew.2.1 r hr
  · dsimp only at hr⊢
    have hik:∀{i n:Nat},i<n->∀{j},j<k->i*k+j<n*k:=fun {i n} hi {j} hj=>by
      calc i*k+j<i*k+k:=by omega
        _=(i+1)*k:=by rw[Nat.succ_mul]
        _<=n*k:=Nat.mul_le_mul_right _ (by omega)
    rcases Nat.lt_or_ge i rows.length with hi|hi
    · rw [List.getElem?_append_left hi] at hr
      obtain⟨h3,v,h4,h5⟩:=hval i r j a hr ha
      have hj:j<k:=by rw[<-hfull r (List.mem_of_getElem? hr)];exact(List.getElem?_eq_some_iff.1 ha).1
      have h6:=hik hi hj
      refine⟨h3,v,?_,h5⟩
      rw[hsame _ (by rw[Nat.add_mul];omega),List.getElem?_append_left (by omega)]
      exact h4
    · rw [List.getElem?_append_right hi] at hr
      obtain⟨h1,v,h3,h4⟩:=hnew.2.2.2 _ _ _ _ hr ha
      have hi2:i-rows.length<src.length:=(List.getElem?_eq_some_iff.1 hr).1
      have hj:j<k:=by rw[<-hnew.2.1 r (List.mem_of_getElem? hr)];exact(List.getElem?_eq_some_iff.1 ha).1
      have h6:=hik hi2 hj
      have h7:i*k+j=rows.length*k+((i-rows.length)*k+j):=by
        rw[<-Nat.add_assoc,<-Nat.add_mul];congr 2;omega
      refine⟨h1,v,?_,h4⟩
      rw[hsame _ (by rw[Nat.add_mul];omega),List.getElem?_append_right (by omega),holdlen,h7,Nat.add_sub_cancel_left]
      exact h3
def MX (k:Nat):Nat->List (Nat×AV)->Option (List (List AV))
 |_,[]=>some []
 |i,(j,a)::r=>if j=i/\a.cells.length=k/\a.plain=true then(match MX k (i+1) r with
  |some l=>some (a.cells::l)
  |none=>none) else none
theorem MY {k:Nat} :∀(ps:List (Nat×AV)) (qs:List (Nat×Value)) (i:Nat) (cs:Array Value) (rows:List (List AV)),cs.size=(i+ps.length)*k->qs.length=ps.length->
  (∀(j:Nat) (p:Nat×AV) (q:Nat×Value),ps[j]?=some p->qs[j]?=some q->p.1=q.1/\VR G p.2 q.2)->MX k i ps=some rows->
   ∃vs',Instr.fill (λi=>some (i*k,k)) cs qs=some vs'/\vs'.size=cs.size/\(∀j,j<i*k->vs'[j]?=cs[j]?)/\rows.length=ps.length/\(∀r∈rows,r.length=k)/\
    ∀(n:Nat) (r:List AV) (j:Nat) (d:AV),rows[n]?=some r->r[j]?=some d->d.one=true/\∃v,vs'[(i+n)*k+j]?=some v/\VR G d v
 |[],[],i,cs,rows,hs,_,_,e=>by
  simp[MX] at e
  subst e
  exact⟨cs,rfl,rfl,λ_ _=>rfl,rfl,by simp,λn r j d h=>by simp at h⟩
 | (j0,a)::ps,(j1,v)::qs,i,cs,rows,hs,hl,hp,e=>by
  obtain⟨h0,hv⟩:=hp 0 _ _ rfl rfl
  dsimp only at h0 hv
  subst h0
  unfold MX at e
  split at e
  ·rename_i hc
   obtain⟨rfl,hk,hplain⟩:=hc
   split at e
   ·rename_i l hr
    injection e with e
    subst e
    have hcells:=hv.cells hplain
    have hsz:v.cells.size=k:=by rw[<-hk,<-hcells.1];simp
    have hxl:a.cells.length=k:=hk
    have hsz':cs.size=(j0+(ps.length+1))*k:=by simpa using hs
    have hle:j0*k+k<=cs.size:=by rw[hsz',<-Nat.succ_mul];exact Nat.mul_le_mul_right _ (by omega)
    have hset:=KA v.cells.toList 0 (j0*k) cs (by simp[hsz];exact hle)
    obtain⟨vs',g1,g2,g3,g4,g5,g6⟩:=MY ps qs (j0+1) (v.cells.zipIdx.foldl (λcs (c,j)=>cs.setIfInBounds (j0*k+j) c) cs) l (by
      have:=congrArg List.length hset
      rw[<-Array.foldl_toList,Array.toList_zipIdx]
      rw[Array.length_toList] at this
      rw[this]
      simp[hsz]
      rw[hsz'] at hle⊢
      have e1:(j0+1+ps.length)*k=(j0+(ps.length+1))*k:=by rw[show j0+1+ps.length=j0+(ps.length+1) by omega]
      omega) (by simpa using hl) (λi p q h1 h2=>hp (i+1) p q (by simpa using h1) (by simpa using h2)) hr
    have hnew:∀j:Nat,(v.cells.zipIdx.foldl (λcs (c,j)=>cs.setIfInBounds (j0*k+j) c) cs)[j]?=(cs.toList.take (j0*k)++(v.cells.toList++cs.toList.drop (j0*k+k)))[j]?:=λj=>by
     have:=congrArg (λl:List Value=>l[j]?) hset
     rw[<-Array.foldl_toList,Array.toList_zipIdx,<-Array.getElem?_toList]
     simpa[hsz] using this
    have hsize:(v.cells.zipIdx.foldl (λcs (c,j)=>cs.setIfInBounds (j0*k+j) c) cs).size=cs.size:=by
     have:=congrArg List.length hset
     rw[<-Array.foldl_toList,Array.toList_zipIdx]
     grind
    refine⟨vs',?_,by rw[g2,hsize],λj hj=>?_,by simp[g4],?_,λn r j d e1 e2=>?_⟩
    ·simp only[Instr.fill]
     grind
    ·rw[g3 j (by rw[Nat.succ_mul];omega),hnew,List.getElem?_append_left (by simp;omega),List.getElem?_take_of_lt hj,Array.getElem?_toList]
    ·all_goals grind
    ·cases n with
     |zero=>
      simp only[List.getElem?_cons_zero,Option.some.injEq] at e1
      subst e1
      have hj:j<k:=by rw[<-hk];exact(List.getElem?_eq_some_iff.1 e2).1
      have hvj:v.cells.toList[j]?=some (v.cells.toList[j]'(by simp[hsz];exact hj)):=List.getElem?_eq_getElem _
      refine⟨In hplain d (List.mem_of_getElem? e2),_,?_,hcells.2 j d _ e2 hvj⟩
      grind
     |succ n=>
      grind
   ·cases e
  ·cases e
 |[],_::_,_,_,_,_,hl,_,_=>by simp at hl
 |_::_,[],_,_,_,_,hl,_,_=>by simp at hl
theorem Ac0 {b k n c:Nat} {ob:Ob} (S:Bl T G h w) (hg:(b,ob)∈h.objs) (hk:ob.k=k) (hn:n=ob.rows.length) (hfull:∀r∈ob.rows,r.length=k) (hk0:0<k) {v:Value} (hv:VR G (.arr b k n c) v):
    ∃new,Xz G k ob.rows new/\(∀w',(Builtin.lenOf v).run P w'= .ok ob.rows.length w')/\∀w':World,w'.heap=w.heap->(Builtin.firstCells k ob.rows.length v).run P w'= .ok new.toArray w':=by
  subst hk hn
  have hO:=S.obj _ hg
  obtain⟨vs,ety,fz,hheap,hvs,hfz,hm⟩:=hO.mem
  have hfit:=hO.fits
  dsimp only at hvs hm hheap hfit
  have hle:ob.rows.length*ob.k<=vs.size:=by rw[hvs];exact Nat.mul_le_mul_right _ hfit
  have hcell:∀o,o<ob.rows.length*ob.k->(vs.toList.take (ob.rows.length*ob.k))[o]?=vs[o]?:=λo ho=>by rw[List.getElem?_take_of_lt ho,Array.getElem?_toList]
  have hlt:∀(i:Nat) (r:List AV) (j:Nat) (a:AV),ob.rows[i]?=some r->r[j]?=some a->i*ob.k+j<ob.rows.length*ob.k:=λi r j a h1 h2=>by
    have hi:i<ob.rows.length:=(List.getElem?_eq_some_iff.1 h1).1
    have hj:j<ob.k:=by rw[<-hfull r (List.mem_of_getElem? h1)];exact(List.getElem?_eq_some_iff.1 h2).1
    calc i*ob.k+j<i*ob.k+ob.k:=by omega
      _=(i+1)*ob.k:=by rw[Nat.succ_mul]
      _<=ob.rows.length*ob.k:=Nat.mul_le_mul_right _ (by omega)
  cases hv
  refine⟨vs.toList.take (ob.rows.length*ob.k),⟨by simp;exact Nat.min_eq_left hle,hfull,λv hv=>?_,λi r j a h1 h2=>?_⟩,λw'=>rfl,λw' hw'=>?_⟩
  · obtain ⟨o,ho⟩:=List.mem_iff_getElem?.1 hv
    have hol:o<ob.rows.length*ob.k:=by
      have:=(List.getElem?_eq_some_iff.1 ho).1
      simp at this;omega
    have hi:o/ob.k<ob.rows.length:=Nat.div_lt_of_lt_mul (by rw[Nat.mul_comm];exact hol)
    have h1:ob.rows[o/ob.k]?=some ob.rows[o/ob.k]:=List.getElem?_eq_getElem hi
    have hj:o%ob.k<ob.rows[o/ob.k].length:=by rw[hfull _ (List.getElem_mem hi)];exact Nat.mod_lt _ hk0
    obtain⟨g1,u,g2,g3⟩:=hm _ _ _ _ h1 (List.getElem?_eq_getElem hj)
    rw[<-Gi hk0] at g2
    rw[hcell o hol,g2] at ho
    injection ho with ho
    rw[<-ho];exact g3.one g1
  · obtain ⟨g1,u,g2,g3⟩:=hm i r j a h1 h2
    exact⟨g1,u,by rw[hcell _ (hlt i r j a h1 h2)];exact g2,g3⟩
  · have:=run_loadCells_list (P:=P) w' ⟨b,0,none⟩ (vs.toList.take (ob.rows.length*ob.k)) (λq v hv=>by
      have hq:q<ob.rows.length*ob.k:=by
        have:=(List.getElem?_eq_some_iff.1 hv).1
        simp at this;omega
      rw[hcell q hq] at hv
      rw[Fd,Nat.zero_add]
      have:=cell_of_row w b q vs ety fz hheap
      rw[hv] at this
      simpa[World.cell?,hw'] using this)
    simpa[Builtin.firstCells,Nat.min_eq_left hle] using this
variable {sl:List AV} {ops:Array Oper} {rest:List Oper} {o:Oper} {K:List AV->AH->Prop} {X:AV->AH->Prop} {cp:Bool} {Q:AQ}
theorem Di {s x:Operand} {t t2 e k by_ b0 c0:Nat} {rows:List (List AV)} {F:Af} {L:List Nat} {src:List (List D)} {k':Nat} (ho:o.op= .call {callee:= .builtin .append,args:= #[s,x],argTypes:= #[t,t2]}) (hg:o.guard=none) (hs:ev T sl s=mA b0 k c0 rows.length) (hh:h=⟨mO b0 k c0 rows F,L⟩) (hc0:c0=0->rows=[]) (hx:TL (ev T sl x)=some (k',src))
  (hsl:BL P t=some (e,k,by_)) (ht2:(P.underlying t2).isSome=true) (hti:Hv P t2=none) (hfull:∀r∈rows,r.length=k) (hkk:k'=k) (hm:0<src.length) (h63:rows.length+src.length<=9223372036854775807) (hby:(rows.length+src.length)*by_<=140737488355328)
  (kk:∀b c,0<c->Ab b F->lvc P T cp ops rest (AO o.dst (.arr b k (rows.length+src.length) c) sl) ⟨(b,⟨k,c,rows++As src⟩)::F,L⟩ K X):DW P T cp ops (o::rest) sl h K X:=by
 subst hh
 unfold DW
 rw[if_pos (E5 ho hg)]
 refine⟨hg,λG w a S hv Kc Q hK _=>?_⟩
 obtain⟨_,_,_,_,_,_,hk⟩:=Ch hsl
 have hvs:=hv s (by simp[ho,Op.operands,Call.operands])
 have hvx:=hv x (by simp[ho,Op.operands,Call.operands])
 rw[hs] at hvs
 obtain⟨new,h1,h2,h3⟩:=TM (P:=P) hk hx (.inl hkk) S hvx
 obtain⟨d2,hd2⟩:=Option.isSome_iff_exists.1 ht2
 obtain⟨v,w',hrun,b,c2,hcp,hfr,S',hv'⟩:=Lt (src:=As src) o.type hsl ⟨d2,hd2,λkk e=>by unfold Hv at hti;rw[hd2,e] at hti;cases hti⟩ hc0 S hfull hvs h1.a (by rw[AB];exact h2) (by rw[AB];exact h3) (by rw[AB];unfold maxLen;omega) (by rw[AB];exact hby) (by rw[AB];exact hm)
 have hrun':(execOp a.eval o).run P w= .ok (.value v) w':=by
  unfold execOp
  simp only[ho,resolve,invoke,builtin,Sem.run_bind,Sem.run_pure,Result.andThen_ok,List.map_toArray,List.map_cons,List.map_nil,hrun]
 unfold Oper.wp
 rw[hrun']
 exact hK _ _ G v w' (AN rest _ _ (kk b c2 hcp hfr)) (B8.refl G) S' (by simpa[AB] using hv')
theorem FY {s x:Operand} {t t2 e k by_ b0 c0:Nat} {rows:List (List AV)} {F:Af} {L:List Nat} {b1 k1 n1 c1:Nat} {ob1:Ob} (ho:o.op= .call {callee:= .builtin .append,args:= #[s,x],argTypes:= #[t,t2]}) (hg:o.guard=none) (hs:ev T sl s=mA b0 k c0 rows.length) (hh:h=⟨mO b0 k c0 rows F,L⟩) (hc0:c0=0->rows=[]) (hx:ev T sl x= .arr b1 k1 n1 c1) (hg1:A9 b1 F=some ob1) (hn1:n1=ob1.rows.length) (hk1:ob1.k=k1) (hfull1:∀r∈ob1.rows,r.length=k)
  (hsl:BL P t=some (e,k,by_)) (ht2:(P.underlying t2).isSome=true) (hti:Hv P t2=none) (hfull:∀r∈rows,r.length=k) (hkk:k1=k) (hm:0<ob1.rows.length) (h63:rows.length+ob1.rows.length<=9223372036854775807) (hby:(rows.length+ob1.rows.length)*by_<=140737488355328)
  (kk:∀b c,0<c->Ab b F->lvc P T cp ops rest (AO o.dst (.arr b k (rows.length+ob1.rows.length) c) sl) ⟨(b,⟨k,c,rows++ob1.rows⟩)::F,L⟩ K X):DW P T cp ops (o::rest) sl h K X:=by
 subst hh
 unfold DW
 rw[if_pos (E5 ho hg)]
 refine⟨hg,λG w a S hv Kc Q hK _=>?_⟩
 obtain⟨_,_,_,_,_,_,hk⟩:=Ch hsl
 have hvs:=hv s (by simp[ho,Op.operands,Call.operands])
 have hvx:=hv x (by simp[ho,Op.operands,Call.operands])
 rw[hs] at hvs
 subst hkk
 rw[hx] at hvx
 have hmem:(b1,ob1)∈mO b0 k1 c0 rows F:=by
  all_goals grind[mO,De]
 obtain⟨new,h1,h2,h3⟩:=Ac0 (P:=P) S hmem hk1 hn1 hfull1 hk hvx
 obtain⟨d2,hd2⟩:=Option.isSome_iff_exists.1 ht2
 obtain⟨v,w',hrun,b,c2,hcp,hfr,S',hv'⟩:=Lt (src:=ob1.rows) o.type hsl ⟨d2,hd2,λkk e=>by unfold Hv at hti;rw[hd2,e] at hti;cases hti⟩ hc0 S hfull hvs h1 h2 h3 (by unfold maxLen;omega) hby hm
 have hrun':(execOp a.eval o).run P w= .ok (.value v) w':=by
  unfold execOp
  simp only[ho,resolve,invoke,builtin,Sem.run_bind,Sem.run_pure,Result.andThen_ok,List.map_toArray,List.map_cons,List.map_nil,hrun]
 unfold Oper.wp
 rw[hrun']
 exact hK _ _ G v w' (AN rest _ _ (kk b c2 hcp hfr)) (B8.refl G) S' hv'
theorem Kp {t len k e by_:Nat} {ps:Array (Nat×Operand)} {rows:List (List AV)} (ho:o.op= .buildSlice t len ps) (hg:o.guard=none) (hsl:BL P t=some (e,k,by_)) (hr:MX k 0 (ps.toList.map λp=>(p.1,ev T sl p.2))=some rows) (hl:ps.size=len) (hb:len*k<=16777216)
  (hl0:0<rows.length) (kk:∀b,Ab b h.objs->lvc P T false ops rest (AO o.dst (.arr b k rows.length rows.length) sl) ⟨(b,⟨k,rows.length,rows⟩)::h.objs,h.live⟩ K X) (he:BP false o=true:=by rfl):DW P T false ops (o::rest) sl h K X:=by
 subst hl
 unfold DW
 rw[if_pos he]
 refine⟨hg,λG w a S hv Kc Q hK _=>?_⟩
 obtain⟨i,hu,hi,hsz,_,hz,hk⟩:=Ch hsl
 obtain⟨z,hz1,hz2⟩:=Option.map_eq_some_iff.1 hz
 obtain⟨ps⟩:=ps
 have hp:=JS (G:=G) (ρ:=ev T sl) (e:=a.eval) (l:=ps) (λx hx=>hv x (by simpa[ho,Op.operands] using hx))
 obtain⟨vs',h1,h2,_,h4,h5,h6⟩:=MY (G:=G) (ps.map λp=>(p.1,ev T sl p.2)) (ps.map λp=>(p.1,a.eval p.2)) 0 ((Array.range (ps.length*k)).map (z.cells[· %z.cells.size]!)) rows (by simp) (by simp) hp hr
 have hsz':vs'.size=ps.length*k:=by rw[h2];simp
 simp only[List.size_toArray] at hb
 have hml:ps.length<=maxLen:=by
  rcases Nat.eq_zero_or_pos ps.length with h0|h0
  ·rw[h0];decide
  ·have:ps.length*1<=ps.length*k:=Nat.mul_le_mul_left _ hk
   unfold maxLen
   omega
 have hrl:rows.length=ps.length:=by simpa using h4
 have S':=S.alloc ⟨k,rows.length,rows⟩ vs' e (0,0) h5 (Nat.le_refl _) (by dsimp only;omega) (by dsimp only;rw[hrl];exact hsz') (λo _=>by simp) (λi r j a e1 e2=>by simpa using h6 i r j a e1 e2)
 have hrun:(execOp a.eval o).run P w= .ok (.value (.slice (some ⟨w.heap.size,0,none⟩) ps.length ps.length)) (w.alloc (.cells vs' e)):=by
  unfold execOp
  simp only[ho]
  simp only[Instr.buildSlice,Sem.run_bind,run_underlying hu,Result.andThen_ok,AS hi,hsz,List.size_toArray]
  rw[if_neg (by omega)]
  rcases Nat.eq_zero_or_pos ps.length with h0|h0
  ·grind
  ·have hne:ps.length*k≠0:=Nat.mul_ne_zero (by omega) (by omega)
   rw[if_neg hne]
   simp only[zeroValue,typeInfo,Sem.run_bind,bind_assoc,pure_bind]
   simp[program,Sem.run,hi,hz1]
   have h1':Instr.fill (λi=>some (i*k,k)) (Array.map (λx=>z.cells[x%z.cells.size]!) (Array.range (ps.length*k))) (ps.map λp=>(p.1,a.eval p.2))=some vs':=h1
   rw[h1']
   simp[newRow,newObj,Sem.run]
 unfold Oper.wp
 rw[hrun]
 have hval:VR G (.arr w.heap.size k rows.length rows.length) (.slice (some ⟨w.heap.size,0,none⟩) ps.length ps.length):=by rw[hrl];exact .arr ..
 exact hK _ _ G _ _ (AN _ _ _ (kk w.heap.size (Ig S.fresh))) (B8.refl G) S' hval
theorem Bl.ownM (P:Program) {b k c:Nat} {rows:List (List D)} {F:Af} {L:List Nat} (S:Bl T G ⟨(b,⟨k,c,As rows⟩)::F,L⟩ w) (hk:0<k) (hfull:∀r∈rows,r.length=k):
    ∃G':Gh,B8 G G'/\Bl T G' ⟨F,G.nt::L⟩ w/\VR G' (.own G.nt k rows) (.slice (some ⟨b,0,none⟩) rows.length c)/\Ae G.nt L:=by
  have hO:=S.obj _ (List.mem_cons_self ..)
  obtain⟨vs,ety,fz,hheap,hvs,hfz,hm⟩:=hO.mem
  have hcm:=hO.cmax
  have hrest:=hO.rest
  have hfree:=hO.free
  have hlow:=hO.low
  have h1:=hO.fits
  dsimp only at hvs hm hcm hrest hlow hheap h1 hfree
  have hlenr:(As rows).length=rows.length:=by simp[As]
  rw[hlenr] at hrest h1
  have hsz:rows.length*k<=vs.size:=by rw[hvs];exact Nat.mul_le_mul_right _ h1
  have hget:∀(i:Nat) (r:List D),rows[i]?=some r->(As rows)[i]?=some (r.map .d):=λi r h=>by unfold As;rw[List.getElem?_map,h];rfl
  have hno:∀o,G.frz b o=none:=λo=>by
    rcases Nat.lt_or_ge o (rows.length*k) with ho|ho
    · have hi:o/k<rows.length:=Nat.div_lt_of_lt_mul (by rw[Nat.mul_comm];exact ho)
      have:=hfree (o/k) _ (o%k) (hget _ _ (List.getElem?_eq_getElem hi)) (by rw[List.length_map,hfull _ (List.getElem_mem hi)];exact Nat.mod_lt _ hk)
      rwa [<-Gi hk] at this
    · exact hrest o ho
  have hbF:b∉F.map Prod.fst:=(List.nodup_cons.1 S.nd).1
  have hbt:∀t∈L,AT G t≠some b:=λt ht e=>S.todis t ht b e (List.mem_cons_self ..)
  have hnt:∀t∈L,t≠G.nt:=λt ht e=>by
    obtain⟨_,e2⟩:=(S.liv _ ht).any
    rw[S.fin t (by omega)] at e2
    cases e2
  let F':Js:=λb' o=>if b'=b then(if o<rows.length*k then vs[o]? else none) else G.frz b' o
  let G':Gh:= {base:=G.base,frz:=F',tok:=λt=>if t=G.nt then some (k,.slice (some ⟨b,0,none⟩) rows.length c) else G.tok t,nt:=G.nt+1 }
  have hF:∀b' o u,G.frz b' o=some u->F' b' o=some u:=λb' o u e=>by
    show(if b'=b then _ else _)=_
    by_cases hbb:b'=b
    · subst hbb;rw[hno] at e;cases e
    · rw [if_neg hbb];exact e
  have hG:B8 G G':=⟨rfl,hF,λb' o u e=>by
    have e':(if b'=b then(if o<rows.length*k then vs[o]? else none) else G.frz b' o)=some u:=e
    by_cases hbb:b'=b
    · exact .inr (by rw[hbb];exact hlow)
    · rw [if_neg hbb] at e';exact .inl e',λt x e=>by
    show(if t=G.nt then _ else _)=_
    rw[if_neg (λe'=>by rw[S.fin t (by omega)] at e;cases e)]
    exact e⟩
  have hne_b:∀b',b'≠b->∀o,G.frz b' o=none->F' b' o=none:=λb' hb' o e=>by
    show(if b'=b then _ else _)=_
    rw[if_neg hb'];exact e
  have hcell:∀(i:Nat) (r:List D) (j:Nat) (x:D),rows[i]?=some r->r[j]?=some x->∃v,vs[i*k+j]?=some v/\VD F' x v:=λi r j x h2 h3=>by
    obtain⟨_,v,h4,h5⟩:=hm i _ j (.d x) (hget i r h2) (by rw[List.getElem?_map,h3];rfl)
    cases h5 with
    |d h5=>exact⟨v,h4,h5.mono hF⟩
  have htk:∀o,o<rows.length*k->(vs.toList.take (rows.length*k))[o]?=vs[o]?:=λo ho=>by rw[List.getElem?_take_of_lt ho,Array.getElem?_toList]
  have hCR:BX F' k rows (vs.toList.take (rows.length*k)):=by
    refine⟨by simp;exact Nat.min_eq_left hsz,hfull,λv hv=>?_,λi r j x h2 h3=>?_⟩
    · obtain ⟨q,hq,rfl⟩:=List.getElem_of_mem hv
      have hq':q<rows.length*k:=by simp at hq;omega
      have hi:q/k<rows.length:=Nat.div_lt_of_lt_mul (by rw[Nat.mul_comm];exact hq')
      have hj:q%k<rows[q/k].length:=by rw[hfull _ (List.getElem_mem hi)];exact Nat.mod_lt _ hk
      obtain⟨v,h4,h5⟩:=hcell (q/k) _ (q%k) _ (List.getElem?_eq_getElem hi) (List.getElem?_eq_getElem hj)
      rw[<-Gi hk] at h4
      have:=htk q hq'
      rw[List.getElem?_eq_getElem hq,h4] at this
      injection this with this
      rw[this];exact h5.one
    · obtain ⟨v,h4,h5⟩:=hcell i r j x h2 h3
      have hi:i<rows.length:=(List.getElem?_eq_some_iff.1 h2).1
      have hj:j<k:=by rw[<-hfull r (List.mem_of_getElem? h2)];exact(List.getElem?_eq_some_iff.1 h3).1
      have hlt:i*k+j<rows.length*k:=by
        calc i*k+j<i*k+k:=by omega
          _=(i+1)*k:=by rw[Nat.succ_mul]
          _<=rows.length*k:=Nat.mul_le_mul_right _ (by omega)
      exact⟨v,by rw[htk _ hlt];exact h4,h5⟩
  have hVD:VD F' (.slc k rows) (.slice (some ⟨b,0,none⟩) rows.length c):=VD.of_cells hCR (λo u hu=>by
    have hlt:o<rows.length*k:=by
      have:=(List.getElem?_eq_some_iff.1 hu).1
      simp at this;omega
    show(if b=b then(if o<_ then vs[o]? else none) else _)=_
    rw[if_pos rfl,if_pos hlt,<-htk o hlt]
    exact hu) h1 hcm
  have hblk:∀t∈L,AT G' t=AT G t:=λt ht=>CD hG (S.liv t ht)
  have hnewblk:∀g,AT G' G.nt=some g->g=b:=λg hg=>by
    unfold AT at hg
    have e1:G'.tok G.nt=some (k,Value.slice (some ⟨b,0,none⟩) rows.length c):=by show(if G.nt=G.nt then _ else _)=_;rw[if_pos rfl]
    rw[e1] at hg
    dsimp only at hg
    split at hg
    · injection hg with hg;exact hg.symm
    · cases hg
  have htok:G'.tok G.nt=some (k,.slice (some ⟨b,0,none⟩) rows.length c):=by show(if G.nt=G.nt then _ else _)=_;rw[if_pos rfl]
  refine⟨G',hG,?_,.own hVD htok,Dm hnt⟩
  refine⟨S.below,λg j x hx=>?_,λb' o u e=>?_,λt ht=>?_,λp hp=>?_,(List.nodup_cons.1 S.nd).2,λt ht=>?_,?_,λt ht g hg=>?_,List.nodup_cons.2 ⟨λhm=>hnt _ hm rfl,S.lnd⟩⟩
  · obtain ⟨u,h2,h3⟩:=S.glob g j x hx
    exact⟨u,hF _ _ _ h2,h3.mono hF⟩
  · have e':(if b'=b then(if o<rows.length*k then vs[o]? else none) else G.frz b' o)=some u:=e
    by_cases hbb:b'=b
    · subst hbb
      rw[if_pos rfl] at e'
      split at e'
      · rw [cell_of_row _ _ _ vs ety fz hheap];exact e'
      · cases e'
    · rw [if_neg hbb] at e'
      exact S.frz b' o u e'
  · show (if t=G.nt then _ else _)=_
    have ht':G.nt+1<=t:=ht
    rw[if_neg (by omega)]
    exact S.fin t (by omega)
  · have hO:=S.obj p (List.mem_cons_of_mem _ hp)
    have hpb:p.1≠b:=λe=>hbF (by rw[<-e];exact List.mem_map_of_mem hp)
    exact hO.mono hG (λo ho=>hne_b _ hpb o ho)
  · rcases List.mem_cons.1 ht with rfl|ht
    · exact .ofMem ⟨k,rows.length,c,some ⟨b,0,none⟩,htok,h1,hcm,hk,(λe=>by cases e),λa ha _=>by
        injection ha with ha
        exact⟨b,vs,ety,fz,ha.symm,hlow,hheap,hvs,hfz,λo ho=>by
          show(if b=b then(if o<_ then _ else none) else _)=none
          rw[if_pos rfl,if_neg (by omega)]⟩⟩
    · exact (S.liv t ht).mono hG (λg hg o ho=>hne_b g (λe=>hbt t ht (by rw[<-e];exact hg)) o ho)
  · refine List.pairwise_cons.2 ⟨λt ht g h2 h3=>?_,S.tdis.imp_of_mem fun {a b'} ha hb' hd g h2 h3=>hd g (by rw[<-hblk a ha];exact h2) (by rw[<-hblk b' hb'];exact h3)⟩
    have h2:=hnewblk _ h2
    subst h2
    rw[hblk t ht] at h3
    exact hbt t ht h3
  · rcases List.mem_cons.1 ht with rfl|ht
    · have hg:=hnewblk _ hg
      subst hg
      exact hbF
    · rw [hblk t ht] at hg
      exact λhm=>S.todis t ht g hg (List.mem_cons_of_mem _ hm)
theorem VR.ownM {G':Gh} {b k c t:Nat} {rows:List (List D)} (h:VR G' (.own t k rows) (.slice (some ⟨b,0,none⟩) rows.length c)):∀v,VR G' (.arr b k rows.length c) v->VR G' (.own t k rows) v:=λv hv=>by
 cases hv
 exact h
theorem NF {code:Code} {b b' i j k n c:Nat} {rows:List (List D)} {F:Af} {L:List Nat} {ob:Ob} {r:List AV} (hg:A9 b' F=some ob) (hr:ob.rows[i]?=some r) (hj:r[j]?=some (.arr b k n c)) (hn:n=rows.length) (hk:0<k) (hfull:∀r∈rows,r.length=k)
  (H:∀t,Ae t L->Aa P T code Q sl ⟨C8 b' ⟨ob.k,ob.c,ob.rows.set i (r.set j (.own t k rows))⟩ F,t::L⟩):Aa P T code Q sl ⟨(b,⟨k,c,As rows⟩)::F,L⟩:=by
 intro G w a S R
 subst hn
 obtain⟨_,_,_,_,_,_,g4⟩:=(S.obj _ (List.mem_cons_of_mem _ (De hg))).mem
 obtain⟨_,v,_,hv⟩:=g4 i r j _ hr hj
 obtain⟨G',hG,S',hown,hfr⟩:=S.ownM P hk hfull
 have S2:=S'.recell hg hr hj (a':= .own G.nt k rows) rfl (VR.ownM hown)
 exact wp_mono (H G.nt hfr G' w a S2 (R.mono hG)) λe a' w' hh=>hh.mono hG (λ_ _ _ q=>q)
theorem V7 {code:Code} {N:Nat} {l:SL} {df:AV} (i:Nat) {b k n c:Nat} {rows:List (List D)} {F:Af} {L:List Nat} (hi:Bd df i l= .arr b k n c) (hN:Nat.blt i N=true) (hn:n=rows.length) (hk:0<k) (hfull:∀r∈rows,r.length=k)
  (H:∀t,Ae t L->Aa P T code Q (Ct df (EI i (.own t k rows) l) N 0) ⟨F,t::L⟩):Aa P T code Q (Ct df l N 0) ⟨(b,⟨k,c,As rows⟩)::F,L⟩:=by
 intro G w a S R
 subst hn
 have hsl:(Ct df l N 0)[i]?=some (.arr b k rows.length c):=by rw[CS _ _ _ _ _ (by simpa[Nat.blt_eq] using hN),Nat.zero_add,hi]
 obtain⟨v,hv0,hv⟩:=R.2 i _ hsl
 obtain⟨G',hG,S',hown,hfr⟩:=S.ownM P hk hfull
 have R':Dz G' (Ct df (EI i (.own G.nt k rows) l) N 0) a.tmps:=by
  rw[<-GH]
  refine⟨by rw[List.length_set];exact R.1,λj x hx=>?_⟩
  by_cases hij:i=j
  ·subst hij
   rw[List.getElem?_set_self (List.getElem?_eq_some_iff.1 hsl).1] at hx
   injection hx with hx
   subst hx
   exact⟨_,hv0,VR.ownM hown v (hv.mono hG)⟩
  ·rw[List.getElem?_set_ne hij] at hx
   exact(R.mono hG).2 j x hx
 exact wp_mono (H G.nt hfr G' w a S' R') λe a' w' hh=>hh.mono hG (λ_ _ _ q=>q)
end
end
section
open Go.RowKit
section
variable {P:Program} {T:Ap} {c:Code} {Q:AQ} {h:AH}
theorem LP {N:Nat} {l:SL} {df:AV} (i:Nat) (a':AV) (hl:Aj true (Bd df i l) a') (hN:Nat.blt i N=true) (H:Aa P T c Q (Ct df (EI i a' l) N 0) h):Aa P T c Q (Ct df l N 0) h:=by
 intro G w a S R
 have hsl:(Ct df l N 0)[i]?=some (Bd df i l):=by rw[CS _ _ _ _ _ (by simpa[Nat.blt_eq] using hN),Nat.zero_add]
 refine H G w a S ?_
 rw[<-GH]
 refine⟨by rw[List.length_set];exact R.1,λj x hx=>?_⟩
 by_cases hij:i=j
 ·subst hij
  rw[List.getElem?_set_self (List.getElem?_eq_some_iff.1 hsl).1] at hx
  injection hx with hx
  subst hx
  obtain⟨v,hv0,hv⟩:=R.2 i _ hsl
  exact⟨v,hv0,hl.okT hv⟩
 ·rw[List.getElem?_set_ne hij] at hx
  exact R.2 j x hx
theorem Aa.nd {sl:List AV} (H:(h.objs.map Prod.fst).Nodup->Aa P T c Q sl h):Aa P T c Q sl h:=λG w a S R=>H S.nd G w a S R
end
end
section
open Go.RowKit
section
variable {P:Program} {T:Ap} {Q:AQ}
theorem X1 {code:Code} {N:Nat} {l:SL} {df:AV} (i:Nat) {b k c:Nat} (rows:List (List D)) {F:Af} {L:List Nat} (hi:Bd df i l= .ptr b k 0 0) (hN:Nat.blt i N=true) (h0:0<rows.length) (hk:0<k) (hfull:∀r∈rows,r.length=k)
  (H:Aa P T code Q (Ct df (EI i (.elt k rows 0 0) l) N 0) ⟨F,L⟩):Aa P T code Q (Ct df l N 0) ⟨(b,⟨k,c,As rows⟩)::F,L⟩:=by
 intro G w a S R
 have hsl:(Ct df l N 0)[i]?=some (.ptr b k 0 0):=by rw[CS _ _ _ _ _ (by simpa[Nat.blt_eq] using hN),Nat.zero_add,hi]
 obtain⟨v,hv0,hv⟩:=R.2 i _ hsl
 obtain⟨G',hG,S',hown,hfr⟩:=S.ownM P hk hfull
 have helt:VR G' (.elt k rows 0 0) v:=by
  cases hv
  cases hown with
  | own hd _=>
   obtain⟨A,c',e,_,_,_,_,hx⟩:=hd.slc_inv
   obtain⟨b',off,val,hA,hx⟩:=hx h0
   injection e with e1 e2 e3
   rw[hA] at e1
   injection e1 with e1
   injection e1 with e1 e4
   subst e1 e4
   have:=VR.elt (G:=G') k rows 0 0 b 0 (λj=>val 0 j) rows[0] (List.getElem?_eq_getElem h0) (λj x hj=>by
    have:=(hx 0 rows[0] j x (List.getElem?_eq_getElem h0) hj).1
    simpa using this) (λj x hj=>(hx 0 rows[0] j x (List.getElem?_eq_getElem h0) hj).2)
   simpa using this
 have R':Dz G' (Ct df (EI i (.elt k rows 0 0) l) N 0) a.tmps:=by
  rw[<-GH]
  refine⟨by rw[List.length_set];exact R.1,λj x hx=>?_⟩
  by_cases hij:i=j
  ·grind
  ·rw[List.getElem?_set_ne hij] at hx
   exact(R.mono hG).2 j x hx
 have S2:=S'.drop (h':=⟨F,L⟩) (List.Sublist.refl _) (List.sublist_cons_self ..)
 exact wp_mono (H G' w a S2 R') λe a' w' hh=>hh.mono hG (λ_ _ _ q=>q)
end
end
section
open Go.RowKit
section
variable {P:Program} {T:Ap} {ops:Array Oper} {K:List AV->AH->Prop} {X:AV->AH->Prop} {o:Oper} {rest:List Oper} {sl:List AV} {h:AH}
theorem DW.listB {cp:Bool} (post:List Oper):∀(pre:List Oper) (sl:List AV) (h:AH),DW P T cp ops pre sl h (λs h=>LV P T ops post s h K X) X->LV P T ops (pre++post) sl h K X
 |[],sl,h,H=>H
 | o::rest,sl,h,H=>by
  intro G0 G w a ds hG S R hd
  unfold DW at H
  split at H
  ·obtain⟨hg,H⟩:=H
   refine wpList_plain hg λK' hK'=>H G w a S (λx _=>F4 S R x) K' _ (λr h' G' u w' hr hG' S' hu=>?_) (λp h' G' u w' hp hG' S' hu=>?_)
   ·exact hK' _ _ (DW.listB post rest _ _ hr G0 G' w' _ ds (hG.trans hG') S' ((R.mono hG').put hu o.dst) (by rw[Bv];exact hd))
   ·exact⟨hd,.pan p,sl,h',G',hp,⟨u,rfl,hu⟩,hG.trans hG',S',R.mono hG'⟩
  ·obtain⟨v,hy,_,hr⟩:=H
   refine wpList_step λK' hK'=>hy.run S R λG' u w' hG' S' hu=>?_
   exact hK' _ _ (DW.listB post rest _ _ hr G0 G' w' _ ds (hG.trans hG') S' ((R.mono hG').put hu o.dst) (by rw[Bv];exact hd))
theorem Qw {cp:Bool} {g:Nat×Bool} (hg:o.guard=some g) (ht:U8 ops sl g.1 g.2=some false) (k:Go.Proofs.YtidldcfpmehpiaaGreatDoor.lvc P T cp ops rest (AO o.dst (.cnd false .undef) sl) h K X):DW P T cp ops (o::rest) sl h K X:=by
 grind[DW,BP,Yg,AN]
theorem LV.lvc {l:List Oper} (H:lvc P T false ops l sl h K X):LV P T ops l sl h K X:=Jp l sl h (AN l sl h H)
theorem LV.leH {l:List Oper} {h':AH} (p:BO h h') (H:LV P T ops l sl h' K X):LV P T ops l sl h K X:=λG0 G w a ds hG S R hd=>H G0 G w a ds hG (p _ _ _ S) R hd
theorem Q2 {c:Call} {fo:Operand} {f:FuncId} {cap args:List AV} {g:Nat×Bool} {h0:AH} {R:AR->AH->Prop} (ho:o.op= .call c) (hg:o.guard=some g) (ht:U8 ops sl g.1 g.2=some true) (hc:c.callee= .value fo) (hf:Ri T sl fo= .fn f cap)
  (hok:okL T sl (fo::c.args.toList)=true) (p:BO h h0) (ha:c.args.toList.map (Ri T sl)++cap=args) (C:AC P T f args h0 R)
  (k:∀x h',R x h'->match x with
   | .ret r=>LV P T ops rest (AO o.dst (.cnd true r) sl) h' K X
   | .pan p=>X p h'):LV P T ops (o::rest) sl h K X:=by
 intro G0 G w a ds hG S R hd
 refine wpList_step λK' hK'=>?_
 rw[YO R ht hg,if_pos rfl]
 obtain⟨vs,hrun,hvs⟩:=Na (ρ:=Ri T sl) ho hc hf (a:=a) (λx hx=>(F4 S R x).strip (LL hok (by
  rw[ho] at hx
  simpa[Op.operands,Call.operands,hc] using hx))) C.call
 rw[ha] at hvs
 unfold Oper.wp
 rw[hrun]
 refine(C.run G w vs (p _ _ _ S) hvs).mono ?_
 rintro e w' ⟨x,h',G',hR,hG',S',hx⟩
 have hk:=k x h' hR
 cases x with
 |ret r=>
  obtain⟨v,rfl,hv⟩:=hx
  exact hK' _ _ (hk G0 G' w' _ ds (hG.trans hG') S' ((R.mono hG').put (.cndT hv) o.dst) (by rw[Bv];exact hd))
 |pan q=>
  obtain⟨v,rfl,hv⟩:=hx
  exact⟨hd,.pan q,sl,h',G',hk,⟨v,rfl,hv⟩,hG.trans hG',S',R.mono hG'⟩
theorem Qr {id:Nat} {l:List Oper} {Q:AQ} (i:Nat) (H:Go.Proofs.YtidldcfpmehpiaaGreatDoor.lvc P T false l.toArray (l.take i) sl h (λs h=>LV P T l.toArray (l.drop i) s h (λs h=>Q .normal s h) (λp h=> ∀s,Q (.pan p) s h)) (λp h=> ∀s,Q (.pan p) s h)):Aa P T (.region id l.toArray false) Q sl h:=
 CB λG w a S R=>by
  have h1:=DW.listB (P:=P) (T:=T) (ops:=l.toArray) (K:=λs h=>Q .normal s h) (X:=λp h=> ∀s,Q (.pan p) s h) (l.drop i) (l.take i) sl h (AN _ sl h H)
  rw[List.take_append_drop] at h1
  exact wp_region_lit (h1 G G w a a.defers (B8.refl G) S R rfl)
theorem Gz {id:Nat} {l:List Oper} {y:Code} {Q:AQ} (i:Nat) (H:∀K:List AV->AH->Prop,(∀s h,Aa P T y Q s h->K s h)->Go.Proofs.YtidldcfpmehpiaaGreatDoor.lvc P T false l.toArray (l.take i) sl h (λs h=>LV P T l.toArray (l.drop i) s h K (λp h=> ∀s,Q (.pan p) s h)) (λp h=> ∀s,Q (.pan p) s h)):Aa P T (.seq (.region id l.toArray false) y) Q sl h:=
 Aa.seq λK hK=>Qr i (H K hK)
end
end
section
open Go.RowKit
section
variable {P:Program} {T:Ap} {ops:Array Oper} {K:List AV->AH->Prop} {X:AV->AH->Prop} {o o2:Oper} {rest:List Oper} {sl:List AV} {h:AH}
theorem Abf {code:Code} {Q:AQ} {b:Nat} {ob:Ob} (hg:A9 b h.objs=some ob) (H:ob.rows.length<=ob.c->Aa P T code Q sl h):Aa P T code Q sl h:=λG w a S R=>H (S.obj _ (De hg)).fits G w a S R
theorem Abs {t e by_ b k n c i:Nat} {x y:Operand} (ho:o.op= .slice t x none (some y) none) (hg:o.guard=none) (hx:ev T sl x= .arr b k n c) (hy:ev T sl y= .d (.int .i64 (i:Nat))) (hsl:BL P t=some (e,k,by_)) (hnc:n<=c) (hi:i<=n)
  (kk:LV P T ops rest (AO o.dst (.arr b k i c) sl) h K X):LV P T ops (o::rest) sl h K X:=by
 intro G0 G w a ds hG S R hd
 refine wpList_plain hg λK' hK'=>?_
 obtain⟨j,hu,hj,hsz,_⟩:=Ch hsl
 have hvx:=F4 S R x
 have hvy:=F4 S R y
 rw[hx] at hvx
 rw[hy] at hvy
 generalize hzx:a.eval x=vx at hvx
 generalize hzy:a.eval y=vy at hvy
 cases hvx
 cases hvy with
 | d hvy=>
  obtain rfl:=hvy.int_inv
  have hb:=Et (P:=P) (w:=w) (isS:=true) (n:=n) (c:=c) (lo:=none) (hi:=some (i:Int)) (mx:=none) (l:=none) (h:=some (.int .i64 (i:Int))) (m:=none) rfl ⟨_,rfl⟩ rfl 0 i c rfl (by simp) (by simp) (Nat.zero_le _) (by omega) (Nat.le_refl _) (by simp)
  have hrun:(execOp a.eval o).run P w= .ok (.value (.slice (some ⟨b,0,none⟩) i c)) w:=by
   unfold execOp
   simp only[ho]
   simp[Instr.sliceAt,Instr.slice,run_underlying hu,hb,AS hj,hsz,hzx,hzy,Addr.add]
  unfold Oper.wp
  rw[hrun]
  exact hK' _ _ (kk G0 G w _ ds hG S (R.put (.arr b k i c) o.dst) (by rw[Bv];exact hd))
theorem LW.cut {G:Gh} {w w':World} {b k c i:Nat} {rows:List (List AV)} {zs:List Value} (hO:LW G w b ⟨k,c,rows⟩) (hfull:∀r∈rows,r.length=k) (hi:i<=rows.length) (hw:w'=w.setCells b (i*k) zs):LW G w' b ⟨k,c,rows.take i⟩:=by
  subst hw
  obtain⟨vs,e,fz,hh,hvs,hfz,hm⟩:=hO.mem
  obtain⟨vs',h2,h3,h4⟩:=Dy b zs (i*k) w vs e fz hh
  have hno:∀o,G.frz b o=none:=λo=>by
    rcases Nat.lt_or_ge o (rows.length*k) with ho|ho
    · have hk : 0 < k := by rcases Nat.eq_zero_or_pos k with h|h; ·rw[h] at ho;simp at ho
                            · exact h
      have h1:o/k<rows.length:=Nat.div_lt_of_lt_mul (by rw[Nat.mul_comm];exact ho)
      have h5:=hO.free (o/k) rows[o/k] (o%k) (List.getElem?_eq_getElem h1) (by rw[hfull _ (List.getElem_mem h1)];exact Nat.mod_lt _ hk)
      rwa [Nat.div_add_mod' o k] at h5
    · exact hO.rest o ho
  refine⟨hO.low,λ_ _ _ _ _=>hno _,λo _=>hno o,λr hr=> .inl (hfull r (List.mem_of_mem_take hr)),by have:=hO.fits;simp only[List.length_take];simp only at this;omega,hO.cmax,vs',e,fz,h2,by rw[h3];exact hvs,λo ho=>hfz o (by omega),λn r j a hr ha=>?_⟩
  have hn:n<i:=by
    grind
  have hr':rows[n]?=some r:=by rw[<-hr];exact(List.getElem?_take_of_lt hn).symm
  obtain⟨h5,v,h6,h7⟩:=hm n r j a hr' ha
  refine⟨h5,v,?_,h7⟩
  have hjk:j<k:=by rw[<-hfull r (List.mem_of_getElem? hr')];exact(List.getElem?_eq_some_iff.1 ha).1
  have hlt:n*k+j<i*k:=by
    have:(n+1)*k<=i*k:=Nat.mul_le_mul_right k hn
    grind
  grind
theorem Aeg {t e by_ b k n c i d:Nat} {x y:Operand} {rows:List (List AV)} (ho:o.op= .slice t x (some y) none none) (hg:o.guard=none) (hdst:o.dst=some d) (ho2:o2.op= .call {callee:= .builtin .clear,args:= #[.tmp d],argTypes:= #[t]}) (hg2:o2.guard=none)
  (hx:ev T sl x= .arr b k n c) (hy:ev T sl y= .d (.int .i64 (i:Nat))) (hsl:BL P t=some (e,k,by_)) (hze:((P.info? e).bind λj=>j.zero.map λz=>z.cells.all (·.oneCell'))=some true) (hgo:A9 b h.objs=some ⟨k,c,rows⟩) (hn:n=rows.length) (hi:i<=n) (hfull:∀r∈rows,r.length=k)
  (hdl:d<sl.length) (kk:LV P T ops rest (AO o2.dst .any (AO o.dst .any sl)) ⟨C8 b ⟨k,c,rows.take i⟩ h.objs,h.live⟩ K X):LV P T ops (o::o2::rest) sl h K X:=by
 intro G0 G w a ds hG S R hd
 refine wpList_plain hg λK' hK'=>?_
 obtain⟨j,hu,hj,hsz,_,hz,hk0⟩:=Ch hsl
 have hvx:=F4 S R x
 have hvy:=F4 S R y
 rw[hx] at hvx
 rw[hy] at hvy
 have hO:=S.obj _ (De hgo)
 obtain⟨vs,ety,fz,hh,hvs,hfz,hm⟩:=hO.mem
 have hnc:n<=c:=by rw[hn];exact hO.fits
 generalize hzx:a.eval x=vx at hvx
 generalize hzy:a.eval y=vy at hvy
 cases hvx
 cases hvy with
 | d hvy=>
  obtain rfl:=hvy.int_inv
  have hb:=Et (P:=P) (w:=w) (isS:=true) (n:=n) (c:=c) (lo:=some (i:Int)) (hi:=none) (mx:=none) (l:=some (.int .i64 (i:Int))) (h:=none) (m:=none) ⟨_,rfl⟩ rfl rfl i n c rfl (by simp) (by simp) (by omega) hnc (Nat.le_refl _) (by simp)
  have hrun:(execOp a.eval o).run P w= .ok (.value (.slice (if c=i then some ⟨b,0,none⟩ else some ((⟨b,0,none⟩:Addr).add (i*k))) (n-i) (c-i))) w:=by
   unfold execOp
   simp only[ho]
   simp[Instr.sliceAt,Instr.slice,run_underlying hu,hb,AS hj,hsz,hzx,hzy]
  unfold Oper.wp
  rw[hrun]
  refine hK' _ _ (wpList_plain hg2 λK2 hK2=>?_)
  generalize hval:(Value.slice (if c=i then some ⟨b,0,none⟩ else some ((⟨b,0,none⟩:Addr).add (i*k))) (n-i) (c-i))=val
  have hev:(a.put o.dst val).eval (.tmp d)=val:=by
   have:d<a.tmps.size:=by rw[R.1];exact hdl
   simp[Act.put,Act.eval,hdst,this]
  obtain⟨z,hz0,hz2⟩:=Option.map_eq_some_iff.1 hz
  have hzone:z.cells.all (·.oneCell')=true:=by
   grind
  have hzv:(zeroValue e).run P w= .ok z w:=by simp[zeroValue,typeInfo,hj,hz0]
  have hadd:(⟨b,0,none⟩:Addr).add (i*k)=⟨b,i*k,none⟩:=by unfold Addr.add;split<;>simp_all
  obtain⟨zs,hrun2⟩:∃zs:List Value,(execOp (a.put o.dst val).eval o2).run P w= .ok (.value (.tuple #[])) (w.setCells b (i*k) zs):=by
   unfold execOp
   simp only[ho2,resolve,invoke,builtin,List.map_toArray,List.map_cons,List.map_nil,hev]
   subst hval
   rcases Nat.eq_zero_or_pos (n-i) with h0|h0
   ·refine⟨[],?_⟩
    rw[h0]
    generalize (if c=i then some (⟨b,0,none⟩:Addr) else some ((⟨b,0,none⟩:Addr).add (i*k)))=A'
    cases A'<;>simp[Builtin.clear_,run_underlying hu,World.setCells]
   ·have hci:¬c=i:=by omega
    obtain⟨q,hq⟩:∃q,n-i=q+1:=⟨n-i-1,by omega⟩
    have hlen:(Builtin.zeroCells z.cells (n-i)).toList.length=(n-i)*k:=by simp[Builtin.zeroCells,hz2]
    refine⟨(Builtin.zeroCells z.cells (n-i)).toList,?_⟩
    have hnk:n*k<=vs.size:=by
     rw[hvs];exact Nat.mul_le_mul_right k hnc
    have hsum:i*k+(n-i)*k=n*k:=by rw[<-Nat.add_mul];congr 1;omega
    have hst:=run_storeCells_cells (P:=P) b (i*k) (Builtin.zeroCells z.cells (n-i)).toList 0 w (λj' hj'=>by
     rw[cell_of_row _ _ _ vs ety fz hh,Nat.add_zero,Array.getElem?_eq_getElem (by omega)]
     rfl) (λj' hj'=>by
     have:=hfz (i*k+j') (by omega)
     simp only[World.frozen?,hh,Nat.add_zero]
     exact this) (λv hv=>by
     simp only[Builtin.zeroCells,Array.toList_map,List.mem_map] at hv
     obtain⟨q',_,rfl⟩:=hv
     have hlt:q'%z.cells.size<z.cells.size:=Nat.mod_lt _ (by omega)
     rw[getElem!_pos z.cells _ hlt]
     have:=Array.all_eq_true.1 hzone _ hlt
     exact this)
    rw[if_neg hci,hadd,hq]
    rw[hq] at hst
    simp[Builtin.clear_,run_underlying hu,hzv,hst]
  unfold Oper.wp
  rw[hrun2]
  have hO':=LW.cut hO hfull (by omega) (rfl:w.setCells b (i*k) zs=_)
  have hno:∀o u,G.frz b o=some u->False:=λo' u hu'=>by
   have:=hO.rest o'
   rcases Nat.lt_or_ge o' (rows.length*k) with ho'|ho'
   ·have h1:o'/k<rows.length:=Nat.div_lt_of_lt_mul (by rw[Nat.mul_comm];exact ho')
    have h5:=hO.free (o'/k) rows[o'/k] (o'%k) (List.getElem?_eq_getElem h1) (by rw[hfull _ (List.getElem_mem h1)];exact Nat.mod_lt _ hk0)
    rw[Nat.div_add_mod' o' k,hu'] at h5
    cases h5
   ·rw[this ho'] at hu';cases hu'
  have S':=S.write hgo (Cq b zs (i*k) w) (λo' u hu'=>(hno o' u hu').elim) hO'
  refine hK2 _ _ (kk G0 G _ _ ds hG S' ((R.put (.any _) o.dst).put (.any _) o2.dst) (by rw[Bv,Bv];exact hd))
end
end
section
open Go.RowKit
theorem Hu {b:Nat} {ob ob2:Ob} :∀{l:Af},A9 b l=some ob->A9 b (C8 b ob2 l)=some ob2
 |p::r,e=>by
  unfold A9 at e
  split at e
  ·rename_i h;simp[C8,h,A9]
  ·rename_i h;simp only[C8,h,if_false,A9,Bool.false_eq_true];exact Hu e
theorem OD {b:Nat} {ob ob2:Ob} :∀(l:Af),C8 b ob (C8 b ob2 l)=C8 b ob l
 |[]=>rfl
 |p::r=>by
  by_cases h:(p.1==b)=true
  ·simp[C8,h]
  ·simp only[C8,h,if_false,Bool.false_eq_true];rw[OD r]
theorem UA {b k c x:Nat} {rows:List (List AV)} {F:Af} (h:(b==x)=false):A9 x (mO b k c rows F)=A9 x F:=by
 all_goals grind[mO,A9]
theorem Vl {b k c x:Nat} {ob:Ob} {rows:List (List AV)} {F:Af} (h:(b==x)=false):C8 x ob (mO b k c rows F)=mO b k c rows (C8 x ob F):=by
 all_goals grind[mO,C8]
theorem OL {P:Program} {T:Ap} {f:FuncId} {k:Nat} {rows:List (List D)} {h:AH} {R:AR->AH->Prop} (h1:rows=[]->AC P T f [.nils] h R) (h2:AC P T f [.nn k rows] h R):AC P T f [.d (.slc k rows)] h R:=by
 refine⟨h2.call,λG w vs S Rs=>?_⟩
 obtain⟨hl,hv⟩:=Rs
 obtain⟨v,hv0,hv1⟩:=hv 0 _ rfl
 cases hv1 with
 | d hd=>
  obtain⟨A,c,rfl,hc,hm,hA,_,hx⟩:=hd.slc_inv
  cases A with
  |none=>
   have hc0:=hA rfl
   have hr:rows=[]:=List.eq_nil_of_length_eq_zero (by omega)
   subst hr
   subst hc0
   refine(h1 rfl).run G w vs S ⟨hl,λi a ha=>?_⟩
   match i,ha with
   |0,ha=>simp at ha;subst ha;exact⟨_,hv0,.nils⟩
   |i+1,ha=>simp at ha
  |some a=>
   refine h2.run G w vs S ⟨hl,λi x ha=>?_⟩
   match i,ha with
   |0,ha=>simp at ha;subst ha;exact⟨_,hv0,.nn hd⟩
   |i+1,ha=>simp at ha
section
variable {P:Program} {T:Ap} {Q:AQ} {sl:List AV}
theorem Jj {code:Code} {b b' i j k c:Nat} {rows:List (List D)} {F:Af} {L:List Nat} {ob:Ob} {r:List AV} (hg:A9 b' F=some ob) (hr:ob.rows[i]?=some r) (hj:r[j]?=some (mA b k c rows.length)) (hc:c=0->rows=[]) (hk:0<k) (hfull:∀r∈rows,r.length=k)
  (H:Aa P T code Q sl ⟨C8 b' ⟨ob.k,ob.c,ob.rows.set i (r.set j (.d (.slc k rows)))⟩ F,L⟩):Aa P T code Q sl ⟨mO b k c (As rows) F,L⟩:=by
 rcases Nat.eq_zero_or_pos c with h0|h0
 ·subst h0
  have hr:=hc rfl
  subst hr
  rw[D9]
  rw[CF] at hj
  intro G w a S R
  exact H G w a (S.recell hg hr hj (a':= .d (.slc k [])) rfl λv hv=>by cases hv with|full hd=>exact .d hd) R
 ·rw[AG h0] at hj
  rw[Bk h0]
  refine NF (b':=b') (i:=i) (j:=j) hg hr hj rfl hk hfull λt ht=>?_
  intro G w a S R
  have S1:=S.drop (h':=⟨C8 b' ⟨ob.k,ob.c,ob.rows.set i (r.set j (.own t k rows))⟩ F,L⟩) (List.Sublist.refl _) (List.sublist_cons_self ..)
  have hi:i<ob.rows.length:=(List.getElem?_eq_some_iff.1 hr).1
  have hjl:j<r.length:=(List.getElem?_eq_some_iff.1 hj).1
  have S2:=S1.recell (b:=b') (i:=i) (j:=j) (ob:=⟨ob.k,ob.c,ob.rows.set i (r.set j (.own t k rows))⟩) (r:=r.set j (.own t k rows)) (a:= .own t k rows) (a':= .d (.slc k rows)) (Hu hg) (List.getElem?_set_self hi) (List.getElem?_set_self hjl) rfl λv hv=>by cases hv with|own hd _=>exact .d hd
  simp only[List.set_set,OD] at S2
  exact H G w a S2 R
end
end
section
open Go.RowKit
section
variable {P:Program} {T:Ap} {cp:Bool} {ops:Array Oper} {K:List AV->AH->Prop} {X:AV->AH->Prop} {o:Oper} {rest:List Oper} {sl:List AV} {h:AH}
theorem Fx {h':AH} (he:BP cp o=true) (p:BO h h') (H:DW P T cp ops (o::rest) sl h' K X):DW P T cp ops (o::rest) sl h K X:=by
 unfold DW at H⊢
 rw[if_pos he] at H⊢
 exact⟨H.1,λG w a S hv Kc Q hK hX=>H.2 G w a (p _ _ _ S) hv Kc Q hK hX⟩
theorem Fa {c:Call} {fo:Operand} {f:FuncId} {cap args:List AV} {h0:AH} {R:AR->AH->Prop} (ho:o.op= .call c) (hg:o.guard=none) (hc:c.callee= .value fo) (hf:ev T sl fo= .fn f cap)
  (p:BO h h0) (ha:c.args.toList.map (ev T sl)++cap=args) (C:AC P T f args h0 R)
  (k:∀x h',R x h'->match x with
   | .ret r=>Go.Proofs.YtidldcfpmehpiaaGreatDoor.lvc P T false ops rest (AO o.dst r sl) h' K X
   | .pan p=>X p h'):DW P T false ops (o::rest) sl h K X:=by
 refine Fx (by rw[If ho hg hc false];rfl) p ?_
 unfold DW
 rw[if_pos (by rw[If ho hg hc false];rfl)]
 refine XA ho hg hc hf (by rw[ha];exact C) λx h' hR=>?_
 have:=k x h' hR
 cases x with
 |ret r=>exact AN rest _ _ this
 |pan p=>exact this
theorem CA {code:Code} {Q:AQ} {b i j k:Nat} {H0:Af} {L:List Nat} {ob:Ob} {r:List AV} (hg:A9 b H0=some ob) (hr:ob.rows[i]?=some r) (hj:r[j]?=some .nils)
  (H:Aa P T code Q sl ⟨C8 b ⟨ob.k,ob.c,ob.rows.set i (r.set j (.full k []))⟩ H0,L⟩):Aa P T code Q sl ⟨H0,L⟩:=by
 intro G w a S R
 exact H G w a (S.recell hg hr hj (a':= .full k []) rfl λv hv=>by cases hv;exact VR.full (rows:=[]) (A:=none) (.slc0 k none 0 (λ_=>rfl) (Nat.zero_le _))) R
end
end
section
open Go.RowKit
theorem Acy (d2:TypeDesc):(∀kk,d2≠ .int kk)->(match d2 with| .int _=>true|_=>false)=false:=λh=>by
 grind
theorem UT {P:Program} {t2:Nat} {d2:TypeDesc} (hd2:P.underlying t2=some d2) (h:Hv P t2=none):∀kk,d2≠ .int kk:=λkk e=>by
 grind[Hv]
section
variable {P:Program} {T:Ap} {cp:Bool} {ops:Array Oper} {K:List AV->AH->Prop} {X:AV->AH->Prop} {o:Oper} {rest:List Oper} {sl:List AV} {h:AH}
theorem X7 {t e k by_:Nat} (ho:o.op= .buildSlice t 0 #[]) (hg:o.guard=none) (hsl:BL P t=some (e,k,by_)) (kk:lvc P T cp ops rest (AO o.dst (.full k []) sl) h K X) (he:BP cp o=true:=by rfl):DW P T cp ops (o::rest) sl h K X:=by
 unfold DW
 rw[if_pos he]
 refine⟨hg,λG w a S hv Kc Q hK _=>?_⟩
 obtain⟨i,hu,hi,hsz,_,hz,hk⟩:=Ch hsl
 obtain⟨z,hz1,hz2⟩:=Option.map_eq_some_iff.1 hz
 have hrun:(execOp a.eval o).run P w= .ok (.value (.slice (some ⟨w.heap.size,0,none⟩) 0 0)) (w.alloc (.cells #[] e)):=by
  unfold execOp
  simp only[ho]
  simp only[Instr.buildSlice,Sem.run_bind,run_underlying hu,Result.andThen_ok,AS hi,hsz]
  simp[Instr.fill,newRow,newObj,Sem.run,zeroValue,typeInfo,hi,hz1,program]
  grind
 unfold Oper.wp
 rw[hrun]
 exact hK _ _ G _ _ (AN _ _ _ kk) (B8.refl G) (S.alloc0 _) (VR.full (rows:=[]) (A:=some ⟨w.heap.size,0,none⟩) (.slc0 k _ 0 (λe=>by cases e) (Nat.zero_le _)))
theorem Abm {s x:Operand} {t t2 e k by_ k2:Nat} (ho:o.op= .call {callee:= .builtin .append,args:= #[s,x],argTypes:= #[t,t2]}) (hg:o.guard=none) (hs:ev T sl s= .full k []) (hx:ev T sl x= .nn k2 []) (hsl:BL P t=some (e,k,by_)) (ht2:(P.underlying t2).isSome=true) (hti:Hv P t2=none)
  (kk:lvc P T cp ops rest (AO o.dst (.full k []) sl) h K X):DW P T cp ops (o::rest) sl h K X:=by
 unfold DW
 rw[if_pos (E5 ho hg)]
 refine⟨hg,λG w a S hv Kc Q hK _=>?_⟩
 obtain⟨i,hu,hi,hsz,_,hz,hk⟩:=Ch hsl
 have hvs:=hv s (by simp[ho,Op.operands,Call.operands])
 have hvx:=hv x (by simp[ho,Op.operands,Call.operands])
 rw[hs] at hvs
 rw[hx] at hvx
 obtain⟨d2,hd2⟩:=Option.isSome_iff_exists.1 ht2
 have hnint:=Acy d2 (UT hd2 hti)
 generalize hzs:a.eval s=vs at hvs
 generalize hzx:a.eval x=vx at hvx
 have hvs0:=hvs
 cases hvs with
 | full hd=>
  rename_i A
  cases hvx with
  | nn hdx=>
   rename_i a2 c2
   have hrun:(execOp a.eval o).run P w= .ok (.value (.slice A 0 0)) w:=by
    unfold execOp
    simp only[ho,resolve,invoke,builtin,List.map_toArray,List.map_cons,List.map_nil,hzs,hzx]
    have hni:=UT hd2 hti
    cases A<;>simp[Builtin.append_,run_underlying hu,AS hi,hsz,run_underlying hd2,Builtin.lenOf,Builtin.firstCells,loadCells,storeCells,loadCellsFrom]
    all_goals
     cases d2 with
     |int kk=>exact absurd rfl (hni kk)
     |_=>simp[loadCellsFrom,storeCells]
   unfold Oper.wp
   rw[hrun]
   exact hK _ _ G _ _ (AN _ _ _ kk) (B8.refl G) S hvs0
end
end
section
open Go.RowKit
def Dq (P:Program) (T:Ap) (cp:Bool) (md:Region.Mode) (ops:Array Oper) (e0:Nat) (M:AH->Prop) (K:List AV->AH->Prop) (X:AV->AH->Prop):Nat->Array Bool->List AV->AH->Prop
 |0,listed,sl,h=>(listed.getD e0 false=false->M h)/\Region.ready md ops listed=[]/\K sl h
 |fuel+1,listed,sl,h=>(listed.getD e0 false=false->M h)/\(Region.ready md ops listed=[]->K sl h)/\∀i∈Region.ready md ops listed,Kl P T cp ops X i (Dq P T cp md ops e0 M K X fuel (listed.setIfInBounds i true)) sl h
section
variable {P:Program} {T:Ap} {cp:Bool} {md:Region.Mode} {ops:Array Oper} {K:List AV->AH->Prop} {X:AV->AH->Prop}
theorem Dq.any {e0:Nat} {M:AH->Prop} :∀(fuel:Nat) (listed:Array Bool) (sl:List AV) (h:AH),Dq P T cp md ops e0 M K X fuel listed sl h->BK P T cp md ops K X fuel listed sl h
 |0,_,_,_,H=>H.2
 | fuel+1,listed,sl,h,H=>⟨H.2.1,λi hi=>by
  have h1:=H.2.2 i hi
  unfold Kl at h1⊢
  split
  ·rename_i e
   rw[e] at h1
   exact Dq.any fuel _ _ _ h1
  ·rename_i o e
   rw[e] at h1
   dsimp only at h1
   split
   ·rename_i he
    rw[if_pos he] at h1
    exact h1.monoN λr h' hN=>Dq.any fuel _ _ _ hN
   ·rename_i he
    rw[if_neg he] at h1
    obtain⟨u,g1,g2,g3⟩:=h1
    exact⟨u,g1,g2,Dq.any fuel _ _ _ g3⟩⟩
theorem Ads {i e0:Nat} {listed:Array Bool} (hd:DC md ops listed) (hr:i∈Region.ready md ops listed) (hw:Ei md ops ops.size e0 i=true) (he:∃o0,ops[e0]?=some o0):listed.getD e0 false=false:=by
 obtain⟨o0,he⟩:=he
 have hiun:=Ev (mem_ready.1 hr).1
 cases hl:listed.getD e0 false with
 |false=>rfl
 |true=>
  rw[Ea hd hiun _ e0 o0 he (hd _ _ he hl)] at hw
  cases hw
theorem N5 {listed:Array Bool} {e0 i:Nat} (h:listed.getD e0 false=true):(listed.setIfInBounds i true).getD e0 false=true:=by
 by_cases hi:i=e0
 ·subst hi
  exact getD_set_true h
 ·rw[getD_set_ne false hi];exact h
theorem Jg {e0:Nat} {M:AH->Prop} :∀(fuel:Nat) (listed:Array Bool) (sl:List AV) (h:AH),listed.getD e0 false=true->BK P T cp md ops K X fuel listed sl h->Dq P T cp md ops e0 M K X fuel listed sl h
 |0,_,_,_,hl,H=>⟨λe=>(by rw[hl] at e;cases e),H⟩
 | fuel+1,listed,sl,h,hl,H=>⟨λe=>(by rw[hl] at e;cases e),H.1,λi hi=>by
  have h1:=H.2 i hi
  have hl':=N5 (i:=i) hl
  unfold Kl at h1⊢
  split
  ·rename_i e
   rw[e] at h1
   exact Jg fuel _ _ _ hl' h1
  ·rename_i o e
   rw[e] at h1
   dsimp only at h1
   split
   ·rename_i he
    rw[if_pos he] at h1
    exact h1.monoN λr h' hN=>Jg fuel _ _ _ hl' hN
   ·rename_i he
    rw[if_neg he] at h1
    obtain⟨u,g1,g2,g3⟩:=h1
    exact⟨u,g1,g2,Jg fuel _ _ _ hl' g3⟩⟩
end
end
section
open Go.RowKit
section
variable {P:Program} {T:Ap} {cp:Bool} {md:Region.Mode} {ops:Array Oper} {K:List AV->AH->Prop} {X:AV->AH->Prop}
theorem Qn {i:Nat} {oi:Oper} {v:AV} {e0:Nat} {M:AH->Prop} (hne0:i≠e0) (hw0:Np oi=true\/Ei md ops ops.size e0 i=true) (he0:∃o0,ops[e0]?=some o0) (hi:ops[i]?=some oi) (hni:BP cp oi=false):∀(fuel:Nat) (listed:Array Bool) (sl:List AV) (h:AH),DC md ops listed->
  (∀j oj,ops[j]?=some oj->j≠i->listed.getD j true=false->Ei md ops ops.size j i=false->oi.apart ops oj=true)->
  i∈Region.ready md ops listed->(∀h',(Np oi=false->M h')->Yg P T ops oi v sl h')->
  Dq P T cp md ops e0 M K X fuel (listed.setIfInBounds i true) (AO oi.dst v sl) h->Dq P T cp md ops e0 M K X (fuel+1) listed sl h:=by
 intro fuel
 induction fuel with
 | zero=>
  intro listed sl h hdc _ hr hy H
  have hMu:listed.getD e0 false=false->M h:=λe=>H.1 (by rw[getD_set_ne false hne0];exact e)
  have hM:Np oi=false->M h:=λe=>hMu (hw0.elim (λt=>by rw[e] at t;cases t) λt=>Ads hdc hr t he0)
  refine⟨hMu,λh0=>(by rw[h0] at hr;cases hr),λj hj=>?_⟩
  by_cases hji:j=i
  ·subst hji
   unfold Kl
   rw[hi]
   dsimp only
   rw[if_neg (by rw[hni];simp)]
   exact⟨v,hy h hM,λhh h'=>hy h' (λe=>by rw[e] at hh;cases hh),H⟩
  ·have:=ready_mono hj hji
   rw[H.2.1] at this
   cases this
 | succ fuel ih=>
  intro listed sl h hdc hfree hr hy H
  have hMu:listed.getD e0 false=false->M h:=λe=>H.1 (by rw[getD_set_ne false hne0];exact e)
  have hM:Np oi=false->M h:=λe=>hMu (hw0.elim (λt=>by rw[e] at t;cases t) λt=>Ads hdc hr t he0)
  refine⟨hMu,λh0=>(by rw[h0] at hr;cases hr),λj hj=>?_⟩
  by_cases hji:j=i
  ·subst hji
   unfold Kl
   rw[hi]
   dsimp only
   rw[if_neg (by rw[hni];simp)]
   exact⟨v,hy h hM,λhh h'=>hy h' (λe=>by rw[e] at hh;cases hh),H⟩
  ·have h1:=H.2.2 j (ready_mono hj hji)
   obtain⟨hjun,oj,hoj,hall⟩:=mem_ready.1 hj
   have hiun:=Ev (mem_ready.1 hr).1
   have hap:=hfree j oj hoj hji hjun (Ea hdc hiun _ _ _ hoj hall)
   obtain⟨a1,a2,a3⟩:=Oper.apart_spec hap
   have hfree':∀k ok,ops[k]?=some ok->k≠i->(listed.setIfInBounds j true).getD k true=false->Ei md ops ops.size k i=false->oi.apart ops ok=true:=λk ok hk hki hun hw=>by
    refine hfree k ok hk hki ?_ hw
    by_cases hjk:j=k
    ·subst hjk;exact hjun
    ·rw[getD_set_ne true hjk] at hun;exact hun
   have next:∀(u:AV) (h':AH),Dq P T cp md ops e0 M K X fuel ((listed.setIfInBounds i true).setIfInBounds j true) (AO oj.dst u (AO oi.dst v sl)) h'->Dq P T cp md ops e0 M K X (fuel+1) (listed.setIfInBounds j true) (AO oj.dst u sl) h':=λu h' hN=>by
    refine ih (listed.setIfInBounds j true) (AO oj.dst u sl) h' (hdc.step hj) hfree' (ready_mono hr (Ne.symm hji)) (λh2 m2=>(hy h2 m2).put a3) ?_
    rw[Array.setIfInBounds_comm _ _ hji,Gu a2]
    exact hN
   unfold Kl at h1⊢
   rw[hoj] at h1⊢
   dsimp only at h1⊢
   split
   ·rename_i he
    rw[if_pos he] at h1
    exact h1.unput a1 λr h' hN=>next r h' hN
   ·rename_i he
    rw[if_neg he] at h1
    obtain⟨u,g1,g2,g3⟩:=h1
    exact⟨u,g1.unput a1,λhk h2=>(g2 hk h2).unput a1,next u h g3⟩
def CHN (P:Program) (T:Ap) (cp:Bool) (ops:Array Oper) (M:AH->Prop) (lz:List Oper) (K:List AV->AH->Prop) (X:AV->AH->Prop):List Oper->List AV->AH->Prop
 |[],s,h=>DW P T cp ops lz s h K X
 |o::l,s,h=>DW P T cp ops [o] s h (λs2 h2=>M h2/\CHN P T cp ops M lz K X l s2 h2) X
def RY (cp:Bool) (md:Region.Mode) (ops:Array Oper) (e0:Nat) (ord2:List Nat):List Nat->Array Bool->Bool
 |[],listed=>JR cp md ops (e0::ord2) listed
 |i::r,listed=>(Region.ready md ops listed==[i])&&RY cp md ops e0 ord2 r (listed.setIfInBounds i true)
theorem CHN.any {e0:Nat} {oe:Oper} {M:AH->Prop} {ord2:List Nat} {l2:List Oper} (hoe:ops[e0]?=some oe) (hee:BP cp oe=true) (hl2:l2.length=ord2.length) (hm2:∀(n i:Nat),ord2[n]?=some i->l2[n]?=ops[i]?):∀(ord:List Nat) (l:List Oper) (listed:Array Bool) (sl:List AV) (h:AH),l.length=ord.length->(∀(n i:Nat),ord[n]?=some i->l[n]?=ops[i]?)->DC md ops listed->RY cp md ops e0 ord2 ord listed=true->M h->
  CHN P T cp ops M (oe::l2) K X l sl h->Dq P T cp md ops e0 M K X (ord.length+(ord2.length+1)) listed sl h
 | [],[],listed,sl,h,_,_,hdc,hB,hM,H=>by
  unfold RY JR at hB
  rw[hoe] at hB
  simp only[Bool.and_eq_true,hee,if_true] at hB
  obtain⟨⟨hr,hf⟩,hB'⟩:=hB
  have hr:e0∈Region.ready md ops listed:=by simpa using hr
  have hone:Region.ready md ops listed=[e0]:=by simpa using hf
  rw[List.length_nil,Nat.zero_add]
  refine⟨λ_=>hM,λh0=>(by rw[h0] at hr;cases hr),λj hj=>?_⟩
  rw[hone] at hj
  have hj:j=e0:=by simpa using hj
  subst hj
  unfold Kl
  rw[hoe]
  dsimp only
  rw[if_pos hee]
  have H:DW P T cp ops (oe::l2) sl h K X:=H
  unfold DW at H
  rw[if_pos hee] at H
  have hlt:j<listed.size:=by
   rcases Nat.lt_or_ge j listed.size with h1|h1
   ·exact h1
   ·have:=(mem_ready.1 hr).1
    grind
  exact H.monoN λr h' hN=>Jg _ _ _ _ (by simp[hlt]) (DW.any ord2 l2 _ _ _ hl2 hm2 (hdc.step hr) hB' hN)
 |[],_::_,_,_,_,hl,_,_,_,_,_=>by simp at hl
 |_::_,[],_,_,_,hl,_,_,_,_,_=>by simp at hl
 | i::ord,o::l,listed,sl,h,hl,hmap,hdc,hB,hM,H=>by
  have hi:ops[i]?=some o:=(hmap 0 i rfl).symm
  unfold RY at hB
  simp only[Bool.and_eq_true] at hB
  obtain⟨hf,hB'⟩:=hB
  have hone:Region.ready md ops listed=[i]:=by simpa using hf
  have hr:i∈Region.ready md ops listed:=by rw[hone];exact List.mem_cons_self ..
  rw[List.length_cons,Nat.succ_add]
  have next:∀(s2:List AV) (h2:AH),M h2/\CHN P T cp ops M (oe::l2) K X l s2 h2->Dq P T cp md ops e0 M K X (ord.length+(ord2.length+1)) (listed.setIfInBounds i true) s2 h2:=λs2 h2 hN=>
   CHN.any hoe hee hl2 hm2 ord l _ _ _ (by simpa using hl) (λn k e=>by simpa using hmap (n+1) k (by simpa using e)) (hdc.step hr) hB' hN.1 hN.2
  refine⟨λ_=>hM,λh0=>(by rw[h0] at hr;cases hr),λj hj=>?_⟩
  rw[hone] at hj
  have hj:j=i:=by simpa using hj
  subst hj
  have H:DW P T cp ops [o] sl h (λs2 h2=>M h2/\CHN P T cp ops M (oe::l2) K X l s2 h2) X:=H
  unfold DW at H
  unfold Kl
  rw[hi]
  dsimp only
  split
  ·rename_i he
   rw[if_pos he] at H
   refine H.monoN λr h' hN=>?_
   grind[DW]
  ·grind[DW]
def Fb (P:Program) (T:Ap) (ops:Array Oper) (M:AH->Prop) (K:List AV->Prop):List Oper->List AV->Prop
 |[],s=>K s
 |o::r,s=> ∃v,(∀h',(Np o=false->M h')->Yg P T ops o v s h')/\Fb P T ops M K r (AO o.dst v s)
theorem Fb.nil {M:AH->Prop} {K:List AV->Prop} {s:List AV} (H:K s):Fb P T ops M K [] s:=H
theorem FF {M:AH->Prop} {K:List AV->Prop} {o:Oper} {r:List Oper} {s:List AV} {v:AV} (hl:Np o=false) (hg:o.guard=none) (hv:∀h',M h'->T9 (MO P o.op (ev T s) h') v) (H:Fb P T ops M K r (AO o.dst v s)):Fb P T ops M K (o::r) s:=
 ⟨v,λh' hm=>Yg.of_okV hg (hv h' (hm hl)),H⟩
theorem Fb.op {M:AH->Prop} {K:List AV->Prop} {o:Oper} {r:List Oper} {s:List AV} {v:AV} (hg:o.guard=none) (hv:∀h',T9 (MO P o.op (ev T s) h') v) (H:Fb P T ops M K r (AO o.dst v s)):Fb P T ops M K (o::r) s:=
 ⟨v,λh' hm=>Yg.of_okV hg (hv h'),H⟩
theorem Fb.call {M:AH->Prop} {K:List AV->Prop} {o:Oper} {rest:List Oper} {s:List AV} {c:Call} {fo:Operand} {f:FuncId} {cap args:List AV} {r:AV} (ho:o.op= .call c) (hg:o.guard=none) (hc:c.callee= .value fo) (hf:ev T s fo= .fn f cap)
  (C:PC P T f args r) (ha:(c.args.toList.map (ev T s)++cap).map N4=args) (hk:(c.args.toList.map (ev T s)++cap).all UU=true) (H:Fb P T ops M K rest (AO o.dst r s)):Fb P T ops M K (o::rest) s:=
 ⟨r,λh' _=>by unfold Yg;rw[hg];exact Jn.pc ho hc hf C (by rw[<-ha];exact Bj.frz hk),H⟩
def UX (cp:Bool) (md:Region.Mode) (ops:Array Oper) (e0:Nat):List Nat->Array Bool->Bool
 |[],_=>true
 |i::r,listed=>(Region.ready md ops listed).contains i&&(match ops[i]? with
  |some o=>!BP cp o&&(Np o||Ei md ops ops.size e0 i)
  |none=>false)&&U7 md ops listed i&&!(i==e0)&&UX cp md ops e0 r (listed.setIfInBounds i true)
theorem NE {fuel:Nat} {e0:Nat} {M:AH->Prop} (hoe:∃o,ops[e0]?=some o) {K2:List AV->Prop} {h:AH} :
  ∀(fr:List Nat) (lf:List Oper) (listed:Array Bool) (s:List AV),lf.length=fr.length->(∀(n i:Nat),fr[n]?=some i->lf[n]?=ops[i]?)->DC md ops listed->UX cp md ops e0 fr listed=true->
   (∀s,DC md ops (lst fr listed)->K2 s->Dq P T cp md ops e0 M K X fuel (lst fr listed) s h)->Fb P T ops M K2 lf s->Dq P T cp md ops e0 M K X (fr.length+fuel) listed s h
 |[],[],listed,s,_,_,hdc,hB,hc,H=>by
  rw[List.length_nil,Nat.zero_add]
  exact hc s hdc H
 |[],_::_,_,_,hlen,_,_,_,_,_=>by simp at hlen
 |_::_,[],_,_,hlen,_,_,_,_,_=>by simp at hlen
 |i::fr,o::lf,listed,s,hlen,hm,hdc,hB,hc,H=>by
  have hi:ops[i]?=some o:=(hm 0 i rfl).symm
  unfold UX at hB
  rw[hi] at hB
  simp only[Bool.and_eq_true,Bool.not_eq_true',Bool.or_eq_true] at hB
  obtain⟨⟨⟨⟨hr,he,hw⟩,hf⟩,hne⟩,hB⟩:=hB
  have hr:i∈Region.ready md ops listed:=by simpa using hr
  have hne:i≠e0:=by simpa using hne
  obtain⟨v,hv,H⟩:=H
  rw[List.length_cons,Nat.succ_add]
  exact Qn hne hw hoe hi he _ listed s h hdc (Mz hi hf) hr hv (NE hoe fr lf _ _ (by simpa using hlen) (λn k e=>by simpa using hm (n+1) k (by simpa using e)) (hdc.step hr) hB hc H)
def TC (cp:Bool) (ops:List Oper) (ord1 fr cs:List Nat) (e0:Nat) (ord2:List Nat):Bool:=
 let A:=ops.toArray
 let L0:=Array.replicate ops.length false
 let L1:=lst ord1 L0
 ord1.length+(fr.length+(cs.length+(ord2.length+1)))==ops.length&&ord1.all (λi=>decide (i<ops.length))&&cs.all (λi=>decide (i<ops.length))&&fr.all (λi=>decide (i<ops.length))&&ord2.all (λi=>decide (i<ops.length))&&GI cp .any A ord1 L0&&(match ops[e0]? with|some o=>BP cp o|none=>false)&&UX cp .any A e0 fr L1&&RY cp .any A e0 ord2 cs (lst fr L1)
theorem V4 {id:Nat} {l:List Oper} {Q:AQ} {sl:List AV} {h:AH} (cp:Bool) (ord1 fr cs:List Nat) (e0:Nat) (ord2:List Nat) {oe:Oper} (hm:P.follows .mixedOrders=true) (hB:TC cp l ord1 fr cs e0 ord2=true) (hoe:l[e0]?=some oe)
  (H:lvc P T cp l.toArray (pick l ord1) sl h (λs1 h1=> ∃M:AH->Prop,M h1/\Fb P T l.toArray M (λs2=>CHN P T cp l.toArray M (oe::pick l ord2) (λs h=>Q .normal s h) (λp h=> ∀s,Q (.pan p) s h) (pick l cs) s2 h1) (pick l fr) s1) (λp h=> ∀s,Q (.pan p) s h)):
  Aa P T (.region id l.toArray true) Q sl h:=by
 simp only[TC,hoe,Bool.and_eq_true,beq_iff_eq] at hB
 obtain⟨⟨⟨⟨⟨⟨⟨⟨hlen,hall1⟩,hall2⟩,hall3⟩,hall4⟩,hpre⟩,hee⟩,hch⟩,hbb⟩:=hB
 have hlt1:∀i∈ord1,i<l.length:=λi hi=>by simpa using List.all_eq_true.1 hall1 i hi
 have hlt2:∀i∈cs,i<l.length:=λi hi=>by simpa using List.all_eq_true.1 hall2 i hi
 have hlt3:∀i∈fr,i<l.length:=λi hi=>by simpa using List.all_eq_true.1 hall3 i hi
 have hlt4:∀i∈ord2,i<l.length:=λi hi=>by simpa using List.all_eq_true.1 hall4 i hi
 obtain⟨p1,p2⟩:=Ca hlt1
 obtain⟨q1,q2⟩:=Ca hlt2
 obtain⟨r1,r2⟩:=Ca hlt3
 obtain⟨z1,z2⟩:=Ca hlt4
 have hdc0:DC .any l.toArray (Array.replicate l.length false):=λj o _ hj=>by
  simp[Array.getElem?_replicate] at hj
  grind
 refine CB λG w a S R=>wp_region_any hm ?_
 have hany:=Jo (P:=P) (T:=T) (cp:=cp) (K:=λs h=>Q .normal s h) (X:=λp h=> ∀s,Q (.pan p) s h) (fuel:=fr.length+(cs.length+(ord2.length+1))) ord1 (pick l ord1) (Array.replicate l.length false) sl h p1 (λn i e=>by rw[p2 n i e];simp) hdc0 hpre
  (FZ (λs1 h1 ⟨M,hM,hh⟩=>Dq.any (M:=M) (e0:=e0) _ _ _ _ (NE ⟨oe,by simpa using hoe⟩ fr (pick l fr) _ s1 r1 (λn c e=>by rw[r2 n c e];simp) (hdc0.lst (cp:=cp) ord1 hpre) hch (λs hdc hs=>CHN.any (oe:=oe) (l2:=pick l ord2) (by simpa using hoe) hee z1 (λn c e=>by rw[z2 n c e];simp) cs (pick l cs) _ s h1 q1 (λn i e=>by rw[q2 n i e];simp) hdc hbb hM hs) hh)) _ _ _ (AN _ _ _ H))
 rw[hlen] at hany
 have:=BK.wp _ _ _ _ hany G G w.drew a a.defers (B8.refl G) S.drew R rfl
 simpa using this
theorem L4 {id:Nat} {l:List Oper} {y:Code} {Q:AQ} {sl:List AV} {h:AH} (cp:Bool) (ord1 fr cs:List Nat) (e0:Nat) (ord2:List Nat) {oe:Oper} (hm:P.follows .mixedOrders=true) (hB:TC cp l ord1 fr cs e0 ord2=true) (hoe:l[e0]?=some oe)
    (H:∀K:List AV->AH->Prop,(∀s h,Aa P T y Q s h->K s h)->lvc P T cp l.toArray (pick l ord1) sl h (λs1 h1=> ∃M:AH->Prop,M h1/\Fb P T l.toArray M (λs2=>CHN P T cp l.toArray M (oe::pick l ord2) K (λp h=> ∀s,Q (.pan p) s h) (pick l cs) s2 h1) (pick l fr) s1) (λp h=> ∀s,Q (.pan p) s h)):
    Aa P T (.seq (.region id l.toArray true) y) Q sl h:=Aa.seq λK hK=>V4 cp ord1 fr cs e0 ord2 hm hB hoe (H K hK)
end
attribute [go_sem] CHN
end
section
open Go.RowKit
theorem DW.nil {P:Program} {T:Ap} {cp:Bool} {ops:Array Oper} {K:List AV->AH->Prop} {X:AV->AH->Prop} {sl:List AV} {h:AH} (H:K sl h):DW P T cp ops [] sl h K X:=H
section
variable {P:Program} {T:Ap} {ops:Array Oper} {K:List AV->AH->Prop} {X:AV->AH->Prop} {o:Oper} {rest:List Oper} {sl:List AV} {h:AH}
theorem VR.sliceG {G:Gh} {k:Nat} {r:List D} {u:Value} (h:VR G (.elt k [r] 0 0) u) (h0:0<r.length) (hm:r.length<=maxLen):∃a,u= .pointer (some a)/\VD G.frz (.slc 1 (r.map λx=>[x])) (.slice (some a) r.length r.length):=by
 cases h with
 |elt _ _ _ _ b off val r' hr hf hv=>
  have hr:r=r':=by simpa using hr
  subst hr
  refine⟨⟨b,off+0,none⟩,rfl,?_⟩
  have e:(r.map λx=>[x]).length=r.length:=by simp
  have:=VD.slc (F:=G.frz) 1 (r.map λx=>[x]) b off r.length (λi _=>val i) (by rw[e];exact h0) (by rw[e];exact Nat.le_refl _) hm (λx hx=>by
    obtain⟨y,_,rfl⟩:=List.mem_map.1 hx
    rfl) (λi r' j x e1 e2=>?_) (λi r' j x e1 e2=>?_)
  ·grind
  ·grind
  ·grind
theorem Jn.sliceG {ρ:Operand->AV} {t n e:Nat} {x:Operand} {k:Nat} {r:List D} {i:TypeInfo} (ho:o.op= .slice t x none none none) (hx:ρ x= .elt k [r] 0 0) (hu:P.underlying t=some (.array n e)) (hi:P.info? e=some i) (hn:r.length=n) (h0:0<n) (hm:n<=maxLen):Jn P T o ρ h (.d (.slc 1 (r.map λx=>[x]))):=by
 intro G w a S hv Kc Q hK
 have hvx:=hv x (by rw[ho];simp[Op.operands])
 rw[hx] at hvx
 subst hn
 obtain⟨ad,hu2,hd⟩:=hvx.sliceG h0 hm
 have hrun:(execOp a.eval o).run P w= .ok (.value (.slice (some ad) r.length r.length)) w:=by
  unfold execOp
  simp only[ho]
  have ha:ad.add 0=ad:=by cases ad;simp[Addr.add]
  simp[hu2,Instr.sliceAt,run_underlying hu,Instr.sureAddr,Instr.sliceBounds,AS hi,ha,Result.andThen]
 unfold Oper.wp
 rw[hrun]
 exact hK G _ w (B8.refl G) S (.d hd)
theorem DW.sliceG {cp:Bool} {t n e:Nat} {x:Operand} {k:Nat} {r:List D} {i:TypeInfo} (ho:o.op= .slice t x none none none) (hg:o.guard=none) (hx:ev T sl x= .elt k [r] 0 0) (hu:P.underlying t=some (.array n e)) (hi:P.info? e=some i) (hn:r.length=n) (h0:0<n) (hm:n<=maxLen)
  (H:DW P T cp ops rest (AO o.dst (.d (.slc 1 (r.map λx=>[x]))) sl) h K X):DW P T cp ops (o::rest) sl h K X:=by
 have hy:∀h,Jn P T o (ev T sl) h (.d (.slc 1 (r.map λx=>[x]))):=λh=>Jn.sliceG ho hx hu hi hn h0 hm
 unfold DW
 rw[if_neg (by unfold BP;rw[hg,ho];simp)]
 exact⟨_,by unfold Yg;rw[hg];exact hy h,λ_ h'=>by unfold Yg;rw[hg];exact hy h',H⟩
theorem SB {pre:List Oper} (H:DW P T false ops [o] sl h (λs h=>LV P T ops pre s h K X) X):LV P T ops (o::pre) sl h K X:=DW.listB pre [o] sl h H
end
end
section
open Go.RowKit
section
variable {P:Program} {T:Ap} {cp:Bool} {md:Region.Mode} {ops:Array Oper} {K:List AV->AH->Prop} {X:AV->AH->Prop}
def Ail (P:Program) (T:Ap) (cp:Bool) (ops:Array Oper) (ox oy:Oper) (K:List AV->AH->Prop) (X:AV->AH->Prop) (s:List AV) (h:AH):Prop:=
 ∃S H,DW P T cp ops [ox,oy] s h (λa b=>a=S/\b=H) X/\DW P T cp ops [oy,ox] s h (λa b=>a=S/\b=H) X/\K S H
def CHQ (P:Program) (T:Ap) (cp:Bool) (ops:Array Oper) (M:AH->Prop) (lz:List Oper) (ox oy:Oper) (K:List AV->AH->Prop) (X:AV->AH->Prop):List Oper->List AV->AH->Prop
 |[],s,h=>DW P T cp ops lz s h (Ail P T cp ops ox oy K X) X
 |o::l,s,h=>DW P T cp ops [o] s h (λs2 h2=>M h2/\CHQ P T cp ops M lz ox oy K X l s2 h2) X
end
attribute [go_sem] CHQ
end
section
open Go.RowKit
section
variable {P:Program} {T:Ap} {cp:Bool} {md:Region.Mode} {ops:Array Oper} {K:List AV->AH->Prop} {X:AV->AH->Prop}
end
end
section
open Go.RowKit
theorem Yf {t:ByteArray} {s:List UInt8} (h:t.data.toList=s):t=⟨s.toArray⟩:=by
 subst h;simp
theorem SU (a b:List UInt8):((⟨a.toArray⟩:ByteArray)==⟨b.toArray⟩)=decide (a=b):=by
 have h:=MapKept.bytes_beq ⟨a.toArray⟩ ⟨b.toArray⟩
 all_goals grind
theorem IQ {s:List UInt8} :∀{es:List MapEntry} {ks:List (List UInt8)} (i:Nat),es.map (λe=>(e.key,e.val))=ks.map (λs=>(Value.string ⟨s.toArray⟩,Value.agg #[]))->¬s∈ks->Instr.findNow .string (.string ⟨s.toArray⟩) es i=some none
 |[],_,i,_,_=>rfl
 |e::es,[],i,h,_=>by simp at h
 |e::es,k::ks,i,h,hn=>by
  simp only[List.map_cons,List.cons.injEq,Prod.mk.injEq] at h
  simp only[Instr.findNow,h.1.1,Instr.sameNow,SU]
  rw[decide_eq_false (λe=>hn (by rw[e];exact List.mem_cons_self ..))]
  exact IQ (i+1) h.2 λh9=>hn (List.mem_cons_of_mem _ h9)
theorem Hs {s:List UInt8} :∀{es:List MapEntry} {ks:List (List UInt8)} (i:Nat),es.map (λe=>(e.key,e.val))=ks.map (λs=>(Value.string ⟨s.toArray⟩,Value.agg #[]))->s∈ks->∃j,Instr.findNow .string (.string ⟨s.toArray⟩) es i=some (some (i+j,.agg #[]))/\j<es.length/\ks[j]?=some s
 |[],[],i,h,hn=>by cases hn
 |[],k::ks,i,h,hn=>by simp at h
 |e::es,[],i,h,_=>by simp at h
 | e::es,k::ks,i,h,hn=>by
  simp only[List.map_cons,List.cons.injEq,Prod.mk.injEq] at h
  by_cases hk:s=k
  ·refine⟨0,?_,by simp,by simp[hk]⟩
   simp only[Instr.findNow,h.1.1,Instr.sameNow,SU,h.1.2]
   grind
  ·obtain⟨j,h1,h2,h3⟩:=Hs (i+1) h.2 ((List.mem_cons.1 hn).resolve_left hk)
   refine⟨j+1,?_,by simp;omega,by simpa using h3⟩
   simp only[Instr.findNow,h.1.1,Instr.sameNow,SU]
   grind
section
variable {G:Gh} {P:Program} {T:Ap} {cp:Bool} {ops:Array Oper} {K:List AV->AH->Prop} {X:AV->AH->Prop} {o:Oper} {rest:List Oper} {sl:List AV} {h:AH}
theorem TH {w:World} {ty kt et r clock:Nat} {es:Array MapEntry} {ks:List (List UInt8)} {s:List UInt8} (hty:P.underlying ty=some (.map kt et)) (hk:P.underlying kt=some .string) (hz:(zeroValue et).run P w= .ok (.agg #[]) w) (hb:w.heap[r]?=some (.map es clock)) (hm:OV es ks):
  (Instr.lookup ty (.map (some r)) (.string ⟨s.toArray⟩) true).run P w= .ok (.tuple #[.agg #[],.bool (decide (s∈ks))]) w:=by
 have hc:=MapKept.run_checkKey (w:=w) (k:= .string ⟨s.toArray⟩) hk trivial es.isEmpty 9999
 by_cases hs:s∈ks
 ·obtain⟨j,h1,_,_⟩:=Hs (s:=s) 0 hm hs
  rw[Nat.zero_add] at h1
  have hf:=MapKept.run_findKey (w:=w) hk h1
  simp[Instr.lookup,run_underlying hty,MapKept.run_getObj_map hb,hc,hf,hs,Result.andThen]
 ·have h1:=IQ (s:=s) 0 hm hs
  have hf:=MapKept.run_findKey (w:=w) hk h1
  simp[Instr.lookup,run_underlying hty,MapKept.run_getObj_map hb,hc,hf,hs,hz,Result.andThen]
def Ns (s:List UInt8) (ks:List (List UInt8)):List (List UInt8):=if s∈ks then ks else ks++[s]
theorem AcB {w:World} {ty kt et r clock:Nat} {es:Array MapEntry} {ks:List (List UInt8)} {s:List UInt8} (hty:P.underlying ty=some (.map kt et)) (hk:P.underlying kt=some .string) (hb:w.heap[r]?=some (.map es clock)) (hm:OV es ks):
  ∃es' clock',(Instr.mapUpdate ty (.map (some r)) (.string ⟨s.toArray⟩) (.agg #[])).run P w= .ok () {w with heap:=w.heap.setIfInBounds r (.map es' clock')} /\OV es' (Ns s ks):=by
 have hc:=MapKept.run_checkKey (w:=w) (k:= .string ⟨s.toArray⟩) hk trivial false 9999
 by_cases hs:s∈ks
 ·obtain⟨j,h1,h2,h3⟩:=Hs (s:=s) 0 hm hs
  rw[Nat.zero_add] at h1
  have hf:=MapKept.run_findKey (w:=w) hk h1
  have hjl:j<es.size:=by simpa using h2
  have hj:es[j]?=some es[j]:=Array.getElem?_eq_getElem hjl
  have hkv:(es[j].key,es[j].val)=(Value.string ⟨s.toArray⟩,Value.agg #[]):=by
   have h4:=congrArg (λl=>l[j]?) hm
   grind
  obtain⟨hkk,hvv⟩:=Prod.mk.injEq .. ▸hkv
  refine⟨es.modify j (λe'=> {e' with key:= .string ⟨s.toArray⟩,val:= .agg #[]}),clock,?_,?_⟩
  ·simp[Instr.mapUpdate,run_underlying hty,MapKept.run_getObj_map hb,hc,hf,hj,hkk,MapKept.run_keyThatStays (d:= .string) (k:= .string ⟨s.toArray⟩) trivial,MapKept.run_setObj_map _ hb,Result.andThen]
  ·rw[Ns,if_pos hs]
   unfold OV at hm⊢
   rw[<-hm]
   apply List.ext_getElem?
   intro i
   simp only[List.getElem?_map,Array.getElem?_toList,Array.getElem?_modify]
   split
   ·rename_i hij
    subst hij
    rw[hj]
    simp[hkk,hvv]
   ·rfl
 ·have h1:=IQ (s:=s) 0 hm hs
  have hf:=MapKept.run_findKey (w:=w) hk h1
  refine⟨es.push ⟨.string ⟨s.toArray⟩,.agg #[],clock⟩,clock+1,?_,?_⟩
  ·simp[Instr.mapUpdate,run_underlying hty,MapKept.run_getObj_map hb,hc,hf,MapKept.run_setObj_map _ hb,Result.andThen]
  ·rw[Ns,if_neg hs]
   unfold OV at hm⊢
   rw[Array.toList_push,List.map_append,hm]
   simp
theorem UY {α:Type} {R:α->α->Prop} :∀{l:List α},l.Pairwise R->∀{a b:α},a∈l->b∈l->a≠b->R a b\/R b a
 | x::l,hp,a,b,ha,hb,hn=>by
  have hp':=List.pairwise_cons.1 hp
  rcases List.mem_cons.1 ha with h1|h1
  ·all_goals grind
  ·rcases List.mem_cons.1 hb with h2|h2
   ·exact .inr (h2▸hp'.1 a h1)
   ·exact UY hp'.2 h1 h2 hn
def UL (G:Gh) (r:Nat) (ks:List (List UInt8)):Gh:= {G with tok:=λt=>if t=G.nt then some (0,UM r ks) else G.tok t,nt:=G.nt+1 }
theorem Ik (G:Gh) (r:Nat) (ks:List (List UInt8)):(UL G r ks).tok G.nt=some (0,UM r ks):=if_pos rfl
theorem Bl.mpLe {w:World} (S:Bl T G h w) (r:Nat) (ks:List (List UInt8)):B8 G (UL G r ks):=
 ⟨rfl,λ_ _ _ e=>e,λ_ _ _ e=> .inl e,λt x e=>by
  show(if t=G.nt then _ else _)=_
  rw[if_neg (λe'=>by rw[S.fin t (by omega)] at e;cases e)]
  exact e⟩
theorem Bl.mpFin {w:World} (S:Bl T G h w) (r:Nat) (ks:List (List UInt8)):∀t,(UL G r ks).nt<=t->(UL G r ks).tok t=none:=λt ht=>by
 show(if t=G.nt then _ else _)=_
 have ht':G.nt+1<=t:=ht
 rw[if_neg (by omega)]
 exact S.fin t (by omega)
theorem Bl.ntLive {w:World} (S:Bl T G h w):∀t∈h.live,t≠G.nt:=λt ht e=>by
 obtain⟨_,e2⟩:=(S.liv _ ht).any
 rw[e,S.fin _ (Nat.le_refl _)] at e2
 cases e2
theorem Bl.updMp {w w':World} (S:Bl T G h w) {t0 r:Nat} {ks ks':List (List UInt8)} (ht0:t0∈h.live) (htok:G.tok t0=some (0,UM r ks)) (hw:GQ r w w') (hm:∃es clock,w'.heap[r]?=some (.map es clock)/\OV es ks'):
  B8 G (UL G r ks')/\Bl T (UL G r ks') ⟨h.objs,Eh t0 G.nt h.live⟩ w'/\Ae G.nt h.live:=by
 have hG:=S.mpLe r ks'
 have hT:=S.liv t0 ht0
 obtain⟨r2,ks2,e2,hbase,hfz,_⟩:=hT.mp _ htok
 obtain⟨rfl,rfl⟩:=LK e2
 have hblk0:AT G t0=some r:=EY htok
 have hne:h.live.Pairwise λa b=>a≠b:=S.lnd
 have hro:r∉h.objs.map Prod.fst:=S.todis t0 ht0 r hblk0
 have hrt:∀t∈h.live,t≠t0->AT G t≠some r:=λt ht htn e=>by
  rcases UY S.tdis ht ht0 htn with h1|h1
  ·exact h1 r e hblk0
  ·exact h1 r hblk0 e
 have hblk:∀t∈h.live,AT (UL G r ks') t=AT G t:=λt ht=>CD hG (S.liv t ht)
 have hnewblk:AT (UL G r ks') G.nt=some r:=EY (Ik G r ks')
 refine⟨hG,⟨S.below.trans (hw.below hbase),λg j x hx=>?_,λb' o u e=>?_,S.mpFin r ks',λp hp=>?_,S.nd,λt ht=>?_,?_,λt ht g hg=>?_,?_⟩,Dm λx hx=>S.ntLive x hx⟩
 ·obtain⟨u,h1,h2⟩:=S.glob g j x hx
  exact⟨u,h1,h2.mono λ_ _ _ e=>e⟩
 ·have e':G.frz b' o=some u:=e
  by_cases hbb:b'=r
  ·subst hbb;rw[hfz o] at e';cases e'
  ·rw[hw.cell hbb];exact S.frz b' o u e'
 ·have hO:=S.obj p hp
  have hpb:p.1≠r:=λe=>hro (by rw[<-e];exact List.mem_map_of_mem hp)
  exact(hO.mono hG λo ho=>ho).world (hw.block _ hpb)
 ·rcases DH hne ht with rfl|⟨ht,htne⟩
  ·exact .ofMp (Ik G r ks') hbase hfz hm
  ·have hL:=S.liv t ht
   exact(hL.mono hG λg hg o ho=>ho).world λg hg=>by
    rw[hblk t ht] at hg
    exact hw.block g λe=>hrt t ht htne (by rw[<-e];exact hg)
 ·refine DA (S.tdis.imp_of_mem fun {a b'} ha hb' hd g h1 h2=>hd g (by rw[<-hblk a ha];exact h1) (by rw[<-hblk b' hb'];exact h2)) (λx hx hxt=>⟨λg h1 h2=>?_,λg h1 h2=>?_⟩) hne
  ·rw[hnewblk] at h2;injection h2 with h2;subst h2
   rw[hblk x hx] at h1
   exact hrt x hx hxt h1
  ·rw[hnewblk] at h1;injection h1 with h1;subst h1
   rw[hblk x hx] at h2
   exact hrt x hx hxt h2
 ·rcases DH hne ht with rfl|⟨ht,_⟩
  ·rw[hnewblk] at hg;injection hg with hg;subst hg
   exact hro
  ·rw[hblk t ht] at hg
   exact S.todis t ht g hg
 ·exact DA hne (λx hx hxt=>⟨λe=>S.ntLive x hx e,λe=>S.ntLive x hx e.symm⟩) hne
theorem Bl.newMp {w:World} (S:Bl T G h w):B8 G (UL G w.heap.size [])/\Bl T (UL G w.heap.size []) ⟨h.objs,G.nt::h.live⟩ (w.alloc (.map #[] 0))/\Ae G.nt h.live:=by
 have hG:=S.mpLe w.heap.size []
 obtain⟨ha1,ha2⟩:=MapKept.heap_alloc w (.map #[] 0)
 have S1:Bl T (UL G w.heap.size []) h (w.alloc (.map #[] 0)):=S.grow ((Below.refl w.heap.size w).alloc (Nat.le_refl _) _) hG (S.mpFin _ _) (λ_ _ _ e=> .inl e) λb o u e=>by
  have:=S.frz b o u e
  rw[<-this]
  exact World.cell?_of_block (w:=w) (a:=⟨b,o,none⟩) (ha2 b (S.frzlt e))
 have hnew:AT (UL G w.heap.size []) G.nt=some w.heap.size:=EY (Ik _ _ _)
 have hlt:∀t∈h.live,∀g,AT (UL G w.heap.size []) t=some g->g<w.heap.size:=λt ht g hg=>by
  rw[CD hG (S.liv t ht)] at hg
  exact(S.liv t ht).lt hg
 refine⟨hG,⟨S1.below,S1.glob,S1.frz,S1.fin,S1.obj,S1.nd,λt ht=>?_,List.pairwise_cons.2 ⟨λt ht g h1 h2=>?_,S1.tdis⟩,λt ht g hg=>?_,List.nodup_cons.2 ⟨λhm=>S.ntLive _ hm rfl,S.lnd⟩⟩,Dm λx hx=>S.ntLive x hx⟩
 ·rcases List.mem_cons.1 ht with rfl|ht
  ·refine .ofMp (Ik _ _ _) S.below.size (λo=>?_) ⟨#[],0,ha1,rfl⟩
   cases hf:G.frz w.heap.size o with
   |none=>exact hf
   |some u=>exact absurd (S.frzlt hf) (Nat.lt_irrefl _)
  ·exact S1.liv t ht
 ·grind
 ·rcases List.mem_cons.1 ht with rfl|ht
  ·rw[hnew] at hg
   injection hg with hg
   subst hg
   intro hm
   obtain⟨p,hp,e⟩:=List.mem_map.1 hm
   have:=(S.obj p hp).lt
   omega
  ·exact S1.todis t ht g hg
theorem X9 {t:Nat} (ho:o.op= .makeMap t none) (hg:o.guard=none) (kk:∀tk,Ae tk h.live->lvc P T cp ops rest (AO o.dst (.mp tk []) sl) ⟨h.objs,tk::h.live⟩ K X):DW P T cp ops (o::rest) sl h K X:=by
 have he:BP cp o=true:=by unfold BP;rw[hg,ho]
 unfold DW
 rw[if_pos he]
 refine⟨hg,λG w a S hv Kc Q hK _=>?_⟩
 have hrun:(execOp a.eval o).run P w= .ok (.value (.map (some w.heap.size))) (w.alloc (.map #[] 0)):=by
  unfold execOp
  simp only[ho]
  simp[Instr.makeMap,newObj,Sem.run]
 unfold Oper.wp
 rw[hrun]
 obtain⟨hG,S',hf⟩:=S.newMp
 exact hK _ _ _ _ _ (AN _ _ _ (kk G.nt hf)) hG S' (.mp (Ik _ _ _))
theorem GQ.rfl' (b:Nat) (w:World):GQ b w w:=⟨rfl,rfl,rfl,rfl,λ_ _=>rfl⟩
theorem Bl.relab {w:World} (S:Bl T G h w) {b i j t t' rr:Nat} {ks ks':List (List UInt8)} {ob:Ob} {r:List AV} (hg:A9 b h.objs=some ob) (hr:ob.rows[i]?=some r) (hj:r[j]?=some (.mp t ks)) (ht:G.tok t=some (0,UM rr ks)) (ht':G.tok t'=some (0,UM rr ks')):
  Bl T G ⟨C8 b ⟨ob.k,ob.c,ob.rows.set i (r.set j (.mp t' ks'))⟩ h.objs,h.live⟩ w:=by
 refine S.write hg (GQ.rfl' b w) (λ_ _ _=>rfl) ?_
 have hO:=S.obj _ (De hg)
 obtain⟨vs,e,fz,h1,h2,h3,h4⟩:=hO.mem
 have hil:i<ob.rows.length:=(List.getElem?_eq_some_iff.1 hr).1
 have key:∀(i':Nat) (r':List AV),(ob.rows.set i (r.set j (.mp t' ks')))[i']?=some r'->∃r0,ob.rows[i']?=some r0/\r'.length=r0.length/\∀(j':Nat) (a:AV),r'[j']?=some a->r0[j']?=some a\/(i'=i/\j'=j/\a= .mp t' ks'):=by
  all_goals grind
 refine⟨hO.low,λi' r' j' e' hj'=>?_,λo' ho'=>hO.rest o' (by simpa using ho'),λr' hr'=>?_,by simpa using hO.fits,hO.cmax,vs,e,fz,h1,h2,h3,λi' r' j' a e1 e2=>?_⟩
 ·obtain⟨r0,g1,g2,_⟩:=key i' r' e'
  exact hO.free i' r0 j' g1 (by omega)
 ·obtain⟨i',hi'⟩:=List.mem_iff_getElem?.1 hr'
  obtain⟨r0,g1,g2,_⟩:=key i' r' hi'
  rcases hO.lenk r0 (List.mem_of_getElem? g1) with g3|g3
  ·exact .inl (g2.trans g3)
  ·exact .inr (List.eq_nil_of_length_eq_zero (by rw[g2,g3];rfl))
 ·obtain⟨r0,g1,g2,g3⟩:=key i' r' e1
  rcases g3 j' a e2 with g4|⟨rfl,rfl,rfl⟩
  ·exact h4 i' r0 j' a g1 g4
  ·rw[hr] at g1
   injection g1 with g1
   subst g1
   obtain⟨_,v,hv1,hv2⟩:=h4 i' r j' _ hr hj
   refine⟨rfl,v,hv1,?_⟩
   cases hv2 with
   |mp ht2=>
    rw[ht] at ht2
    injection ht2 with ht2
    injection ht2 with _ ht2
    obtain⟨rfl,_⟩:=LK ht2
    exact .mp ht'
theorem VI {ty kt et b i j t:Nat} {m x v:Operand} {ks:List (List UInt8)} {s:List UInt8} {ob:Ob} {r:List AV} (ho:o.op= .mapUpdate ty m x v) (hg:o.guard=none) (hty:P.underlying ty=some (.map kt et)) (hk:P.underlying kt=some .string)
  (hm:ev T sl m= .mp t ks) (hx:ev T sl x= .d (.str s)) (hv:ev T sl v= .agg []) (hl:h.live.contains t=true) (hob:A9 b h.objs=some ob) (hr:ob.rows[i]?=some r) (hj:r[j]?=some (.mp t ks))
  (kk:∀t',Ae t' h.live->lvc P T cp ops rest (AO o.dst .undef sl) ⟨C8 b ⟨ob.k,ob.c,ob.rows.set i (r.set j (.mp t' (Ns s ks)))⟩ h.objs,Eh t t' h.live⟩ K X):DW P T cp ops (o::rest) sl h K X:=by
 have he:BP cp o=true:=by unfold BP;rw[hg,ho]
 unfold DW
 rw[if_pos he]
 refine⟨hg,λG w a S hvs Kc Q hK _=>?_⟩
 have h1:=hvs m (by simp[ho,Op.operands])
 have h2:=hvs x (by simp[ho,Op.operands])
 have h3:=hvs v (by simp[ho,Op.operands])
 rw[hm] at h1
 rw[hx] at h2
 rw[hv] at h3
 have ht0:t∈h.live:=by simpa using hl
 generalize hem:a.eval m=vm at h1
 generalize hex:a.eval x=vx at h2
 generalize hev:a.eval v=vv at h3
 cases h1 with
 | mp htok=>
  rename_i rr
  cases h2 with
  | d h2=>
   obtain⟨tx,rfl,etx,_⟩:=h2.str_inv
   obtain rfl:=Yf etx
   cases h3 with
   | agg _ vs hl0 _=>
    have hvs0:vs=[]:=List.eq_nil_of_length_eq_zero hl0
    subst hvs0
    obtain⟨r2,ks2,e2,_,_,es,clock,hheap,hmr⟩:=(S.liv t ht0).mp _ htok
    obtain⟨rfl,rfl⟩:=LK e2
    obtain⟨es',clock',hrun0,hmr'⟩:=AcB (P:=P) (s:=s) hty hk hheap hmr
    have hset:=MapKept.heap_set (o':= .map es' clock') hheap
    have hw:GQ rr w {w with heap:=w.heap.setIfInBounds rr (.map es' clock')} :=⟨rfl,rfl,rfl,by simp,λb' hb'=>hset.2 b' hb'⟩
    have hrun:(execOp a.eval o).run P w= .ok .skip {w with heap:=w.heap.setIfInBounds rr (.map es' clock')} :=by
     unfold execOp
     simp only[ho,hem,hex,hev]
     simp[hrun0,Result.andThen]
    obtain⟨hG,S',hf⟩:=S.updMp ht0 htok hw ⟨es',clock',hset.1,hmr'⟩
    have S2:=S'.relab hob hr hj (hG.tok _ _ htok) (Ik G rr (Ns s ks))
    unfold Oper.wp
    rw[hrun]
    exact hK .undef _ (UL G rr (Ns s ks)) Go.undef _ (AN _ _ _ (kk G.nt hf)) hG S2 .undef
theorem X8 {ty kt et t:Nat} {m x:Operand} {ks:List (List UInt8)} {s:List UInt8} (ho:o.op= .lookup ty m x true) (hg:o.guard=none) (hty:P.underlying ty=some (.map kt et)) (hk:P.underlying kt=some .string) (hz:∀w:World,(zeroValue et).run P w= .ok (.agg #[]) w)
  (hm:ev T sl m= .mp t ks) (hx:ev T sl x= .d (.str s)) (hl:h.live.contains t=true) (kk:lvc P T cp ops rest (AO o.dst (.tup [.agg [],.d (.bool (decide (s∈ks)))]) sl) h K X):DW P T cp ops (o::rest) sl h K X:=by
 have he:BP cp o=false:=by unfold BP;rw[hg,ho]
 unfold DW
 rw[if_neg (by rw[he];decide)]
 refine⟨.tup [.agg [],.d (.bool (decide (s∈ks)))],?_,λh9=>?_,AN _ _ _ kk⟩
 ·unfold Yg
  rw[hg]
  intro G w a S hvs Kc Q hK
  have h1:=hvs m (by simp[ho,Op.operands])
  have h2:=hvs x (by simp[ho,Op.operands])
  rw[hm] at h1
  rw[hx] at h2
  have ht0:t∈h.live:=by simpa using hl
  generalize hem:a.eval m=vm at h1
  generalize hex:a.eval x=vx at h2
  cases h1 with
  | mp htok=>
   cases h2 with
   | d h2=>
    obtain⟨tx,rfl,etx,_⟩:=h2.str_inv
    obtain rfl:=Yf etx
    obtain⟨r2,ks2,e2,_,_,es,clock,hheap,hmr⟩:=(S.liv t ht0).mp _ htok
    obtain⟨rfl,rfl⟩:=LK e2
    have hrun0:=TH (P:=P) (s:=s) hty hk (hz w) hheap hmr
    have hrun:(execOp a.eval o).run P w= .ok (.value (.tuple #[.agg #[],.bool (decide (s∈ks))])) w:=by
     unfold execOp
     simp only[ho,hem,hex]
     simp[hrun0,Result.andThen]
    unfold Oper.wp
    rw[hrun]
    refine hK G _ w (B8.refl G) S (.tup _ [.agg #[],.bool (decide (s∈ks))] rfl λi a v e1 e2=>?_)
    match i,e1,e2 with
    |0,e1,e2=>
     simp at e1 e2
     subst e1;subst e2
     exact .agg [] [] rfl λi a v e1 e2=>by simp at e1
    |1,e1,e2=>
     simp at e1 e2
     subst e1;subst e2
     exact .d (.bool _)
    |i+2,e1,e2=>simp at e1
 ·unfold Np at h9
  rw[ho] at h9
  cases h9
theorem VJ {ty b k i off:Nat} {ad x:Operand} (ho:o.op= .store ty ad x) (hg:o.guard=none) (hsz:∀w:World,(sizeOf ty).run P w= .ok 0 w) (ha:ev T sl ad= .ptr b k i off) (hx:ev T sl x= .agg [])
  (kk:lvc P T cp ops rest (AO o.dst .undef sl) h K X):DW P T cp ops (o::rest) sl h K X:=by
 have he:BP cp o=true:=by unfold BP;rw[hg,ho]
 unfold DW
 rw[if_pos he]
 refine⟨hg,λG w a S hvs Kc Q hK _=>?_⟩
 have h1:=hvs ad (by simp[ho,Op.operands])
 have h2:=hvs x (by simp[ho,Op.operands])
 rw[ha] at h1
 rw[hx] at h2
 generalize hea:a.eval ad=va at h1
 generalize hex:a.eval x=vx at h2
 cases h1
 cases h2 with
 | agg _ vs hl0 _=>
  have hvs0:vs=[]:=List.eq_nil_of_length_eq_zero hl0
  subst hvs0
  have hrun:(execOp a.eval o).run P w= .ok .skip w:=by
   unfold execOp
   simp only[ho,hea,hex]
   simp[Instr.storeAt,Instr.sureAddr,storeVar,hsz w,storeCells,Value.cells,Result.andThen]
  unfold Oper.wp
  rw[hrun]
  exact hK .undef _ G Go.undef w (AN _ _ _ kk) (B8.refl G) S .undef
end
end
end Go.Proofs.YtidldcfpmehpiaaGreatDoor
