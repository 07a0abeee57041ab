/- Texts that the laws rest on, packed. -/
import Derived.Test.YtidldcfpmehpiaaGreatDoorGB
import Derived.MapKept
set_option linter.unusedSimpArgs false
set_option linter.unusedVariables false
set_option maxRecDepth 20000
set_option maxHeartbeats 4000000
namespace Go.Proofs.YtidldcfpmehpiaaGreatDoor
section
open Go.RowKit
def mA (b k c n:Nat):AV:=if c=0 then .full k [] else .arr b k n c
def mO (b k c:Nat) (rows:List (List AV)) (F:List (Nat×Ob)):List (Nat×Ob):=if c=0 then F else(b,⟨k,c,rows⟩)::F
theorem mA_nil (b k n:Nat):mA b k 0 n= .full k []:=rfl
theorem mA_pos {b k c n:Nat} (h:0<c):mA b k c n= .arr b k n c:=if_neg (by omega)
theorem mO_nil (b k:Nat) (rows:List (List AV)) (F:List (Nat×Ob)):mO b k 0 rows F=F:=rfl
theorem mO_pos {b k c:Nat} {rows:List (List AV)} {F:List (Nat×Ob)} (h:0<c):mO b k c rows F=(b,⟨k,c,rows⟩)::F:=if_neg (by omega)
def dRows (src:List (List D)):List (List AV):=src.map fun r=>r.map .d
section
variable {P:Program} {T:Tbl} {G:Gh} {h:AH} {w:World}
theorem append_genM {t t2 e k by_:Nat} (ty:TypeId) (hsl:slI P t=some (e,k,by_)) (ht2:∃d,P.underlying t2=some d∧∀kk,d≠ .int kk) {B:Nat} (hB:B≤w.heap.size) {n m:Nat} {A:Option Addr} {c:Nat}
  {x:Value} {old new:List Value} (holdlen:old.length=n*k) (hcells:new.length=m*k) (hone:∀v∈new,v.oneCell'=true) (hlen:∀w',(Builtin.lenOf x).run P w'= .ok m w')
  (hread:∀w':World,w'.heap=w.heap→(Builtin.firstCells k m x).run P w'= .ok new.toArray w') (h63:n+m≤maxLen) (hby:(n+m)*by_≤140737488355328) (hm:0<m)
  (ho2:∀w':World,w'.heap=w.heap→(Builtin.firstCells k n (.slice A n c)).run P w'= .ok old.toArray w') (hcm:c≤maxLen)
  (hA0:A=none→c=0) (hA:∀a,A=some a→0<c→∃(g:Nat) (vs:Array Value) (ety:TypeId) (fz:Nat×Nat),a=⟨g,0,none⟩∧B≤g∧w.heap[g]?=some (.cells vs ety fz)∧vs.size=c*k∧
   (∀o,o<vs.size→(decide (fz.1≤o)&&decide (o<fz.2))=false)∧∀o,o<n*k→vs[o]?=old[o]?)
  {R:Value→World→Prop}
  (fin:∀(b c2:Nat) (w':World) (vs:Array Value) (ty:TypeId) (fz:Nat×Nat),B≤b→n+m≤c2→c2≤maxLen→Below B w w'→w'.heap[b]?=some (.cells vs ty fz)→vs.size=c2*k→
   (∀o,o<vs.size→(decide (fz.1≤o)&&decide (o<fz.2))=false)→(∀o,o<(n+m)*k→vs[o]?=(old++new)[o]?)→(∀b',b'≠b→b'<w.heap.size→w'.heap[b']?=w.heap[b']?)→
   ((A=some ⟨b,0,none⟩∧0<c)∨b=w.heap.size)→R (.slice (some ⟨b,0,none⟩) (n+m) c2) w'):
  ∃v w',(Builtin.append_ #[t,t2] ty #[.slice A n c,x]).run P w= .ok v w'∧R v w':=by
 obtain⟨i,hu,hi,hsz,hbytes,hz,hk⟩:=slI_inv hsl
 obtain⟨z,hz1,hz2⟩:=Option.map_eq_some_iff.1 hz
 obtain⟨d2,hu2,hd2⟩:=ht2
 have hnint:(match d2 with| .int _=>true|_=>false)=false:=by cases d2<;>first|rfl|exact absurd rfl (hd2 _)
 have hnum2:¬(((n+m:Nat):Int)>IntKind.i64.max):=by
  have:IntKind.i64.max=9223372036854775807:=by decide
  unfold maxLen at h63
  omega
 by_cases hfit:n+m≤c
 ·cases A with
  |none=>
   have:=hA0 rfl
   omega
  |some a=>
   obtain⟨g,vs,ety,fz,rfl,hgb,hheap,hvs,hfz,hsame⟩:=hA a rfl (by omega)
   have hle:(n+m)*k≤vs.size:=by rw[hvs];exact Nat.mul_le_mul_right _ hfit
   obtain⟨vs',q1,q2,q3⟩:=setCells_heap g new (n*k) w vs ety fz hheap
   have hR:=fin g c (w.setCells g (n*k) new) vs' ety fz hgb hfit hcm ((setCells_wrote g _ _ w).below hgb) q1 (by rw[q2];exact hvs) (by rw[q2];exact hfz) (fun o ho=>by
     rw[q3 o (by omega)]
     by_cases hon:n*k≤o
     ·rw[if_pos (by rw[hcells];rw[Nat.add_mul] at ho;omega),List.getElem?_append_right (by omega),holdlen]
     ·rw[if_neg (by omega),List.getElem?_append_left (by omega)]
      exact hsame o (by omega)) (fun b' hb' _=>(setCells_wrote g _ _ w).block b' hb') (.inl ⟨rfl,by omega⟩)
   refine⟨_,_,?_,hR⟩
   have h1:=hread w rfl
   have hst:=run_storeCells_cells (P:=P) g (n*k) new 0 w (fun j hj=>by
     rw[cell_of_row _ _ _ vs ety fz hheap,Nat.add_zero,Array.getElem?_eq_getElem (by rw[Nat.add_mul] at hle;omega)]
     rfl) (fun j hj=>by
     have:=hfz (n*k+j) (by rw[Nat.add_mul] at hle;omega)
     simp only[World.frozen?,hheap,Nat.add_zero]
     exact this) hone
   simp only[Nat.add_zero] at hst
   simp[Builtin.append_,run_underlying hu,run_sizeOf hi,hsz,run_underlying hu2,hnint,hlen,h1,hfit,add_at,hst]
 ·have hneed:c<n+m:=by omega
  let q:=Question.appendCap (n+m) c e
  have hcap:n+m≤q.cut (w.tape w.drawn q)∧q.cut (w.tape w.drawn q)≤maxLen:=by
   have h0:0<2^63-(n+m):=by unfold maxLen at h63;omega
   have:=Nat.mod_lt (w.tape w.drawn q) h0
   show n+m≤n+m+w.tape w.drawn q%_∧_+w.tape w.drawn q%_≤_
   unfold maxLen at*
   omega
  generalize hq:q.cut (w.tape w.drawn q)=cap at hcap
  let vs:Array Value:=old.toArray++new.toArray++Builtin.zeroCells z.cells (cap-(n+m))
  have hzs:(Builtin.zeroCells z.cells (cap-(n+m))).size=(cap-(n+m))*k:=by simp[Builtin.zeroCells,hz2]
  have hvs:vs.size=cap*k:=by
   show(old.toArray++new.toArray++_).size=_
   rw[Array.size_append,Array.size_append,hzs]
   simp only[List.size_toArray,holdlen,hcells]
   rw[←Nat.add_mul,←Nat.add_mul]
   congr 1
   omega
  have hR:=fin w.heap.size cap (w.drew.alloc (.cells vs e)) vs e (0,0) hB hcap.1 hcap.2 ((Below.refl _ _).drew.alloc hB _) (heap_alloc_new w.drew _) hvs (fun o _=>by simp) (fun o ho=>by
    have h1:o<(old++new).length:=by rw[List.length_append,holdlen,hcells,←Nat.add_mul];exact ho
    show(old.toArray++new.toArray++_)[o]?=_
    rw[Array.getElem?_append_left (by simpa using h1)]
    simp) (fun b' hb' hlt=>Below.heap_alloc w.drew _ b' hlt) (.inr rfl)
  refine⟨_,_,?_,hR⟩
  have hd:=hread w.drew rfl
  have hod:=ho2 w.drew rfl
  have hfits:¬((Builtin.nextslicecap (n+m) c*i.bytes)>2^48):=by
   have:=growslice_fits (need:=n+m) (old:=c) (bytes:=by_) hneed hby
   rw[hbytes]
   omega
  have hask:∀n w',(askRoom n).run P w'= .ok () w':=fun n w'=>by unfold askRoom;split<;>rfl
  have hforced:q.forced=false:=rfl
  have hchoose:(choose q).run P w= .ok cap w.drew:=by
   show(if q.forced=true then _ else _:Result Nat)=_
   rw[hforced]
   simp only[Bool.false_eq_true,if_false]
   rw[←hq]
   rfl
  have hch:(choose (.appendCap (n+m) c e)).run P w= .ok cap w.drew:=hchoose
  have hfits':¬(2^48<Builtin.nextslicecap (n+m) c*i.bytes):=hfits
  simp only[Builtin.append_,Sem.run_bind,run_underlying hu,run_underlying hu2,run_sizeOf hi,Result.andThen_ok,List.getElem?_toArray,List.getElem?_cons_zero,List.getElem?_cons_succ,Sem.run_pure,hsz,hnint,hlen,bind_assoc,pure_bind,Bool.false_eq_true,if_false]
  rw[if_neg hfit]
  have hti:∀w',(typeInfo e).run P w'= .ok i w':=fun w'=>by simp[typeInfo,hi]
  have hzv:(zeroValue e).run P w.drew= .ok z w.drew:=by simp[zeroValue,typeInfo,hi,hz1]
  simp only[Sem.run_bind,Sem.run_ite,Result.andThen_ok,hti,hod,hd,hask,hch,hzv,Sem.run_pure,hfits,if_false,bind_assoc,pure_bind]
  rw[if_neg (fun hh=>hnum2 hh.1)]
  simp[hti,hfits',hod,hd,hzv,hask,newRow,newObj,Sem.run]
  simp[vs]
theorem Sim.setM {H F:List (Nat×Ob)} {L:List Nat} {w':World} (S:Sim T G ⟨H,L⟩ w) (hF:F.Sublist H) {b:Nat} {ob:Ob} (hno:∀o,G.frz b o=none) (hbF:b∉F.map Prod.fst) (hbt:∀t∈L,tokBlk G t≠some b)
  (hbel:Below G.base.heap.size w w') (hoth:∀b',b'≠b→b'<w.heap.size→w'.heap[b']?=w.heap[b']?) (hob:ObR G w' b ob):Sim T G ⟨(b,ob)::F,L⟩ w':=by
 refine⟨S.below.trans hbel,S.glob,fun b' o u e=>?_,S.fin,fun p hp=>?_,?_,fun t ht=>?_,S.tdis,fun t ht g hg=>?_,S.lnd⟩
 ·by_cases hbb:b'=b
  ·subst hbb;rw[hno] at e;cases e
  ·have:=S.frz b' o u e
   rw[←this]
   exact World.cell?_of_block (w:=w) (a:=⟨b',o,none⟩) (hoth b' hbb (S.frzlt e))
 ·rcases List.mem_cons.1 hp with rfl|hp
  ·exact hob
  ·have hO:=S.obj p (hF.subset hp)
   exact hO.world (hoth _ (fun e=>hbF (by rw[←e];exact List.mem_map_of_mem hp)) hO.lt)
 ·rw[List.map_cons,List.nodup_cons]
  exact⟨hbF,S.nd.sublist (hF.map _)⟩
 ·have hL:=S.liv t ht
  exact hL.world (fun g hg=>hoth g (fun e=>hbt t ht (by rw[←e];exact hg)) (hL.lt hg))
 ·rw[List.map_cons,List.mem_cons]
  rintro(rfl|hm)
  ·exact hbt t ht hg
  ·exact S.todis t ht g hg ((hF.map _).subset hm)
def ARows (G:Gh) (k:Nat) (src:List (List AV)) (cells:List Value):Prop:=
 cells.length=src.length*k∧(∀r∈src,r.length=k)∧(∀v∈cells,v.oneCell'=true)∧∀(i:Nat) (r:List AV) (j:Nat) (a:AV),src[i]?=some r→r[j]?=some a→a.one=true∧∃v,cells[i*k+j]?=some v∧VR G a v
theorem dRows_get {src:List (List D)} {i:Nat} {r:List AV} (h:(dRows src)[i]?=some r):∃q,src[i]?=some q∧r=q.map .d:=by
 unfold dRows at h
 rw[List.getElem?_map] at h
 obtain⟨q,h1,h2⟩:=Option.map_eq_some_iff.1 h
 exact⟨q,h1,h2.symm⟩
@[go_sem] theorem dRows_len (src:List (List D)):(dRows src).length=src.length:=by simp[dRows]
theorem CellRows.a {k:Nat} {src:List (List D)} {cells:List Value} (h:CellRows G.frz k src cells):ARows G k (dRows src) cells:=
 ⟨by rw[dRows_len];exact h.1,fun r hr=>by
  obtain⟨q,hq,rfl⟩:=List.mem_map.1 hr
  rw[List.length_map];exact h.2.1 q hq,h.2.2.1,fun i r j a e1 e2=>by
  obtain⟨q,h1,rfl⟩:=dRows_get e1
  rw[List.getElem?_map] at e2
  obtain⟨d,hd,rfl⟩:=Option.map_eq_some_iff.1 e2
  obtain⟨v,h3,h4⟩:=h.2.2.2 _ _ _ _ h1 hd
  exact⟨rfl,v,h3,.d h4⟩⟩
theorem run_appendM {t t2 e k by_:Nat} (ty:TypeId) (hsl:slI P t=some (e,k,by_)) (ht2:∃d,P.underlying t2=some d∧∀kk,d≠ .int kk) {b0 c0:Nat} {rows:List (List AV)} {F:List (Nat×Ob)} {L:List Nat} {src:List (List AV)} (hc0:c0=0→rows=[])
    (S:Sim T G ⟨mO b0 k c0 rows F,L⟩ w) (hfull:∀r∈rows,r.length=k) {v0:Value} (hv:VR G (mA b0 k c0 rows.length) v0) {x:Value} {new:List Value} (hnew:ARows G k src new) (hlen:∀w',(Builtin.lenOf x).run P w'= .ok src.length w')
    (hread:∀w':World,w'.heap=w.heap→(Builtin.firstCells k src.length x).run P w'= .ok new.toArray w') (h63:rows.length+src.length≤maxLen) (hby:(rows.length+src.length)*by_≤140737488355328) (hm:0<src.length):
    ∃v w',(Builtin.append_ #[t,t2] ty #[v0,x]).run P w= .ok v w'∧∃b c,0<c∧freshL b F∧Sim T G ⟨(b,⟨k,c,rows++src⟩)::F,L⟩ w'∧VR G (.arr b k (rows.length+src.length) c) v:=by
  obtain⟨_,_,_,_,_,_,hk⟩:=slI_inv hsl
  have hcells:new.length=src.length*k:=hnew.1
  -- what the append needs of memory
  obtain⟨A,c,old,rfl,holdlen,ho2,hcm,hA0,hA,hF,hval,hbo⟩:∃(A:Option Addr) (c:Nat) (old:List Value),v0= .slice A rows.length c∧old.length=rows.length*k∧(∀w':World,w'.heap=w.heap→(Builtin.firstCells k rows.length (.slice A rows.length c)).run P w'= .ok old.toArray w')∧c≤maxLen∧
      (A=none→c=0)∧(∀a,A=some a→0<c→∃(g:Nat) (vs:Array Value) (ety:TypeId) (fz:Nat×Nat),a=⟨g,0,none⟩∧G.base.heap.size≤g∧w.heap[g]?=some (.cells vs ety fz)∧vs.size=c*k∧
        (∀o,o<vs.size→(decide (fz.1≤o)&&decide (o<fz.2))=false)∧∀o,o<rows.length*k→vs[o]?=old[o]?)∧F.Sublist (mO b0 k c0 rows F)∧
      (∀(i:Nat) (r:List AV) (j:Nat) (a:AV),rows[i]?=some r→r[j]?=some a→a.one=true∧∃v,old[i*k+j]?=some v∧VR G a v)∧
      (∀b,A=some ⟨b,0,none⟩→0<c→(∀o,G.frz b o=none)∧b∉F.map Prod.fst∧∀t∈L,tokBlk G t≠some b):=by
    rcases Nat.eq_zero_or_pos c0 with h0|h0
    · have hr:rows=[]:=hc0 h0
      subst hr
      subst h0
      rw[mA_nil] at hv
      cases hv with
      | @full _ _ A hd=>
      refine⟨A,0,[],rfl,by simp,fun w' _=>?_,by decide,fun _=>rfl,fun a e h=>(by omega),List.Sublist.refl _,fun i r j a e=>by simp at e,fun b e h=>by omega⟩
      cases A<;>simp[Builtin.firstCells,loadCells,loadCellsFrom]
    · rw [mA_pos h0] at hv
      rw[mO_pos h0] at S⊢
      cases hv
      have hO:=S.obj _ (List.mem_cons_self ..)
      obtain⟨vs,ety,fz,hheap,hvs,hfz,hm⟩:=hO.mem
      have hfit:=hO.fits
      dsimp only at hvs hm hheap hfit
      have hle:rows.length*k≤vs.size:=by rw[hvs];exact Nat.mul_le_mul_right _ hfit
      have hcell:∀o,o<rows.length*k→(vs.toList.take (rows.length*k))[o]?=vs[o]?:=fun o ho=>by rw[List.getElem?_take_of_lt ho,Array.getElem?_toList]
      refine⟨some ⟨b0,0,none⟩,c0,vs.toList.take (rows.length*k),rfl,by simp;exact Nat.min_eq_left hle,fun w' hw'=>?_,hO.cmax,(fun e=>by cases e),fun a e _=>?_,List.sublist_cons_self ..,fun i r j a h1 h2=>?_,fun b e _=>?_⟩
      · have:=run_loadCells_list (P:=P) w' ⟨b0,0,none⟩ (vs.toList.take (rows.length*k)) (fun q v hv=>by
          have hq:q<rows.length*k:=by
            have:=(List.getElem?_eq_some_iff.1 hv).1
            simp at this;omega
          rw[hcell q hq] at hv
          rw[add_at,Nat.zero_add]
          have:=cell_of_row w b0 q vs ety fz hheap
          rw[hv] at this
          simpa[World.cell?,hw'] using this)
        simpa[Builtin.firstCells,Nat.min_eq_left hle] using this
      · injection e with e
        exact⟨b0,vs,ety,fz,e.symm,hO.low,hheap,hvs,hfz,fun o ho=>(hcell o ho).symm⟩
      · obtain ⟨h3,v,h4,h5⟩:=hm i r j a h1 h2
        refine⟨h3,v,?_,h5⟩
        have hi:i<rows.length:=(List.getElem?_eq_some_iff.1 h1).1
        have hj:j<k:=by rw[←hfull r (List.mem_of_getElem? h1)];exact(List.getElem?_eq_some_iff.1 h2).1
        have hlt:i*k+j<rows.length*k:=by
          calc i*k+j<i*k+k:=by omega
            _=(i+1)*k:=by rw[Nat.succ_mul]
            _≤rows.length*k:=Nat.mul_le_mul_right _ (by omega)
        rw[hcell _ hlt];exact h4
      · injection e with e
        injection e with e1
        subst e1
        refine⟨fun o=>?_,(List.nodup_cons.1 S.nd).1,fun t ht e=>S.todis t ht _ e (List.mem_cons_self ..)⟩
        rcases Nat.lt_or_ge o (rows.length*k) with ho|ho
        · have hi:o/k<rows.length:=Nat.div_lt_of_lt_mul (by rw[Nat.mul_comm];exact ho)
          have h1:rows[o/k]?=some rows[o/k]:=List.getElem?_eq_getElem hi
          have:=hO.free (o/k) _ (o%k) h1 (by rw[hfull _ (List.getElem_mem hi)];exact Nat.mod_lt _ hk)
          dsimp only at this
          rwa [←cells_div hk] at this
        · exact hO.rest o ho
  refine append_genM ty hsl ht2 S.below.size holdlen hcells hnew.2.2.1 hlen hread h63 hby hm ho2 hcm hA0 hA (R:=fun v w'=> ∃b c,0<c∧freshL b F∧Sim T G ⟨(b,⟨k,c,rows++src⟩)::F,L⟩ w'∧VR G (.arr b k (rows.length+src.length) c) v) ?_
  intro b c2 w' vs ety fz hb hc2 hcm2 hbel hheap hvs hfz hsame hoth hwhere
  obtain⟨hno,hbF,hbt⟩:(∀o,G.frz b o=none)∧b∉F.map Prod.fst∧∀t∈L,tokBlk G t≠some b:=by
    rcases hwhere with⟨e,hc⟩|e
    · exact hbo b e hc
    · subst e
      refine⟨fun o=>S.nofrz (Nat.le_refl _) o,fun hm=>?_,fun t ht e=>?_⟩
      · obtain ⟨p,hp,e⟩:=List.mem_map.1 hm
        have:=S.fresh p (hF.subset hp)
        omega
      · have:=(S.liv t ht).lt e
        omega
  refine⟨b,c2,by omega,fresh_objs fun p hp e=>hbF (by rw[←e];exact List.mem_map_of_mem hp),S.setM hF hno hbF hbt hbel hoth ⟨hb,fun _ _ _ _ _=>hno _,fun _ _=>hno _,fun r hr=> .inl ?_,by simp;exact hc2,hcm2,vs,ety,fz,hheap,hvs,hfz,fun i r j a hr ha=>?_⟩,.arr b k _ c2⟩
  · rcases List.mem_append.1 hr with hr|hr
    · exact hfull r hr
    · exact hnew.2.1 r hr
  · dsimp only at hr⊢
    have hik:∀{i n:Nat},i<n→∀{j},j<k→i*k+j<n*k:=fun {i n} hi {j} hj=>by
      calc i*k+j<i*k+k:=by omega
        _=(i+1)*k:=by rw[Nat.succ_mul]
        _≤n*k:=Nat.mul_le_mul_right _ (by omega)
    rcases Nat.lt_or_ge i rows.length with hi|hi
    · rw [List.getElem?_append_left hi] at hr
      obtain⟨h3,v,h4,h5⟩:=hval i r j a hr ha
      have hj:j<k:=by rw[←hfull r (List.mem_of_getElem? hr)];exact(List.getElem?_eq_some_iff.1 ha).1
      have h6:=hik hi hj
      refine⟨h3,v,?_,h5⟩
      rw[hsame _ (by rw[Nat.add_mul];omega),List.getElem?_append_left (by omega)]
      exact h4
    · rw [List.getElem?_append_right hi] at hr
      obtain⟨h1,v,h3,h4⟩:=hnew.2.2.2 _ _ _ _ hr ha
      have hi2:i-rows.length<src.length:=(List.getElem?_eq_some_iff.1 hr).1
      have hj:j<k:=by rw[←hnew.2.1 r (List.mem_of_getElem? hr)];exact(List.getElem?_eq_some_iff.1 ha).1
      have h6:=hik hi2 hj
      have h7:i*k+j=rows.length*k+((i-rows.length)*k+j):=by
        rw[←Nat.add_assoc,←Nat.add_mul];congr 2;omega
      refine⟨h1,v,?_,h4⟩
      rw[hsame _ (by rw[Nat.add_mul];omega),List.getElem?_append_right (by omega),holdlen,h7,Nat.add_sub_cancel_left]
      exact h3
variable {sl:List AV} {ops:Array Oper} {rest:List Oper} {o:Oper} {K:List AV→AH→Prop} {X:AV→AH→Prop} {cp:Bool} {Q:AQ}
theorem DW.appM {s x:Operand} {t t2 e k by_ b0 c0:Nat} {rows:List (List AV)} {F:List (Nat×Ob)} {L:List Nat} {src:List (List D)} {k':Nat} (ho:o.op= .call {callee:= .builtin .append,args:= #[s,x],argTypes:= #[t,t2]}) (hg:o.guard=none) (hs:ev T sl s=mA b0 k c0 rows.length) (hh:h=⟨mO b0 k c0 rows F,L⟩) (hc0:c0=0→rows=[]) (hx:srcR (ev T sl x)=some (k',src))
  (hsl:slI P t=some (e,k,by_)) (ht2:(P.underlying t2).isSome=true) (hti:intI P t2=none) (hfull:∀r∈rows,r.length=k) (hkk:k'=k) (hm:0<src.length) (h63:rows.length+src.length≤9223372036854775807) (hby:(rows.length+src.length)*by_≤140737488355328)
  (kk:∀b c,0<c→freshL b F→lvc P T cp ops rest (putA o.dst (.arr b k (rows.length+src.length) c) sl) ⟨(b,⟨k,c,rows++dRows src⟩)::F,L⟩ K X):DW P T cp ops (o::rest) sl h K X:=by
 subst hh
 unfold DW
 rw[if_pos (effK_append ho hg)]
 refine⟨hg,fun G w a S hv Kc Q hK _=>?_⟩
 obtain⟨_,_,_,_,_,_,hk⟩:=slI_inv hsl
 have hvs:=hv s (by simp[ho,Op.operands,Call.operands])
 have hvx:=hv x (by simp[ho,Op.operands,Call.operands])
 rw[hs] at hvs
 obtain⟨new,h1,h2,h3⟩:=src_ok (P:=P) hk hx (.inl hkk) S hvx
 obtain⟨d2,hd2⟩:=Option.isSome_iff_exists.1 ht2
 obtain⟨v,w',hrun,b,c2,hcp,hfr,S',hv'⟩:=run_appendM (src:=dRows src) o.type hsl ⟨d2,hd2,fun kk e=>by unfold intI at hti;rw[hd2,e] at hti;cases hti⟩ hc0 S hfull hvs h1.a (by rw[dRows_len];exact h2) (by rw[dRows_len];exact h3) (by rw[dRows_len];unfold maxLen;omega) (by rw[dRows_len];exact hby) (by rw[dRows_len];exact hm)
 have hrun':(execOp a.eval o).run P w= .ok (.value v) w':=by
  unfold execOp
  simp only[ho,resolve,invoke,builtin,Sem.run_bind,Sem.run_pure,Result.andThen_ok,List.map_toArray,List.map_cons,List.map_nil,hrun]
 unfold Oper.wp
 rw[hrun']
 exact hK _ _ G v w' (lvc_ok rest _ _ (kk b c2 hcp hfr)) (Gle.refl G) S' (by simpa[dRows_len] using hv')
theorem Sim.ownM (P:Program) {b k c:Nat} {rows:List (List D)} {F:List (Nat×Ob)} {L:List Nat} (S:Sim T G ⟨(b,⟨k,c,dRows rows⟩)::F,L⟩ w) (hk:0<k) (hfull:∀r∈rows,r.length=k):
    ∃G':Gh,Gle G G'∧Sim T G' ⟨F,G.nt::L⟩ w∧VR G' (.own G.nt k rows) (.slice (some ⟨b,0,none⟩) rows.length c)∧freshT G.nt L:=by
  have hO:=S.obj _ (List.mem_cons_self ..)
  obtain⟨vs,ety,fz,hheap,hvs,hfz,hm⟩:=hO.mem
  have hcm:=hO.cmax
  have hrest:=hO.rest
  have hfree:=hO.free
  have hlow:=hO.low
  have h1:=hO.fits
  dsimp only at hvs hm hcm hrest hlow hheap h1 hfree
  have hlenr:(dRows rows).length=rows.length:=by simp[dRows]
  rw[hlenr] at hrest h1
  have hsz:rows.length*k≤vs.size:=by rw[hvs];exact Nat.mul_le_mul_right _ h1
  have hget:∀(i:Nat) (r:List D),rows[i]?=some r→(dRows rows)[i]?=some (r.map .d):=fun i r h=>by unfold dRows;rw[List.getElem?_map,h];rfl
  have hno:∀o,G.frz b o=none:=fun o=>by
    rcases Nat.lt_or_ge o (rows.length*k) with ho|ho
    · have hi:o/k<rows.length:=Nat.div_lt_of_lt_mul (by rw[Nat.mul_comm];exact ho)
      have:=hfree (o/k) _ (o%k) (hget _ _ (List.getElem?_eq_getElem hi)) (by rw[List.length_map,hfull _ (List.getElem_mem hi)];exact Nat.mod_lt _ hk)
      rwa [←cells_div hk] at this
    · exact hrest o ho
  have hbF:b∉F.map Prod.fst:=(List.nodup_cons.1 S.nd).1
  have hbt:∀t∈L,tokBlk G t≠some b:=fun t ht e=>S.todis t ht b e (List.mem_cons_self ..)
  have hnt:∀t∈L,t≠G.nt:=fun t ht e=>by
    obtain⟨_,e2⟩:=(S.liv _ ht).any
    rw[S.fin t (by omega)] at e2
    cases e2
  let F':Frz:=fun b' o=>if b'=b then(if o<rows.length*k then vs[o]? else none) else G.frz b' o
  let G':Gh:= {base:=G.base,frz:=F',tok:=fun t=>if t=G.nt then some (k,.slice (some ⟨b,0,none⟩) rows.length c) else G.tok t,nt:=G.nt+1 }
  have hF:∀b' o u,G.frz b' o=some u→F' b' o=some u:=fun b' o u e=>by
    show(if b'=b then _ else _)=_
    by_cases hbb:b'=b
    · subst hbb;rw[hno] at e;cases e
    · rw [if_neg hbb];exact e
  have hG:Gle G G':=⟨rfl,hF,fun b' o u e=>by
    have e':(if b'=b then(if o<rows.length*k then vs[o]? else none) else G.frz b' o)=some u:=e
    by_cases hbb:b'=b
    · exact .inr (by rw[hbb];exact hlow)
    · rw [if_neg hbb] at e';exact .inl e',fun t x e=>by
    show(if t=G.nt then _ else _)=_
    rw[if_neg (fun e'=>by rw[S.fin t (by omega)] at e;cases e)]
    exact e⟩
  have hne_b:∀b',b'≠b→∀o,G.frz b' o=none→F' b' o=none:=fun b' hb' o e=>by
    show(if b'=b then _ else _)=_
    rw[if_neg hb'];exact e
  have hcell:∀(i:Nat) (r:List D) (j:Nat) (x:D),rows[i]?=some r→r[j]?=some x→∃v,vs[i*k+j]?=some v∧VD F' x v:=fun i r j x h2 h3=>by
    obtain⟨_,v,h4,h5⟩:=hm i _ j (.d x) (hget i r h2) (by rw[List.getElem?_map,h3];rfl)
    cases h5 with
    |d h5=>exact⟨v,h4,h5.mono hF⟩
  have htk:∀o,o<rows.length*k→(vs.toList.take (rows.length*k))[o]?=vs[o]?:=fun o ho=>by rw[List.getElem?_take_of_lt ho,Array.getElem?_toList]
  have hCR:CellRows F' k rows (vs.toList.take (rows.length*k)):=by
    refine⟨by simp;exact Nat.min_eq_left hsz,hfull,fun v hv=>?_,fun i r j x h2 h3=>?_⟩
    · obtain ⟨q,hq,rfl⟩:=List.getElem_of_mem hv
      have hq':q<rows.length*k:=by simp at hq;omega
      have hi:q/k<rows.length:=Nat.div_lt_of_lt_mul (by rw[Nat.mul_comm];exact hq')
      have hj:q%k<rows[q/k].length:=by rw[hfull _ (List.getElem_mem hi)];exact Nat.mod_lt _ hk
      obtain⟨v,h4,h5⟩:=hcell (q/k) _ (q%k) _ (List.getElem?_eq_getElem hi) (List.getElem?_eq_getElem hj)
      rw[←cells_div hk] at h4
      have:=htk q hq'
      rw[List.getElem?_eq_getElem hq,h4] at this
      injection this with this
      rw[this];exact h5.one
    · obtain ⟨v,h4,h5⟩:=hcell i r j x h2 h3
      have hi:i<rows.length:=(List.getElem?_eq_some_iff.1 h2).1
      have hj:j<k:=by rw[←hfull r (List.mem_of_getElem? h2)];exact(List.getElem?_eq_some_iff.1 h3).1
      have hlt:i*k+j<rows.length*k:=by
        calc i*k+j<i*k+k:=by omega
          _=(i+1)*k:=by rw[Nat.succ_mul]
          _≤rows.length*k:=Nat.mul_le_mul_right _ (by omega)
      exact⟨v,by rw[htk _ hlt];exact h4,h5⟩
  have hVD:VD F' (.slc k rows) (.slice (some ⟨b,0,none⟩) rows.length c):=VD.of_cells hCR (fun o u hu=>by
    have hlt:o<rows.length*k:=by
      have:=(List.getElem?_eq_some_iff.1 hu).1
      simp at this;omega
    show(if b=b then(if o<_ then vs[o]? else none) else _)=_
    rw[if_pos rfl,if_pos hlt,←htk o hlt]
    exact hu) h1 hcm
  have hblk:∀t∈L,tokBlk G' t=tokBlk G t:=fun t ht=>tokBlk_mono hG (S.liv t ht)
  have hnewblk:∀g,tokBlk G' G.nt=some g→g=b:=fun g hg=>by
    unfold tokBlk at hg
    have e1:G'.tok G.nt=some (k,Value.slice (some ⟨b,0,none⟩) rows.length c):=by show(if G.nt=G.nt then _ else _)=_;rw[if_pos rfl]
    rw[e1] at hg
    dsimp only at hg
    split at hg
    · injection hg with hg;exact hg.symm
    · cases hg
  have htok:G'.tok G.nt=some (k,.slice (some ⟨b,0,none⟩) rows.length c):=by show(if G.nt=G.nt then _ else _)=_;rw[if_pos rfl]
  refine⟨G',hG,?_,.own hVD htok,fresh_tok hnt⟩
  refine⟨S.below,fun g j x hx=>?_,fun b' o u e=>?_,fun t ht=>?_,fun p hp=>?_,(List.nodup_cons.1 S.nd).2,fun t ht=>?_,?_,fun t ht g hg=>?_,List.nodup_cons.2 ⟨fun hm=>hnt _ hm rfl,S.lnd⟩⟩
  · obtain ⟨u,h2,h3⟩:=S.glob g j x hx
    exact⟨u,hF _ _ _ h2,h3.mono hF⟩
  · have e':(if b'=b then(if o<rows.length*k then vs[o]? else none) else G.frz b' o)=some u:=e
    by_cases hbb:b'=b
    · subst hbb
      rw[if_pos rfl] at e'
      split at e'
      · rw [cell_of_row _ _ _ vs ety fz hheap];exact e'
      · cases e'
    · rw [if_neg hbb] at e'
      exact S.frz b' o u e'
  · show (if t=G.nt then _ else _)=_
    have ht':G.nt+1≤t:=ht
    rw[if_neg (by omega)]
    exact S.fin t (by omega)
  · have hO:=S.obj p (List.mem_cons_of_mem _ hp)
    have hpb:p.1≠b:=fun e=>hbF (by rw[←e];exact List.mem_map_of_mem hp)
    exact hO.mono hG (fun o ho=>hne_b _ hpb o ho)
  · rcases List.mem_cons.1 ht with rfl|ht
    · exact .ofMem ⟨k,rows.length,c,some ⟨b,0,none⟩,htok,h1,hcm,hk,(fun e=>by cases e),fun a ha _=>by
        injection ha with ha
        exact⟨b,vs,ety,fz,ha.symm,hlow,hheap,hvs,hfz,fun o ho=>by
          show(if b=b then(if o<_ then _ else none) else _)=none
          rw[if_pos rfl,if_neg (by omega)]⟩⟩
    · exact (S.liv t ht).mono hG (fun g hg o ho=>hne_b g (fun e=>hbt t ht (by rw[←e];exact hg)) o ho)
  · refine List.pairwise_cons.2 ⟨fun t ht g h2 h3=>?_,S.tdis.imp_of_mem fun {a b'} ha hb' hd g h2 h3=>hd g (by rw[←hblk a ha];exact h2) (by rw[←hblk b' hb'];exact h3)⟩
    have h2:=hnewblk _ h2
    subst h2
    rw[hblk t ht] at h3
    exact hbt t ht h3
  · rcases List.mem_cons.1 ht with rfl|ht
    · have hg:=hnewblk _ hg
      subst hg
      exact hbF
    · rw [hblk t ht] at hg
      exact fun hm=>S.todis t ht g hg (List.mem_cons_of_mem _ hm)
theorem VR.ownM {G':Gh} {b k c t:Nat} {rows:List (List D)} (h:VR G' (.own t k rows) (.slice (some ⟨b,0,none⟩) rows.length c)):∀v,VR G' (.arr b k rows.length c) v→VR G' (.own t k rows) v:=fun v hv=>by
 cases hv
 exact h
theorem AWp.ownMH {code:Code} {b b' i j k n c:Nat} {rows:List (List D)} {F:List (Nat×Ob)} {L:List Nat} {ob:Ob} {r:List AV} (hg:getO b' F=some ob) (hr:ob.rows[i]?=some r) (hj:r[j]?=some (.arr b k n c)) (hn:n=rows.length) (hk:0<k) (hfull:∀r∈rows,r.length=k)
  (H:∀t,freshT t L→AWp P T code Q sl ⟨setO b' ⟨ob.k,ob.c,ob.rows.set i (r.set j (.own t k rows))⟩ F,t::L⟩):AWp P T code Q sl ⟨(b,⟨k,c,dRows rows⟩)::F,L⟩:=by
 intro G w a S R
 subst hn
 obtain⟨_,_,_,_,_,_,g4⟩:=(S.obj _ (List.mem_cons_of_mem _ (getO_mem hg))).mem
 obtain⟨_,v,_,hv⟩:=g4 i r j _ hr hj
 obtain⟨G',hG,S',hown,hfr⟩:=S.ownM P hk hfull
 have S2:=S'.recell hg hr hj (a':= .own G.nt k rows) rfl (VR.ownM hown)
 exact wp_mono (H G.nt hfr G' w a S2 (R.mono hG)) fun e a' w' hh=>hh.mono hG (fun _ _ _ q=>q)
theorem AWp.ownMS {code:Code} {N:Nat} {l:SL} {df:AV} (i:Nat) {b k n c:Nat} {rows:List (List D)} {F:List (Nat×Ob)} {L:List Nat} (hi:lookS df i l= .arr b k n c) (hN:Nat.blt i N=true) (hn:n=rows.length) (hk:0<k) (hfull:∀r∈rows,r.length=k)
  (H:∀t,freshT t L→AWp P T code Q (mkS df (insS i (.own t k rows) l) N 0) ⟨F,t::L⟩):AWp P T code Q (mkS df l N 0) ⟨(b,⟨k,c,dRows rows⟩)::F,L⟩:=by
 intro G w a S R
 subst hn
 have hsl:(mkS df l N 0)[i]?=some (.arr b k rows.length c):=by rw[mkS_get _ _ _ _ _ (by simpa[Nat.blt_eq] using hN),Nat.zero_add,hi]
 obtain⟨v,hv0,hv⟩:=R.2 i _ hsl
 obtain⟨G',hG,S',hown,hfr⟩:=S.ownM P hk hfull
 have R':SlR G' (mkS df (insS i (.own G.nt k rows) l) N 0) a.tmps:=by
  rw[←mkS_set]
  refine⟨by rw[List.length_set];exact R.1,fun j x hx=>?_⟩
  by_cases hij:i=j
  ·subst hij
   rw[List.getElem?_set_self (List.getElem?_eq_some_iff.1 hsl).1] at hx
   injection hx with hx
   subst hx
   exact⟨_,hv0,VR.ownM hown v (hv.mono hG)⟩
  ·rw[List.getElem?_set_ne hij] at hx
   exact(R.mono hG).2 j x hx
 exact wp_mono (H G.nt hfr G' w a S' R') fun e a' w' hh=>hh.mono hG (fun _ _ _ q=>q)
end
end
section
open Go.RowKit
section
variable {P:Program} {T:Tbl} {c:Code} {Q:AQ} {h:AH}
theorem AWp.wkS1 {N:Nat} {l:SL} {df:AV} (i:Nat) (a':AV) (hl:LeA true (lookS df i l) a') (hN:Nat.blt i N=true) (H:AWp P T c Q (mkS df (insS i a' l) N 0) h):AWp P T c Q (mkS df l N 0) h:=by
 intro G w a S R
 have hsl:(mkS df l N 0)[i]?=some (lookS df i l):=by rw[mkS_get _ _ _ _ _ (by simpa[Nat.blt_eq] using hN),Nat.zero_add]
 refine H G w a S ?_
 rw[←mkS_set]
 refine⟨by rw[List.length_set];exact R.1,fun j x hx=>?_⟩
 by_cases hij:i=j
 ·subst hij
  rw[List.getElem?_set_self (List.getElem?_eq_some_iff.1 hsl).1] at hx
  injection hx with hx
  subst hx
  obtain⟨v,hv0,hv⟩:=R.2 i _ hsl
  exact⟨v,hv0,hl.okT hv⟩
 ·rw[List.getElem?_set_ne hij] at hx
  exact R.2 j x hx
theorem AWp.nd {sl:List AV} (H:(h.objs.map Prod.fst).Nodup→AWp P T c Q sl h):AWp P T c Q sl h:=fun G w a S R=>H S.nd G w a S R
end
end
section
open Go.RowKit
section
variable {P:Program} {T:Tbl} {Q:AQ}
end
end
section
open Go.RowKit
section
variable {P:Program} {T:Tbl} {ops:Array Oper} {K:List AV→AH→Prop} {X:AV→AH→Prop} {o:Oper} {rest:List Oper} {sl:List AV} {h:AH}
theorem DW.listB {cp:Bool} (post:List Oper):∀(pre:List Oper) (sl:List AV) (h:AH),DW P T cp ops pre sl h (fun s h=>LV P T ops post s h K X) X→LV P T ops (pre++post) sl h K X
 |[],sl,h,H=>H
 | o::rest,sl,h,H=>by
  intro G0 G w a ds hG S R hd
  unfold DW at H
  split at H
  ·obtain⟨hg,H⟩:=H
   refine wpList_plain hg fun K' hK'=>H G w a S (fun x _=>ev_ok S R x) K' _ (fun r h' G' u w' hr hG' S' hu=>?_) (fun p h' G' u w' hp hG' S' hu=>?_)
   ·exact hK' _ _ (DW.listB post rest _ _ hr G0 G' w' _ ds (hG.trans hG') S' ((R.mono hG').put hu o.dst) (by rw[put_defers];exact hd))
   ·exact⟨hd,.pan p,sl,h',G',hp,⟨u,rfl,hu⟩,hG.trans hG',S',R.mono hG'⟩
  ·obtain⟨v,hy,_,hr⟩:=H
   refine wpList_step fun K' hK'=>hy.run S R fun G' u w' hG' S' hu=>?_
   exact hK' _ _ (DW.listB post rest _ _ hr G0 G' w' _ ds (hG.trans hG') S' ((R.mono hG').put hu o.dst) (by rw[put_defers];exact hd))
theorem LV.lvc {l:List Oper} (H:lvc P T false ops l sl h K X):LV P T ops l sl h K X:=DW.list l sl h (lvc_ok l sl h H)
theorem AWp.regG {id:Nat} {l:List Oper} {Q:AQ} (i:Nat) (H:Go.Proofs.YtidldcfpmehpiaaGreatDoor.lvc P T false l.toArray (l.take i) sl h (fun s h=>LV P T l.toArray (l.drop i) s h (fun s h=>Q .normal s h) (fun p h=> ∀s,Q (.pan p) s h)) (fun p h=> ∀s,Q (.pan p) s h)):AWp P T (.region id l.toArray false) Q sl h:=
 AWp.of_lift fun G w a S R=>by
  have h1:=DW.listB (P:=P) (T:=T) (ops:=l.toArray) (K:=fun s h=>Q .normal s h) (X:=fun p h=> ∀s,Q (.pan p) s h) (l.drop i) (l.take i) sl h (lvc_ok _ sl h H)
  rw[List.take_append_drop] at h1
  exact wp_region_lit (h1 G G w a a.defers (Gle.refl G) S R rfl)
theorem AWp.rsG {id:Nat} {l:List Oper} {y:Code} {Q:AQ} (i:Nat) (H:∀K:List AV→AH→Prop,(∀s h,AWp P T y Q s h→K s h)→Go.Proofs.YtidldcfpmehpiaaGreatDoor.lvc P T false l.toArray (l.take i) sl h (fun s h=>LV P T l.toArray (l.drop i) s h K (fun p h=> ∀s,Q (.pan p) s h)) (fun p h=> ∀s,Q (.pan p) s h)):AWp P T (.seq (.region id l.toArray false) y) Q sl h:=
 AWp.seq fun K hK=>AWp.regG i (H K hK)
end
end
section
open Go.RowKit
section
variable {P:Program} {T:Tbl} {ops:Array Oper} {K:List AV→AH→Prop} {X:AV→AH→Prop} {o o2:Oper} {rest:List Oper} {sl:List AV} {h:AH}
end
end
section
open Go.RowKit
theorem getO_setO_self {b:Nat} {ob ob2:Ob} :∀{l:List (Nat×Ob)},getO b l=some ob→getO b (setO b ob2 l)=some ob2
 |p::r,e=>by
  unfold getO at e
  split at e
  ·rename_i h;simp[setO,h,getO]
  ·rename_i h;simp only[setO,h,if_false,getO,Bool.false_eq_true];exact getO_setO_self e
theorem setO_setO {b:Nat} {ob ob2:Ob} :∀(l:List (Nat×Ob)),setO b ob (setO b ob2 l)=setO b ob l
 |[]=>rfl
 |p::r=>by
  by_cases h:(p.1==b)=true
  ·simp[setO,h]
  ·simp only[setO,h,if_false,Bool.false_eq_true];rw[setO_setO r]
theorem getO_mO {b k c x:Nat} {rows:List (List AV)} {F:List (Nat×Ob)} (h:(b==x)=false):getO x (mO b k c rows F)=getO x F:=by
 unfold mO
 split
 ·rfl
 ·simp[getO,h]
theorem setO_mO {b k c x:Nat} {ob:Ob} {rows:List (List AV)} {F:List (Nat×Ob)} (h:(b==x)=false):setO x ob (mO b k c rows F)=mO b k c rows (setO x ob F):=by
 unfold mO
 split
 ·rfl
 ·simp[setO,h]
section
variable {P:Program} {T:Tbl} {Q:AQ} {sl:List AV}
theorem AWp.iceH {code:Code} {b b' i j k c:Nat} {rows:List (List D)} {F:List (Nat×Ob)} {L:List Nat} {ob:Ob} {r:List AV} (hg:getO b' F=some ob) (hr:ob.rows[i]?=some r) (hj:r[j]?=some (mA b k c rows.length)) (hc:c=0→rows=[]) (hk:0<k) (hfull:∀r∈rows,r.length=k)
  (H:AWp P T code Q sl ⟨setO b' ⟨ob.k,ob.c,ob.rows.set i (r.set j (.d (.slc k rows)))⟩ F,L⟩):AWp P T code Q sl ⟨mO b k c (dRows rows) F,L⟩:=by
 rcases Nat.eq_zero_or_pos c with h0|h0
 ·subst h0
  have hr:=hc rfl
  subst hr
  rw[mO_nil]
  rw[mA_nil] at hj
  intro G w a S R
  exact H G w a (S.recell hg hr hj (a':= .d (.slc k [])) rfl fun v hv=>by cases hv with|full hd=>exact .d hd) R
 ·rw[mA_pos h0] at hj
  rw[mO_pos h0]
  refine AWp.ownMH (b':=b') (i:=i) (j:=j) hg hr hj rfl hk hfull fun t ht=>?_
  intro G w a S R
  have S1:=S.drop (h':=⟨setO b' ⟨ob.k,ob.c,ob.rows.set i (r.set j (.own t k rows))⟩ F,L⟩) (List.Sublist.refl _) (List.sublist_cons_self ..)
  have hi:i<ob.rows.length:=(List.getElem?_eq_some_iff.1 hr).1
  have hjl:j<r.length:=(List.getElem?_eq_some_iff.1 hj).1
  have S2:=S1.recell (b:=b') (i:=i) (j:=j) (ob:=⟨ob.k,ob.c,ob.rows.set i (r.set j (.own t k rows))⟩) (r:=r.set j (.own t k rows)) (a:= .own t k rows) (a':= .d (.slc k rows)) (getO_setO_self hg) (List.getElem?_set_self hi) (List.getElem?_set_self hjl) rfl fun v hv=>by cases hv with|own hd _=>exact .d hd
  simp only[List.set_set,setO_setO] at S2
  exact H G w a S2 R
end
end
section
open Go.RowKit
section
variable {P:Program} {T:Tbl} {cp:Bool} {ops:Array Oper} {K:List AV→AH→Prop} {X:AV→AH→Prop} {o:Oper} {rest:List Oper} {sl:List AV} {h:AH}
theorem DW.leHe {h':AH} (he:effK cp o=true) (p:LeH h h') (H:DW P T cp ops (o::rest) sl h' K X):DW P T cp ops (o::rest) sl h K X:=by
 unfold DW at H⊢
 rw[if_pos he] at H⊢
 exact⟨H.1,fun G w a S hv Kc Q hK hX=>H.2 G w a (p _ _ _ S) hv Kc Q hK hX⟩
theorem DW.acl {c:Call} {fo:Operand} {f:FuncId} {cap args:List AV} {h0:AH} {R:AR→AH→Prop} (ho:o.op= .call c) (hg:o.guard=none) (hc:c.callee= .value fo) (hf:ev T sl fo= .fn f cap)
  (p:LeH h h0) (ha:c.args.toList.map (ev T sl)++cap=args) (C:AC P T f args h0 R)
  (k:∀x h',R x h'→match x with
   | .ret r=>Go.Proofs.YtidldcfpmehpiaaGreatDoor.lvc P T false ops rest (putA o.dst r sl) h' K X
   | .pan p=>X p h'):DW P T false ops (o::rest) sl h K X:=by
 refine DW.leHe (by rw[effK_call ho hg hc false];rfl) p ?_
 unfold DW
 rw[if_pos (by rw[effK_call ho hg hc false];rfl)]
 refine ESt.ac ho hg hc hf (by rw[ha];exact C) fun x h' hR=>?_
 have:=k x h' hR
 cases x with
 |ret r=>exact lvc_ok rest _ _ this
 |pan p=>exact this
theorem AWp.nilCell {code:Code} {Q:AQ} {b i j k:Nat} {H0:List (Nat×Ob)} {L:List Nat} {ob:Ob} {r:List AV} (hg:getO b H0=some ob) (hr:ob.rows[i]?=some r) (hj:r[j]?=some .nils)
  (H:AWp P T code Q sl ⟨setO b ⟨ob.k,ob.c,ob.rows.set i (r.set j (.full k []))⟩ H0,L⟩):AWp P T code Q sl ⟨H0,L⟩:=by
 intro G w a S R
 exact H G w a (S.recell hg hr hj (a':= .full k []) rfl fun v hv=>by cases hv;exact VR.full (rows:=[]) (A:=none) (.slc0 k none 0 (fun _=>rfl) (Nat.zero_le _))) R
end
end
section
open Go.RowKit
section
variable {P:Program} {T:Tbl} {cp:Bool} {ops:Array Oper} {K:List AV→AH→Prop} {X:AV→AH→Prop} {o:Oper} {rest:List Oper} {sl:List AV} {h:AH}
end
end
section
open Go.RowKit
section
variable {P:Program} {T:Tbl} {cp:Bool} {md:Region.Mode} {ops:Array Oper} {K:List AV→AH→Prop} {X:AV→AH→Prop}
end
end
section
open Go.RowKit
section
variable {P:Program} {T:Tbl} {cp:Bool} {md:Region.Mode} {ops:Array Oper} {K:List AV→AH→Prop} {X:AV→AH→Prop}
def CHN (P:Program) (T:Tbl) (cp:Bool) (ops:Array Oper) (M:AH→Prop) (lz:List Oper) (K:List AV→AH→Prop) (X:AV→AH→Prop):List Oper→List AV→AH→Prop
 |[],s,h=>DW P T cp ops lz s h K X
 |o::l,s,h=>DW P T cp ops [o] s h (fun s2 h2=>M h2∧CHN P T cp ops M lz K X l s2 h2) X
end
attribute [go_sem] CHN
end
section
open Go.RowKit
theorem DW.nil {P:Program} {T:Tbl} {cp:Bool} {ops:Array Oper} {K:List AV→AH→Prop} {X:AV→AH→Prop} {sl:List AV} {h:AH} (H:K sl h):DW P T cp ops [] sl h K X:=H
section
variable {P:Program} {T:Tbl} {ops:Array Oper} {K:List AV→AH→Prop} {X:AV→AH→Prop} {o:Oper} {rest:List Oper} {sl:List AV} {h:AH}
theorem VR.sliceG {G:Gh} {k:Nat} {r:List D} {u:Value} (h:VR G (.elt k [r] 0 0) u) (h0:0<r.length) (hm:r.length≤maxLen):∃a,u= .pointer (some a)∧VD G.frz (.slc 1 (r.map fun x=>[x])) (.slice (some a) r.length r.length):=by
 cases h with
 | elt _ _ _ _ b off val r' hr hf hv=>
  have hr:r=r':=by simpa using hr
  subst hr
  refine⟨⟨b,off+0,none⟩,rfl,?_⟩
  have e:(r.map fun x=>[x]).length=r.length:=by simp
  have:=VD.slc (F:=G.frz) 1 (r.map fun x=>[x]) b off r.length (fun i _=>val i) (by rw[e];exact h0) (by rw[e];exact Nat.le_refl _) hm (fun x hx=>by
    obtain⟨y,_,rfl⟩:=List.mem_map.1 hx
    rfl) (fun i r' j x e1 e2=>?_) (fun i r' j x e1 e2=>?_)
  ·rw[e] at this
   exact this
  ·rw[List.getElem?_map] at e1
   obtain⟨y,hy,rfl⟩:=Option.map_eq_some_iff.1 e1
   match j,e2 with
   |0,e2=>
    injection e2 with e2
    subst e2
    have:=hf i y hy
    simpa using this
   |n+1,e2=>cases e2
  ·rw[List.getElem?_map] at e1
   obtain⟨y,hy,rfl⟩:=Option.map_eq_some_iff.1 e1
   match j,e2 with
   |0,e2=>
    injection e2 with e2
    subst e2
    exact hv i y hy
   |n+1,e2=>cases e2
theorem AYv.sliceG {ρ:Operand→AV} {t n e:Nat} {x:Operand} {k:Nat} {r:List D} {i:TypeInfo} (ho:o.op= .slice t x none none none) (hx:ρ x= .elt k [r] 0 0) (hu:P.underlying t=some (.array n e)) (hi:P.info? e=some i) (hn:r.length=n) (h0:0<n) (hm:n≤maxLen):AYv P T o ρ h (.d (.slc 1 (r.map fun x=>[x]))):=by
 intro G w a S hv Kc Q hK
 have hvx:=hv x (by rw[ho];simp[Op.operands])
 rw[hx] at hvx
 subst hn
 obtain⟨ad,hu2,hd⟩:=hvx.sliceG h0 hm
 have hrun:(execOp a.eval o).run P w= .ok (.value (.slice (some ad) r.length r.length)) w:=by
  unfold execOp
  simp only[ho]
  have ha:ad.add 0=ad:=by cases ad;simp[Addr.add]
  simp[hu2,Instr.sliceAt,run_underlying hu,Instr.sureAddr,Instr.sliceBounds,run_sizeOf hi,ha,Result.andThen]
 unfold Oper.wp
 rw[hrun]
 exact hK G _ w (Gle.refl G) S (.d hd)
theorem DW.sliceG {cp:Bool} {t n e:Nat} {x:Operand} {k:Nat} {r:List D} {i:TypeInfo} (ho:o.op= .slice t x none none none) (hg:o.guard=none) (hx:ev T sl x= .elt k [r] 0 0) (hu:P.underlying t=some (.array n e)) (hi:P.info? e=some i) (hn:r.length=n) (h0:0<n) (hm:n≤maxLen)
  (H:DW P T cp ops rest (putA o.dst (.d (.slc 1 (r.map fun x=>[x]))) sl) h K X):DW P T cp ops (o::rest) sl h K X:=by
 have hy:∀h,AYv P T o (ev T sl) h (.d (.slc 1 (r.map fun x=>[x]))):=fun h=>AYv.sliceG ho hx hu hi hn h0 hm
 unfold DW
 rw[if_neg (by unfold effK;rw[hg,ho];simp)]
 exact⟨_,by unfold Yg;rw[hg];exact hy h,fun _ h'=>by unfold Yg;rw[hg];exact hy h',H⟩
theorem LV.dw1 {pre:List Oper} (H:DW P T false ops [o] sl h (fun s h=>LV P T ops pre s h K X) X):LV P T ops (o::pre) sl h K X:=DW.listB pre [o] sl h H
end
end
section
open Go.RowKit
section
variable {P:Program} {T:Tbl} {cp:Bool} {md:Region.Mode} {ops:Array Oper} {K:List AV→AH→Prop} {X:AV→AH→Prop}
def PAIR (P:Program) (T:Tbl) (cp:Bool) (ops:Array Oper) (ox oy:Oper) (K:List AV→AH→Prop) (X:AV→AH→Prop) (s:List AV) (h:AH):Prop:=
 ∃S H,DW P T cp ops [ox,oy] s h (fun a b=>a=S∧b=H) X∧DW P T cp ops [oy,ox] s h (fun a b=>a=S∧b=H) X∧K S H
def CHQ (P:Program) (T:Tbl) (cp:Bool) (ops:Array Oper) (M:AH→Prop) (lz:List Oper) (ox oy:Oper) (K:List AV→AH→Prop) (X:AV→AH→Prop):List Oper→List AV→AH→Prop
 |[],s,h=>DW P T cp ops lz s h (PAIR P T cp ops ox oy K X) X
 |o::l,s,h=>DW P T cp ops [o] s h (fun s2 h2=>M h2∧CHQ P T cp ops M lz ox oy K X l s2 h2) X
end
attribute [go_sem] CHQ
end
section
open Go.RowKit
section
variable {P:Program} {T:Tbl} {cp:Bool} {md:Region.Mode} {ops:Array Oper} {K:List AV→AH→Prop} {X:AV→AH→Prop}
end
end
section
open Go.RowKit
theorem ba_ext {t:ByteArray} {s:List UInt8} (h:t.data.toList=s):t=⟨s.toArray⟩:=by
 subst h;simp
theorem ba_inj {a b:List UInt8} (h:(⟨a.toArray⟩:ByteArray)=⟨b.toArray⟩):a=b:=by
 injection h with h
 have:=congrArg Array.toList h
 simpa using this
theorem ba_beq (a b:List UInt8):((⟨a.toArray⟩:ByteArray)==⟨b.toArray⟩)=decide (a=b):=by
 have h:=MapKept.bytes_beq ⟨a.toArray⟩ ⟨b.toArray⟩
 by_cases hab:a=b
 ·rw[decide_eq_true hab];exact h.2 (by rw[hab])
 ·rw[decide_eq_false hab]
  cases h2:((⟨a.toArray⟩:ByteArray)==⟨b.toArray⟩) with
  |false=>rfl
  |true=>exact absurd (ba_inj (h.1 h2)) hab
theorem findNow_no {s:List UInt8} :∀{es:List MapEntry} {ks:List (List UInt8)} (i:Nat),es.map (fun e=>(e.key,e.val))=ks.map (fun s=>(Value.string ⟨s.toArray⟩,Value.agg #[]))→¬s∈ks→Instr.findNow .string (.string ⟨s.toArray⟩) es i=some none
 |[],_,i,_,_=>rfl
 |e::es,[],i,h,_=>by simp at h
 |e::es,k::ks,i,h,hn=>by
  simp only[List.map_cons,List.cons.injEq,Prod.mk.injEq] at h
  simp only[Instr.findNow,h.1.1,Instr.sameNow,ba_beq]
  rw[decide_eq_false (fun e=>hn (by rw[e];exact List.mem_cons_self ..))]
  exact findNow_no (i+1) h.2 fun h9=>hn (List.mem_cons_of_mem _ h9)
theorem findNow_yes {s:List UInt8} :∀{es:List MapEntry} {ks:List (List UInt8)} (i:Nat),es.map (fun e=>(e.key,e.val))=ks.map (fun s=>(Value.string ⟨s.toArray⟩,Value.agg #[]))→s∈ks→∃j,Instr.findNow .string (.string ⟨s.toArray⟩) es i=some (some (i+j,.agg #[]))∧j<es.length∧ks[j]?=some s
 |[],[],i,h,hn=>by cases hn
 |[],k::ks,i,h,hn=>by simp at h
 |e::es,[],i,h,_=>by simp at h
 | e::es,k::ks,i,h,hn=>by
  simp only[List.map_cons,List.cons.injEq,Prod.mk.injEq] at h
  by_cases hk:s=k
  ·refine⟨0,?_,by simp,by simp[hk]⟩
   simp only[Instr.findNow,h.1.1,Instr.sameNow,ba_beq,h.1.2]
   rw[decide_eq_true hk];rfl
  ·obtain⟨j,h1,h2,h3⟩:=findNow_yes (i+1) h.2 ((List.mem_cons.1 hn).resolve_left hk)
   refine⟨j+1,?_,by simp;omega,by simpa using h3⟩
   simp only[Instr.findNow,h.1.1,Instr.sameNow,ba_beq]
   rw[decide_eq_false hk]
   show Instr.findNow _ _ es (i+1)=_
   rw[h1];congr 3;omega
section
variable {G:Gh} {P:Program} {T:Tbl} {cp:Bool} {ops:Array Oper} {K:List AV→AH→Prop} {X:AV→AH→Prop} {o:Oper} {rest:List Oper} {sl:List AV} {h:AH}
theorem run_lookup {w:World} {ty kt et r clock:Nat} {es:Array MapEntry} {ks:List (List UInt8)} {s:List UInt8} (hty:P.underlying ty=some (.map kt et)) (hk:P.underlying kt=some .string) (hz:(zeroValue et).run P w= .ok (.agg #[]) w) (hb:w.heap[r]?=some (.map es clock)) (hm:MapR es ks):
  (Instr.lookup ty (.map (some r)) (.string ⟨s.toArray⟩) true).run P w= .ok (.tuple #[.agg #[],.bool (decide (s∈ks))]) w:=by
 have hc:=MapKept.run_checkKey (w:=w) (k:= .string ⟨s.toArray⟩) hk trivial es.isEmpty 9999
 by_cases hs:s∈ks
 ·obtain⟨j,h1,_,_⟩:=findNow_yes (s:=s) 0 hm hs
  rw[Nat.zero_add] at h1
  have hf:=MapKept.run_findKey (w:=w) hk h1
  simp[Instr.lookup,run_underlying hty,MapKept.run_getObj_map hb,hc,hf,hs,Result.andThen]
 ·have h1:=findNow_no (s:=s) 0 hm hs
  have hf:=MapKept.run_findKey (w:=w) hk h1
  simp[Instr.lookup,run_underlying hty,MapKept.run_getObj_map hb,hc,hf,hs,hz,Result.andThen]
def addK (s:List UInt8) (ks:List (List UInt8)):List (List UInt8):=if s∈ks then ks else ks++[s]
theorem run_upd {w:World} {ty kt et r clock:Nat} {es:Array MapEntry} {ks:List (List UInt8)} {s:List UInt8} (hty:P.underlying ty=some (.map kt et)) (hk:P.underlying kt=some .string) (hb:w.heap[r]?=some (.map es clock)) (hm:MapR es ks):
  ∃es' clock',(Instr.mapUpdate ty (.map (some r)) (.string ⟨s.toArray⟩) (.agg #[])).run P w= .ok () {w with heap:=w.heap.setIfInBounds r (.map es' clock')} ∧MapR es' (addK s ks):=by
 have hc:=MapKept.run_checkKey (w:=w) (k:= .string ⟨s.toArray⟩) hk trivial false 9999
 by_cases hs:s∈ks
 ·obtain⟨j,h1,h2,h3⟩:=findNow_yes (s:=s) 0 hm hs
  rw[Nat.zero_add] at h1
  have hf:=MapKept.run_findKey (w:=w) hk h1
  have hjl:j<es.size:=by simpa using h2
  have hj:es[j]?=some es[j]:=Array.getElem?_eq_getElem hjl
  have hkv:(es[j].key,es[j].val)=(Value.string ⟨s.toArray⟩,Value.agg #[]):=by
   have h4:=congrArg (fun l=>l[j]?) hm
   simp only[List.getElem?_map,h3,Option.map_some] at h4
   rw[show es.toList[j]?=some es[j] from by simp[hjl]] at h4
   simpa using h4
  obtain⟨hkk,hvv⟩:=Prod.mk.injEq .. ▸hkv
  refine⟨es.modify j (fun e'=> {e' with key:= .string ⟨s.toArray⟩,val:= .agg #[]}),clock,?_,?_⟩
  ·simp[Instr.mapUpdate,run_underlying hty,MapKept.run_getObj_map hb,hc,hf,hj,hkk,MapKept.run_keyThatStays (d:= .string) (k:= .string ⟨s.toArray⟩) trivial,MapKept.run_setObj_map _ hb,Result.andThen]
  ·rw[addK,if_pos hs]
   unfold MapR at hm⊢
   rw[←hm]
   apply List.ext_getElem?
   intro i
   simp only[List.getElem?_map,Array.getElem?_toList,Array.getElem?_modify]
   split
   ·rename_i hij
    subst hij
    rw[hj]
    simp[hkk,hvv]
   ·rfl
 ·have h1:=findNow_no (s:=s) 0 hm hs
  have hf:=MapKept.run_findKey (w:=w) hk h1
  refine⟨es.push ⟨.string ⟨s.toArray⟩,.agg #[],clock⟩,clock+1,?_,?_⟩
  ·simp[Instr.mapUpdate,run_underlying hty,MapKept.run_getObj_map hb,hc,hf,MapKept.run_setObj_map _ hb,Result.andThen]
  ·rw[addK,if_neg hs]
   unfold MapR at hm⊢
   rw[Array.toList_push,List.map_append,hm]
   simp
theorem pair_or {α:Type} {R:α→α→Prop} :∀{l:List α},l.Pairwise R→∀{a b:α},a∈l→b∈l→a≠b→R a b∨R b a
 | x::l,hp,a,b,ha,hb,hn=>by
  have hp':=List.pairwise_cons.1 hp
  rcases List.mem_cons.1 ha with h1|h1
  ·rcases List.mem_cons.1 hb with h2|h2
   ·exact absurd (h1.trans h2.symm) hn
   ·exact .inl (h1▸hp'.1 b h2)
  ·rcases List.mem_cons.1 hb with h2|h2
   ·exact .inr (h2▸hp'.1 a h1)
   ·exact pair_or hp'.2 h1 h2 hn
def mpG (G:Gh) (r:Nat) (ks:List (List UInt8)):Gh:= {G with tok:=fun t=>if t=G.nt then some (0,mpT r ks) else G.tok t,nt:=G.nt+1 }
theorem mpG_tok (G:Gh) (r:Nat) (ks:List (List UInt8)):(mpG G r ks).tok G.nt=some (0,mpT r ks):=if_pos rfl
theorem Sim.mpLe {w:World} (S:Sim T G h w) (r:Nat) (ks:List (List UInt8)):Gle G (mpG G r ks):=
 ⟨rfl,fun _ _ _ e=>e,fun _ _ _ e=> .inl e,fun t x e=>by
  show(if t=G.nt then _ else _)=_
  rw[if_neg (fun e'=>by rw[S.fin t (by omega)] at e;cases e)]
  exact e⟩
theorem Sim.mpFin {w:World} (S:Sim T G h w) (r:Nat) (ks:List (List UInt8)):∀t,(mpG G r ks).nt≤t→(mpG G r ks).tok t=none:=fun t ht=>by
 show(if t=G.nt then _ else _)=_
 have ht':G.nt+1≤t:=ht
 rw[if_neg (by omega)]
 exact S.fin t (by omega)
theorem Sim.ntLive {w:World} (S:Sim T G h w):∀t∈h.live,t≠G.nt:=fun t ht e=>by
 obtain⟨_,e2⟩:=(S.liv _ ht).any
 rw[e,S.fin _ (Nat.le_refl _)] at e2
 cases e2
theorem Sim.updMp {w w':World} (S:Sim T G h w) {t0 r:Nat} {ks ks':List (List UInt8)} (ht0:t0∈h.live) (htok:G.tok t0=some (0,mpT r ks)) (hw:Wrote r w w') (hm:∃es clock,w'.heap[r]?=some (.map es clock)∧MapR es ks'):
  Gle G (mpG G r ks')∧Sim T (mpG G r ks') ⟨h.objs,replT t0 G.nt h.live⟩ w'∧freshT G.nt h.live:=by
 have hG:=S.mpLe r ks'
 have hT:=S.liv t0 ht0
 obtain⟨r2,ks2,e2,hbase,hfz,_⟩:=hT.mp _ htok
 obtain⟨rfl,rfl⟩:=mpT_inj e2
 have hblk0:tokBlk G t0=some r:=tokBlk_mp htok
 have hne:h.live.Pairwise fun a b=>a≠b:=S.lnd
 have hro:r∉h.objs.map Prod.fst:=S.todis t0 ht0 r hblk0
 have hrt:∀t∈h.live,t≠t0→tokBlk G t≠some r:=fun t ht htn e=>by
  rcases pair_or S.tdis ht ht0 htn with h1|h1
  ·exact h1 r e hblk0
  ·exact h1 r hblk0 e
 have hblk:∀t∈h.live,tokBlk (mpG G r ks') t=tokBlk G t:=fun t ht=>tokBlk_mono hG (S.liv t ht)
 have hnewblk:tokBlk (mpG G r ks') G.nt=some r:=tokBlk_mp (mpG_tok G r ks')
 refine⟨hG,⟨S.below.trans (hw.below hbase),fun g j x hx=>?_,fun b' o u e=>?_,S.mpFin r ks',fun p hp=>?_,S.nd,fun t ht=>?_,?_,fun t ht g hg=>?_,?_⟩,fresh_tok fun x hx=>S.ntLive x hx⟩
 ·obtain⟨u,h1,h2⟩:=S.glob g j x hx
  exact⟨u,h1,h2.mono fun _ _ _ e=>e⟩
 ·have e':G.frz b' o=some u:=e
  by_cases hbb:b'=r
  ·subst hbb;rw[hfz o] at e';cases e'
  ·rw[hw.cell hbb];exact S.frz b' o u e'
 ·have hO:=S.obj p hp
  have hpb:p.1≠r:=fun e=>hro (by rw[←e];exact List.mem_map_of_mem hp)
  exact(hO.mono hG fun o ho=>ho).world (hw.block _ hpb)
 ·rcases replT_mem hne ht with rfl|⟨ht,htne⟩
  ·exact .ofMp (mpG_tok G r ks') hbase hfz hm
  ·have hL:=S.liv t ht
   exact(hL.mono hG fun g hg o ho=>ho).world fun g hg=>by
    rw[hblk t ht] at hg
    exact hw.block g fun e=>hrt t ht htne (by rw[←e];exact hg)
 ·refine replT_pair (S.tdis.imp_of_mem fun {a b'} ha hb' hd g h1 h2=>hd g (by rw[←hblk a ha];exact h1) (by rw[←hblk b' hb'];exact h2)) (fun x hx hxt=>⟨fun g h1 h2=>?_,fun g h1 h2=>?_⟩) hne
  ·rw[hnewblk] at h2;injection h2 with h2;subst h2
   rw[hblk x hx] at h1
   exact hrt x hx hxt h1
  ·rw[hnewblk] at h1;injection h1 with h1;subst h1
   rw[hblk x hx] at h2
   exact hrt x hx hxt h2
 ·rcases replT_mem hne ht with rfl|⟨ht,_⟩
  ·rw[hnewblk] at hg;injection hg with hg;subst hg
   exact hro
  ·rw[hblk t ht] at hg
   exact S.todis t ht g hg
 ·exact replT_pair hne (fun x hx hxt=>⟨fun e=>S.ntLive x hx e,fun e=>S.ntLive x hx e.symm⟩) hne
theorem Sim.newMp {w:World} (S:Sim T G h w):Gle G (mpG G w.heap.size [])∧Sim T (mpG G w.heap.size []) ⟨h.objs,G.nt::h.live⟩ (w.alloc (.map #[] 0))∧freshT G.nt h.live:=by
 have hG:=S.mpLe w.heap.size []
 obtain⟨ha1,ha2⟩:=MapKept.heap_alloc w (.map #[] 0)
 have S1:Sim T (mpG G w.heap.size []) h (w.alloc (.map #[] 0)):=S.grow ((Below.refl w.heap.size w).alloc (Nat.le_refl _) _) hG (S.mpFin _ _) (fun _ _ _ e=> .inl e) fun b o u e=>by
  have:=S.frz b o u e
  rw[←this]
  exact World.cell?_of_block (w:=w) (a:=⟨b,o,none⟩) (ha2 b (S.frzlt e))
 have hnew:tokBlk (mpG G w.heap.size []) G.nt=some w.heap.size:=tokBlk_mp (mpG_tok _ _ _)
 have hlt:∀t∈h.live,∀g,tokBlk (mpG G w.heap.size []) t=some g→g<w.heap.size:=fun t ht g hg=>by
  rw[tokBlk_mono hG (S.liv t ht)] at hg
  exact(S.liv t ht).lt hg
 refine⟨hG,⟨S1.below,S1.glob,S1.frz,S1.fin,S1.obj,S1.nd,fun t ht=>?_,List.pairwise_cons.2 ⟨fun t ht g h1 h2=>?_,S1.tdis⟩,fun t ht g hg=>?_,List.nodup_cons.2 ⟨fun hm=>S.ntLive _ hm rfl,S.lnd⟩⟩,fresh_tok fun x hx=>S.ntLive x hx⟩
 ·rcases List.mem_cons.1 ht with rfl|ht
  ·refine .ofMp (mpG_tok _ _ _) S.below.size (fun o=>?_) ⟨#[],0,ha1,rfl⟩
   cases hf:G.frz w.heap.size o with
   |none=>exact hf
   |some u=>exact absurd (S.frzlt hf) (Nat.lt_irrefl _)
  ·exact S1.liv t ht
 ·rw[hnew] at h1
  injection h1 with h1
  have:=hlt t ht g h2
  omega
 ·rcases List.mem_cons.1 ht with rfl|ht
  ·rw[hnew] at hg
   injection hg with hg
   subst hg
   intro hm
   obtain⟨p,hp,e⟩:=List.mem_map.1 hm
   have:=(S.obj p hp).lt
   omega
  ·exact S1.todis t ht g hg
theorem DW.mkMap {t:Nat} (ho:o.op= .makeMap t none) (hg:o.guard=none) (kk:∀tk,freshT tk h.live→lvc P T cp ops rest (putA o.dst (.mp tk []) sl) ⟨h.objs,tk::h.live⟩ K X):DW P T cp ops (o::rest) sl h K X:=by
 have he:effK cp o=true:=by unfold effK;rw[hg,ho]
 unfold DW
 rw[if_pos he]
 refine⟨hg,fun G w a S hv Kc Q hK _=>?_⟩
 have hrun:(execOp a.eval o).run P w= .ok (.value (.map (some w.heap.size))) (w.alloc (.map #[] 0)):=by
  unfold execOp
  simp only[ho]
  simp[Instr.makeMap,newObj,Sem.run]
 unfold Oper.wp
 rw[hrun]
 obtain⟨hG,S',hf⟩:=S.newMp
 exact hK _ _ _ _ _ (lvc_ok _ _ _ (kk G.nt hf)) hG S' (.mp (mpG_tok _ _ _))
theorem Wrote.rfl' (b:Nat) (w:World):Wrote b w w:=⟨rfl,rfl,rfl,rfl,fun _ _=>rfl⟩
theorem Sim.relab {w:World} (S:Sim T G h w) {b i j t t' rr:Nat} {ks ks':List (List UInt8)} {ob:Ob} {r:List AV} (hg:getO b h.objs=some ob) (hr:ob.rows[i]?=some r) (hj:r[j]?=some (.mp t ks)) (ht:G.tok t=some (0,mpT rr ks)) (ht':G.tok t'=some (0,mpT rr ks')):
  Sim T G ⟨setO b ⟨ob.k,ob.c,ob.rows.set i (r.set j (.mp t' ks'))⟩ h.objs,h.live⟩ w:=by
 refine S.write hg (Wrote.rfl' b w) (fun _ _ _=>rfl) ?_
 have hO:=S.obj _ (getO_mem hg)
 obtain⟨vs,e,fz,h1,h2,h3,h4⟩:=hO.mem
 have hil:i<ob.rows.length:=(List.getElem?_eq_some_iff.1 hr).1
 have key:∀(i':Nat) (r':List AV),(ob.rows.set i (r.set j (.mp t' ks')))[i']?=some r'→∃r0,ob.rows[i']?=some r0∧r'.length=r0.length∧∀(j':Nat) (a:AV),r'[j']?=some a→r0[j']?=some a∨(i'=i∧j'=j∧a= .mp t' ks'):=by
  intro i' r' e'
  rw[List.getElem?_set] at e'
  split at e'
  ·rename_i hii
   subst hii
   injection e' with e'
   subst e'
   refine⟨r,hr,by simp,fun j' a ha=>?_⟩
   rw[List.getElem?_set] at ha
   split at ha
   ·rename_i hjj
    split at ha
    ·injection ha with ha;exact .inr ⟨rfl,hjj.symm,ha.symm⟩
    ·cases ha
   ·exact .inl ha
  ·exact⟨r',e',rfl,fun j' a ha=> .inl ha⟩
 refine⟨hO.low,fun i' r' j' e' hj'=>?_,fun o' ho'=>hO.rest o' (by simpa using ho'),fun r' hr'=>?_,by simpa using hO.fits,hO.cmax,vs,e,fz,h1,h2,h3,fun i' r' j' a e1 e2=>?_⟩
 ·obtain⟨r0,g1,g2,_⟩:=key i' r' e'
  exact hO.free i' r0 j' g1 (by omega)
 ·obtain⟨i',hi'⟩:=List.mem_iff_getElem?.1 hr'
  obtain⟨r0,g1,g2,_⟩:=key i' r' hi'
  rcases hO.lenk r0 (List.mem_of_getElem? g1) with g3|g3
  ·exact .inl (g2.trans g3)
  ·exact .inr (List.eq_nil_of_length_eq_zero (by rw[g2,g3];rfl))
 ·obtain⟨r0,g1,g2,g3⟩:=key i' r' e1
  rcases g3 j' a e2 with g4|⟨rfl,rfl,rfl⟩
  ·exact h4 i' r0 j' a g1 g4
  ·rw[hr] at g1
   injection g1 with g1
   subst g1
   obtain⟨_,v,hv1,hv2⟩:=h4 i' r j' _ hr hj
   refine⟨rfl,v,hv1,?_⟩
   cases hv2 with
   |mp ht2=>
    rw[ht] at ht2
    injection ht2 with ht2
    injection ht2 with _ ht2
    obtain⟨rfl,_⟩:=mpT_inj ht2
    exact .mp ht'
theorem DW.mapUpd {ty kt et b i j t:Nat} {m x v:Operand} {ks:List (List UInt8)} {s:List UInt8} {ob:Ob} {r:List AV} (ho:o.op= .mapUpdate ty m x v) (hg:o.guard=none) (hty:P.underlying ty=some (.map kt et)) (hk:P.underlying kt=some .string)
  (hm:ev T sl m= .mp t ks) (hx:ev T sl x= .d (.str s)) (hv:ev T sl v= .agg []) (hl:h.live.contains t=true) (hob:getO b h.objs=some ob) (hr:ob.rows[i]?=some r) (hj:r[j]?=some (.mp t ks))
  (kk:∀t',freshT t' h.live→lvc P T cp ops rest (putA o.dst .undef sl) ⟨setO b ⟨ob.k,ob.c,ob.rows.set i (r.set j (.mp t' (addK s ks)))⟩ h.objs,replT t t' h.live⟩ K X):DW P T cp ops (o::rest) sl h K X:=by
 have he:effK cp o=true:=by unfold effK;rw[hg,ho]
 unfold DW
 rw[if_pos he]
 refine⟨hg,fun G w a S hvs Kc Q hK _=>?_⟩
 have h1:=hvs m (by simp[ho,Op.operands])
 have h2:=hvs x (by simp[ho,Op.operands])
 have h3:=hvs v (by simp[ho,Op.operands])
 rw[hm] at h1
 rw[hx] at h2
 rw[hv] at h3
 have ht0:t∈h.live:=by simpa using hl
 generalize hem:a.eval m=vm at h1
 generalize hex:a.eval x=vx at h2
 generalize hev:a.eval v=vv at h3
 cases h1 with
 | mp htok=>
  rename_i rr
  cases h2 with
  | d h2=>
   obtain⟨tx,rfl,etx,_⟩:=h2.str_inv
   obtain rfl:=ba_ext etx
   cases h3 with
   | agg _ vs hl0 _=>
    have hvs0:vs=[]:=List.eq_nil_of_length_eq_zero hl0
    subst hvs0
    obtain⟨r2,ks2,e2,_,_,es,clock,hheap,hmr⟩:=(S.liv t ht0).mp _ htok
    obtain⟨rfl,rfl⟩:=mpT_inj e2
    obtain⟨es',clock',hrun0,hmr'⟩:=run_upd (P:=P) (s:=s) hty hk hheap hmr
    have hset:=MapKept.heap_set (o':= .map es' clock') hheap
    have hw:Wrote rr w {w with heap:=w.heap.setIfInBounds rr (.map es' clock')} :=⟨rfl,rfl,rfl,by simp,fun b' hb'=>hset.2 b' hb'⟩
    have hrun:(execOp a.eval o).run P w= .ok .skip {w with heap:=w.heap.setIfInBounds rr (.map es' clock')} :=by
     unfold execOp
     simp only[ho,hem,hex,hev]
     simp[hrun0,Result.andThen]
    obtain⟨hG,S',hf⟩:=S.updMp ht0 htok hw ⟨es',clock',hset.1,hmr'⟩
    have S2:=S'.relab hob hr hj (hG.tok _ _ htok) (mpG_tok G rr (addK s ks))
    unfold Oper.wp
    rw[hrun]
    exact hK .undef _ (mpG G rr (addK s ks)) Go.undef _ (lvc_ok _ _ _ (kk G.nt hf)) hG S2 .undef
theorem DW.lookM {ty kt et t:Nat} {m x:Operand} {ks:List (List UInt8)} {s:List UInt8} (ho:o.op= .lookup ty m x true) (hg:o.guard=none) (hty:P.underlying ty=some (.map kt et)) (hk:P.underlying kt=some .string) (hz:∀w:World,(zeroValue et).run P w= .ok (.agg #[]) w)
  (hm:ev T sl m= .mp t ks) (hx:ev T sl x= .d (.str s)) (hl:h.live.contains t=true) (kk:lvc P T cp ops rest (putA o.dst (.tup [.agg [],.d (.bool (decide (s∈ks)))]) sl) h K X):DW P T cp ops (o::rest) sl h K X:=by
 have he:effK cp o=false:=by unfold effK;rw[hg,ho]
 unfold DW
 rw[if_neg (by rw[he];decide)]
 refine⟨.tup [.agg [],.d (.bool (decide (s∈ks)))],?_,fun h9=>?_,lvc_ok _ _ _ kk⟩
 ·unfold Yg
  rw[hg]
  intro G w a S hvs Kc Q hK
  have h1:=hvs m (by simp[ho,Op.operands])
  have h2:=hvs x (by simp[ho,Op.operands])
  rw[hm] at h1
  rw[hx] at h2
  have ht0:t∈h.live:=by simpa using hl
  generalize hem:a.eval m=vm at h1
  generalize hex:a.eval x=vx at h2
  cases h1 with
  | mp htok=>
   cases h2 with
   | d h2=>
    obtain⟨tx,rfl,etx,_⟩:=h2.str_inv
    obtain rfl:=ba_ext etx
    obtain⟨r2,ks2,e2,_,_,es,clock,hheap,hmr⟩:=(S.liv t ht0).mp _ htok
    obtain⟨rfl,rfl⟩:=mpT_inj e2
    have hrun0:=run_lookup (P:=P) (s:=s) hty hk (hz w) hheap hmr
    have hrun:(execOp a.eval o).run P w= .ok (.value (.tuple #[.agg #[],.bool (decide (s∈ks))])) w:=by
     unfold execOp
     simp only[ho,hem,hex]
     simp[hrun0,Result.andThen]
    unfold Oper.wp
    rw[hrun]
    refine hK G _ w (Gle.refl G) S (.tup _ [.agg #[],.bool (decide (s∈ks))] rfl fun i a v e1 e2=>?_)
    match i,e1,e2 with
    |0,e1,e2=>
     simp at e1 e2
     subst e1;subst e2
     exact .agg [] [] rfl fun i a v e1 e2=>by simp at e1
    |1,e1,e2=>
     simp at e1 e2
     subst e1;subst e2
     exact .d (.bool _)
    |i+2,e1,e2=>simp at e1
 ·unfold hiK at h9
  rw[ho] at h9
  cases h9
theorem DW.store0 {ty b k i off:Nat} {ad x:Operand} (ho:o.op= .store ty ad x) (hg:o.guard=none) (hsz:∀w:World,(sizeOf ty).run P w= .ok 0 w) (ha:ev T sl ad= .ptr b k i off) (hx:ev T sl x= .agg [])
  (kk:lvc P T cp ops rest (putA o.dst .undef sl) h K X):DW P T cp ops (o::rest) sl h K X:=by
 have he:effK cp o=true:=by unfold effK;rw[hg,ho]
 unfold DW
 rw[if_pos he]
 refine⟨hg,fun G w a S hvs Kc Q hK _=>?_⟩
 have h1:=hvs ad (by simp[ho,Op.operands])
 have h2:=hvs x (by simp[ho,Op.operands])
 rw[ha] at h1
 rw[hx] at h2
 generalize hea:a.eval ad=va at h1
 generalize hex:a.eval x=vx at h2
 cases h1
 cases h2 with
 | agg _ vs hl0 _=>
  have hvs0:vs=[]:=List.eq_nil_of_length_eq_zero hl0
  subst hvs0
  have hrun:(execOp a.eval o).run P w= .ok .skip w:=by
   unfold execOp
   simp only[ho,hea,hex]
   simp[Instr.storeAt,Instr.sureAddr,storeVar,hsz w,storeCells,Value.cells,Result.andThen]
  unfold Oper.wp
  rw[hrun]
  exact hK .undef _ G Go.undef w (lvc_ok _ _ _ kk) (Gle.refl G) S .undef
end
end
end Go.Proofs.YtidldcfpmehpiaaGreatDoor
