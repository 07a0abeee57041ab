/- Texts that the laws rest on, packed. -/
import Derived.Test.YtidldcfpmehpiaaGreatDoorRows
import Derived.WalkKit
import Derived.WalkLawsBesides
import Derived.WalkSpells
import Derived.Lib.Hide
import Derived.Lib.Strings
import Derived.Lib.IndexBytes
import Derived.Below
import Derived.Deep.Draws
import Derived.Deep.QuietTactic
import Derived.BigQuiet
import Derived.ProofKit
import Derived.OpenShut
import Derived.ShutString
import Derived.ChangeOld
import Derived.JoinedCond
import Derived.SizedLaws
import Derived.Test.YtidldcfpmehpiaaGreatDoorGB
import Derived.Maps.AppendAt
import Derived.Lib.ConvBytes
import Derived.Laws.Cells
import Derived.Lib.LaidTab
import Derived.FnData
import Derived.Test.YtidldcfpmehpiaaGreatDoorDeliverDeliversK0
import Derived.Lib.SplitLaws
import Derived.Lib.Bytealg
import Derived.Deep.DeepHandedRow
set_option linter.unusedSimpArgs false
set_option linter.unusedVariables false
set_option maxRecDepth 20000
set_option maxHeartbeats 4000000
namespace Go.Proofs.YtidldcfpmehpiaaGreatDoor
open _root_.Go.Proofs.Tryz _root_.Go.Proofs.YtidldcfpmehpiaaGreatDoor.Tryz
section
open Go.RowKit
theorem Aa2 {a b:Bool} (h:a=b):Ending.returned (.bool a)= .returned (.bool b):=by rw[h]
def bs (s:ByteArray):List UInt8:=s.data.toList
theorem Cf (s:ByteArray):(bs s).length=s.size:=(Lib.size_eq s).symm
theorem EH (s:ByteArray) (k:Nat) (h:k<s.size):(bs s)[k]?=some s[k]:=Lib.data_getElem? s k h
end
section
open Go.RowKit Go.ChangeShapes Go.WideShapes Go.ChangeAt
theorem own:ownKnob prog.godebug=none:=by kernel_rfl
theorem Aco:laidOutB prog=true:=by kernel_rfl
section
variable {H:Type} {enc:TypeId×Value->H} {P:Program} {W W':World}
theorem IF (hl:laidOutB P=true) (hb:Below W.heap.size W W'):∀{ts:List TypeId} {vs:List Value} {ds:List (DataW H)} {ps:List MemPlace},
  (∀t∈ts,P.readableRec t=true/\t<P.types.size)->DataW.TrodAll enc P W 0 (λ_=>true) true ts vs ds ps->
  DataW.TrodAll enc P W' 0 (λb=>decide (b<W.heap.size)) true ts vs ds ps
 |[],[],[],_,_,h=>h
 |t::ts,v::vs,d::ds,ps,ht,h=>by
  have hlt:=DataW.TrodAll.lt h
  obtain⟨p,q,h1,h2,rfl⟩:=h
  exact⟨p,q,Below.trod hl (ht t (by simp)).1 (ht t (by simp)).2 h1 hb (λx hx=>hlt x (by simp[hx])),IF hl hb (λu hu=>ht u (by simp[hu])) h2,rfl⟩
 |[],_::_,_,_,_,h=>h.elim
 |[],[],_::_,_,_,h=>h.elim
 |_::_,[],_,_,_,h=>h.elim
 |_::_,_::_,[],_,_,h=>h.elim
theorem Zo (hl:laidOutB P=true) {f:Func} {s:ChangeSpec} {tb:TypeId} {args:Array Value} {ds gs:List (DataW H)} {before:List MemPlace}
  (hvars:s.vars=[]) (hres:f.resultTypes= #[tb]) (htb:P.underlying tb=some .bool) (hpar:∀t∈f.params.toList,P.readableRec t=true/\t<P.types.size)
  (hW:DataW.Whole enc P f.params.toList s.vars false W args.toList ds gs before)
  (h1:(s.fn H (ds++gs)).results=[.lit (.bool true)]) (h2:(s.fn H (ds++gs)).args=ds) (h3:(s.fn H (ds++gs)).vars=[])
  (hb:Below W.heap.size W W'):s.post enc P f false true false false W args (.bool true) W':=by
 have hW':=hW
 obtain⟨p,q,hA,hV,rfl,_,_⟩:=hW
 refine⟨ds,gs,p++q,[],p,[],hW',?_,?_,?_,hb.frame _,λh=>by cases h⟩
 ·rw[h1,hres]
  exact trodAll_mk1 (shut_bool htb _)
 ·rw[h2];exact IF hl hb hpar hA
 ·rw[h3,hvars];rfl
end
end
section
open Go.RowKit Go.ChangeShapes Go.WideShapes Go.ChangeAt
section
variable {H:Type}
structure Ga (d:DataW H):Prop where
 le:Rows.uptoBulk d<=1048576
theorem J6:∀{ds:List (DataW H)} {d:DataW H},d∈ds->Rows.uptoBulk d<=Rows.uptoBulkAll ds
 |x::r,d,h=>by
  rw[Rows.uptoBulkAll]
  rcases List.mem_cons.1 h with e|e
  ·subst e;omega
  ·have:=J6 e;omega
theorem J7 (d:DataW H):1<=Rows.uptoBulk d:=by
 cases d with
 |lit l=>cases l<;>simp[Rows.uptoBulk]
 |_=>simp[Rows.uptoBulk]
theorem QT:∀ds:List (DataW H),ds.length<=Rows.uptoBulkAll ds
 |[]=>by simp
 |x::r=>by
  have:=QT r
  have:=J7 x
  rw[Rows.uptoBulkAll,List.length_cons]
  omega
theorem TR {ds:List (DataW H)} (h:Rows.uptoSmall H ds=true) (j:Nat) (d:DataW H) (hd:ds[j]?=some d):Ga d:=by
 have h':Rows.uptoBulkAll ds<=1048576:=of_decide_eq_true h
 exact⟨Nat.le_trans (J6 (List.mem_of_getElem? hd)) h'⟩
theorem Ga.part {ds:List (DataW H)} (h:Ga (.agg ds)) {j:Nat} {d:DataW H} (hd:ds[j]?=some d):Ga d:=by
 have h:=h.le
 rw[Rows.uptoBulk] at h
 constructor
 have:=J6 (List.mem_of_getElem? hd)
 omega
theorem Wb {elems spare:List (DataW H)} (h:Ga (.slice elems spare)) {d:DataW H} (hd:d∈elems):Ga d:=by
 have h:=h.le
 rw[Rows.uptoBulk] at h
 constructor
 have:=J6 hd
 omega
theorem Ga.len {elems spare:List (DataW H)} (h:Ga (.slice elems spare)):elems.length<=1048576:=by
 have h:=h.le
 rw[Rows.uptoBulk] at h
 have:=QT elems
 omega
end
end
section
open Go.RowKit
open Go.ChangeShapes Go.WideShapes Go.ChangeAt
theorem Aeu (a:Addr) (i j:Nat):(a.add i).add j=a.add (i+j):=by
 unfold Addr.add
 grind
theorem XR (b off j:Nat):(⟨b,off,none⟩:Addr).add j=⟨b,off+j,none⟩:=by
 unfold Addr.add
 all_goals grind
section
variable {H:Type} {enc:TypeId×Value->H} {P:Program} {W:World}
def Fv (W:World):Js:=λb o=>W.cell? ⟨b,o,none⟩
def Sv (F:Js) (ds:List D) (cs:List Value):Prop:=cs.length=ds.length/\∀(j:Nat) (d:D),ds[j]?=some d->∃v,cs[j]?=some v/\VD F d v
def Cu (enc:TypeId×Value->H) (P:Program) (W:World) {α:Type} (e:α->List D) (R:α->DataW H->Prop) (t:TypeId) (fuel:Nat):Prop:=
 ∀(m:Nat),m<=fuel->∀(cs:List Value) (y:DataW H×List MemPlace),DataW.trod enc P W 0 (λ_=>true) true m t cs=some y->∃a:α,Sv (Fv W) (e a) cs/\R a y.1
def CX (enc:TypeId×Value->H) (P:Program) (W:World) {α:Type} (e:α->List D) (sz:α->Nat) (t:TypeId) (fuel:Nat):Prop:=Cu enc P W e (λa d=>sz a<=Rows.uptoBulk d) t fuel
inductive RL {α:Type} (R:α->DataW H->Prop):List α->DataW H->Prop where
 |nil (d:DataW H) (h:∀elems spare,d≠ .slice elems spare):RL R [] d
 |slice (l:List α) (elems spare:List (DataW H)) (hl:l.length=elems.length) (h:∀(i:Nat) (x:α) (z:DataW H),l[i]?=some x->elems[i]?=some z->R x z):RL R l (.slice elems spare)
theorem Cu.mono {α:Type} {e:α->List D} {R R':α->DataW H->Prop} {t f:Nat} (d:Cu enc P W e R t f) (h:∀a x,R a x->R' a x):Cu enc P W e R' t f:=λm hm cs y hy=>by
 obtain⟨a,h1,h2⟩:=d m hm cs y hy
 grind
theorem Sv.one {F:Js} {d:D} {v:Value} (h:VD F d v):Sv F [d] [v]:=⟨rfl,λj x hx=>by
 grind⟩
theorem Sv.append {F:Js} {a b:List D} {cs:List Value} (h1:Sv F a (cs.take a.length)) (h2:Sv F b (cs.drop a.length)):Sv F (a++b) cs:=by
 have e1:=h1.1
 have e2:=h2.1
 simp at e1 e2
 have hle:a.length<=cs.length:=by omega
 refine⟨by simp;omega,λj d hd=>?_⟩
 rcases Nat.lt_or_ge j a.length with hj|hj
 ·rw[List.getElem?_append_left hj] at hd
  obtain⟨v,g1,g2⟩:=h1.2 j d hd
  grind
 ·rw[List.getElem?_append_right hj] at hd
  obtain⟨v,g1,g2⟩:=h2.2 _ d hd
  grind
theorem CX.le {α:Type} {e:α->List D} {sz:α->Nat} {t f f':Nat} (d:CX enc P W e sz t f) (h:f'<=f):CX enc P W e sz t f':=λm hm=>d m (Nat.le_trans hm h)
theorem CX.int {t:TypeId} {k:IntKind} {f:Nat} (ht:P.underlying t=some (.int k)):CX enc P W (λn:Int=>[.int k n]) (λ_=>1) t f:=λm _ cs y h=>by
 obtain⟨n,e,_⟩:=DataW.trod_int ht h
 exact⟨n,by rw[e];exact .one (.int k n),J7 _⟩
theorem CX.bool {t:TypeId} {f:Nat} (ht:P.underlying t=some .bool):CX enc P W (λb:Bool=>[.bool b]) (λ_=>1) t f:=λm _ cs y h=>by
 obtain⟨n,e,_⟩:=DataW.trod_bool ht h
 exact⟨n,by rw[e];exact .one (.bool n),J7 _⟩
theorem CX.str {t:TypeId} {f:Nat} (ht:P.underlying t=some .string):CX enc P W (λs:List UInt8=>[.str s]) (λs=>s.length+1) t f:=λm _ cs y h=>by
 obtain⟨s,e,q,hm⟩:=DataW.trod_string ht h
 exact⟨s.data.toList,by rw[e];exact .one (.str s hm),by show _<=Rows.uptoBulk y.1;rw[q,Rows.uptoBulk];exact Nat.le_refl _⟩
theorem AfL {α:Type} (l:List α) (sz:α->Nat) (ds:List (DataW H)) (hl:l.length=ds.length) (h:∀(i:Nat) (a:α) (d:DataW H),l[i]?=some a->ds[i]?=some d->sz a<=Rows.uptoBulk d):(l.map sz).sum<=Rows.uptoBulkAll ds:=by
 induction l generalizing ds with
 |nil=>simp
 | cons a l ih=>
  cases ds with
  |nil=>simp at hl
  |cons d ds=>
   have h1:=h 0 a d rfl rfl
   have h2:=ih ds (by simpa using hl) λi a d e1 e2=>h (i+1) a d (by simpa using e1) (by simpa using e2)
   simp only[List.map_cons,List.sum_cons,Rows.uptoBulkAll]
   omega
theorem Cu.slc {α:Type} {e:α->List D} {R:α->DataW H->Prop} {t el k f:Nat} (d:Cu enc P W e R el f) (ht:P.underlying t=some (.slice el)) (hc:P.cellsOf el=k) (hk:∀a,(e a).length=k) (hp:0<k):Cu enc P W (λl:List α=>[.slc k (l.map e)]) (RL R) t (f+1):=by
 intro m hm cs y h
 rcases DataW.trod_slice ht h with⟨hv,hx⟩|⟨a,len,cap,elems,rest,n,hn,hv,hx,_,hl,hmx,hlen,hel,_,_⟩
 ·exact⟨[],by rw[hv];exact .one (.slc0 k none 0 (λ_=>rfl) (by decide)),by rw[hx];exact .nil _ (λ_ _ h=>by cases h)⟩
 ·rw[hx]
  have hone:∀i,i<len->∃x:α,(∀z,(elems.map (·.1))[i]?=some z->R x z)/\∀(j:Nat) (z:D),(e x)[j]?=some z->∃u,W.cell? (a.add (i*k+j))=some u/\VD (Fv W) z u:=by
   intro i hi
   have hi':i<elems.length:=by omega
   have hbn:=hel i hi
   rw[List.getElem?_eq_getElem hi',Option.bind_eq_some_iff] at hbn
   obtain⟨cs',hcs,htr⟩:=hbn
   have hmem:elems[i].1∈elems.map (·.1):=List.mem_map.2 ⟨elems[i],List.getElem_mem hi',rfl⟩
   obtain⟨x,hx1,hx2⟩:=d n (by omega) _ _ htr
   refine⟨x,λz hz=>?_,λj z hz=>?_⟩
   ·grind
   ·obtain⟨_,_,hat⟩:=World.cells?_some hcs
    obtain⟨u,g1,g2⟩:=hx1.2 j z hz
    grind[Aeu]
  obtain⟨l,hll,hlx⟩:∃l:List α,l.length=len/\∀(i:Nat) (x:α),l[i]?=some x->(∀z,(elems.map (·.1))[i]?=some z->R x z)/\∀(j:Nat) (z:D),(e x)[j]?=some z->∃u,W.cell? (a.add (i*k+j))=some u/\VD (Fv W) z u:=by
   refine⟨List.ofFn λi:Fin len=>Classical.choose (hone i.1 i.2),by simp,λi x hx=>?_⟩
   grind
  refine⟨l,?_,?_⟩
  ·rw[hv]
   refine .one ?_
   rcases Nat.eq_zero_or_pos len with h0|h0
   ·have:l=[]:=List.eq_nil_of_length_eq_zero (by omega)
    subst this
    rw[h0]
    exact .slc0 k _ cap (λe=>by cases e) hmx
   ·obtain⟨x0,hx0⟩:∃x,l[0]?=some x:=⟨_,List.getElem?_eq_getElem (show 0<l.length by omega)⟩
    obtain⟨z,hz⟩:∃z,(e x0)[0]?=some z:=⟨_,List.getElem?_eq_getElem (show 0<(e x0).length by rw[hk];exact hp)⟩
    obtain⟨u,hu,_⟩:=(hlx 0 _ hx0).2 0 z hz
    rw[Nat.zero_mul,Nat.zero_add] at hu
    have hsp:=World.cell?_spot hu
    obtain⟨b,off,sp⟩:=a
    simp[Addr.add] at hsp
    subst hsp
    have hcell:∀(i:Nat) (x:α) (j:Nat) (z:D),l[i]?=some x->(e x)[j]?=some z->∃u,Fv W b (off+(i*k+j))=some u/\VD (Fv W) z u:=λi x j z e1 e2=>by
     obtain⟨u,g1,g2⟩:=(hlx i x e1).2 j z e2
     rw[XR] at g1
     exact⟨u,g1,g2⟩
    have:=VD.slc (F:=Fv W) k (l.map e) b off cap (λi j=>(Fv W b (off+(i*k+j))).getD Go.undef) (by rw[List.length_map];omega) (by rw[List.length_map];omega) hmx (λr hr=>by obtain⟨x,_,rfl⟩:=List.mem_map.1 hr;exact hk x)
     (λi r j z e1 e2=>by
      rw[List.getElem?_map] at e1
      obtain⟨x,hx,rfl⟩:=Option.map_eq_some_iff.1 e1
      obtain⟨u,g1,_⟩:=hcell i x j z hx e2
      rw[g1];rfl)
     (λi r j z e1 e2=>by
      rw[List.getElem?_map] at e1
      obtain⟨x,hx,rfl⟩:=Option.map_eq_some_iff.1 e1
      obtain⟨u,g1,g2⟩:=hcell i x j z hx e2
      rw[g1];exact g2)
    grind
  ·exact .slice l _ _ (by rw[hll,List.length_map,hlen]) λi x z e1 e2=>(hlx i x e1).1 z e2
theorem CX.slc {α:Type} {e:α->List D} {sz:α->Nat} {t el k f:Nat} (d:CX enc P W e sz el f) (ht:P.underlying t=some (.slice el)) (hc:P.cellsOf el=k) (hk:∀a,(e a).length=k) (hp:0<k):CX enc P W (λl:List α=>[.slc k (l.map e)]) (λl=>(l.map sz).sum+1) t (f+1):=
 (Cu.slc d ht hc hk hp).mono λl d h=>by
  cases h with
  |nil d h=>simp;exact J7 _
  |slice l elems spare hl h=>
   have:=AfL l sz elems hl h
   show(l.map sz).sum+1<=_
   rw[Rows.uptoBulk];omega
def Jr (enc:TypeId×Value->H) (P:Program) (W:World) (o:Nat) (fs:List Field) {α:Type} (e:α->List D) (R:α->List (DataW H)->Prop) (f:Nat):Prop:=
 ∀(m:Nat),m<=f->∀(cs:List Value) (xs:List (DataW H×List MemPlace)),xs.length=fs.length->cs.length=o+(fs.map λx=>P.cellsOf x.type).sum->
  (∀(i:Nat) (x:Field),fs[i]?=some x->DataW.trod enc P W 0 (λ_=>true) true m x.type ((cs.drop x.offset).take (P.cellsOf x.type))=xs[i]?)->
  ∃a:α,Sv (Fv W) (e a) (cs.drop o)/\R a (xs.map (·.1))
def RC {α β:Type} (R:α->DataW H->Prop) (Q:β->List (DataW H)->Prop):α×β->List (DataW H)->Prop
 |p,d::ds=>R p.1 d/\Q p.2 ds
 |_,[]=>False
theorem Jr.nil {o f:Nat} :Jr enc P W o [] (λ_:Unit=>[]) (λ_ _=>True) f:=λm _ cs xs _ hc _=>⟨(),⟨by simp at hc⊢;omega,by simp⟩,trivial⟩
theorem Jr.cons {α β:Type} {e:α->List D} {e':β->List D} {R:α->DataW H->Prop} {Q:β->List (DataW H)->Prop} {o k f:Nat} {x:Field} {fs:List Field} (d:Cu enc P W e R x.type f) (hk:P.cellsOf x.type=k) (ho:x.offset=o) (r:Jr enc P W (o+k) fs e' Q f):
  Jr enc P W o (x::fs) (λp:α×β=>e p.1++e' p.2) (RC R Q) f:=λm hm cs xs hl hc hx=>by
 subst ho hk
 match xs,hl with
 | y::ys,hl=>
  simp only[List.map_cons,List.sum_cons] at hc
  obtain⟨a,h1,h2⟩:=d m hm _ _ (hx 0 x rfl)
  obtain⟨b,h3,h4⟩:=r m hm cs ys (by simpa using hl) (by omega) (λi z hz=>hx (i+1) z hz)
  refine⟨(a,b),?_,h2,h4⟩
  have hea:(e a).length=P.cellsOf x.type:=by
   have:=h1.1
   grind
  refine Sv.append ?_ ?_
  ·rw[hea];exact h1
  ·rw[hea,List.drop_drop];exact h3
theorem Cu.struct {α:Type} {e:α->List D} {R:α->List (DataW H)->Prop} {t f:Nat} {fs:Array Field} (ht:P.underlying t=some (.struct fs)) (hc:P.cellsOf t=(fs.toList.map λx=>P.cellsOf x.type).sum) (r:Jr enc P W 0 fs.toList e R f):Cu enc P W e (λa d=> ∃ds,d= .agg ds/\R a ds) t (f+1):=λm hm cs y h=>by
 obtain⟨xs,n,hn,hx,hl,hxl,hf⟩:=DataW.trod_struct ht h
 obtain⟨a,h1,h2⟩:=r n (by omega) cs xs (by simpa using hxl) (by rw[hl,hc,Nat.zero_add]) (λi z hz=>hf i z (by rw[<-Array.getElem?_toList];exact hz))
 grind
def VP (enc:TypeId×Value->H) (P:Program) (W:World) (o:Nat) (fs:List Field) {α:Type} (e:α->List D) (sz:α->Nat) (f:Nat):Prop:=Jr enc P W o fs e (λa ds=>sz a<=Rows.uptoBulkAll ds) f
theorem VP.nil {o f:Nat} :VP enc P W o [] (λ_:Unit=>[]) (λ_=>0) f:=λm hm cs xs hl hc hx=>by
 obtain⟨a,h1,_⟩:=Jr.nil (enc:=enc) (P:=P) (W:=W) m hm cs xs hl hc hx
 exact⟨a,h1,Nat.zero_le _⟩
theorem VP.cons {α β:Type} {e:α->List D} {e':β->List D} {sz:α->Nat} {sz':β->Nat} {o k f:Nat} {x:Field} {fs:List Field} (d:CX enc P W e sz x.type f) (hk:P.cellsOf x.type=k) (ho:x.offset=o) (r:VP enc P W (o+k) fs e' sz' f):
  VP enc P W o (x::fs) (λp:α×β=>e p.1++e' p.2) (λp=>sz p.1+sz' p.2) f:=λm hm cs xs hl hc hx=>by
 obtain⟨p,h1,h2⟩:=Jr.cons d hk ho r m hm cs xs hl hc hx
 refine⟨p,h1,?_⟩
 generalize xs.map (·.1)=ds at h2
 cases ds with
 |nil=>exact h2.elim
 |cons z zs=>obtain⟨h3,h4⟩:=h2;simp only[Rows.uptoBulkAll];omega
theorem CX.struct {α:Type} {e:α->List D} {sz:α->Nat} {t f:Nat} {fs:Array Field} (ht:P.underlying t=some (.struct fs)) (hc:P.cellsOf t=(fs.toList.map λx=>P.cellsOf x.type).sum) (r:VP enc P W 0 fs.toList e sz f):CX enc P W e (λa=>sz a+1) t (f+1):=
 (Cu.struct ht hc r).mono λa d h=>by
  obtain⟨ds,rfl,h⟩:=h
  have h:sz a<=Rows.uptoBulkAll ds:=h
  show sz a+1<=_
  rw[Rows.uptoBulk];omega
theorem CX.map {α β:Type} {e:α->List D} {e':β->List D} {sz:α->Nat} {sz':β->Nat} {t f:Nat} (g:α->β) (he:∀a,e' (g a)=e a) (hs:∀a,sz' (g a)<=sz a) (d:CX enc P W e sz t f):CX enc P W e' sz' t f:=λm hm cs y h=>by
 obtain⟨a,h1,h2⟩:=d m hm cs y h
 grind
theorem CX.zero {α:Type} {e:α->List D} {sz:α->Nat} {t:Nat} :CX enc P W e sz t 0:=λm hm cs y h=>by
 obtain rfl:m=0:=by omega
 simp[DataW.trod] at h
theorem CX.open_ {α:Type} {e:α->List D} {sz:α->Nat} {t:Nat} {v:Value} {d:DataW H} {p:List MemPlace} (hd:∀f,CX enc P W e sz t f) (h:DataW.Trod enc P W 0 (λ_=>true) true t v d p) (ht:Ga d):∃a:α,Sv (Fv W) (e a) v.cells.toList/\sz a<=1048576:=by
 obtain⟨fuel,h⟩:=h
 obtain⟨a,h1,h2⟩:=hd fuel fuel (Nat.le_refl _) _ _ h
 exact⟨a,h1,Nat.le_trans h2 ht.le⟩
theorem Cu.zero {α:Type} {e:α->List D} {R:α->DataW H->Prop} {t:Nat} :Cu enc P W e R t 0:=λm hm cs y h=>by
 obtain rfl:m=0:=by omega
 simp[DataW.trod] at h
theorem Cu.map {α β:Type} {e:α->List D} {e':β->List D} {R:α->DataW H->Prop} {R':β->DataW H->Prop} {t f:Nat} (g:α->β) (he:∀a,e' (g a)=e a) (hs:∀a d,R a d->R' (g a) d) (d:Cu enc P W e R t f):Cu enc P W e' R' t f:=λm hm cs y h=>by
 obtain⟨a,h1,h2⟩:=d m hm cs y h
 grind
theorem Cu.any {α:Type} {e:α->List D} {sz:α->Nat} {t f:Nat} (d:CX enc P W e sz t f):Cu enc P W e (λ_ _=>True) t f:=d.mono λ_ _ _=>trivial
theorem Cu.open_ {α:Type} {e:α->List D} {R:α->DataW H->Prop} {t:Nat} {v:Value} {d:DataW H} {p:List MemPlace} (hd:∀f,Cu enc P W e R t f) (h:DataW.Trod enc P W 0 (λ_=>true) true t v d p):∃a:α,Sv (Fv W) (e a) v.cells.toList/\R a d:=by
 obtain⟨fuel,h⟩:=h
 exact hd fuel fuel (Nat.le_refl _) _ _ h
end
theorem Sv.agg {G:Gh} {ds:List D} {vs:Array Value} (h:Sv G.frz ds vs.toList):VR G (.agg (ds.map .d)) (.agg vs):=by
 have:=VR.agg (G:=G) (ds.map .d) vs.toList (by rw[List.length_map];exact h.1) λi a v h1 h2=>by
  rw[List.getElem?_map] at h1
  obtain⟨d,hd,rfl⟩:=Option.map_eq_some_iff.1 h1
  obtain⟨u,h3,h4⟩:=h.2 i d hd
  rw[h2] at h3
  injection h3 with h3
  rw[h3];exact .d h4
 simpa using this
theorem WK {P:Program} {T:Ap} {W:World} {f:FuncId} {args:List AV} {vs:Array Value} (c:PC P T f args (.d (.bool true))) (hT:∀g j x,(T g)[j]?=some x->∃u,Fv W g j=some u/\VD (Fv W) x u) (ha:Dz (Qj W (Fv W)) args vs):
  Calls P f vs W λe W'=>e= .returned (.bool true)/\Below W.heap.size W W':=
 (c.run (Fv W) W vs (λ_ _ _ h=>h) hT ha).mono λe W' ⟨v,F',he,hb,_,_,_,hv⟩=>⟨by cases hv with|d hd=>rw[he,hd.bool_inv],hb⟩
end
section
open Go.RowKit
def Agt (D:Nat->Prop) (w w':World):Prop:=∀b,D b->w'.heap[b]?=w.heap[b]?
theorem BY {B:Nat} {a w:World} (h:Below B a w) (n:Nat):Below B a (w.drewN n):=⟨h.os,h.tape,h.output,h.size,h.block⟩
theorem DV {B:Nat} {W w1:World} (hb:Below B W w1) {b:Nat} (h:b<B) (hB:B<=W.heap.size:=by first|exact Nat.le_refl _|(simp;done)|(simp;omega)):
  (∀o,w1.cell? ⟨b,o,none⟩=W.cell? ⟨b,o,none⟩)/\(∀o,w1.frozen? ⟨b,o,none⟩=W.frozen? ⟨b,o,none⟩)/\b<w1.heap.size:=
 ⟨λo=>hb.cell (p:=⟨b,o,none⟩) h,λo=>hb.frozen (p:=⟨b,o,none⟩) h,by have:=hb.size;omega⟩
def Sl (w:World) (D:Nat->Prop) (k:Nat) (A:Option Addr) (n:Nat) (xs:List Value):Prop:=
 xs.length=n*k/\(0<n->∃b off,A=some ⟨b,off,none⟩/\D b/\∀j u,xs[j]?=some u->w.cell? ⟨b,off+j,none⟩=some u)
section
variable {w w':World} {D D':Nat->Prop} {k n:Nat} {A:Option Addr} {xs:List Value}
theorem Sl.mono (h:Sl w D k A n xs) (hD:∀b,D b->D' b):Sl w D' k A n xs:=
 ⟨h.1,λhn=>by
  obtain⟨b,off,e,hb,hc⟩:=h.2 hn
  exact⟨b,off,e,hD b hb,hc⟩⟩
theorem Sl.cells (h:Sl w D k A n xs) {j:Nat} {u:Value} (hu:xs[j]?=some u):∃b off,A=some ⟨b,off,none⟩/\D b/\w.cell? ⟨b,off+j,none⟩=some u:=by
 have hn:0<n:=by
  rcases Nat.eq_zero_or_pos n with h0|h0
  ·have:=h.1;subst h0;have:xs=[]:=List.eq_nil_of_length_eq_zero (by simpa using this);subst this;simp at hu
  ·exact h0
 obtain⟨b,off,e,hb,hc⟩:=h.2 hn
 exact⟨b,off,e,hb,hc j u hu⟩
theorem Sl.of_own {base:Nat} {e:TypeId} {c:Nat} (h:w.ownsRow base e k (.slice A n c) n xs):Sl w (λb=>base<=b/\b<w.heap.size) k A n xs:=by
 refine⟨h.1,λhn=>?_⟩
 rcases h.2 with⟨hv,h0⟩|⟨g,cap,cur,hv,hb,hh,_⟩
 ·omega
 ·injection hv with hA
  subst hA
  have hlt:=h.lt g rfl
  refine⟨g,0,rfl,⟨hb,hlt.2⟩,λj u hu=>?_⟩
  have:=h.cells (g:=g) rfl j u hu
  simpa[Addr.add,Nat.zero_add] using(by
   by_cases hj:j=0
   ·subst hj;simpa[Addr.add] using this
   ·simpa[Addr.add,hj] using this:w.cell? ⟨g,0+j,none⟩=some u)
theorem MQ {base:Nat} {e:TypeId} {v:Value} (h:w.ownsRow base e k v n xs):∃A c,v= .slice A n c/\n<=c/\c<=maxLen:=by
 rcases h.2 with⟨hv,h0⟩|⟨g,cap,cur,hv,hb,hh,hnc,hcm,_⟩
 ·exact⟨none,0,by rw[hv,h0],by omega,by decide⟩
 ·exact⟨_,_,hv,hnc,hcm⟩
theorem Sl.new (w:World) (cs:Array Value) (e:TypeId) (k:Nat) (hk:cs.size=k):Sl (w.alloc (.cells cs e)) (λb=>b=w.heap.size) k (some ⟨w.heap.size,0,none⟩) 1 cs.toList:=by
 refine⟨by simp[hk],λ_=>⟨_,_,rfl,rfl,λj u hu=>?_⟩⟩
 have:(w.alloc (.cells cs e)).heap[w.heap.size]?=some (.cells cs e (0,0)):=heap_alloc_new w _
 rw[Nat.zero_add,cell_of_row _ _ _ cs e (0,0) this]
 simpa using hu
end
structure VS (w w':World) (v v':Value):Prop where
 by_:w.grownBy w' v.ownBlock
 at_:v'.ownBlock=v.ownBlock\/v'.ownBlock=some w.heap.size
theorem VS.below {w0 w w':World} {v v':Value} {B base:Nat} {e:TypeId} {k n:Nat} {xs:List Value} (h:VS w w' v v') (hb:Below B w0 w) (hB:B<=base) (hB':B<=w.heap.size) (ho:w.ownsRow base e k v n xs):Below B w0 w':=
 hb.grown h.by_ hB' (λk hk=>Nat.le_trans hB (ho.lt k hk).1)
theorem It {P:Program} {ops:Array Oper} {Q:Exit->Act->World->Prop} {a:Act} {w:World} {rest:List Oper} {o:Oper} (hw:Region.wanted o (yielded ops a.tmps)=true)
  (h:∀K:Act->World->Prop,(∀a w,wpList P ops Q rest a w->K a w)->o.wp P a w K Q):wpList P ops Q (o::rest) a w:=
 wpList_step λK hK=>by rw[if_pos hw];exact h K hK
structure Abo (P:Program) (t e size bytes:Nat):Prop where
 ht:P.underlying t=some (.slice e)
 hi:(P.info? e).map (λi=>(i.zero.map (λz=>z.cells.size),i.size,i.bytes))=some (some size,size,bytes)
 pos:0<size
section
variable {P:Program} {t e size bytes:Nat}
theorem N9 (E:Abo P t e size bytes) (ty:TypeId) {w:World} {base:Nat} {v:Value} {n:Nat} {xs:List Value} (hown:w.ownsRow base e size v n xs)
  {D:Nat->Prop} {A:Option Addr} {m c:Nat} {news:List Value} (hr:Sl w D size A m news) (h1:∀u∈news,u.oneCell'=true) (hA:A=none->c=0)
  (h63:n+m<=maxLen) (hbytes:(n+m)*bytes<=140737488355328) (hbase:base<=w.heap.size):
  ∃A' c' w',(Builtin.append_ #[t,t] ty #[v,.slice A m c]).run P w= .ok (.slice A' (n+m) c') w'/\w'.ownsRow base e size (.slice A' (n+m) c') (n+m) (xs++news)/\VS w w' v (.slice A' (n+m) c')/\Below base w w':=by
 suffices hx:∃v' w',(Builtin.append_ #[t,t] ty #[v,.slice A m c]).run P w= .ok v' w'/\w'.ownsRow base e size v' (n+m) (xs++news)/\VS w w' v v' by
  obtain⟨v',w',h1,h2,h3⟩:=hx
  obtain⟨A',c',rfl,_,_⟩:=MQ h2
  exact⟨A',c',w',h1,h2,h3,h3.below (Below.refl base w) (Nat.le_refl _) hbase hown⟩
 obtain⟨i,hi,hz⟩:=Option.map_eq_some_iff.1 E.hi
 simp only[Prod.mk.injEq,Option.map_eq_some_iff] at hz
 obtain⟨⟨z,hz,hzs⟩,hs,hb⟩:=hz
 rcases A with _|ad
 ·have hm:m=0:=by
   rcases Nat.eq_zero_or_pos m with h0|h0
   ·exact h0
   ·obtain⟨_,_,h,_⟩:=hr.2 h0
    cases h
  subst hm
  have hn:news=[]:=List.eq_nil_of_length_eq_zero (by simpa using hr.1)
  subst hn
  refine⟨v,w,?_,by simpa using hown,⟨World.grownBy.refl w _,.inl rfl⟩⟩
  rcases hown.2 with⟨rfl,rfl⟩|⟨g,cap,cur,rfl,_,_,hnc,_⟩
  ·simp[Builtin.append_,run_underlying E.ht,sizeOf,typeInfo,hi,Builtin.lenOf,Builtin.firstCells]
  ·simp[Builtin.append_,run_underlying E.ht,sizeOf,typeInfo,hi,Builtin.lenOf,Builtin.firstCells,hnc,storeCells]
 ·have hcells:∀j u,news[j]?=some u->w.cell? (ad.add j)=some u:=by
   intro j u hu
   obtain⟨b,off,e',_,hc⟩:=hr.cells hu
   injection e' with e'
   subst e'
   by_cases hj:j=0
   ·subst hj;simpa[Addr.add] using hc
   ·simpa[Addr.add,hj] using hc
  obtain⟨v',w',hrun,h2,h3,_,h5⟩:=run_append_own_at (P:=P) w base t ty e i z size bytes E.ht hi hz hs hb hzs E.pos v n xs hown ad m c news hr.1 hcells h1 h63 hbytes hbase
  exact⟨v',w',hrun,h2,⟨h3,h5⟩⟩
theorem Qh (E:Abo P t e size bytes) {o:Oper} {a:Act} {K:Act->World->Prop} {Q:Exit->Act->World->Prop} {w:World} (s x:Operand)
  (ho:o.op= .call {callee:= .builtin .append,args:= #[s,x],argTypes:= #[t,t]})
  {base:Nat} {v:Value} {n:Nat} {xs:List Value} (hs:a.eval s=v) (hown:w.ownsRow base e size v n xs)
  {D:Nat->Prop} {A:Option Addr} {m c:Nat} {news:List Value} (hx:a.eval x= .slice A m c) (hr:Sl w D size A m news) (h1:∀u∈news,u.oneCell'=true) (hA:A=none->c=0)
  (h63:n+m<=maxLen) (hbytes:(n+m)*bytes<=140737488355328) (hbase:base<=w.heap.size)
  (h:∀A' c' w',w'.ownsRow base e size (.slice A' (n+m) c') (n+m) (xs++news)->VS w w' v (.slice A' (n+m) c')->Below base w w'->K (a.put o.dst (.slice A' (n+m) c')) w'):o.wp P a w K Q:=by
 obtain⟨A',c',w',hrun,h2,h3,h4⟩:=N9 (P:=P) E o.type hown hr h1 hA h63 hbytes hbase
 unfold Oper.wp execOp
 simp only[ho,resolve,invoke,builtin,Sem.run_bind,Sem.run_pure,Result.andThen_ok,List.map_toArray,List.map_cons,List.map_nil,hs,hx,hrun]
 exact h A' c' w' h2 h3 h4
theorem Gw (E:Abo P t e size bytes) {ops:Array Oper} {rest:List Oper} {o:Oper} {a:Act} {Q:Exit->Act->World->Prop} {w:World} (hgd:Region.wanted o (yielded ops a.tmps)=true) (s x:Operand)
  (ho:o.op= .call {callee:= .builtin .append,args:= #[s,x],argTypes:= #[t,t]})
  {base:Nat} {v:Value} {n:Nat} {xs:List Value} (hs:a.eval s=v) (hown:w.ownsRow base e size v n xs)
  {D:Nat->Prop} {A:Option Addr} {m c:Nat} {news:List Value} (hx:a.eval x= .slice A m c) (hr:Sl w D size A m news) (h1:∀u∈news,u.oneCell'=true) (hA:A=none->c=0)
  (h63:n+m<=maxLen) (hbytes:(n+m)*bytes<=140737488355328) (hbase:base<=w.heap.size)
  (h:∀A' c' w',w'.ownsRow base e size (.slice A' (n+m) c') (n+m) (xs++news)->VS w w' v (.slice A' (n+m) c')->Below base w w'->wpList P ops Q rest (a.put o.dst (.slice A' (n+m) c')) w'):wpList P ops Q (o::rest) a w:=
 It hgd λ_ hK=>Qh E s x ho hs hown hx hr h1 hA h63 hbytes hbase λA' c' w' h2 h3 h4=>hK _ _ (h A' c' w' h2 h3 h4)
end
structure AiH {α:Type} (R:World->(Nat->Prop)->Value->α->Prop):Prop where
 keep:∀{w w':World} {D:Nat->Prop} {v:Value} {x:α},R w D v x->Agt D w w'->R w' D v x
 mono:∀{w:World} {D D':Nat->Prop} {v:Value} {x:α},R w D v x->(∀b,D b->D' b)->R w D' v x
end
section
open Go.RowKit
def bv (b:UInt8):Value:= .int .u8 b.toNat
def mk (l:List UInt8):ByteArray:=⟨l.toArray⟩
theorem Aab (s:ByteArray):mk (bs s)=s:=Lib.mk_data s
theorem NT (l:List UInt8):bs (mk l)=l:=by simp[bs,mk]
theorem Ij (l:List UInt8):(mk l).size=l.length:=by simp[mk,ByteArray.size]
theorem SY {s t:ByteArray} (h:bs s=bs t):s=t:=by rw[<-Aab s,<-Aab t,h]
theorem Nm {a b:ByteArray} (h:a.toList=b.toList):a=b:=SY (by simpa[bs,ByteArray.toList_eq] using h)
theorem AcL {a b:ByteArray} (h:a≠b):(a.toList==b.toList)=false:=beq_false_of_ne λe=>h (Nm e)
theorem Tm (l:List UInt8):∀acc:ByteArray,(l.map λb=>(b.toNat:Int)).foldl (λr n=>r.push (UInt8.ofNat n.toNat)) acc=mk (bs acc++l):=by
 induction l with
 |nil=>intro acc;simp[Aab]
 |cons b l ih=>
  intro acc
  simp only[List.map_cons,List.foldl_cons,Int.toNat_natCast,ih]
  congr 1
  simp[bs,ByteArray.push]
theorem NA {P:Program} {w:World} {D:Nat->Prop} {A:Option Addr} {c:Nat} {l:List UInt8} (src dst e:TypeId)
  (hs:P.underlying src=some (.slice e)) (he:P.underlying e=some (.int .u8)) (hd:P.underlying dst=some .string) {n:Nat} (h:Sl w D 1 A n (l.map bv)):
  (convert src dst (.slice A n c)).run P w= .ok (.string (mk l)) w:=by
 have hl:l.length=n:=by simpa using h.1
 subst hl
 rw[run_convert_bytes_string w src dst e A l.length c hs he hd]
 rcases A with _|a
 ·have:l=[]:=by
   rcases l with _|⟨x,l⟩
   ·rfl
   ·obtain⟨_,_,e',_⟩:=h.2 (by simp)
    cases e'
  subst this
  simp[Conv.bytesToString,mk]
  rfl
 ·have hload:(loadCells a l.length).run P w= .ok ((l.map λb=>(b.toNat:Int)).map (Value.int .u8)).toArray w:=by
   have:=run_loadCells_list (P:=P) (w:=w) a (l.map bv) (λj v hv=>by
    obtain⟨b,off,e',_,hc⟩:=h.cells hv
    injection e' with e'
    subst e'
    by_cases hj:j=0
    ·subst hj;simpa[Addr.add] using hc
    ·simpa[Addr.add,hj] using hc)
   have e:(l.map λb=>(b.toNat:Int)).map (Value.int .u8)=l.map bv:=by rw[List.map_map];rfl
   rw[e]
   simpa using this
  rw[run_bytesToString w a l.length c _ hload,Tm]
  simp[bs,ByteArray.empty,ByteArray.emptyWithCapacity]
  rfl
theorem Gx {P:Program} {ops:Array Oper} {rest:List Oper} {o:Oper} {a:Act} {Q:Exit->Act->World->Prop} {w:World} (hgd:Region.wanted o (yielded ops a.tmps)=true) (x:Operand) (src dst e:TypeId)
  (ho:o.op= .convert src dst x) (hs:P.underlying src=some (.slice e)) (he:P.underlying e=some (.int .u8)) (hd:P.underlying dst=some .string)
  {D:Nat->Prop} {A:Option Addr} {n c:Nat} {l:List UInt8} (hx:a.eval x= .slice A n c) (h:Sl w D 1 A n (l.map bv))
  (k:wpList P ops Q rest (a.put o.dst (.string (mk l))) w):wpList P ops Q (o::rest) a w:=
 It hgd λ_ hK=>by
  unfold Oper.wp execOp
  simp only[ho,hx,Sem.run_bind,NA (c:=c) src dst e hs he hd h,Result.andThen_ok]
  exact hK _ _ k
structure AcX (w w':World) (s:ByteArray):Prop where
 below:Below w.heap.size w w'
 size:w'.heap.size=w.heap.size+1
 cell:∀(j:Nat) (hj:j<s.size),w'.cell? ⟨w.heap.size,j,none⟩=some (bv s[j])
 free:∀(j:Nat),j<s.size->w'.frozen? ⟨w.heap.size,j,none⟩=false
theorem Rp (w:World) (e:TypeId) (s:ByteArray):AcX w (Lib.bytesWorld w e s) s where
 below:=by
  refine⟨?_,?_,?_,?_,λk hk=>Lib.bytesWorld_at_old w e s k hk⟩
  ·simp only[Lib.bytesWorld,World.freeze];split<;>rfl
  ·simp only[Lib.bytesWorld,World.freeze];split<;>rfl
  ·simp only[Lib.bytesWorld,World.freeze];split<;>rfl
  ·rw[Lib.bytesWorld_size];omega
 size:=Lib.bytesWorld_size w e s
 cell:=λj hj=>by
  rw[Lib.bytesWorld_cell w e s j hj]
  have:=EH s j hj
  unfold bs at this
  simp[bv,List.getD,this]
 free:=λj hj=>by
  simp only[World.frozen?,Lib.bytesWorld_at_new]
  have:s.size<=(Lib.bytesCells w e s).size:=by
   simp only[Lib.bytesCells,Array.size_append,Array.size_map]
   exact Nat.le_add_right s.data.size _
  simp
  omega
theorem L3 {P:Program} {ops:Array Oper} {rest:List Oper} {o:Oper} {a:Act} {Q:Exit->Act->World->Prop} {w:World} (hgd:Region.wanted o (yielded ops a.tmps)=true) (x:Operand) (src dst e:TypeId)
  (ho:o.op= .convert src dst x) (hs:P.underlying src=some .string) (hd:P.underlying dst=some (.slice e)) (he:P.underlying e=some (.int .u8))
  {s:ByteArray} (hx:a.eval x= .string s)
  (k:∀c w',AcX w w' s->wpList P ops Q rest (a.put o.dst (.slice (some ⟨w.heap.size,0,none⟩) s.size c)) w'):wpList P ops Q (o::rest) a w:=
 It hgd λ_ hK=>by
  unfold Oper.wp execOp
  simp only[ho,hx,Sem.run_bind,Lib.run_convert_string_bytes w src dst e s hs hd he,Result.andThen_ok]
  exact hK _ _ (k _ _ (Rp w e s))
theorem Sl.of_cells {w:World} {D:Nat->Prop} {b off n:Nat} {xs:List Value} (hD:D b) (hn:xs.length=n) (h:∀j u,xs[j]?=some u->w.cell? ⟨b,off+j,none⟩=some u):Sl w D 1 (some ⟨b,off,none⟩) n xs:=
 ⟨by omega,λ_=>⟨b,off,rfl,hD,h⟩⟩
end
section
open Go.RowKit
section
theorem Ml {H:Type} {enc:TypeId×Value->H} {P:Program} {w:World} {base:Nat} {sp:Nat->Bool} {held:Bool} {fuel:Nat} {t e:TypeId} {n:Nat} {cs:List Value} {zs:List (List UInt8)} {p:List MemPlace}
  (ht:P.underlying t=some (.array n e)) (he:P.underlying e=some .string) (hce:P.cellsOf e=1) (hct:P.cellsOf t=n)
  (h:DataW.trod enc P w base sp held fuel t cs=some (.agg (zs.map λz=> .lit (.string z)),p)):cs=zs.map λz=>Value.string (mk z):=by
 cases fuel with
 |zero=>simp[DataW.trod] at h
 | succ fuel=>
  simp only[DataW.trod,ht,hce,hct,Nat.mul_one] at h
  split at h
  ·rename_i hl
   obtain⟨xs,hm,hx⟩:=Option.map_eq_some_iff.1 h
   have hxs:xs.map (·.1)=zs.map λz=>(DataW.lit (.string z):DataW H):=by
    have:=congrArg Prod.fst hx
    simpa using this
   have hxl:xs.length=n:=by simpa using Lib.mapM_length hm
   have hzl:zs.length=n:=by
    have:=congrArg List.length hxs
    simp at this
    omega
   apply List.ext_getElem?
   intro i
   by_cases hi:i<n
   ·obtain⟨b,hb,hf⟩:=Lib.mapM_at hm i i (by simp[hi])
    obtain⟨z,hc,hz,_⟩:=DataW.trod_string he hf
    have h1:cs[i]?=some (.string z):=by
     have:=congrArg (·[0]?) hc
     simpa[List.getElem?_take,List.getElem?_drop] using this
    have h2:(xs.map (·.1))[i]?=some (DataW.lit (.string z.data.toList):DataW H):=by simp[hb,hz]
    rw[hxs] at h2
    simp only[List.getElem?_map,Option.map_eq_some_iff,DataW.lit.injEq,Lit.string.injEq] at h2
    obtain⟨z',hz',rfl⟩:=h2
    rw[h1,List.getElem?_map,hz']
    simp[mk]
   ·rw[List.getElem?_eq_none (by omega),List.getElem?_eq_none (by simp;omega)]
  ·cases h
def OY (w:World) (g:Nat) (zs:List (List UInt8)):Prop:=∀(i:Nat) (z:List UInt8),zs[i]?=some z->w.cell? ⟨g,i,none⟩=some (.string (mk z))
theorem R6 {P:Program} {W:World} {name:String} {d:DataW Unit} :∀{l:List (String×DataW Unit)} {ps:List MemPlace},DataW.LaidVars P W l ps->(name,d)∈l->
  ∃g t cs fuel p,P.globalNamed name=some g/\(P.globals[g]?).map (·.type)=some t/\W.var? P name=some cs/\DataW.trod (λ_=>()) P W 0 (λ_=>true) false fuel t cs.toList=some (d,p)
 | (n,d')::r,ps,h,hm=>by
  obtain⟨g,t,cs,fuel,p,q,h1,h2,h3,h4,h5,_⟩:=h
  rcases List.mem_cons.1 hm with e|e
  ·injection e with e1 e2
   subst e1 e2
   exact⟨g,t,cs,fuel,p,h1,h2,h3,h4⟩
  ·exact R6 h5 e
 |[],_,_,hm=>by cases hm
theorem GV (P:Program) (laid:List (String×DataW Unit)) (w:World) (h:(laid.all λx=>x.2.handleName?.isNone)=true):laidMetH P laid w=laidMet P laid w:=by
 have e:(laid.filter λx=>x.2.handleName?.isSome)=[]:=by
  rw[List.filter_eq_nil_iff]
  intro x hx hs
  have:=List.all_eq_true.1 h x hx
  cases hn:x.2.handleName? with
  |none=>rw[hn] at hs;cases hs
  |some s=>rw[hn] at this;cases this
 unfold laidMetH
 rw[e]
theorem CO {P:Program} {W:World} {name:String} {zs:List (List UInt8)} {l:List (String×DataW Unit)} {g:Nat} {t e:TypeId} {n:Nat}
  (hg:P.globalNamed name=some g) (hty:(P.globals[g]?).map (·.type)=some t) (ht:P.underlying t=some (.array n e)) (he:P.underlying e=some .string) (hce:P.cellsOf e=1) (hct:P.cellsOf t=n)
  (hm:(name,.agg (zs.map λz=> .lit (.string z)))∈l) (hp:(l.all λx=>x.2.handleName?.isNone)=true) (h:laidMetH P l W):OY W g zs/\g<W.heap.size:=by
 rw[GV P l W hp] at h
 obtain⟨ps,hl,_⟩:=h
 obtain⟨g',t',cs,fuel,p,hg',ht',hvar,hd⟩:=R6 hl hm
 obtain rfl:=Option.some.inj (hg.symm.trans hg')
 obtain rfl:=Option.some.inj (hty.symm.trans ht')
 have hc:=Ml ht he hce hct hd
 have hcell:OY W g zs:=by
  intro i z hz
  rw[World.var?_cell hg hvar i,<-Array.getElem?_toList,hc,List.getElem?_map,hz]
  rfl
 refine⟨hcell,?_⟩
 unfold World.var? at hvar
 rw[hg] at hvar
 cases hh:W.heap[g]? with
 |none=>simp[hh] at hvar
 |some o=>exact(Array.getElem?_eq_some_iff.1 hh).1
end
end
section
open Go.RowKit
structure VQ (α:Type) where
 k:Nat
 enc:α->List Value
 len:∀x,(enc x).length=k
 one:∀x,∀u∈enc x,u.oneCell'=true
 pos:0<k
section
variable {α:Type} (E:VQ α)
theorem VQ.at_ (l:List α) {i:Nat} {x:α} (hx:l[i]?=some x) {j:Nat} (hj:j<E.k):(l.flatMap E.enc)[i*E.k+j]?=(E.enc x)[j]?:=by
 induction l generalizing i with
 |nil=>simp at hx
 | cons y l ih=>
  rw[List.flatMap_cons]
  cases i with
  |zero=>
   simp only[List.getElem?_cons_zero,Option.some.injEq] at hx
   subst hx
   rw[Nat.zero_mul,Nat.zero_add,List.getElem?_append_left (by rw[E.len];exact hj)]
  |succ i=>
   rw[List.getElem?_cons_succ] at hx
   rw[List.getElem?_append_right (by rw[E.len,Nat.succ_mul];omega),E.len]
   rw[show(i+1)*E.k+j-E.k=i*E.k+j by rw[Nat.succ_mul];omega]
   exact ih hx
end
def RF {α:Type} (E:VQ α) (w:World) (D:Nat->Prop) (v:Value) (l:List α):Prop:=
 ∃A c,v= .slice A l.length c/\l.length<=c/\c<=maxLen/\(A=none->c=0)/\Sl w D E.k A l.length (l.flatMap E.enc)
section
variable {α:Type} {E:VQ α} {w w':World} {D D':Nat->Prop} {v:Value} {l:List α} {A:Option Addr} {n c:Nat}
theorem RF.mono (h:RF E w D v l) (hk:∀b,D b->D' b):RF E w D' v l:=by
 obtain⟨A,c,h1,h2,h3,h4,h5⟩:=h
 exact⟨A,c,h1,h2,h3,h4,h5.mono hk⟩
theorem RF.ex (h:RF E w D v l):∃A c,v= .slice A l.length c/\RF E w D (.slice A l.length c) l:=by
 have h':=h
 obtain⟨A,c,rfl,_⟩:=h
 exact⟨A,c,rfl,h'⟩
theorem RF.bound (h:RF E w D v l):l.length<=maxLen:=by
 obtain⟨A,c,rfl,h1,h2,_⟩:=h
 omega
theorem RF.cap (h:RF E w D (.slice A n c) l):n=l.length/\l.length<=c/\c<=maxLen/\(A=none->c=0):=by
 obtain⟨A',c0,h1,h2,h3,h4,h5⟩:=h
 injection h1 with e1 e2 e3
 subst e1 e3
 exact⟨e2,h2,h3,h4⟩
theorem RF.sl (h:RF E w D (.slice A n c) l):Sl w D E.k A n (l.flatMap E.enc):=by
 obtain⟨A',c0,h1,h2,h3,h4,h5⟩:=h
 injection h1 with e1 e2 e3
 subst e1 e2
 exact h5
theorem RF.of_own {base:Nat} {e:TypeId} (hn:n=l.length) (h:w.ownsRow base e E.k v n (l.flatMap E.enc)):RF E w (λb=>base<=b/\b<w.heap.size) v l:=by
 subst hn
 obtain⟨A,c,rfl,h1,h2⟩:=MQ h
 refine⟨A,c,rfl,h1,h2,?_,Sl.of_own h⟩
 intro hA
 rcases h.2 with⟨hv,_⟩|⟨g,cap,cur,hv,_⟩
 ·injection hv
 ·injection hv with h1;rw[hA] at h1;cases h1
theorem RF.at_ (h:RF E w D (.slice A n c) l) {i:Nat} (hi:i<n):∃b off x,A=some ⟨b,off,none⟩/\D b/\l[i]?=some x/\∀j u,(E.enc x)[j]?=some u->w.cell? ⟨b,off+(i*E.k+j),none⟩=some u:=by
 have hl:=h.cap.1
 have hx:l[i]?=some l[i]:=List.getElem?_eq_getElem (by omega)
 obtain⟨b,off,e,hb,hc⟩:=h.sl.2 (by omega)
 refine⟨b,off,l[i],e,hb,hx,λj u hu=>hc _ u ?_⟩
 have hj:j<E.k:=by rw[<-E.len l[i]];exact(List.getElem?_eq_some_iff.1 hu).1
 rw[E.at_ l hx hj]
 exact hu
end
end
section
open Go.RowKit Go.ChangeShapes Go.WideShapes Go.ChangeAt
section
variable {H:Type} {enc:TypeId×Value->H} {P:Program} {W:World}
end
end
section
open Go.RowKit
open Go.ChangeShapes Go.WideShapes Go.ChangeAt
def Xe:VQ ByteArray:=⟨1,λs=>[.string s],λ_=>rfl,λx u hu=>by
 rw[List.mem_singleton] at hu
 subst hu
 rfl,by decide⟩
theorem AaF {w:World} {D:Nat->Prop} {A:Option Addr} {n c:Nat} {l:List ByteArray} (h:RF Xe w D (.slice A n c) l) {i:Nat} (hi:i<n):
  ∃b off x,A=some ⟨b,off,none⟩/\D b/\l[i]?=some x/\w.cell? ⟨b,off+i,none⟩=some (.string x):=by
 obtain⟨b,off,x,e,hb,hx,hc⟩:=h.at_ hi
 refine⟨b,off,x,e,hb,hx,?_⟩
 have:=hc 0 _ rfl
 simpa[Xe] using this
end
section
open Go.RowKit
theorem NP {c:UInt8} (h:(97<=(c.toNat:Int)/\(c.toNat:Int)<=122)\/(65<=(c.toNat:Int)/\(c.toNat:Int)<=90)\/(48<=(c.toNat:Int)/\(c.toNat:Int)<=57)):Do c=true:=by
 have:Ky c=true:=by unfold Ky;simp;omega
 unfold Do;rw[this];rfl
theorem QE {c:UInt8} (h:¬((97<=(c.toNat:Int)/\(c.toNat:Int)<=122)\/(65<=(c.toNat:Int)/\(c.toNat:Int)<=90)\/(48<=(c.toNat:Int)/\(c.toNat:Int)<=57))):Do c=decide (0<=Lib.indexByte FU c):=by
 have:Ky c=false:=by
  cases ha:Ky c
  ·rfl
  ·exfalso;unfold Ky at ha;simp at ha;omega
 unfold Do;rw[this];rfl
theorem FT (c:UInt8):∀l:List UInt8,0<=Lib.indexByte l c↔c∈l
 |[]=>by simp[Lib.indexByte]
 | b::l=>by
  have ih:=FT c l
  have hge:=Lib.indexByte_ge l c
  by_cases h:b=c
  ·subst h;simp[Lib.indexByte]
  ·have h':(b==c)=false:=by simpa using h
   simp only[Lib.indexByte,h',List.mem_cons]
   by_cases hm:Lib.indexByte l c= -1
   ·rw[hm]
    have:c∉l:=by rw[<-ih];omega
    simp[this,Ne.symm h]
   ·have h2:(Lib.indexByte l c== -1)=false:=by simpa using hm
    simp only[h2]
    have:c∈l:=by rw[<-ih];omega
    simp[this]
    omega
def Br (s:ByteArray):Bool:=CI true (bs s)
def DX (l:List UInt8):Bool:=!l.isEmpty&&l.all Do
theorem Ho:∀(d:Bool) (l:List UInt8),46∉l->CI d l=((!d||!l.isEmpty)&&l.all Do)
 |d,[],_=>by simp[CI]
 |d,c::r,h=>by
  have h1:c≠46:=λe=>h (by simp[e])
  have ih:=Ho false r (λe=>h (by simp[e]))
  simp[CI,h1,ih]
theorem NY:∀(d:Bool) (a b:List UInt8),46∉a->CI d (a++46::b)=((!d||!a.isEmpty)&&a.all Do&&CI true b)
 |d,[],b,_=>by simp[CI]
 |d,c::a,b,h=>by
  have h1:c≠46:=λe=>h (by simp[e])
  have ih:=NY false a b (λe=>h (by simp[e]))
  simp[CI,h1,ih,Bool.and_assoc]
theorem Om:∀l:List UInt8,(Lib.index l [46]= -1/\46∉l)\/∃a b,l=a++46::b/\46∉a/\Lib.index l [46]=a.length
 |[]=> .inl ⟨by simp[Lib.index],by simp⟩
 | c::l=>by
  by_cases h:c=46
  ·subst h
   exact .inr ⟨[],l,rfl,by simp,by simp[Lib.index,List.isPrefixOf]⟩
  ·have hp:([46]:List UInt8).isPrefixOf (c::l)=false:=by simp[List.isPrefixOf,Ne.symm h]
   rcases Om l with⟨h1,h2⟩|⟨a,b,h1,h2,h3⟩
   ·exact .inl ⟨by simp[Lib.index,hp,h1],by simp[h2,Ne.symm h]⟩
   ·refine .inr ⟨c::a,b,by rw[h1];rfl,by simp[h2,Ne.symm h],?_⟩
    have h4:(Lib.index l [46]== -1)=false:=by rw[h3];exact beq_false_of_ne (by omega)
    simp only[Lib.index,hp,h4,h3]
    simp
theorem Sg:∀(k:Nat) (l:List UInt8),l.count 46<=k->(Lib.splitK [46] 0 k l).all DX=CI true l
 |0,l,h=>by
  have h0:46∉l:=List.count_eq_zero.1 (by omega)
  rw[Ho _ _ h0]
  simp[Lib.splitK,DX]
 | k+1,l,h=>by
  rcases Om l with⟨h1,h2⟩|⟨a,b,h1,h2,h3⟩
  ·rw[Ho _ _ h2]
   simp[Lib.splitK,h1,DX]
  ·have h4:(Lib.index l [46]== -1)=false:=by rw[h3];exact beq_false_of_ne (by omega)
   have hc:b.count 46<=k:=by rw[h1,List.count_append,List.count_cons] at h;simp at h;omega
   have ih:=Sg k b hc
   rw[Lib.splitK,if_neg (by rw[h4];decide),h3,List.all_cons]
   simp only[Int.toNat_natCast,Nat.add_zero,List.length_singleton]
   have e1:l.take a.length=a:=by rw[h1,List.take_left]
   have e2:l.drop (a.length+1)=b:=by
    rw[h1,<-List.drop_drop,List.drop_left];rfl
   rw[e1,e2,ih,h1,NY _ _ _ h2]
   simp[DX]
def FQ:ByteArray:=⟨#[46]⟩
def Jc (s:ByteArray):List ByteArray:=Lib.splitB FQ 0 (Lib.countB s FQ) s
theorem TK (s:ByteArray):(Jc s).length=Lib.countB s FQ+1:=Lib.splitB_all FQ (by decide) 0 _ s rfl
theorem TJ (s:ByteArray):(Jc s).all (λx=>DX (bs x))=Br s:=by
 have h:((Jc s).map (·.data.toList)).all DX=Br s:=by
  rw[Jc,Lib.splitB_data]
  exact Sg _ _ (by
   have:Lib.countB s FQ=Lib.count s.data.toList [46]:=rfl
   rw[this,Lib.count_one]
   exact Nat.le_refl _)
 rw[<-h,List.all_map]
 rfl
theorem Kf (sep:ByteArray):∀(k:Nat) (s x:ByteArray),x∈Lib.splitB sep 0 k s->x.size<=s.size
 |0,s,x,h=>by simp[Lib.splitB] at h;rw[h];exact Nat.le_refl _
 | k+1,s,x,h=>by
  rw[Lib.splitB] at h
  split at h
  ·simp at h;rw[h];exact Nat.le_refl _
  ·rcases List.mem_cons.1 h with h|h
   ·rw[h,ByteArray.size_extract];omega
   ·have:=Kf sep k _ x h
    rw[ByteArray.size_extract] at this
    omega
theorem Pv (s:ByteArray):Lib.countB s FQ<=s.size:=Lib.countB_le FQ (by decide) s.size s (Nat.le_refl _)
end
section
open Go.RowKit
theorem XD (n lo hi:Int) (w:World):
  Calls prog 98 #[.int .i64 n,.int .i64 lo,.int .i64 hi] w λe w'=>e= .returned (.bool (decide (lo<=n)&&decide (n<=hi)))/\w=w':=by
 go_enter func98,ntmps98
 go_wp2
 all_goals go_ret
 all_goals refine⟨Aa2 ?_,rfl⟩
 all_goals simp<;>omega
theorem XF (n lo hi:Int) (w:World) (h1:lo<=n) (h2:n<=hi):
  Calls prog 98 #[.int .i64 n,.int .i64 lo,.int .i64 hi] w λe w'=>e= .returned (.bool true)/\w=w':=
 (XD n lo hi w).mono λ_ _ ⟨h,k⟩=>⟨by rw[h];simp[h1,h2],k⟩
theorem XE (n lo hi:Int) (w:World) (h:n<lo\/hi<n):
  Calls prog 98 #[.int .i64 n,.int .i64 lo,.int .i64 hi] w λe w'=>e= .returned (.bool false)/\w=w':=
 (XD n lo hi w).mono λ_ _ ⟨h',k⟩=>⟨by rw[h'];congr 1;congr 1;simp;omega,k⟩
end
section
open Go.RowKit
def Ad3:Nat->DataW Unit->List Value
 |0,_=>[]
 |n+1,.lit (.int k i)=>[.int k i]
 |n+1,.lit (.bool b)=>[.bool b]
 |n+1,.lit (.string l)=>[.string ⟨l.toArray⟩]
 |n+1,.agg ds=>ds.flatMap (Ad3 n)
 |n+1,_=>[]
def Lq (w:World) (g:Nat) (d:DataW Unit):World:=
 {w with heap:=w.heap.modify g fun
   | .cells _ t frozen=> .cells (Ad3 4 d).toArray t frozen
   |o=>o }
end
end Go.Proofs.YtidldcfpmehpiaaGreatDoor
