/- Texts that the laws rest on, packed. -/
import Derived.Deep.MidRow
import Derived.Deep.Quiet
import Derived.Below
import Derived.Laws.IdiomCopy
import Derived.Laws.Strings
import Derived.IntWalk
import Derived.Laws.BytesString
import Derived.Laws.StructEq
import Derived.Lib.Strings
import Derived.Laws.IdiomStrings
set_option linter.unusedSimpArgs false
set_option linter.unusedVariables false
set_option maxRecDepth 20000
set_option maxHeartbeats 4000000
namespace Go.Proofs.YtidldcfpmehpiaaGreatDoor
section
open Go.RowKit
inductive D where
 |int (k:IntKind) (n:Int)
 |bool (b:Bool)
 |str (s:List UInt8)
 |slc (k:Nat) (rows:List (List D))
 |raw (v:Value)
 deriving Inhabited
inductive AV where
 |d (x:D)
 |own (t k:Nat) (rows:List (List D))
 |nils
 |full (k:Nat) (rows:List (List D))
 |nn (k:Nat) (rows:List (List D))
 |ptr (b k i o:Nat)
 |elt (k:Nat) (rows:List (List D)) (i o:Nat)
 |arr (b k n c:Nat)
 |lar (b k:Nat) (rows:List (List D)) (c:Nat)
 |fn (f:FuncId) (cap:List AV)
 |nilf
 |nilp
 |agg (l:List AV)
 |tup (l:List AV)
 |ifc (t:TypeId) (v:AV)
 |nili
 |cnd (g:Bool) (a:AV)
 |mp (t:Nat) (ks:List (List UInt8))
 |undef
 |any
 deriving Inhabited
structure Ob where
 k:Nat
 c:Nat
 rows:List (List AV)
abbrev Af:=List (Nat×Ob)
structure AH where
 objs:Af
 live:List Nat
abbrev Js:=Nat->Nat->Option Value
inductive VD (F:Js):D->Value->Prop where
 |int (k:IntKind) (n:Int):VD F (.int k n) (.int k n)
 |bool (b:Bool):VD F (.bool b) (.bool b)
 |str (s:ByteArray) (h:s.size<=maxLen):VD F (.str s.data.toList) (.string s)
 |slc0 (k:Nat) (A:Option Addr) (c:Nat) (h:A=none->c=0) (hm:c<=maxLen):VD F (.slc k []) (.slice A 0 c)
 | slc (k:Nat) (rows:List (List D)) (b off c:Nat) (val:Nat->Nat->Value) (h0:0<rows.length) (hc:rows.length<=c) (hm:c<=maxLen)
   (hk:∀r∈rows,r.length=k)
   (hf:∀(i:Nat) (r:List D) (j:Nat) (x:D),rows[i]?=some r->r[j]?=some x->F b (off+(i*k+j))=some (val i j))
   (hv:∀(i:Nat) (r:List D) (j:Nat) (x:D),rows[i]?=some r->r[j]?=some x->VD F x (val i j)):VD F (.slc k rows) (.slice (some ⟨b,off,none⟩) rows.length c)
 |raw (v:Value) (h:v.oneCell'=true):VD F (.raw v) v
theorem VD.mono {F F':Js} (hF:∀b o u,F b o=some u->F' b o=some u) {x:D} {v:Value} (h:VD F x v):VD F' x v:=by
 induction h with
 |int k n=>exact .int k n
 |bool b=>exact .bool b
 |str s h=>exact .str s h
 |slc0 k A c h hm=>exact .slc0 k A c h hm
 |raw v h=>exact .raw v h
 |slc k rows b off c val h0 hc hm hk hf hv ih=>exact .slc k rows b off c val h0 hc hm hk (λi r j x h1 h2=>hF _ _ _ (hf i r j x h1 h2)) ih
section
variable {F:Js} {v:Value} {k:IntKind} {n:Int} {b:Bool} {s:List UInt8} {kk:Nat} {rows:List (List D)}
theorem VD.int_inv (h:VD F (.int k n) v):v= .int k n:=by cases h;rfl
theorem VD.bool_inv (h:VD F (.bool b) v):v= .bool b:=by cases h;rfl
theorem VD.str_inv (h:VD F (.str s) v):∃t:ByteArray,v= .string t/\t.data.toList=s/\t.size<=maxLen:=by cases h with|str t h=>exact⟨t,rfl,rfl,h⟩
theorem VD.slc_inv (h:VD F (.slc kk rows) v):∃A c,v= .slice A rows.length c/\rows.length<=c/\c<=maxLen/\(A=none->c=0)/\(∀r∈rows,r.length=kk)/\
  (0<rows.length->∃b off,∃val:Nat->Nat->Value,A=some ⟨b,off,none⟩/\∀(i:Nat) (r:List D) (j:Nat) (x:D),rows[i]?=some r->r[j]?=some x->F b (off+(i*kk+j))=some (val i j)/\VD F x (val i j)):=by
 cases h with
 |slc0 _ A c h hm=>exact⟨A,c,rfl,by simp,hm,h,by simp,by simp⟩
 |slc _ _ b off c val h0 hc hm hk hf hv=>exact⟨_,c,rfl,hc,hm,by simp,hk,λ_=>⟨b,off,val,rfl,λi r j x h1 h2=>⟨hf i r j x h1 h2,hv i r j x h1 h2⟩⟩⟩
theorem VD.one {x:D} (h:VD F x v):v.oneCell'=true:=by cases h<;>first|rfl|assumption
end
theorem Pa {F:Js} (s:List UInt8) (h:s.length<=maxLen):VD F (.str s) (.string ⟨s.toArray⟩):=by
 have:=VD.str (F:=F) (⟨s.toArray⟩:ByteArray) (by simpa[ByteArray.size] using h)
 simpa using this
structure Gh where
 base:World
 frz:Js
 tok:Nat->Option (Nat×Value)
 nt:Nat
def UM (r:Nat) (ks:List (List UInt8)):Value:= .tuple (Value.map (some r)::ks.map λs=>Value.string ⟨s.toArray⟩).toArray
theorem LK {r r':Nat} {ks ks':List (List UInt8)} (h:UM r ks=UM r' ks'):r=r'/\ks=ks':=by
 unfold UM at h
 injection h with h
 have h2:=congrArg Array.toList h
 simp only[List.cons.injEq,Value.map.injEq,Option.some.injEq] at h2
 refine⟨h2.1,?_⟩
 have h3:=h2.2
 clear h h2
 induction ks generalizing ks' with
 |nil=>cases ks' with
  |nil=>rfl
  |cons _ _=>simp at h3
 | cons a l ih=>cases ks' with
  |nil=>simp at h3
  |cons b l'=>
   grind
def OV (es:Array MapEntry) (ks:List (List UInt8)):Prop:=es.toList.map (λe=>(e.key,e.val))=ks.map λs=>(Value.string ⟨s.toArray⟩,Value.agg #[])
inductive VR (G:Gh):AV->Value->Prop where
 |d {x:D} {v:Value} (h:VD G.frz x v):VR G (.d x) v
 |own {t k:Nat} {rows:List (List D)} {v:Value} (h:VD G.frz (.slc k rows) v) (ht:G.tok t=some (k,v)):VR G (.own t k rows) v
 |nils:VR G .nils (.slice none 0 0)
 |full {k:Nat} {rows:List (List D)} {A:Option Addr} (h:VD G.frz (.slc k rows) (.slice A rows.length rows.length)):VR G (.full k rows) (.slice A rows.length rows.length)
 |nn {k:Nat} {rows:List (List D)} {a:Addr} {c:Nat} (h:VD G.frz (.slc k rows) (.slice (some a) rows.length c)):VR G (.nn k rows) (.slice (some a) rows.length c)
 |ptr (b k i o:Nat):VR G (.ptr b k i o) (.pointer (some ⟨b,i*k+o,none⟩))
 | elt (k:Nat) (rows:List (List D)) (i o b off:Nat) (val:Nat->Value) (r:List D) (hr:rows[i]?=some r)
   (hf:∀(j:Nat) (x:D),r[j]?=some x->G.frz b (off+j)=some (val j)) (hv:∀(j:Nat) (x:D),r[j]?=some x->VD G.frz x (val j)):VR G (.elt k rows i o) (.pointer (some ⟨b,off+o,none⟩))
 |arr (b k n c:Nat):VR G (.arr b k n c) (.slice (some ⟨b,0,none⟩) n c)
 |lar {b k:Nat} {rows:List (List D)} {c:Nat} (h:VD G.frz (.slc k rows) (.slice (some ⟨b,0,none⟩) rows.length c)) (h1:rows.length+1<=c):VR G (.lar b k rows c) (.slice (some ⟨b,0,none⟩) (rows.length+1) c)
 |fn (f:FuncId) (cap:List AV) (vs:List Value) (hl:vs.length=cap.length) (h:∀(i:Nat) (a:AV) (v:Value),cap[i]?=some a->vs[i]?=some v->VR G a v):VR G (.fn f cap) (.func (.func f) #[] vs.toArray)
 |nilf:VR G .nilf .nilFunc
 |nilp:VR G .nilp (.pointer none)
 |agg (l:List AV) (vs:List Value) (hl:vs.length=l.length) (h:∀(i:Nat) (a:AV) (v:Value),l[i]?=some a->vs[i]?=some v->VR G a v):VR G (.agg l) (.agg vs.toArray)
 |tup (l:List AV) (vs:List Value) (hl:vs.length=l.length) (h:∀(i:Nat) (a:AV) (v:Value),l[i]?=some a->vs[i]?=some v->VR G a v):VR G (.tup l) (.tuple vs.toArray)
 |ifc (t:TypeId) {a:AV} {v:Value} (h:VR G a v):VR G (.ifc t a) (.iface t v)
 |nili:VR G .nili .nilIface
 |cndT {a:AV} {v:Value} (h:VR G a v):VR G (.cnd true a) v
 |cndF (a:AV):VR G (.cnd false a) Go.undef
 |mp {t r:Nat} {ks:List (List UInt8)} (ht:G.tok t=some (0,UM r ks)):VR G (.mp t ks) (.map (some r))
 |undef:VR G .undef Go.undef
 |any (v:Value):VR G .any v
structure B8 (G G':Gh):Prop where
 base:G'.base=G.base
 frz:∀b o u,G.frz b o=some u->G'.frz b o=some u
 new:∀b o u,G'.frz b o=some u->G.frz b o=some u\/G.base.heap.size<=b
 tok:∀t x,G.tok t=some x->G'.tok t=some x
theorem B8.refl (G:Gh):B8 G G:=⟨rfl,λ_ _ _ h=>h,λ_ _ _ h=> .inl h,λ_ _ h=>h⟩
theorem B8.trans {G G' G'':Gh} (h:B8 G G') (k:B8 G' G''):B8 G G'':=
 ⟨k.base.trans h.base,λb o u e=>k.frz _ _ _ (h.frz _ _ _ e),λb o u e=>(k.new b o u e).elim (λe=>h.new b o u e) (λe=> .inr (by rw[<-h.base];exact e)),λt x e=>k.tok _ _ (h.tok _ _ e)⟩
theorem VR.mono2 {G G':Gh} (hF:∀b o u,G.frz b o=some u->G'.frz b o=some u) (hT:∀t x,G.tok t=some x->G'.tok t=some x) {a:AV} {v:Value} (h:VR G a v):VR G' a v:=by
 induction h with
 |d h=>exact .d (h.mono hF)
 |own h ht=>exact .own (h.mono hF) (hT _ _ ht)
 |nils=>exact .nils
 |full h=>exact .full (h.mono hF)
 |nn h=>exact .nn (h.mono hF)
 |ptr b k i o=>exact .ptr b k i o
 |elt k rows i o b off val r hr hf hv=>exact .elt k rows i o b off val r hr (λj x hx=>hF _ _ _ (hf j x hx)) (λj x hx=>(hv j x hx).mono hF)
 |arr b k n c=>exact .arr b k n c
 |lar h h1=>exact .lar (h.mono hF) h1
 |fn f cap vs hl h ih=>exact .fn f cap vs hl ih
 |nilf=>exact .nilf
 |nilp=>exact .nilp
 |agg l vs hl h ih=>exact .agg l vs hl ih
 |tup l vs hl h ih=>exact .tup l vs hl ih
 |ifc t h ih=>exact .ifc t ih
 |nili=>exact .nili
 |cndT h ih=>exact .cndT ih
 |cndF a=>exact .cndF a
 |mp ht=>exact .mp (hT _ _ ht)
 |undef=>exact .undef
 |any v=>exact .any v
theorem VR.mono {G G':Gh} (hG:B8 G G') {a:AV} {v:Value} (h:VR G a v):VR G' a v:=h.mono2 hG.frz hG.tok
def AV.one:AV->Bool
 | .agg _| .tup _| .cnd .. | .undef| .any=>false
 |_=>true
theorem VR.one {G:Gh} {a:AV} {v:Value} (h:VR G a v) (ha:a.one=true):v.oneCell'=true:=by
 cases h with
 |d h=>exact h.one
 |own h _=>exact h.one
 |agg|tup|cndT|cndF|undef|any=>simp[AV.one] at ha
 |_=>rfl
structure LW (G:Gh) (w:World) (b:Nat) (ob:Ob):Prop where
 low:G.base.heap.size<=b
 free:∀(i:Nat) (r:List AV) (j:Nat),ob.rows[i]?=some r->j<r.length->G.frz b (i*ob.k+j)=none
 rest:∀o,ob.rows.length*ob.k<=o->G.frz b o=none
 lenk:∀r∈ob.rows,r.length=ob.k\/r=[]
 fits:ob.rows.length<=ob.c
 cmax:ob.c<=maxLen
 mem:∃(vs:Array Value) (e:TypeId) (fz:Nat×Nat),w.heap[b]?=some (.cells vs e fz)/\vs.size=ob.c*ob.k/\(∀o,o<vs.size->(decide (fz.1<=o)&&decide (o<fz.2))=false)/\
  ∀(i:Nat) (r:List AV) (j:Nat) (a:AV),ob.rows[i]?=some r->r[j]?=some a->a.one=true/\∃v,vs[i*ob.k+j]?=some v/\VR G a v
structure GZ (G:Gh) (w:World) (t:Nat):Prop where
 any:∃x,G.tok t=some x
 sl:∀k v,G.tok t=some (k,v)->0<k->∃n c A,v= .slice A n c/\n<=c/\c<=maxLen/\(A=none->n=0/\c=0)/\
  ∀a,A=some a->n<c->∃(g:Nat) (vs:Array Value) (e:TypeId) (fz:Nat×Nat),a=⟨g,0,none⟩/\G.base.heap.size<=g/\w.heap[g]?=some (.cells vs e fz)/\vs.size=c*k/\
   (∀o,o<vs.size->(decide (fz.1<=o)&&decide (o<fz.2))=false)/\∀o,n*k<=o->G.frz g o=none
 mp:∀v,G.tok t=some (0,v)->∃r ks,v=UM r ks/\G.base.heap.size<=r/\(∀o,G.frz r o=none)/\∃es clock,w.heap[r]?=some (.map es clock)/\OV es ks
theorem GZ.mem {G:Gh} {w:World} {t k:Nat} {v:Value} (h:GZ G w t) (e:G.tok t=some (k,v)) (hk:0<k):∃k n c A,G.tok t=some (k,.slice A n c)/\n<=c/\c<=maxLen/\0<k/\(A=none->n=0/\c=0)/\
  ∀a,A=some a->n<c->∃(g:Nat) (vs:Array Value) (e:TypeId) (fz:Nat×Nat),a=⟨g,0,none⟩/\G.base.heap.size<=g/\w.heap[g]?=some (.cells vs e fz)/\vs.size=c*k/\
   (∀o,o<vs.size->(decide (fz.1<=o)&&decide (o<fz.2))=false)/\∀o,n*k<=o->G.frz g o=none:=by
 obtain⟨n,c,A,rfl,h1,h2,h3,h4⟩:=h.sl k v e hk
 exact⟨k,n,c,A,e,h1,h2,hk,h3,h4⟩
theorem GZ.ofMem {G:Gh} {w:World} {t:Nat} (h:∃k n c A,G.tok t=some (k,.slice A n c)/\n<=c/\c<=maxLen/\0<k/\(A=none->n=0/\c=0)/\
  ∀a,A=some a->n<c->∃(g:Nat) (vs:Array Value) (e:TypeId) (fz:Nat×Nat),a=⟨g,0,none⟩/\G.base.heap.size<=g/\w.heap[g]?=some (.cells vs e fz)/\vs.size=c*k/\
   (∀o,o<vs.size->(decide (fz.1<=o)&&decide (o<fz.2))=false)/\∀o,n*k<=o->G.frz g o=none):GZ G w t:=by
 obtain⟨k,n,c,A,e,h1,h2,hk,h3,h4⟩:=h
 refine⟨⟨_,e⟩,λk' v' e' _=>?_,λv' e'=>?_⟩
 ·rw[e] at e'
  injection e' with e'
  injection e' with e1 e2
  subst e1;subst e2
  exact⟨n,c,A,rfl,h1,h2,h3,h4⟩
 ·rw[e] at e'
  injection e' with e'
  injection e' with e1 e2
  omega
theorem GZ.cases {G:Gh} {w:World} {t:Nat} (h:GZ G w t):(∃k n c A,G.tok t=some (k,.slice A n c)/\n<=c/\c<=maxLen/\0<k/\(A=none->n=0/\c=0)/\
  ∀a,A=some a->n<c->∃(g:Nat) (vs:Array Value) (e:TypeId) (fz:Nat×Nat),a=⟨g,0,none⟩/\G.base.heap.size<=g/\w.heap[g]?=some (.cells vs e fz)/\vs.size=c*k/\
   (∀o,o<vs.size->(decide (fz.1<=o)&&decide (o<fz.2))=false)/\∀o,n*k<=o->G.frz g o=none)\/∃r ks,G.tok t=some (0,UM r ks)/\G.base.heap.size<=r/\(∀o,G.frz r o=none)/\∃es clock,w.heap[r]?=some (.map es clock)/\OV es ks:=by
 obtain⟨⟨k,v⟩,e⟩:=h.any
 rcases Nat.eq_zero_or_pos k with rfl|hk
 ·obtain⟨r,ks,rfl,h2⟩:=h.mp v e
  exact .inr ⟨r,ks,e,h2⟩
 ·exact .inl (h.mem e hk)
theorem GZ.ofMp {G:Gh} {w:World} {t r:Nat} {ks:List (List UInt8)} (e:G.tok t=some (0,UM r ks)) (h:G.base.heap.size<=r) (hf:∀o,G.frz r o=none) (hm:∃es clock,w.heap[r]?=some (.map es clock)/\OV es ks):GZ G w t:=by
 refine⟨⟨_,e⟩,λk' v' e' hk=>?_,λv' e'=>?_⟩
 ·grind
 ·grind
def AT (G:Gh) (t:Nat):Option Nat:=
 match G.tok t with
 |some (_,.slice (some a) n c)=>if n<c then some a.block else none
 |some (_,.tuple x)=>match x[0]? with
  |some (Value.map (some r))=>some r
  |_=>none
 |_=>none
theorem EY {G:Gh} {t r:Nat} {ks:List (List UInt8)} (e:G.tok t=some (0,UM r ks)):AT G t=some r:=by
 grind[AT,UM]
abbrev Ap:=Nat->List D
structure Bl (T:Ap) (G:Gh) (h:AH) (w:World):Prop where
 below:Below G.base.heap.size G.base w
 glob:∀g j x,(T g)[j]?=some x->∃u,G.frz g j=some u/\VD G.frz x u
 frz:∀b o u,G.frz b o=some u->w.cell? ⟨b,o,none⟩=some u
 fin:∀t,G.nt<=t->G.tok t=none
 obj:∀p∈h.objs,LW G w p.1 p.2
 nd:(h.objs.map Prod.fst).Nodup
 liv:∀t∈h.live,GZ G w t
 tdis:h.live.Pairwise λt t'=> ∀g,AT G t=some g->AT G t'=some g->False
 todis:∀t∈h.live,∀g,AT G t=some g->g∉h.objs.map Prod.fst
 lnd:h.live.Nodup
theorem Bl.frzlt {T:Ap} {G:Gh} {h:AH} {w:World} (S:Bl T G h w) {b o:Nat} {u:Value} (e:G.frz b o=some u):b<w.heap.size:=by
 have:=S.frz b o u e
 exact World.block_lt_of_cell? (w:=w) (a:=⟨b,o,none⟩) this
theorem LW.lt {G:Gh} {w:World} {b:Nat} {ob:Ob} (h:LW G w b ob):b<w.heap.size:=by
 obtain⟨vs,e,fz,hh,_⟩:=h.mem
 all_goals grind
theorem GZ.lt {G:Gh} {w:World} {t g:Nat} (h:GZ G w t) (hg:AT G t=some g):g<w.heap.size:=by
 rcases h.cases with⟨k,n,c,A,e,_,_,_,_,hA⟩|⟨r,ks,e,_,_,es,clock,hh,_⟩
 rotate_left
 ·rw[EY e] at hg
  all_goals grind
 unfold AT at hg
 grind
theorem LW.world {G:Gh} {w w':World} {b:Nat} {ob:Ob} (h:LW G w b ob) (e:w'.heap[b]?=w.heap[b]?):LW G w' b ob:=
 ⟨h.low,h.free,h.rest,h.lenk,h.fits,h.cmax,by obtain⟨vs,ty,fz,hh,r⟩:=h.mem;exact⟨vs,ty,fz,e.trans hh,r⟩⟩
theorem GZ.world {G:Gh} {w w':World} {t:Nat} (h:GZ G w t) (e:∀g,AT G t=some g->w'.heap[g]?=w.heap[g]?):GZ G w' t:=by
 rcases h.cases with⟨k,n,c,A,ht,h1,h2,h3,h4,h5⟩|⟨r,ks,ht,h1,h2,es,clock,h3,h4⟩
 rotate_left
 ·exact .ofMp ht h1 h2 ⟨es,clock,(e r (EY ht)).trans h3,h4⟩
 refine .ofMem ⟨k,n,c,A,ht,h1,h2,h3,h4,λa ha hlt=>?_⟩
 grind[AT]
theorem LW.mono {G G':Gh} (hG:B8 G G') {w:World} {b:Nat} {ob:Ob} (h:LW G w b ob) (hf:∀o,G.frz b o=none->G'.frz b o=none):LW G' w b ob:=
 ⟨by rw[hG.base];exact h.low,λi r j h1 h2=>hf _ (h.free i r j h1 h2),λo ho=>hf o (h.rest o ho),h.lenk,h.fits,h.cmax,by
  obtain⟨vs,ty,fz,hh,h1,h2,h3⟩:=h.mem
  exact⟨vs,ty,fz,hh,h1,h2,λi r j a hr ha=>by obtain⟨o,v,e,hv⟩:=h3 i r j a hr ha;exact⟨o,v,e,hv.mono hG⟩⟩⟩
theorem GZ.mono {G G':Gh} (hG:B8 G G') {w:World} {t:Nat} (h:GZ G w t) (hf:∀g,AT G t=some g->∀o,G.frz g o=none->G'.frz g o=none):GZ G' w t:=by
 rcases h.cases with⟨k,n,c,A,ht,h1,h2,h3,h4,h5⟩|⟨r,ks,ht,h1,h2,h3⟩
 rotate_left
 ·exact .ofMp (hG.tok _ _ ht) (by rw[hG.base];exact h1) (λo=>hf r (EY ht) o (h2 o)) h3
 refine .ofMem ⟨k,n,c,A,hG.tok _ _ ht,h1,h2,h3,h4,λa ha hlt=>?_⟩
 obtain⟨g,vs,ty,fz,rfl,h6,h7,h8,h9,h10⟩:=h5 a ha hlt
 exact⟨g,vs,ty,fz,rfl,by rw[hG.base];exact h6,h7,h8,h9,λo ho=>hf g (by unfold AT;rw[ht,ha];exact if_pos hlt) o (h10 o ho)⟩
theorem CD {G G':Gh} (hG:B8 G G') {w:World} {t:Nat} (h:GZ G w t):AT G' t=AT G t:=by
 obtain⟨x,ht⟩:=h.any
 unfold AT
 rw[ht,hG.tok _ _ ht]
theorem Bl.grow {T:Ap} {G G':Gh} {h:AH} {w w':World} (S:Bl T G h w) (hb:Below w.heap.size w w') (hG:B8 G G') (hfin:∀t,G'.nt<=t->G'.tok t=none)
  (hn:∀b o u,G'.frz b o=some u->G.frz b o=some u\/w.heap.size<=b) (hc:∀b o u,G'.frz b o=some u->w'.cell? ⟨b,o,none⟩=some u):Bl T G' h w':=by
 have hfz:∀b,b<w.heap.size->∀o,G.frz b o=none->G'.frz b o=none:=λb hb o h0=>by
  cases hh:G'.frz b o with
  |none=>rfl
  |some u=>rcases hn b o u hh with h1|h1;exact(by rw[h0] at h1;cases h1);omega
 refine⟨?_,λg j x hx=>?_,hc,hfin,λp hp=>?_,S.nd,λt ht=>?_,?_,?_,S.lnd⟩
 ·rw[hG.base];exact S.below.trans (hb.mono S.below.size)
 ·obtain⟨u,h1,h2⟩:=S.glob g j x hx
  exact⟨u,hG.frz _ _ _ h1,h2.mono hG.frz⟩
 ·have:=S.obj p hp
  exact(this.mono hG (λo ho=>hfz _ this.lt o ho)).world (hb.block _ this.lt)
 ·have:=S.liv t ht
  refine(this.mono hG (λg hg o ho=>hfz g (this.lt hg) o ho)).world (λg hg=>hb.block _ ?_)
  rw[CD hG this] at hg
  exact this.lt hg
 ·refine S.tdis.imp_of_mem (fun {t t'} ht ht' hd g h1 h2=>hd g ?_ ?_)
  ·rw[<-CD hG (S.liv t ht)];exact h1
  ·rw[<-CD hG (S.liv t' ht')];exact h2
 ·intro t ht g hg
  rw[CD hG (S.liv t ht)] at hg
  exact S.todis t ht g hg
theorem Bl.drew {T:Ap} {G:Gh} {h:AH} {w:World} (S:Bl T G h w):Bl T G h w.drew:=
 S.grow (Below.refl _ _).drew (B8.refl G) S.fin (λ_ _ _ e=> .inl e) (λb o u e=>S.frz b o u e)
theorem Bl.drop {T:Ap} {G:Gh} {h h':AH} {w:World} (S:Bl T G h w) (ho:h'.objs.Sublist h.objs) (hl:h'.live.Sublist h.live):Bl T G h' w:=
 ⟨S.below,S.glob,S.frz,S.fin,λp hp=>S.obj p (ho.subset hp),S.nd.sublist (ho.map _),λt ht=>S.liv t (hl.subset ht),S.tdis.sublist hl,
  λt ht g hg hm=>S.todis t (hl.subset ht) g hg ((ho.map _).subset hm),S.lnd.sublist hl⟩
end
section
open Go.RowKit
variable {T:Ap} {G G':Gh} {h:AH} {w w':World}
theorem Bl.fresh (S:Bl T G h w):∀p∈h.objs,p.1<w.heap.size:=λp hp=>(S.obj p hp).lt
theorem Bl.nofrz (S:Bl T G h w) {b:Nat} (hb:w.heap.size<=b) (o:Nat):G.frz b o=none:=by
 cases e:G.frz b o with
 |none=>rfl
 |some u=>have:=S.frzlt e;omega
theorem IA (w:World) (ob:Obj) {a:Addr} (ha:a.block<w.heap.size):(w.alloc ob).cell? a=w.cell? a:=World.cell?_alloc_old w ob a (Nat.ne_of_lt ha)
theorem Bl.alloc0 (S:Bl T G h w) (o:Obj):Bl T G h (w.alloc o):=
 S.grow ((Below.refl _ _).alloc (Nat.le_refl _) o) (B8.refl G) S.fin (λ_ _ _ e=> .inl e) (λb j u e=>by
  have:=S.frzlt e
  rw[IA w o (a:=⟨b,j,none⟩) this]
  exact S.frz b j u e)
theorem Bl.alloc (S:Bl T G h w) (ob:Ob) (vs:Array Value) (e:TypeId) (fz:Nat×Nat) (hk:∀r∈ob.rows,r.length=ob.k) (hf:ob.rows.length<=ob.c) (hm:ob.c<=maxLen)
  (hs:vs.size=ob.c*ob.k) (hz:∀o,o<vs.size->(decide (fz.1<=o)&&decide (o<fz.2))=false)
  (hc:∀(i:Nat) (r:List AV) (j:Nat) (a:AV),ob.rows[i]?=some r->r[j]?=some a->a.one=true/\∃v,vs[i*ob.k+j]?=some v/\VR G a v):
  Bl T G ⟨(w.heap.size,ob)::h.objs,h.live⟩ (w.alloc (.cells vs e fz)):=by
 have S':=S.alloc0 (.cells vs e fz)
 refine⟨S'.below,S'.glob,S'.frz,S'.fin,λp hp=>?_,?_,S'.liv,S'.tdis,λt ht g hg hm'=>?_,S'.lnd⟩
 ·rcases List.mem_cons.1 hp with rfl|hp
  ·exact⟨S.below.size,λ_ _ _ _ _=>S.nofrz (Nat.le_refl _) _,λ_ _=>S.nofrz (Nat.le_refl _) _,λr hr=> .inl (hk r hr),hf,hm,vs,e,fz,heap_alloc_new w _,hs,hz,hc⟩
  ·exact S'.obj p hp
 ·refine List.nodup_cons.2 ⟨λhmem=>?_,S.nd⟩
  obtain⟨p,hp,e⟩:=List.mem_map.1 hmem
  have:=S.fresh p hp
  omega
 ·rcases List.mem_cons.1 hm' with e|hm'
  ·have:=(S.liv t ht).lt hg
   dsimp only at e
   omega
  ·exact S.todis t ht g hg hm'
def Gh.ice (G:Gh) (b:Nat) (vs:Array Value):Gh:= {G with frz:=λb' o=>if b'=b then vs[o]? else G.frz b' o }
theorem Bl.gle_ice (S:Bl T G h w) (vs:Array Value):B8 G (G.ice w.heap.size vs):=
  ⟨rfl,λb o u e=>by have:=S.frzlt e;show(if b=w.heap.size then _ else _)=_;rw[if_neg (by omega)];exact e,
   λb o u e=>by
    have e':(if b=w.heap.size then vs[o]? else G.frz b o)=some u:=e
    by_cases hb:b=w.heap.size
    · exact .inr (by rw[hb];exact S.below.size)
    · rw [if_neg hb] at e';exact .inl e',λ_ _ e=>e⟩
theorem Bl.ice (S:Bl T G h w) (vs:Array Value) (e:TypeId) (fz:Nat×Nat):Bl T (G.ice w.heap.size vs) h (w.alloc (.cells vs e fz)):=by
 refine S.grow ((Below.refl _ _).alloc (Nat.le_refl _) _) (S.gle_ice vs) S.fin (λb o u hu=>?_) (λb o u hu=>?_)
 ·have hu':(if b=w.heap.size then vs[o]? else G.frz b o)=some u:=hu
  all_goals grind
 ·have hu':(if b=w.heap.size then vs[o]? else G.frz b o)=some u:=hu
  by_cases hb:b=w.heap.size
  ·subst hb
   rw[if_pos rfl] at hu'
   rw[cell_of_row _ _ _ vs e fz (heap_alloc_new w _)]
   exact hu'
  ·rw[if_neg hb] at hu'
   have:=S.frzlt hu'
   rw[IA w _ (a:=⟨b,o,none⟩) this]
   exact S.frz b o u hu'
def A9 (b:Nat):Af->Option Ob
 |[]=>none
 |p::r=>if(p.1==b)=true then some p.2 else A9 b r
def C8 (b:Nat) (ob:Ob):Af->Af
 |[]=>[]
 |p::r=>if(p.1==b)=true then(b,ob)::r else p::C8 b ob r
theorem De {b:Nat} {ob:Ob} :∀{l:Af},A9 b l=some ob->(b,ob)∈l
 |p::r,e=>by
  unfold A9 at e
  split at e
  ·grind
  ·exact List.mem_cons_of_mem _ (De e)
theorem KR {b:Nat} {ob:Ob} :∀(l:Af),(C8 b ob l).map Prod.fst=l.map Prod.fst
 |[]=>rfl
 |p::r=>by
  unfold C8
  split
  ·grind
  ·simp[KR r]
theorem Se {b:Nat} {ob:Ob} {q:Nat×Ob} :∀{l:Af},(l.map Prod.fst).Nodup->q∈C8 b ob l->q=(b,ob)\/(q∈l/\q.1≠b)
 | p::r,hn,hq=>by
  unfold C8 at hq
  simp only[List.map_cons,List.nodup_cons] at hn
  split at hq
  ·all_goals grind
  ·rename_i hb
   rcases List.mem_cons.1 hq with rfl|hq
   ·exact .inr ⟨List.mem_cons_self ..,by simpa using hb⟩
   ·rcases Se hn.2 hq with h1|⟨h1,h2⟩
    ·exact .inl h1
    ·exact .inr ⟨List.mem_cons_of_mem _ h1,h2⟩
structure GQ (b:Nat) (w w':World):Prop where
 os:w'.os=w.os
 tape:w'.tape=w.tape
 output:w'.output=w.output
 size:w'.heap.size=w.heap.size
 block:∀b',b'≠b->w'.heap[b']?=w.heap[b']?
theorem GQ.below {b:Nat} {w w':World} (h:GQ b w w') {B:Nat} (hB:B<=b):Below B w w':=⟨h.os,h.tape,h.output,by rw[h.size];exact Nat.le_refl _,λk hk=>h.block k (by omega)⟩
theorem GQ.cell {b:Nat} {w w':World} (h:GQ b w w') {b' o:Nat} (hb:b'≠b):w'.cell? ⟨b',o,none⟩=w.cell? ⟨b',o,none⟩:=World.cell?_of_block (w:=w) (a:=⟨b',o,none⟩) (h.block b' hb)
theorem Bl.write (S:Bl T G h w) {b:Nat} {ob ob':Ob} (hg:A9 b h.objs=some ob) (hw:GQ b w w') (hcell:∀o u,G.frz b o=some u->w'.cell? ⟨b,o,none⟩=w.cell? ⟨b,o,none⟩) (hob:LW G w' b ob'):Bl T G ⟨C8 b ob' h.objs,h.live⟩ w':=by
 have hin:=De hg
 have hO:=S.obj _ hin
 refine⟨S.below.trans (hw.below hO.low),S.glob,λb' o u e=>?_,S.fin,λp hp=>?_,?_,λt ht=>?_,S.tdis,λt ht g hg'=>?_,S.lnd⟩
 ·by_cases hne:b'=b
  ·subst hne
   rw[hcell o u e]
   exact S.frz b' o u e
  ·rw[hw.cell hne]
   exact S.frz b' o u e
 ·rcases Se S.nd hp with rfl|⟨hp,hne⟩
  ·exact hob
  ·exact(S.obj p hp).world (hw.block _ hne)
 ·rw[KR];exact S.nd
 ·refine(S.liv t ht).world (λg hg'=>hw.block g (λe=>?_))
  exact S.todis t ht g hg' (by rw[e];exact List.mem_map_of_mem hin)
 ·rw[KR];exact S.todis t ht g hg'
theorem Cq (b:Nat):∀(xs:List Value) (o:Nat) (w:World),GQ b w (w.setCells b o xs)
 |[],o,w=>⟨rfl,rfl,rfl,rfl,λ_ _=>rfl⟩
 |x::xs,o,w=>by
  have h:=Cq b xs (o+1) (w.setCell ⟨b,o,none⟩ x)
  exact⟨h.os.trans rfl,h.tape.trans rfl,h.output.trans rfl,h.size.trans (by simp),λb' hb=>(h.block b' hb).trans (Below.heap_setCell _ _ _ _ hb)⟩
theorem Dy (b:Nat):∀(xs:List Value) (o:Nat) (w:World) (vs:Array Value) (e:TypeId) (fz:Nat×Nat),w.heap[b]?=some (.cells vs e fz)->
  ∃vs':Array Value,(w.setCells b o xs).heap[b]?=some (.cells vs' e fz)/\vs'.size=vs.size/\∀j,j<vs.size->vs'[j]?=if o<=j/\j<o+xs.length then xs[j-o]? else vs[j]?
 |[],o,w,vs,e,fz,hh=>⟨vs,hh,rfl,λj hj=>by rw[if_neg (by simp only[List.length_nil];omega)]⟩
 | x::xs,o,w,vs,e,fz,hh=>by
  have h1:(w.setCell ⟨b,o,none⟩ x).heap[b]?=some (.cells (vs.setIfInBounds o x) e fz):=by
   simp[World.setCell,Array.getElem?_modify,hh]
  obtain⟨vs',h2,h3,h4⟩:=Dy b xs (o+1) _ _ e fz h1
  refine⟨vs',h2,by simpa using h3,λj hj=>?_⟩
  all_goals grind
def EL (P:Program) (t:TypeId):Option (Bool×Nat):=
 match P.underlying t,P.info? t with
 |some d,some i=>if d.isRow=true\/i.size=1 then some (d.isRow,i.size) else none
 |_,_=>none
theorem D3 {P:Program} {t n:Nat} {r:Bool} (h:EL P t=some (r,n)):∃d i,P.underlying t=some d/\P.info? t=some i/\d.isRow=r/\i.size=n/\(r=false->n=1):=by
 all_goals grind[EL]
def Cg (r:Bool) (cs:List Value):Value:=if r then .agg cs.toArray else cs.headD Go.undef
theorem OC {P:Program} {t:TypeId} {d:TypeDesc} (hu:P.underlying t=some d) (w:World):(isAgg t).run P w= .ok d.isRow w:=by
 unfold isAgg
 rw[Sem.run_bind,run_underlying hu w]
 cases d<;>rfl
theorem AS {P:Program} {t:TypeId} {i:TypeInfo} (hi:P.info? t=some i) (w:World):(sizeOf t).run P w= .ok i.size w:=by
 simp[sizeOf,typeInfo,hi]
theorem H7 {P:Program} {t n b o:Nat} {r:Bool} (ht:EL P t=some (r,n)) {cs:List Value} (hn:cs.length=n) (hc:w.rangeAt b o cs):
  (Instr.loadAt t (.pointer (some ⟨b,o,none⟩))).run P w= .ok (Cg r cs) w:=by
 obtain⟨d,i,hu,hi,hr,hs,h1⟩:=D3 ht
 cases r with
 |true=>
  rw[run_loadAt_mid w b o t cs d hc hu hr (by rw[hi];simp[hs,hn])]
  rfl
 | false=>
  have h1:=h1 rfl
  obtain⟨v,rfl⟩:∃v,cs=[v]:=by
   match cs,hn with
   |[v],_=>exact⟨v,rfl⟩
   |[],e=>simp at e;omega
   |_::_::_,e=>simp at e;omega
  have hv:=hc 0 v rfl
  rw[Nat.add_zero] at hv
  simp[Instr.loadAt,Instr.sureAddr,loadVar,OC hu,hr,hv,Cg]
theorem PZ {P:Program} {t n b o:Nat} {r:Bool} (ht:EL P t=some (r,n)) {v:Value} {cs:List Value} (hv:v.cells.toList=cs) (hn:cs.length=n) (h1:∀u∈cs,u.oneCell'=true) {vs:Array Value} {e:TypeId} {fz:Nat×Nat}
  (hh:w.heap[b]?=some (.cells vs e fz)) (hz:∀o,o<vs.size->(decide (fz.1<=o)&&decide (o<fz.2))=false) (hfit:o+n<=vs.size):
  (Instr.storeAt t (.pointer (some ⟨b,o,none⟩)) v).run P w= .ok () (w.setCells b o cs):=by
 obtain⟨d,i,hu,hi,hr,hs,_⟩:=D3 ht
 have hsz:v.cells.size=i.size:=by rw[hs,<-hn,<-hv];simp
 simp only[Instr.storeAt,Instr.sureAddr,storeVar,Sem.run_bind,Sem.run_pure,Result.andThen_ok,AS hi,hsz,ne_eq,not_true_eq_false,if_false,hv]
 refine run_storeCells_cells b o cs 0 w (λj hj=>?_) (λj hj=>?_) h1
 ·rw[cell_of_row _ _ _ vs e fz hh]
  rw[Nat.add_zero,Array.getElem?_eq_getElem (by omega)]
  rfl
 ·have:=hz (o+j) (by omega)
  simp only[World.frozen?,hh,Nat.add_zero]
  exact this
end
section
open Go.RowKit
inductive DB:D->Prop where
 |int (k:IntKind) (n:Int):DB (.int k n)
 |bool (b:Bool):DB (.bool b)
 |str (s:List UInt8) (h:s.length<=maxLen):DB (.str s)
 |slc (k:Nat) (rows:List (List D)) (h:rows.length<=maxLen) (hk:∀r∈rows,r.length=k) (hx:∀r∈rows,∀x∈r,DB x):DB (.slc k rows)
 |raw (v:Value):DB (.raw v)
theorem VD.bnd {F:Js} {x:D} {v:Value} (h:VD F x v):DB x:=by
 induction h with
 |int k n=>exact .int k n
 |bool b=>exact .bool b
 |str s h=>exact .str _ (by rw[Array.length_toList];exact h)
 |slc0 k A c h hm=>exact .slc k [] (Nat.zero_le _) (by simp) (by simp)
 |raw v h=>exact .raw v
 |slc k rows b off c val h0 hc hm hk hf hv ih=>
  refine .slc k rows (by omega) hk (λr hr x hx=>?_)
  obtain⟨i,hi,rfl⟩:=List.getElem_of_mem hr
  obtain⟨j,hj,rfl⟩:=List.getElem_of_mem hx
  exact ih i _ j _ (List.getElem?_eq_getElem hi) (List.getElem?_eq_getElem hj)
theorem DB.str_inv {s:List UInt8} (h:DB (.str s)):s.length<=maxLen:=by cases h;assumption
theorem DB.slc_inv {k:Nat} {rows:List (List D)} (h:DB (.slc k rows)):rows.length<=maxLen/\(∀r∈rows,r.length=k)/\∀r∈rows,∀x∈r,DB x:=by cases h;exact⟨by assumption,by assumption,by assumption⟩
def AV.bnd1:AV->Prop
 | .d x=>DB x
 | .own _ k rows=>DB (.slc k rows)
 |_=>True
def AV.bnd:AV->Prop
 | .agg l=> ∀a∈l,a.bnd1
 | .tup l=> ∀a∈l,a.bnd1
 |a=>a.bnd1
theorem VR.bnd1 {G:Gh} {a:AV} {v:Value} (h:VR G a v):a.bnd1:=by
 cases h with
 |d h=>exact h.bnd
 |own h _=>exact h.bnd
 |_=>trivial
theorem VR.bnd {G:Gh} {a:AV} {v:Value} (h:VR G a v):a.bnd:=by
 cases h with
 |d h=>exact h.bnd
 |own h _=>exact h.bnd
 |agg l vs hl h=>
  intro a ha
  obtain⟨i,hi,rfl⟩:=List.getElem_of_mem ha
  exact(h i _ _ (List.getElem?_eq_getElem hi) (List.getElem?_eq_getElem (by omega))).bnd1
 |tup l vs hl h=>
  intro a ha
  obtain⟨i,hi,rfl⟩:=List.getElem_of_mem ha
  exact(h i _ _ (List.getElem?_eq_getElem hi) (List.getElem?_eq_getElem (by omega))).bnd1
 |_=>trivial
inductive AX where
 |normal
 |exit (id:Nat)
 |ret
 |pan (p:AV)
def He (G:Gh):AX->Exit->Prop
 | .normal,.normal=>True
 | .exit i,.exit j=>i=j
 | .ret,.ret=>True
 | .pan p,.panic ch=> ∃v,ch=[{v:=v,recovered:=false }]/\VR G p v
 |_,_=>False
def Dz (G:Gh) (sl:List AV) (tmps:Array Value):Prop:=tmps.size=sl.length/\∀(i:Nat) (a:AV),sl[i]?=some a->∃v,tmps[i]?=some v/\VR G a v
theorem Dz.mono {G G':Gh} (hG:B8 G G') {sl:List AV} {tmps:Array Value} (h:Dz G sl tmps):Dz G' sl tmps:=
 ⟨h.1,λi a e=>by obtain⟨v,h1,h2⟩:=h.2 i a e;exact⟨v,h1,h2.mono hG⟩⟩
abbrev AQ:=AX->List AV->AH->Prop
def IH (T:Ap) (Q:AQ) (G:Gh) (ds:List Deferred) (e:Exit) (a:Act) (w:World):Prop:=
 a.defers=ds/\∃x sl h G',Q x sl h/\He G' x e/\B8 G G'/\Bl T G' h w/\Dz G' sl a.tmps
def Aa (P:Program) (T:Ap) (c:Code) (Q:AQ) (sl:List AV) (h:AH):Prop:=
 ∀(G:Gh) (w:World) (a:Act),Bl T G h w->Dz G sl a.tmps->c.wp P (IH T Q G a.defers) a w
section
variable {P:Program} {T:Ap} {Q Q':AQ} {sl:List AV} {h:AH}
theorem IH.mono {G G':Gh} {ds:List Deferred} {e:Exit} {a:Act} {w:World} (hG:B8 G G') (hQ:∀x s h,Q x s h->Q' x s h) (H:IH T Q G' ds e a w):IH T Q' G ds e a w:=by
 obtain⟨hd,x,s,h,G2,hq,hx,hg,S,R⟩:=H
 exact⟨hd,x,s,h,G2,hQ _ _ _ hq,hx,hG.trans hg,S,R⟩
theorem Aa.mono {c:Code} (hQ:∀x s h,Q x s h->Q' x s h) (H:Aa P T c Q sl h):Aa P T c Q' sl h:=
 λG w a S R=>wp_mono (H G w a S R) λe a' w' h'=>IH.mono (B8.refl G) hQ h'
theorem Aa.skip (H:Q .normal sl h):Aa P T .skip Q sl h:=
 λG w a S R=>wp_skip ⟨rfl,.normal,sl,h,G,H,trivial,B8.refl G,S,R⟩
theorem Aa.exit {id:Nat} (H:Q (.exit id) sl h):Aa P T (.exit id) Q sl h:=
 λG w a S R=>wp_exit ⟨rfl,.exit id,sl,h,G,H,rfl,B8.refl G,S,R⟩
theorem Aa.ret (H:Q .ret sl h):Aa P T .ret Q sl h:=
 λG w a S R=>wp_ret ⟨rfl,.ret,sl,h,G,H,trivial,B8.refl G,S,R⟩
def Am (K:List AV->AH->Prop) (Q:AQ):AQ
 | .normal,s,h=>K s h
 |x,s,h=>Q x s h
theorem Aa.seq {x y:Code} (H:∀K:List AV->AH->Prop,(∀s h,Aa P T y Q s h->K s h)->Aa P T x (Am K Q) sl h):Aa P T (.seq x y) Q sl h:=by
 intro G w a S R
 refine wp_seq (wp_mono (H _ (λs h hh=>hh) G w a S R) ?_)
 rintro e a' w' ⟨hd,x,s,h',G',hq,hx,hG,S',R'⟩
 cases x with
 |normal=>
  cases e<;>simp only[He] at hx
  have:=hq G' w' a' S' R'
  rw[hd] at this
  exact wp_mono this λe a w H=>H.mono hG (λ_ _ _ q=>q)
 |exit i=>
  cases e<;>simp only[He] at hx
  exact⟨hd,_,s,h',G',hq,hx,hG,S',R'⟩
 |ret=>
  cases e<;>simp only[He] at hx
  exact⟨hd,_,s,h',G',hq,trivial,hG,S',R'⟩
 |pan p=>
  cases e<;>simp only[He] at hx
  exact⟨hd,_,s,h',G',hq,hx,hG,S',R'⟩
theorem L5 {x y:Code} (M:List AV->AH->Prop) (H:Aa P T x (Am M Q) sl h) (H2:∀s h,M s h->Aa P T y Q s h):Aa P T (.seq x y) Q sl h:=
 Aa.seq λK hK=>Aa.mono (λx s h q=>by cases x<;>first|exact hK _ _ (H2 _ _ q)|exact q) H
def Bo (id:Nat) (Q:AQ):AQ
 | .exit i,s,h=>if i=id then Q .normal s h else Q (.exit i) s h
 |x,s,h=>Q x s h
theorem Aa.block {id:Nat} {c:Code} (H:Aa P T c (Bo id Q) sl h):Aa P T (.block id c) Q sl h:=by
 intro G w a S R
 refine wp_block (wp_mono (H G w a S R) ?_)
 rintro e a' w' ⟨hd,x,s,h',G',hq,hx,hG,S',R'⟩
 cases x with
 |normal=>
  cases e<;>simp only[He] at hx
  exact⟨hd,_,s,h',G',hq,trivial,hG,S',R'⟩
 |exit i=>
  cases e<;>simp only[He] at hx
  subst hx
  simp only[Exit.inBlock,Bo] at hq⊢
  split
  ·rename_i hi;rw[if_pos hi] at hq;exact⟨hd,.normal,s,h',G',hq,trivial,hG,S',R'⟩
  ·rename_i hi;rw[if_neg hi] at hq;exact⟨hd,_,s,h',G',hq,rfl,hG,S',R'⟩
 |ret=>
  cases e<;>simp only[He] at hx
  exact⟨hd,_,s,h',G',hq,trivial,hG,S',R'⟩
 |pan p=>
  cases e<;>simp only[He] at hx
  exact⟨hd,_,s,h',G',hq,hx,hG,S',R'⟩
def ofV:Value->AV
 | .int k n=> .d (.int k n)
 | .bool b=> .d (.bool b)
 | .string s=>if s.size<=maxLen then .d (.str s.data.toList) else .any
 | .slice none 0 0=> .nils
 | .pointer none=> .nilp
 | .nilFunc=> .nilf
 | .nilIface=> .nili
 | .agg cs=> .agg (cs.toList.map fun
   | .int k n=> .d (.int k n)
   | .bool b=> .d (.bool b)
   | .string s=>if s.size<=maxLen then .d (.str s.data.toList) else .any
   | .slice none 0 0=> .nils
   | .pointer none=> .nilp
   | .nilFunc=> .nilf
   | .nilIface=> .nili
   |_=> .any)
 |_=> .any
theorem VR.ofV (G:Gh) (v:Value):VR G (ofV v) v:=by
 have key:∀v:Value,VR G (match v with
   | .int k n=> .d (.int k n)
   | .bool b=> .d (.bool b)
   | .string s=>if s.size<=maxLen then .d (.str s.data.toList) else .any
   | .slice none 0 0=> .nils
   | .pointer none=> .nilp
   | .nilFunc=> .nilf
   | .nilIface=> .nili
   |_=> .any) v:=by
  intro v
  split
  ·exact .d (.int _ _)
  ·exact .d (.bool _)
  ·split
   ·rename_i h;exact .d (.str _ h)
   ·exact .any _
  ·exact .nils
  ·exact .nilp
  ·exact .nilf
  ·exact .nili
  ·exact .any _
 unfold Go.Proofs.YtidldcfpmehpiaaGreatDoor.ofV
 split
 ·exact .d (.int _ _)
 ·exact .d (.bool _)
 ·split
  ·rename_i h;exact .d (.str _ h)
  ·exact .any _
 ·exact .nils
 ·exact .nilp
 ·exact .nilf
 ·exact .nili
 ·rename_i cs
  have:=VR.agg (G:=G) (cs.toList.map fun
   | .int k n=> .d (.int k n)
   | .bool b=> .d (.bool b)
   | .string s=>if s.size<=maxLen then .d (.str s.data.toList) else .any
   | .slice none 0 0=> .nils
   | .pointer none=> .nilp
   | .nilFunc=> .nilf
   | .nilIface=> .nili
   |_=> .any) cs.toList (by simp) (λi a v h1 h2=>by
    rw[List.getElem?_map,h2,Option.map_some] at h1
    injection h1 with h1
    rw[<-h1]
    exact key v)
  simpa using this
 ·exact .any _
def ev (T:Ap) (sl:List AV):Operand->AV
 | .tmp t=>sl.getD t .any
 | .const v=>ofV v
 | .global g=> .elt (T g).length [T g] 0 0
 | .func f=> .fn f []
theorem F4 {G:Gh} {w:World} {a:Act} (S:Bl T G h w) (R:Dz G sl a.tmps) (x:Operand):VR G (ev T sl x) (a.eval x):=by
 cases x with
 | tmp t=>
  simp only[ev,Act.eval,List.getD]
  cases hs:sl[t]? with
  |none=>exact .any _
  |some b=>
   obtain⟨v,h1,h2⟩:=R.2 t b hs
   simpa[Array.getD_eq_getD_getElem?,h1] using h2
 |const v=>exact VR.ofV G v
 | global g=>
  have:=VR.elt (G:=G) (T g).length [T g] 0 0 g 0 (λj=>(G.frz g j).getD Go.undef) (T g) rfl (λj x hx=>by
   obtain⟨u,h1,_⟩:=S.glob g j x hx
   simp[h1]) (λj x hx=>by
   obtain⟨u,h1,h2⟩:=S.glob g j x hx
   simpa[h1] using h2)
  exact this
 |func f=>exact VR.fn (G:=G) f [] [] rfl (by simp)
theorem Aa.cond {c:Operand} {x y:Code} (b:Bool) (hc:ev T sl c= .d (.bool b)) (ht:b=true->Aa P T x Q sl h) (hf:b=false->Aa P T y Q sl h):Aa P T (.cond c x y) Q sl h:=by
 intro G w a S R
 have hv:=F4 S R c
 rw[hc] at hv
 have hv:a.eval c= .bool b:=by cases hv with|d h=>exact h.bool_inv
 exact wp_cond_split hv (λe=>ht e G w a S R) (λe=>hf e G w a S R)
def Hw (ks:List Nat):Nat->List AV->List AV
 |_,[]=>[]
 |i,a::r=>(if ks.contains i=true then a else .any)::Hw ks (i+1) r
theorem Oo (ks:List Nat):∀(i:Nat) (l:List AV),(Hw ks i l).length=l.length
 |_,[]=>rfl
 |i,a::r=>by simp[Hw,Oo ks (i+1) r]
theorem On (ks:List Nat):∀(i:Nat) (l:List AV) (j:Nat) (a:AV),(Hw ks i l)[j]?=some a->l[j]?=some a\/(a= .any/\∃b,l[j]?=some b)
 |_,[],_,_,e=>by simp[Hw] at e
 |i,b::r,0,a,e=>by
  all_goals grind[Hw]
 |i,b::r,j+1,a,e=>by
  simp only[Hw,List.getElem?_cons_succ] at e⊢
  exact On ks (i+1) r j a e
theorem Dz.keep {G:Gh} {tmps:Array Value} (R:Dz G sl tmps) (ks:List Nat):Dz G (Hw ks 0 sl) tmps:=
 ⟨by rw[Oo];exact R.1,λi a e=>by
  rcases On ks 0 sl i a e with h1|⟨rfl,b,h1⟩
  ·exact R.2 i a h1
  ·obtain⟨v,h2,_⟩:=R.2 i b h1;exact⟨v,h2,.any v⟩⟩
theorem Aa.loop {c:Code} (ks:List Nat) (I:Nat->List AV->AH->Prop) (h0:∃n,I n (Hw ks 0 sl) h)
  (round:∀n s h,I n s h->Aa P T c (Am (λs' h'=> ∃n' x y,n'<n/\I n' (Hw ks 0 s') ⟨h'.objs.drop x,h'.live.drop y⟩) Q) s h):Aa P T (.loop c) Q sl h:=by
 intro G w a S R
 let J:Nat->Act->World->Prop:=λn a' w'=>a'.defers=a.defers/\∃s h' G',I n s h'/\B8 G G'/\Bl T G' h' w'/\Dz G' s a'.tmps
 have hex:∀a' w',(∃n,J n a' w')->∃n,J n a' w'/\∀m,J m a' w'->n<=m:=λa' w' ⟨n,hn⟩=>by
  induction n using Nat.strongRecOn with
  | _ n ih=>
   by_cases hm:∃m,m<n/\J m a' w'
   ·obtain⟨m,hlt,hj⟩:=hm
    exact ih m hlt hj
   ·grind
 refine wp_loop (λa' w'=> ∃n,J n a' w') (λa' w'=>Classical.epsilon λn=>J n a' w'/\∀m,J m a' w'->n<=m) ?_ ?_
 ·obtain⟨n,hn⟩:=h0
  exact⟨n,rfl,_,h,G,hn,B8.refl G,S,R.keep ks⟩
 ·intro a1 w1 hI
  obtain⟨⟨hd,s,h',G',hi,hG,S',R'⟩,hmin⟩:=Classical.epsilon_spec (p:=λn=>J n a1 w1/\∀m,J m a1 w1->n<=m) (hex a1 w1 hI)
  refine wp_mono (round _ s h' hi G' w1 a1 S' R') ?_
  rintro e a2 w2 ⟨hd2,x,s2,h2,G2,hq,hx,hG2,S2,R2⟩
  cases x with
  |normal=>
   cases e<;>simp only[He] at hx
   obtain⟨n',x,y,hlt,hi'⟩:=hq
   have hj:J n' a2 w2:=⟨hd2.trans hd,_,_,G2,hi',hG.trans hG2,S2.drop (List.drop_sublist ..) (List.drop_sublist ..),R2.keep ks⟩
   refine⟨⟨n',hj⟩,?_⟩
   have:=(Classical.epsilon_spec (p:=λn=>J n a2 w2/\∀m,J m a2 w2->n<=m) (hex a2 w2 ⟨n',hj⟩)).2 n' hj
   exact Nat.lt_of_le_of_lt this hlt
  |exit i=>
   cases e<;>simp only[He] at hx
   exact⟨hd2.trans hd,_,s2,h2,G2,hq,hx,hG.trans hG2,S2,R2⟩
  |ret=>
   cases e<;>simp only[He] at hx
   exact⟨hd2.trans hd,_,s2,h2,G2,hq,trivial,hG.trans hG2,S2,R2⟩
  |pan p=>
   cases e<;>simp only[He] at hx
   exact⟨hd2.trans hd,_,s2,h2,G2,hq,hx,hG.trans hG2,S2,R2⟩
theorem IG {c:Code} (i k:Nat) (hi:sl[i]?=some .nils) (hk:0<k) (H:∀t,Aa P T c Q (sl.set i (.own t k [])) ⟨h.objs,t::h.live⟩):Aa P T c Q sl h:=by
 intro G w a S R
 let G':Gh:= {G with tok:=λt=>if t=G.nt then some (k,.slice none 0 0) else G.tok t,nt:=G.nt+1 }
 have hG:B8 G G':=⟨rfl,λ_ _ _ e=>e,λ_ _ _ e=> .inl e,λt x e=>by
  show(if t=G.nt then _ else _)=_
  rw[if_neg (λe'=>by rw[S.fin t (by omega)] at e;cases e)]
  exact e⟩
 have S1:Bl T G' h w:=S.grow (Below.refl _ _) hG (λt ht=>by
   show(if t=G.nt then _ else _)=_
   have ht':G.nt+1<=t:=ht
   rw[if_neg (by omega)]
   exact S.fin t (by omega)) (λ_ _ _ e=> .inl e) S.frz
 have hnew:AT G' G.nt=none:=by
  unfold AT
  grind
 have S2:Bl T G' ⟨h.objs,G.nt::h.live⟩ w:=by
  refine⟨S1.below,S1.glob,S1.frz,S1.fin,S1.obj,S1.nd,λt ht=>?_,List.pairwise_cons.2 ⟨λt ht g h1=>?_,S1.tdis⟩,λt ht g hg=>?_,List.nodup_cons.2 ⟨λhm=>?_,S.lnd⟩⟩
  ·rcases List.mem_cons.1 ht with rfl|ht
   ·exact .ofMem ⟨k,0,0,none,by show(if G.nt=G.nt then _ else _)=_;rw[if_pos rfl],Nat.le_refl _,by decide,hk,λ_=>⟨rfl,rfl⟩,λa e=>by cases e⟩
   ·exact S1.liv t ht
  ·rw[hnew] at h1;cases h1
  ·rcases List.mem_cons.1 ht with rfl|ht
   ·rw[hnew] at hg;cases hg
   ·exact S1.todis t ht g hg
  ·obtain⟨_,e⟩:=(S.liv _ hm).any
   rw[S.fin _ (Nat.le_refl _)] at e
   cases e
 have R2:Dz G' (sl.set i (.own G.nt k [])) a.tmps:=by
  refine⟨by simpa using R.1,λj b e=>?_⟩
  by_cases hj:i=j
  ·subst hj
   rw[List.getElem?_set_self (List.getElem?_eq_some_iff.1 hi).1] at e
   injection e with e
   obtain⟨v,h1,h2⟩:=R.2 i _ hi
   refine⟨v,h1,?_⟩
   have hv:v= .slice none 0 0:=by cases h2;rfl
   subst hv
   rw[<-e]
   exact .own (.slc0 k none 0 (λ_=>rfl) (by decide)) (by show(if G.nt=G.nt then _ else _)=_;rw[if_pos rfl])
  ·rw[List.getElem?_set_ne hj] at e
   obtain⟨v,h1,h2⟩:=R.2 j b e
   exact⟨v,h1,h2.mono hG⟩
 exact wp_mono (H G.nt G' w a S2 R2) λe a' w' hh=>hh.mono hG (λ_ _ _ q=>q)
end
end
section
open Go.RowKit
inductive AR where
 |ret (r:AV)
 |pan (p:AV)
def Ao (P:Program) (T:Ap) (f:FuncId) (args:List AV) (h:AH) (R:AR->AH->Prop):Prop:=
 ∀(G:Gh) (w:World) (vs:Array Value),Bl T G h w->Dz G args vs->Calls P f vs w λe w'=> ∃x h' G',R x h'/\B8 G G'/\Bl T G' h' w'/\
  match x with
  | .ret r=> ∃v,e= .returned v/\VR G' r v
  | .pan p=> ∃v,e= .panicked [{v:=v,recovered:=false }]/\VR G' p v
def Gh.keepT (G:Gh) (kp:Bool):Gh:= {G with tok:=if kp=true then G.tok else λ_=>none }
def Qj (w:World) (F:Js):Gh:=⟨w,F,λ_=>none,0⟩
def Ar (P:Program) (T:Ap) (f:FuncId) (args:List AV) (r:AV):Prop:=
 ∀(F:Js) (w:World) (vs:Array Value),(∀b o u,F b o=some u->w.cell? ⟨b,o,none⟩=some u)->(∀g j x,(T g)[j]?=some x->∃u,F g j=some u/\VD F x u)->Dz (Qj w F) args vs->
  Calls P f vs w λe w'=> ∃v F',e= .returned v/\Below w.heap.size w w'/\(∀b o u,F b o=some u->F' b o=some u)/\(∀b o u,F' b o=some u->F b o=some u\/w.heap.size<=b)/\
   (∀b o u,F' b o=some u->w'.cell? ⟨b,o,none⟩=some u)/\VR (Qj w F') r v
def Ay:D->D->Prop
 | .slc k rows,.slc k' rows'=>rows=rows'/\(k=k'\/rows=[])
 |x,y=>x=y
mutual
def Aj (kp:Bool):AV->AV->Prop
 | .own t k rows,b=>match b with
  | .d (.slc k' rows')=>rows=rows'/\(k=k'\/rows=[])
  | .own t' k' rows'=>kp=true/\t=t'/\k=k'/\rows=rows'
  | .any=>True
  |_=>False
 | .nils,b=>match b with
  | .d (.slc _ rows')=>rows'=[]
  | .nils=>True
  | .full _ rows'=>rows'=[]
  | .any=>True
  |_=>False
 | .nn k rows,b=>match b with
  | .d (.slc k' rows')=>rows=rows'/\(k=k'\/rows=[])
  | .nn k' rows'=>rows=rows'/\(k=k'\/rows=[])
  | .any=>True
  |_=>False
 | .full k rows,b=>match b with
  | .d (.slc k' rows')=>rows=rows'/\(k=k'\/rows=[])
  | .full k' rows'=>rows=rows'/\(k=k'\/rows=[])
  | .any=>True
  |_=>False
 | .d x,b=>match b with
  | .d y=>Ay x y
  | .any=>True
  |_=>False
 | .agg l,b=>match b with
  | .agg l'=>Bj kp l l'
  | .any=>True
  |_=>False
 | .tup l,b=>match b with
  | .tup l'=>Bj kp l l'
  | .any=>True
  |_=>False
 | .ifc t a,b=>match b with
  | .ifc t' a'=>t=t'/\Aj kp a a'
  | .any=>True
  |_=>False
 | .fn f l,b=>match b with
  | .fn f' l'=>f=f'/\Bj kp l l'
  | .any=>True
  |_=>False
 | .mp t ks,b=>match b with
  | .mp t' ks'=>kp=true/\t=t'/\ks=ks'
  | .any=>True
  |_=>False
 | .cnd _ _,b=>b= .any
 |a,b=>a=b\/b= .any
def Bj (kp:Bool):List AV->List AV->Prop
 |[],[]=>True
 |a::l,b::l'=>Aj kp a b/\Bj kp l l'
 |_,_=>False
end
theorem Bj.len {kp:Bool} :∀{l l':List AV},Bj kp l l'->l.length=l'.length
 |[],[],_=>rfl
 |a::l,b::l',h=>by simp only[Bj] at h;simp[Bj.len h.2]
 |[],_::_,h=>by simp[Bj] at h
 |_::_,[],h=>by simp[Bj] at h
theorem VD.slc_k {F:Js} {k k':Nat} {rows:List (List D)} {v:Value} (h:VD F (.slc k rows) v) (hk:k=k'\/rows=[]):VD F (.slc k' rows) v:=by
 rcases hk with rfl|rfl
 ·exact h
 ·obtain⟨A,c,rfl,_,h2,h3,_⟩:=h.slc_inv
  exact .slc0 k' A c h3 h2
theorem Ay.ok {F:Js} {x y:D} {v:Value} (h:VD F x v) (k:Ay x y):VD F y v:=by
 unfold Ay at k
 split at k
 ·obtain⟨rfl,hk⟩:=k;exact h.slc_k hk
 ·subst k;exact h
mutual
theorem Aj.ok {G:Gh} {kp:Bool} :∀(a b:AV) (v:Value),Aj kp a b->VR G a v->VR (G.keepT kp) b v
 | .own t k rows,b,v,h,hv=>by
  cases hv with
  |own hd ht=>
   unfold Aj at h
   split at h
   ·obtain⟨rfl,hk⟩:=h;exact .d (hd.slc_k hk)
   ·obtain⟨rfl,rfl,rfl,rfl⟩:=h;exact .own hd (by simp only[Gh.keepT,if_pos];exact ht)
   ·exact .any _
   ·exact h.elim
 | .nils,b,v,h,hv=>by
  cases hv
  unfold Aj at h
  split at h
  ·subst h;exact .d (.slc0 _ none 0 (λ_=>rfl) (by decide))
  ·exact .nils
  ·subst h;exact .full (rows:=[]) (.slc0 _ none 0 (λ_=>rfl) (by decide))
  ·exact .any _
  ·exact h.elim
 | .nn k rows,b,v,h,hv=>by
  cases hv with
  |nn hd=>
   unfold Aj at h
   split at h
   ·obtain⟨rfl,hk⟩:=h;exact .d (hd.slc_k hk)
   ·obtain⟨rfl,hk⟩:=h;exact .nn (hd.slc_k hk)
   ·exact .any _
   ·exact h.elim
 | .full k rows,b,v,h,hv=>by
  cases hv with
  |full hd=>
   unfold Aj at h
   split at h
   ·obtain⟨rfl,hk⟩:=h;exact .d (hd.slc_k hk)
   ·obtain⟨rfl,hk⟩:=h;exact .full (hd.slc_k hk)
   ·exact .any _
   ·exact h.elim
 | .d x,b,v,h,hv=>by
  cases hv with
  |d hd=>
   unfold Aj at h
   split at h
   ·exact .d (Ay.ok hd h)
   ·exact .any _
   ·exact h.elim
 | .agg l,b,v,h,hv=>by
  cases hv with
  |agg _ vs hl hc=>
   unfold Aj at h
   split at h
   ·exact .agg _ vs (by rw[hl];exact h.len) (Bj.ok l _ vs hl h hc)
   ·exact .any _
   ·exact h.elim
 | .tup l,b,v,h,hv=>by
  cases hv with
  |tup _ vs hl hc=>
   unfold Aj at h
   split at h
   ·exact .tup _ vs (by rw[hl];exact h.len) (Bj.ok l _ vs hl h hc)
   ·exact .any _
   ·exact h.elim
 | .fn f l,b,v,h,hv=>by
  cases hv with
  |fn _ _ vs hl hc=>
   unfold Aj at h
   split at h
   ·obtain⟨rfl,h⟩:=h;exact .fn _ _ vs (by rw[hl];exact h.len) (Bj.ok l _ vs hl h hc)
   ·exact .any _
   ·exact h.elim
 | .ifc t a,b,v,h,hv=>by
  cases hv with
  |ifc _ hv=>
   unfold Aj at h
   split at h
   ·obtain⟨rfl,h⟩:=h;exact .ifc _ (Aj.ok a _ _ h hv)
   ·exact .any _
   ·exact h.elim
 | .cnd g a,b,v,h,hv=>by unfold Aj at h;subst h;exact .any _
 | .ptr b' k i o,b,v,h,hv=>by unfold Aj at h;rcases h with rfl|rfl;cases hv;exact .ptr ..;exact .any _
 | .elt k rows i o,b,v,h,hv=>by
  unfold Aj at h
  rcases h with rfl|rfl
  ·cases hv with|elt _ _ _ _ b off val r hr hf hv=>exact .elt k rows i o b off val r hr hf hv
  ·exact .any _
 | .arr b' k n c,b,v,h,hv=>by unfold Aj at h;rcases h with rfl|rfl;cases hv;exact .arr ..;exact .any _
 | .lar ..,b,v,h,hv=>by
  unfold Aj at h
  rcases h with rfl|rfl
  ·cases hv with|lar g1 g2=>exact .lar g1 g2
  ·exact .any _
 | .nilf,b,v,h,hv=>by unfold Aj at h;rcases h with rfl|rfl;cases hv;exact .nilf;exact .any _
 | .mp t ks,b,v,h,hv=>by
  cases hv with
  |mp ht=>
   unfold Aj at h
   split at h
   ·obtain⟨rfl,rfl,rfl⟩:=h;exact .mp (by simp only[Gh.keepT,if_pos];exact ht)
   ·exact .any _
   ·exact h.elim
 | .nilp,b,v,h,hv=>by unfold Aj at h;rcases h with rfl|rfl;cases hv;exact .nilp;exact .any _
 | .nili,b,v,h,hv=>by unfold Aj at h;rcases h with rfl|rfl;cases hv;exact .nili;exact .any _
 | .undef,b,v,h,hv=>by unfold Aj at h;rcases h with rfl|rfl;cases hv;exact .undef;exact .any _
 | .any,b,v,h,hv=>by unfold Aj at h;rcases h with rfl|rfl<;>exact .any _
theorem Bj.ok {G:Gh} {kp:Bool} :∀(l l':List AV) (vs:List Value),vs.length=l.length->Bj kp l l'->(∀(i:Nat) (a:AV) (v:Value),l[i]?=some a->vs[i]?=some v->VR G a v)->∀(i:Nat) (a:AV) (v:Value),l'[i]?=some a->vs[i]?=some v->VR (G.keepT kp) a v
 |[],[],_,_,_,_=>λi a v e=>by simp at e
 | a::l,b::l',u::us,hl,h,hc=>λi=>by
  unfold Bj at h
  cases i with
  |zero=>
   intro x v e1 e2
   simp only[List.getElem?_cons_zero,Option.some.injEq] at e1 e2
   subst e1 e2
   exact Aj.ok a b u h.1 (hc 0 a u rfl rfl)
  |succ i=>
   intro x v e1 e2
   simp only[List.getElem?_cons_succ] at e1 e2
   exact Bj.ok l l' us (by simpa using hl) h.2 (λi a v e1 e2=>hc (i+1) a v (by simpa using e1) (by simpa using e2)) i x v e1 e2
 |a::l,b::l',[],hl,h,hc=>by simp at hl
 |[],_::_,_,_,h,_=>by simp[Bj] at h
 |_::_,[],_,_,h,_=>by simp[Bj] at h
end
def ldA (objs:Af) (b k i o n:Nat):Option (List AV):=
 match A9 b objs with
 |some ob=>if ob.k=k/\o+n<=k then(match ob.rows[i]? with|some (a::r)=>some (((a::r).drop o).take n)|_=>none) else none
 |none=>none
section
variable {P:Program} {T:Ap} {G:Gh} {h:AH} {w:World}
theorem Zu (S:Bl T G h w) {b k i o n:Nat} {cs:List AV} (e:ldA h.objs b k i o n=some cs):
  ∃vs:List Value,w.rangeAt b (i*k+o) vs/\vs.length=n/\cs.length=n/\(∀a∈cs,a.one=true)/\∀(j:Nat) (a:AV) (v:Value),cs[j]?=some a->vs[j]?=some v->VR G a v:=by
 unfold ldA at e
 split at e
 ·rename_i ob hg
  split at e
  ·rename_i hc
   obtain⟨rfl,hn⟩:=hc
   split at e
   ·rename_i a0 r0 hr
    generalize hr0:a0::r0=r at hr e
    injection e with e
    have hO:=S.obj _ (De hg)
    obtain⟨vs,ty,fz,hh,hs,_,hm⟩:=hO.mem
    have hrl:r.length=ob.k:=(hO.lenk r (List.mem_of_getElem? hr)).resolve_right (by rw[<-hr0];simp)
    have hi:i<ob.rows.length:=(List.getElem?_eq_some_iff.1 hr).1
    have hcell:∀j,j<n->∃a v,r[o+j]?=some a/\a.one=true/\vs[i*ob.k+o+j]?=some v/\VR G a v:=λj hj=>by
     have ha:r[o+j]?=some (r[o+j]'(by omega)):=List.getElem?_eq_getElem _
     grind
    have hlen:cs.length=n:=by rw[<-e];simp;omega
    refine⟨(List.range n).map λj=>vs.getD (i*ob.k+o+j) Go.undef,λj v hv=>?_,by simp,hlen,λa ha=>?_,λj a v h1 h2=>?_⟩
    ·rw[List.getElem?_map] at hv
     rcases Nat.lt_or_ge j n with hj|hj
     ·rw[List.getElem?_range hj,Option.map_some] at hv
      injection hv with hv
      obtain⟨a,u,_,_,h2,_⟩:=hcell j hj
      rw[cell_of_row _ _ _ vs ty fz hh,<-hv,h2,Array.getD_eq_getD_getElem?,h2]
      rfl
     ·rw[List.getElem?_eq_none (by simpa using hj)] at hv;cases hv
    ·obtain⟨j,hj,rfl⟩:=List.getElem_of_mem ha
     obtain⟨a,u,h1,h2,_⟩:=hcell j (by omega)
     subst e
     have:((r.drop o).take n)[j]?=some a:=by rw[List.getElem?_take_of_lt (by omega),List.getElem?_drop];exact h1
     rw[List.getElem?_eq_getElem hj] at this
     injection this with this
     rw[this];exact h2
    ·have hj:j<n:=by rw[<-hlen];exact(List.getElem?_eq_some_iff.1 h1).1
     obtain⟨a',u,g1,_,g2,g3⟩:=hcell j hj
     subst e
     rw[List.getElem?_take_of_lt hj,List.getElem?_drop,g1] at h1
     injection h1 with h1
     rw[List.getElem?_map,List.getElem?_range hj,Option.map_some] at h2
     injection h2 with h2
     rw[<-h1,<-h2,Array.getD_eq_getD_getElem?,g2]
     exact g3
   ·cases e
  ·cases e
 ·cases e
def Fr (r:Bool) (cs:List AV):AV:=if r then .agg cs else cs.headD .any
theorem EA {r:Bool} {n:Nat} {cs:List AV} {vs:List Value} (h1:vs.length=n) (h2:cs.length=n) (h3:r=false->n=1) (h:∀(j:Nat) (a:AV) (v:Value),cs[j]?=some a->vs[j]?=some v->VR G a v):VR G (Fr r cs) (Cg r vs):=by
 cases r with
 |true=>exact .agg cs vs (by omega) h
 |false=>
  have h3:=h3 rfl
  match cs,vs,h1,h2 with
  |[a],[v],_,_=>exact h 0 a v rfl rfl
  |[],_,_,e=>simp at e;omega
  |_::_::_,_,_,e=>simp at e;omega
  |[_],[],e,_=>simp at e;omega
  |[_],_::_::_,e,_=>simp at e;omega
def Aa1 (P:Program) (s:List AV) (h:AH):ResultVar->Option AV
 | .tmp t=>some (s.getD t .undef)
 | .cell p ty=>match s.getD p .undef,EL P ty with
  | .ptr b k i o,some (r,n)=>(ldA h.objs b k i o n).map (Fr r)
  |_,_=>none
def WY (P:Program) (s:List AV) (h:AH):List ResultVar->Option (List AV)
 |[]=>some []
 |x::l=>(Aa1 P s h x).bind λa=>(WY P s h l).map (a:: ·)
def DY (P:Program) (s:List AV) (h:AH) (rs:List ResultVar):Option AV:=
 (WY P s h rs).map λ|[a]=>a|l=> .tup l
def MV (tmps:Array Value):ResultVar->Sem Value
 | .tmp t=>pure (tmps.getD t undef)
 | .cell a t=>do loadVar t (<-asAddr (tmps.getD a undef))
theorem Vn {s:List AV} {tmps:Array Value} (R:Dz G s tmps) (t:Nat):VR G (s.getD t .undef) (tmps.getD t Go.undef):=by
 simp only[List.getD]
 cases hs:s[t]? with
 |none=>
  have:tmps[t]?=none:=Array.getElem?_eq_none (by rw[R.1];exact List.getElem?_eq_none_iff.1 hs)
  simp only[Option.getD_none,Array.getD_eq_getD_getElem?,this]
  exact .undef
 |some b=>
  obtain⟨v,h1,h2⟩:=R.2 t b hs
  simpa[Array.getD_eq_getD_getElem?,h1] using h2
theorem Ac9 (S:Bl T G h w) {s:List AV} {tmps:Array Value} (R:Dz G s tmps) {x:ResultVar} {a:AV} (e:Aa1 P s h x=some a):∃v,(MV tmps x).run P w= .ok v w/\VR G a v:=by
 cases x with
 |tmp t=>
  simp only[Aa1,Option.some.injEq] at e
  subst e
  exact⟨_,rfl,Vn R t⟩
 | cell p ty=>
  have hp:=Vn R p
  simp only[Aa1] at e
  split at e
  ·rename_i b k i o r n hptr hty
   rw[hptr] at hp
   obtain⟨cs,hcs,rfl⟩:=Option.map_eq_some_iff.1 e
   obtain⟨vs,h1,h2,h3,_,h4⟩:=Zu S hcs
   obtain⟨_,_,_,_,_,_,hr1⟩:=D3 hty
   refine⟨Cg r vs,?_,EA h2 h3 hr1 h4⟩
   have hv:tmps.getD p Go.undef= .pointer (some ⟨b,i*k+o,none⟩):=by
    generalize tmps.getD p Go.undef=v at hp
    cases hp
    rfl
   have hl:=H7 (P:=P) hty h2 h1
   simp only[Instr.loadAt,Instr.sureAddr,Sem.run_bind,Sem.run_pure,Result.andThen_ok] at hl
   simp only[MV,hv,asAddr,Sem.run_bind,Sem.run_pure,Result.andThen_ok,hl]
  ·cases e
theorem Ve (S:Bl T G h w) {s:List AV} {tmps:Array Value} (R:Dz G s tmps):∀{l:List ResultVar} {az:List AV},WY P s h l=some az->
  ∃vs,(l.mapM (MV tmps)).run P w= .ok vs w/\vs.length=az.length/\∀(i:Nat) (a:AV) (v:Value),az[i]?=some a->vs[i]?=some v->VR G a v
 |[],az,e=>by
  simp only[WY,Option.some.injEq] at e
  subst e
  exact⟨[],by simp,rfl,λi a v e=>by simp at e⟩
 |x::l,az,e=>by
  simp only[WY,Option.bind_eq_some_iff,Option.map_eq_some_iff] at e
  obtain⟨a,ha,az',hl,rfl⟩:=e
  obtain⟨v,h1,h2⟩:=Ac9 S R ha
  obtain⟨vs,h3,h4,h5⟩:=Ve S R hl
  refine⟨v::vs,by simp[List.mapM_cons,h1,h3],by simp[h4],λi b u e1 e2=>?_⟩
  grind
theorem JY (S:Bl T G h w) {s:List AV} {tmps:Array Value} (R:Dz G s tmps) {fn:Func} {r:AV} (e:DY P s h fn.results.toList=some r):∃v,(results fn tmps).run P w= .ok v w/\VR G r v:=by
 unfold DY at e
 obtain⟨az,ha,hr⟩:=Option.map_eq_some_iff.1 e
 obtain⟨vs,h1,h2,h3⟩:=Ve S R ha
 have hm:(fn.results.mapM (MV tmps)).run P w= .ok vs.toArray w:=by
  rw[Array.mapM_eq_mapM_toList]
  simp[h1]
 have hrun:(results fn tmps).run P w= .ok (if h:vs.toArray.size=1 then vs.toArray[0] else .tuple vs.toArray) w:=by
  change Sem.run P (fn.results.mapM (MV tmps)>>=λvs=>pure (if h:vs.size=1 then vs[0] else .tuple vs)) w=_
  rw[Sem.run_bind,hm]
  rfl
 rw[hrun]
 refine⟨_,rfl,?_⟩
 clear hrun hm h1
 cases az with
 |nil=>
  cases vs with
  |nil=>simp only at hr;subst hr;exact .tup [] [] rfl (by simp)
  |cons=>simp at h2
 | cons a az=>
  cases vs with
  |nil=>simp at h2
  | cons v vs=>
   cases az with
   |nil=>
    cases vs with
    |nil=>simp only at hr;subst hr;exact h3 0 a v rfl rfl
    |cons=>simp at h2
   | cons b l=>
    cases vs with
    |nil=>simp at h2
    |cons u us=>
     simp only at hr
     subst hr
     have:¬(v::u::us).toArray.size=1:=by simp
     rw[dif_neg this]
     exact .tup _ _ h2 h3
end
section
variable {P:Program} {T:Ap} {f N:Nat} {fn:Func} {c:Code} {args:List AV} {h:AH}
def Ais (P:Program) (rs:Array ResultVar) (R:AR->AH->Prop):AQ
 | .normal,s,h=> ∃r,DY P s h rs.toList=some r/\∃r',Aj true r r'/\∃n m,R (.ret r') ⟨h.objs.drop n,h.live.drop m⟩
 | .ret,s,h=> ∃r,DY P s h rs.toList=some r/\∃r',Aj true r r'/\∃n m,R (.ret r') ⟨h.objs.drop n,h.live.drop m⟩
 | .pan p,s,h=> ∃n m,R (.pan p) ⟨h.objs.drop n,h.live.drop m⟩
 | .exit _,_,_=>False
theorem Dz.enter {G:Gh} {vs:Array Value} (R:Dz G args vs) (N:Nat):Dz G (args++List.replicate (N-args.length) .undef) (vs++Array.replicate (N-vs.size) Go.undef):=by
 refine⟨by simp[R.1],λi a e=>?_⟩
 rcases Nat.lt_or_ge i args.length with hi|hi
 ·rw[List.getElem?_append_left hi] at e
  obtain⟨v,h1,h2⟩:=R.2 i a e
  grind
 ·rw[List.getElem?_append_right hi,List.getElem?_replicate] at e
  split at e
  ·rename_i hlt
   injection e with e
   refine⟨Go.undef,?_,by rw[<-e];exact .undef⟩
   rw[Array.getElem?_append_right (by rw[R.1];exact hi),Array.getElem?_replicate,R.1,if_pos hlt]
  ·cases e
theorem Dz.bnd {G:Gh} {vs:Array Value} (R:Dz G args vs):∀a∈args,a.bnd:=λa ha=>by
 obtain⟨i,hi,rfl⟩:=List.getElem_of_mem ha
 obtain⟨v,_,h2⟩:=R.2 i _ (List.getElem?_eq_getElem hi)
 exact h2.bnd
def Aat (P:Program) (rs:Array ResultVar) (r':AV):AQ
 | .normal,s,h=> ∃r,DY P s h rs.toList=some r/\Aj false r r'
 | .ret,s,h=> ∃r,DY P s h rs.toList=some r/\Aj false r r'
 |_,_,_=>False
theorem Ar.enter {r:AV} (hf:P.funcs[f]?=some fn) (hb:fn.body=some c) (hN:fn.ntmps=N)
  (H:(∀a∈args,a.bnd)->Aa P T c (Aat P fn.results r) (args++List.replicate (N-args.length) .undef) ⟨[],[]⟩):Ar P T f args r:=by
 intro F w vs hF hT Rs
 refine calls_of_wp hf hb ?_
 have S:Bl T (Qj w F) ⟨[],[]⟩ w:=⟨Below.refl _ _,hT,hF,λ_ _=>rfl,by simp,by simp,by simp,by simp,by simp,by simp⟩
 have hw:=H Rs.bnd (Qj w F) w {tmps:=vs++Array.replicate (fn.ntmps-vs.size) undef,defers:=[]} S (by rw[hN];exact Rs.enter N)
 refine wp_mono hw ?_
 rintro e a w' ⟨hd,x,s,h',G',hq,hx,hG,S',R'⟩
 have hret:(∃r',DY P s h' fn.results.toList=some r'/\Aj false r' r)->∃v,(results fn a.tmps).run P w'= .ok v w'/\(∃u F',Ending.returned v= .returned u/\Below w.heap.size w w'/\(∀b o u,F b o=some u->F' b o=some u)/\(∀b o u,F' b o=some u->F b o=some u\/w.heap.size<=b)/\
   (∀b o u,F' b o=some u->w'.cell? ⟨b,o,none⟩=some u)/\VR (Qj w F') r u):=by
  rintro⟨r',hr,hle⟩
  obtain⟨v,h1,h2⟩:=JY S' R' hr
  refine⟨v,h1,v,G'.frz,rfl,?_,hG.frz,hG.new,S'.frz,?_⟩
  ·have:=S'.below;rw[hG.base] at this;exact this
  ·have:=Aj.ok r' r v hle h2
   exact this.mono2 (G:=G'.keepT false) (G':=Qj w G'.frz) (λ_ _ _ e=>e) (λt x e=>by simp[Gh.keepT] at e)
 cases x with
 |normal=>
  cases e<;>simp only[He] at hx
  obtain⟨v,h1,h2⟩:=hret hq
  exact⟨hd,v,h1,h2⟩
 |ret=>
  cases e<;>simp only[He] at hx
  obtain⟨v,h1,h2⟩:=hret hq
  exact⟨hd,v,h1,h2⟩
 |exit i=>exact hq.elim
 |pan p=>exact hq.elim
theorem Ar.acalls {args':List AV} {r:AV} (c:Ar P T f args' r) (hle:Bj false args args'):Ao P T f args h λx h'=>x= .ret r/\h'=h/\r.bnd:=by
 intro G w vs S Rs
 have hR:Dz (Qj w G.frz) args' vs:=by
  refine⟨by rw[Rs.1];exact hle.len,λi a e=>?_⟩
  have hi:i<vs.size:=by rw[Rs.1,hle.len];exact(List.getElem?_eq_some_iff.1 e).1
  refine⟨vs[i],Array.getElem?_eq_getElem hi,?_⟩
  have:=Bj.ok (G:=G) args args' vs.toList (by simpa using Rs.1) hle (λi a v e1 e2=>by
   obtain⟨u,h1,h2⟩:=Rs.2 i a e1
   rw[Array.getElem?_toList] at e2
   rw[h1] at e2
   injection e2 with e2
   rw[<-e2];exact h2) i a vs[i] e (by rw[Array.getElem?_toList];exact Array.getElem?_eq_getElem hi)
  exact this.mono2 (G:=G.keepT false) (G':=Qj w G.frz) (λ_ _ _ e=>e) (λt x e=>by simp[Gh.keepT] at e)
 refine(c G.frz w vs S.frz S.glob hR).mono ?_
 rintro e w' ⟨v,F',rfl,hb,h1,h2,h3,hv⟩
 let G1:Gh:= {G with frz:=F' }
 have hG:B8 G G1:=⟨rfl,h1,λb o u e=>(h2 b o u e).imp_right (λhb=>Nat.le_trans S.below.size hb),λ_ _ e=>e⟩
 have hv1:VR G1 r v:=hv.mono2 (G:=Qj w F') (G':=G1) (λ_ _ _ e=>e) (λt x e=>by simp[Qj] at e)
 exact⟨.ret r,h,G1,⟨rfl,rfl,hv1.bnd⟩,hG,S.grow hb hG S.fin h2 h3,v,rfl,hv1⟩
end
end
section
open Go.RowKit
abbrev PV:=Prop×AV
def Ew:PV:=(False,.any)
def inR:IntKind->Int->Prop
 | .i64,n=> -9223372036854775808<=n/\n<=9223372036854775807
 | .u8,n=>0<=n/\n<=255
 | .i32,n=> -2147483648<=n/\n<=2147483647
 | .u32,n=>0<=n/\n<=4294967295
 |k,n=>k.wrap n=n
theorem E8 {k:IntKind} {n:Int} (h:inR k n):k.wrap n=n:=by
 cases k<;>simp only[inR] at h<;>first|exact h|exact IntWalk.i64_in n h|exact IntWalk.u8_in n h|exact IntWalk.i32_in n h|exact IntWalk.u32_in n h
def FJ (op:BinOp) (k:IntKind) (a b:Int):PV:=
 match op with
 | .add=>(inR k (a+b),.d (.int k (a+b)))
 | .sub=>(inR k (a-b),.d (.int k (a-b)))
 | .mul=>(inR k (a*b),.d (.int k (a*b)))
 | .quo=>(b≠0/\inR k (a.tdiv b),.d (.int k (a.tdiv b)))
 | .rem=>(b≠0,.d (.int k (a.tmod b)))
 | .and=>(True,.d (.int k (k.wrap (BitVec.ofInt k.bits a&&&BitVec.ofInt k.bits b).toNat)))
 | .or=>(True,.d (.int k (k.wrap (BitVec.ofInt k.bits a|||BitVec.ofInt k.bits b).toNat)))
 | .eql=>(True,.d (.bool (decide (a=b))))
 | .neq=>(True,.d (.bool (!decide (a=b))))
 | .lss=>(True,.d (.bool (decide (a<b))))
 | .leq=>(True,.d (.bool (decide (a<=b))))
 | .gtr=>(True,.d (.bool (decide (b<a))))
 | .geq=>(True,.d (.bool (decide (b<=a))))
 |_=>Ew
def Nc (op:BinOp) (k:IntKind) (a b:Int):PV:=
 match op with
 | .shl=>(0<=b/\inR k (a*2^(min b.toNat k.bits)),.d (.int k (a*2^(min b.toNat k.bits))))
 | .shr=>(0<=b,.d (.int k (a.fdiv (2^(min b.toNat k.bits)))))
 |_=>Ew
def isB (P:Program) (t:TypeId):Bool:=match P.underlying t with|some .bool=>true|_=>false
def F9 (P:Program) (t:TypeId):Bool:=match P.underlying t with|some .string=>true|_=>false
def Ly (P:Program) (t:TypeId):Bool:=match P.underlying t with|some (.interface _)=>true|_=>false
def isE (P:Program) (t:TypeId):Bool:=match P.underlying t with|some (.interface ms)=>ms.isEmpty|_=>false
def KC (P:Program) (t:TypeId):Bool:=match P.underlying t with|some (.slice _)=>true|_=>false
def Mf (P:Program) (op:BinOp) (t:TypeId):AV->AV->PV
 | .d (.int k a),.d (.int k' b)=>match op with
  | .shl=>Nc .shl k a b
  | .shr=>Nc .shr k a b
  |op=>if k=k' then FJ op k a b else Ew
 | .d (.bool a),.d (.bool b)=>match op with
  | .eql=>(isB P t=true,.d (.bool (a==b)))
  | .neq=>(isB P t=true,.d (.bool (!(a==b))))
  |_=>Ew
 | .d (.str a),.d (.str b)=>match op with
  | .add=>(a.length+b.length<=9223372036854775807,.d (.str (a++b)))
  | .eql=>(True,.d (.bool (decide (a=b))))
  | .neq=>(True,.d (.bool (!decide (a=b))))
  |_=>Ew
 | .ifc _ _,.nili=>match op with
  | .eql=>(Ly P t=true,.d (.bool false))
  | .neq=>(Ly P t=true,.d (.bool true))
  |_=>Ew
 | .nili,.nili=>match op with
  | .eql=>(isE P t=true,.d (.bool true))
  | .neq=>(isE P t=true,.d (.bool false))
  |_=>Ew
 | .nils,.nils=>match op with
  | .eql=>(KC P t=true,.d (.bool true))
  | .neq=>(KC P t=true,.d (.bool false))
  |_=>Ew
 | .nn _ _,.nils=>match op with
  | .eql=>(KC P t=true,.d (.bool false))
  | .neq=>(KC P t=true,.d (.bool true))
  |_=>Ew
 | .arr ..,.nils=>match op with
  | .eql=>(KC P t=true,.d (.bool false))
  | .neq=>(KC P t=true,.d (.bool true))
  |_=>Ew
 |_,_=>Ew
def Gt:AV->Bool×Bool
 | .d (.bool v)=>(true,v)
 | .cnd g (.d (.bool v))=>(g,v)
 |_=>(false,false)
def O8 (c a b:AV):PV:=
 ((Gt c).1=true/\((Gt c).2=true->(Gt a).1=true)/\((Gt c).2=false->(Gt b).1=true),.d (.bool (bif (Gt c).2 then(Gt a).2 else(Gt b).2)))
def RA (P:Program) (t:TypeId) (a:AV) (h:AH):PV:=
 match a,EL P t with
 | .ptr b k i o,some (r,n)=>match ldA h.objs b k i o n with
  |some cs=>(True,Fr r cs)
  |none=>Ew
 | .elt _ rows i o,some (r,n)=>(o+n<=(rows.getD i []).length,Fr r ((((rows.getD i []).drop o).take n).map .d))
 |_,_=>Ew
def Aag:AV->PV
 | .ptr b k i o=>(True,.ptr b k i o)
 | .elt k rows i o=>(True,.elt k rows i o)
 | .fn f c=>(True,.fn f c)
 |_=>Ew
def unP (op:UnOp):AV->PV
 | .d (.bool b)=>match op with
  | .not=>(True,.d (.bool (!b)))
  |_=>Ew
 | .d (.int k n)=>match op with
  | .neg=>(inR k (0-n),.d (.int k (0-n)))
  |_=>Ew
 |_=>Ew
def DS (P:Program) (t:TypeId) (f:Nat):Option (Nat×Nat×Bool):=
 match P.underlying t with
 | some (.struct fs)=>match fs[f]? with
  |some fd=>match EL P fd.type with
   |some (r,n)=>if n=0 then none else some (fd.offset,n,r)
   |none=>none
  |none=>none
 |_=>none
def BL (P:Program) (t:TypeId):Option (TypeId×Nat×Nat):=
 match P.underlying t with
 |some (.slice e)=>match P.info? e with
  |some i=>if(i.zero.map λz=>z.cells.size)=some i.size/\0<i.size then some (e,i.size,i.bytes) else none
  |none=>none
 |_=>none
def Xq (P:Program) (t:TypeId):Option (Nat×Nat×Bool):=
 match P.underlying t with
 |some (.array n e)=>match EL P e with
  |some (r,s)=>some (n,s,r)
  |none=>none
 |_=>none
def Fk (P:Program) (t:TypeId) (a:AV) (f:Nat):PV:=
 match a,DS P t f with
 | .ptr b k i o,some (off,_,_)=>(True,.ptr b k i (o+off))
 | .elt k rows i o,some (off,_,_)=>(True,.elt k rows i (o+off))
 |_,_=>Ew
def Mw (P:Program) (t:TypeId) (a:AV) (f:Nat):PV:=
 match a,DS P t f with
 | .agg l,some (off,n,r)=>(off+n<=l.length,Fr r ((l.drop off).take n))
 |_,_=>Ew
def Hq (a:AV) (i:Nat):PV:=
 match a with
 | .tup l=>(i<l.length,l.getD i .any)
 |_=>Ew
def Fl (P:Program) (t:TypeId) (a i:AV):PV:=
 match a,i with
 | .d (.slc k rows),.d (.int _ j)=>match BL P t with
  |some (_,s,_)=>(s=k/\0<=j/\j<rows.length,.elt k rows j.toNat 0)
  |none=>Ew
 | .own _ k rows,.d (.int _ j)=>match BL P t with
  |some (_,s,_)=>(s=k/\0<=j/\j<rows.length,.elt k rows j.toNat 0)
  |none=>Ew
 | .nn k rows,.d (.int _ j)=>match BL P t with
  |some (_,s,_)=>(s=k/\0<=j/\j<rows.length,.elt k rows j.toNat 0)
  |none=>Ew
 | .full k rows,.d (.int _ j)=>match BL P t with
  |some (_,s,_)=>(s=k/\0<=j/\j<rows.length,.elt k rows j.toNat 0)
  |none=>Ew
 | .arr b k n _,.d (.int _ j)=>match BL P t with
  |some (_,s,_)=>(s=k/\0<=j/\j<n,.ptr b k j.toNat 0)
  |none=>Ew
 | .lar b k rows _,.d (.int _ j)=>match BL P t with
  |some (_,s,_)=>(s=k/\j=rows.length,.ptr b k rows.length 0)
  |none=>Ew
 | .ptr b k i o,.d (.int _ j)=>match Xq P t with
  |some (n,s,_)=>(0<=j/\j<n,.ptr b k i (o+j.toNat*s))
  |none=>Ew
 | .elt k rows i o,.d (.int _ j)=>match Xq P t with
  |some (n,s,_)=>(0<=j/\j<n,.elt k rows i (o+j.toNat*s))
  |none=>Ew
 |_,_=>Ew
def M6 (P:Program) (t:TypeId) (a i:AV):PV:=
 match a,i with
 | .d (.str s),.d (.int _ j)=>(F9 P t=true/\0<=j/\j<s.length,.d (.int .u8 (s.getD j.toNat 0).toNat))
 | .agg l,.d (.int _ j)=>match Xq P t with
  |some (n,s,r)=>(0<=j/\j<n/\j.toNat*s+s<=l.length,Fr r ((l.drop (j.toNat*s)).take s))
  |none=>Ew
 |_,_=>Ew
def Zv (P:Program) (t:TypeId) (a:AV):PV:=
 match a with
 | .d (.str s)=>(F9 P t=true,.d (.int .i64 s.length))
 | .d (.slc _ rows)=>((BL P t).isSome=true,.d (.int .i64 rows.length))
 | .own _ _ rows=>((BL P t).isSome=true,.d (.int .i64 rows.length))
 | .nils=>((BL P t).isSome=true,.d (.int .i64 0))
 | .full _ rows=>((BL P t).isSome=true,.d (.int .i64 rows.length))
 | .nn _ rows=>((BL P t).isSome=true,.d (.int .i64 rows.length))
 | .arr _ _ n _=>((BL P t).isSome=true,.d (.int .i64 n))
 |_=>Ew
def ZK (a b:AV):PV:=
 match a,b with
 | .d (.int k x),.d (.int k' y)=>(k=k',.d (.int k (if y<x then y else x)))
 |_,_=>Ew
def PR (T:Ap) (G:Gh) (h:AH) (V:AV) (r:Result Next):Prop:=∃G' v w',r= .ok (.value v) w'/\B8 G G'/\Bl T G' h w'/\VR G' V v
section
variable {P:Program} {T:Ap} {G:Gh} {h:AH} {w:World} {a b c:AV} {u v x:Value}
theorem EM (S:Bl T G h w) (hv:VR G a v):PR T G h a (.ok (.value v) w):=⟨G,v,w,rfl,B8.refl G,S,hv⟩
theorem VR.int_inv {k:IntKind} {n:Int} (h:VR G (.d (.int k n)) v):v= .int k n:=by cases h with|d h=>exact h.int_inv
theorem VR.bool_inv {b:Bool} (h:VR G (.d (.bool b)) v):v= .bool b:=by cases h with|d h=>exact h.bool_inv
theorem VR.str_inv {s:List UInt8} (h:VR G (.d (.str s)) v):∃t:ByteArray,v= .string t/\t.data.toList=s/\t.size<=maxLen:=by cases h with|d h=>exact h.str_inv
theorem VR.int (k:IntKind) (n:Int):VR G (.d (.int k n)) (.int k n):= .d (.int k n)
theorem VR.bool (b:Bool):VR G (.d (.bool b)) (.bool b):= .d (.bool b)
theorem VR.str (t:ByteArray) (s:List UInt8) (e:t.data.toList=s) (h:s.length<=maxLen):VR G (.d (.str s)) (.string t):=by
 subst e
 exact .d (.str t (by rw[Array.length_toList] at h;exact h))
theorem WZ {op:BinOp} {k:IntKind} {n m:Int} (t:TypeId) (hs:(FJ op k n m).1):∃v,(binOp op t (.int k n) (.int k m)).run P w= .ok v w/\VR G (FJ op k n m).2 v:=by
 have cmp:∀(o:BinOp) (r:Bool),(binOp o t (.int k n) (.int k m)).run P w= .ok (.bool r) w->∀r',r=r'->∃v,(binOp o t (.int k n) (.int k m)).run P w= .ok v w/\VR G (.d (.bool r')) v:=λo r h r' e=>⟨_,h,by rw[e];exact VR.bool _⟩
 cases op with
 |add=>exact⟨.int k (n+m),by simp only[FJ] at hs;simp only[binOp,ne_eq,not_true_eq_false,if_false,Op.intArith,E8 hs];rfl,VR.int _ _⟩
 |sub=>exact⟨.int k (n-m),by simp only[FJ] at hs;simp only[binOp,ne_eq,not_true_eq_false,if_false,Op.intArith,E8 hs];rfl,VR.int _ _⟩
 |mul=>exact⟨.int k (n*m),by simp only[FJ] at hs;simp only[binOp,ne_eq,not_true_eq_false,if_false,Op.intArith,E8 hs];rfl,VR.int _ _⟩
 |quo=>exact⟨.int k (n.tdiv m),by simp only[FJ] at hs;simp only[binOp,ne_eq,not_true_eq_false,if_false,Op.intDiv,E8 hs.2];rw[if_neg hs.1];rfl,VR.int _ _⟩
 |rem=>exact⟨.int k (n.tmod m),by simp only[FJ] at hs;simp only[binOp,ne_eq,not_true_eq_false,if_false,Op.intDiv];rw[if_neg hs];rfl,VR.int _ _⟩
 |and=>exact⟨_,by simp only[binOp,ne_eq,not_true_eq_false,if_false,Op.intBits];rfl,VR.int _ _⟩
 |or=>exact⟨_,by simp only[binOp,ne_eq,not_true_eq_false,if_false,Op.intBits];rfl,VR.int _ _⟩
 |eql=>exact cmp .eql (n==m) (by simp only[binOp,ne_eq,not_true_eq_false,if_false,Op.intCmp];rfl) _ (Bool.eq_iff_iff.2 (by simp))
 |neq=>exact cmp .neq (n !=m) (by simp only[binOp,ne_eq,not_true_eq_false,if_false,Op.intCmp];rfl) _ (Bool.eq_iff_iff.2 (by simp))
 |lss=>exact cmp .lss (decide (n<m)) (by simp only[binOp,ne_eq,not_true_eq_false,if_false,Op.intCmp];rfl) _ rfl
 |leq=>exact cmp .leq (decide (n<=m)) (by simp only[binOp,ne_eq,not_true_eq_false,if_false,Op.intCmp];rfl) _ rfl
 |gtr=>exact cmp .gtr (decide (n>m)) (by simp only[binOp,ne_eq,not_true_eq_false,if_false,Op.intCmp];rfl) _ rfl
 |geq=>exact cmp .geq (decide (n>=m)) (by simp only[binOp,ne_eq,not_true_eq_false,if_false,Op.intCmp];rfl) _ rfl
 |_=>exact hs.elim
theorem H5 {t:TypeId} (hu:P.underlying t=some .bool) (a b:Bool):(Op.equal t (.bool a) (.bool b)).run P w= .ok (a==b) w:=by
 have:∀d,(Op.equalIn (d+1) t (.bool a) (.bool b)).run P w= .ok (a==b) w:=λd=>by
  simp only[Op.equalIn,Sem.run_bind,run_underlying hu,Result.andThen_ok]
  rfl
 exact this 9999
theorem UB {t:TypeId} (e:isB P t=true):P.underlying t=some .bool:=by
 all_goals grind[isB]
theorem Ep {t:TypeId} (e:F9 P t=true):P.underlying t=some .string:=by
 all_goals grind[F9]
theorem Bm (s:ByteArray):s.data.toList.length=s.size:=by rw[Array.length_toList];rfl
theorem Rz {t:TypeId} (e:KC P t=true):∃el,P.underlying t=some (.slice el):=by
 all_goals grind[KC]
theorem OB {t:TypeId} (e:KC P t=true):(Op.equal t (.slice none 0 0) (.slice none 0 0)).run P w= .ok true w:=by
 obtain⟨el,hu⟩:=Rz e
 have:∀d,(Op.equalIn (d+1) t (.slice none 0 0) (.slice none 0 0)).run P w= .ok true w:=λd=>by
  simp only[Op.equalIn,Sem.run_bind,run_underlying hu,Result.andThen_ok]
  rfl
 exact this 9999
theorem Ip {t:TypeId} {ad:Addr} {n c:Nat} (e:KC P t=true):(Op.equal t (.slice (some ad) n c) (.slice none 0 0)).run P w= .ok false w:=by
 obtain⟨el,hu⟩:=Rz e
 have:∀d,(Op.equalIn (d+1) t (.slice (some ad) n c) (.slice none 0 0)).run P w= .ok false w:=λd=>by
  simp only[Op.equalIn,Sem.run_bind,run_underlying hu,Result.andThen_ok]
  rfl
 exact this 9999
theorem AbA (op:BinOp) (t:TypeId) (x y:Operand) (S:Bl T G h w) (hs:(Mf P op t a b).1) (ha:VR G a u) (hb:VR G b v):
    PR T G h (Mf P op t a b).2 (((do eqGuard op t x y u v;binOp op t u v:Sem Value)>>=λz=>pure (Next.value z)).run P w):=by
  have key:∀{r:Value},eqGuard op t x y u v=(pure ():Sem Unit)->(binOp op t u v).run P w= .ok r w->VR G (Mf P op t a b).2 r->PR T G h (Mf P op t a b).2 (((do eqGuard op t x y u v;binOp op t u v:Sem Value)>>=λz=>pure (Next.value z)).run P w):=λhg hr hv=>by
    refine⟨G,_,w,?_,B8.refl G,S,hv⟩
    rw[hg,pure_bind,Sem.run_bind,hr]
    rfl
  have hgi:∀(k k':IntKind) (n m:Int),eqGuard op t x y (.int k n) (.int k' m)=(pure ():Sem Unit):=λk k' n m=>by unfold eqGuard;split<;>rfl
  have hgb:∀(n m:Bool),eqGuard op t x y (.bool n) (.bool m)=(pure ():Sem Unit):=λn m=>by unfold eqGuard;split<;>rfl
  have hgs:∀(n m:ByteArray),eqGuard op t x y (.string n) (.string m)=(pure ():Sem Unit):=λn m=>by unfold eqGuard;split<;>rfl
  unfold Mf at hs
  split at hs<;>try exact hs.elim
  · rename_i k n k' m
    have hu:=ha.int_inv
    have hv:=hb.int_inv
    subst hu hv
    split at hs
    · simp only[Nc] at hs
      obtain⟨h0,h1⟩:=hs
      refine key (r:= .int k (n*2^(min m.toNat k.bits))) (hgi ..) ?_ (VR.int _ _)
      simp only[binOp,Op.shift]
      rw[if_neg (by omega)]
      simp only[E8 h1]
      rfl
    · simp only[Nc] at hs
      refine key (r:= .int k (n.fdiv (2^(min m.toNat k.bits)))) (hgi ..) ?_ (VR.int _ _)
      simp only[binOp,Op.shift]
      rw[if_neg (by omega)]
      rfl
    · rename_i hne1 hne2
      split at hs
      · rename_i hk
        subst hk
        obtain⟨r,h1,h2⟩:=WZ (P:=P) (w:=w) (G:=G) t hs
        refine key (r:=r) (hgi ..) h1 ?_
        have:(Mf P op t (.d (.int k n)) (.d (.int k m))).2=(FJ op k n m).2:=by
          grind[Mf]
        rw[this]
        exact h2
      · exact hs.elim
  · rename_i n m
    have hu:=ha.bool_inv
    have hv:=hb.bool_inv
    subst hu hv
    split at hs<;>try exact hs.elim
    · refine key (r:= .bool (n==m)) (hgb ..) ?_ (VR.bool _)
      have e:binOp .eql t (.bool n) (.bool m)=(do pure (.bool (<-Op.equal t (.bool n) (.bool m))):Sem Value):=rfl
      rw[e,Sem.run_bind,H5 (UB hs)]
      rfl
    · refine key (r:= .bool (!(n==m))) (hgb ..) ?_ (VR.bool _)
      have e:binOp .neq t (.bool n) (.bool m)=(do pure (.bool (!(<-Op.equal t (.bool n) (.bool m)))):Sem Value):=rfl
      rw[e,Sem.run_bind,H5 (UB hs)]
      rfl
  · rename_i l m
    obtain⟨s,rfl,hs1,hs2⟩:=ha.str_inv
    obtain⟨s',rfl,hs3,hs4⟩:=hb.str_inv
    subst hs1 hs3
    split at hs<;>try exact hs.elim
    · refine key (r:= .string (s++s')) (hgs ..) ?_ ?_
      · have:¬((s.size+s'.size:Nat):Int)>IntKind.i64.max:=by
          have e1:=Bm s
          have e2:=Bm s'
          have e3:IntKind.i64.max=9223372036854775807:=by decide
          dsimp only at hs
          omega
        have e:binOp .add t (.string s) (.string s')=Op.stringOp .add s s':=rfl
        rw[e]
        simp only[Op.stringOp]
        rw[if_neg this]
        rfl
      · refine VR.str _ _ (by simp) ?_
        rw[List.length_append]
        exact hs
    · refine key (r:= .bool (s.data.toList==s'.data.toList)) (hgs ..) ?_ ?_
      · have e:binOp .eql t (.string s) (.string s')=Op.stringOp .eql s s':=rfl
        rw[e]
        simp only[Op.stringOp,ByteArray.toList_eq]
        rfl
      · rw [show(s.data.toList==s'.data.toList)=decide (s.data.toList=s'.data.toList) from Bool.eq_iff_iff.2 (by simp)]
        exact VR.bool _
    · refine key (r:= .bool (!(s.data.toList==s'.data.toList))) (hgs ..) ?_ ?_
      · have e:binOp .neq t (.string s) (.string s')=Op.stringOp .neq s s':=rfl
        rw[e]
        simp only[Op.stringOp,ByteArray.toList_eq]
        rfl
      · rw [show(s.data.toList==s'.data.toList)=decide (s.data.toList=s'.data.toList) from Bool.eq_iff_iff.2 (by simp)]
        exact VR.bool _
  · rename_i t1 v1
    cases hb
    cases ha with
    | ifc _ hx=>
      rename_i z
      have hgn:eqGuard op t x y (.iface t1 z) .nilIface=(pure ():Sem Unit):=by unfold eqGuard;split<;>rfl
      have heq:Ly P t=true->(Op.equal t (.iface t1 z) .nilIface).run P w= .ok false w:=λe=>by
        unfold Ly at e
        split at e
        · rename_i ms hu
          have:∀d,(Op.equalIn (d+1) t (.iface t1 z) .nilIface).run P w= .ok false w:=λd=>by
            simp only[Op.equalIn,Sem.run_bind,run_underlying hu,Result.andThen_ok]
            rfl
          exact this 9999
        · cases e
      split at hs<;>try exact hs.elim
      · refine key (r:= .bool false) hgn ?_ (VR.bool _)
        have e:binOp .eql t (.iface t1 z) .nilIface=(do pure (.bool (<-Op.equal t (.iface t1 z) .nilIface)):Sem Value):=rfl
        rw[e,Sem.run_bind,heq hs]
        rfl
      · refine key (r:= .bool true) hgn ?_ (VR.bool _)
        have e:binOp .neq t (.iface t1 z) .nilIface=(do pure (.bool (!(<-Op.equal t (.iface t1 z) .nilIface))):Sem Value):=rfl
        rw[e,Sem.run_bind,heq hs]
        rfl
  · cases ha
    cases hb
    have hu':isE P t=true->∃ms:Array (String×TypeId),P.underlying t=some (.interface ms)/\ms.isEmpty=true:=λe=>by
      all_goals grind[isE]
    have heq:isE P t=true->(Op.equal t .nilIface .nilIface).run P w= .ok true w:=λe=>by
      obtain⟨ms,hu,_⟩:=hu' e
      have:∀d,(Op.equalIn (d+1) t .nilIface .nilIface).run P w= .ok true w:=λd=>by
        simp only[Op.equalIn,Sem.run_bind,run_underlying hu,Result.andThen_ok]
        rfl
      exact this 9999
    have hgn:isE P t=true->(eqGuard op t x y .nilIface .nilIface).run P w= .ok () w:=λe=>by
      obtain⟨ms,hu,hm⟩:=hu' e
      have this:∀d,(Op.eqGuardIn (d+1) t .nilIface .nilIface).run P w= .ok false w:=λd=>by
        simp only[Op.eqGuardIn,Sem.run_bind,run_underlying hu,Result.andThen_ok,hm]
        rfl
      have h9:(Op.eqGuardIn Op.maxDepth t .nilIface .nilIface).run P w= .ok false w:=this 9999
      unfold eqGuard
      cases op<;>first
        |rfl
        | (simp only[Bool.not_true,Bool.false_eq_true,if_false]
           repeat' split
           all_goals first
             |rfl
             |(simp only[Sem.run_bind,h9,Result.andThen_ok];rfl))
    have fin:∀r:Value,isE P t=true->(binOp op t .nilIface .nilIface).run P w= .ok r w->VR G (Mf P op t .nili .nili).2 r->PR T G h (Mf P op t .nili .nili).2 (((do eqGuard op t x y .nilIface .nilIface;binOp op t .nilIface .nilIface:Sem Value)>>=λz=>pure (Next.value z)).run P w):=λr e h1 h2=>by
      refine⟨G,r,w,?_,B8.refl G,S,h2⟩
      simp only[Sem.run_bind,hgn e,Result.andThen_ok,h1,Sem.run_pure]
    split at hs<;>try exact hs.elim
    · refine fin (.bool true) hs ?_ (VR.bool _)
      have e:binOp .eql t .nilIface .nilIface=(do pure (.bool (<-Op.equal t .nilIface .nilIface)):Sem Value):=rfl
      rw[e,Sem.run_bind,heq hs]
      rfl
    · refine fin (.bool false) hs ?_ (VR.bool _)
      have e:binOp .neq t .nilIface .nilIface=(do pure (.bool (!(<-Op.equal t .nilIface .nilIface))):Sem Value):=rfl
      rw[e,Sem.run_bind,heq hs]
      rfl
  · cases ha
    cases hb
    have hgn:eqGuard op t x y (.slice none 0 0) (.slice none 0 0)=(pure ():Sem Unit):=by unfold eqGuard;split<;>rfl
    split at hs<;>try exact hs.elim
    · refine key (r:= .bool true) hgn ?_ (VR.bool _)
      have e:binOp .eql t (.slice none 0 0) (.slice none 0 0)=(do pure (.bool (<-Op.equal t (.slice none 0 0) (.slice none 0 0))):Sem Value):=rfl
      rw[e,Sem.run_bind,OB hs]
      rfl
    · refine key (r:= .bool false) hgn ?_ (VR.bool _)
      have e:binOp .neq t (.slice none 0 0) (.slice none 0 0)=(do pure (.bool (!(<-Op.equal t (.slice none 0 0) (.slice none 0 0)))):Sem Value):=rfl
      rw[e,Sem.run_bind,OB hs]
      rfl
  · rename_i k rows
    cases hb
    cases ha with
    | @nn _ _ ad c hd=>
    have hgn:eqGuard op t x y (.slice (some ad) rows.length c) (.slice none 0 0)=(pure ():Sem Unit):=by unfold eqGuard;split<;>rfl
    split at hs<;>try exact hs.elim
    · refine key (r:= .bool false) hgn ?_ (VR.bool _)
      have e:binOp .eql t (.slice (some ad) rows.length c) (.slice none 0 0)=(do pure (.bool (<-Op.equal t (.slice (some ad) rows.length c) (.slice none 0 0))):Sem Value):=rfl
      rw[e,Sem.run_bind,Ip hs]
      rfl
    · refine key (r:= .bool true) hgn ?_ (VR.bool _)
      have e:binOp .neq t (.slice (some ad) rows.length c) (.slice none 0 0)=(do pure (.bool (!(<-Op.equal t (.slice (some ad) rows.length c) (.slice none 0 0)))):Sem Value):=rfl
      rw[e,Sem.run_bind,Ip hs]
      rfl
  · rename_i b1 k1 n1 c1
    cases ha
    cases hb
    have hgn:eqGuard op t x y (.slice (some ⟨b1,0,none⟩) n1 c1) (.slice none 0 0)=(pure ():Sem Unit):=by unfold eqGuard;split<;>rfl
    split at hs<;>try exact hs.elim
    · refine key (r:= .bool false) hgn ?_ (VR.bool _)
      have e:binOp .eql t (.slice (some ⟨b1,0,none⟩) n1 c1) (.slice none 0 0)=(do pure (.bool (<-Op.equal t (.slice (some ⟨b1,0,none⟩) n1 c1) (.slice none 0 0))):Sem Value):=rfl
      rw[e,Sem.run_bind,Ip hs]
      rfl
    · refine key (r:= .bool true) hgn ?_ (VR.bool _)
      have e:binOp .neq t (.slice (some ⟨b1,0,none⟩) n1 c1) (.slice none 0 0)=(do pure (.bool (!(<-Op.equal t (.slice (some ⟨b1,0,none⟩) n1 c1) (.slice none 0 0)))):Sem Value):=rfl
      rw[e,Sem.run_bind,Ip hs]
      rfl
theorem MR (h1:(Gt a).1=true) (hv:VR G a v):v= .bool (Gt a).2:=by
 unfold Gt at h1⊢
 split at h1
 ·exact hv.bool_inv
 ·dsimp only at h1
  subst h1
  cases hv with
  |cndT h=>exact h.bool_inv
 ·cases h1
theorem Aaq (S:Bl T G h w) (hs:(O8 a b c).1) (ha:VR G a u) (hb:VR G b v) (hc:VR G c x):
  PR T G h (O8 a b c).2 ((do pure (Next.value (if<-asBool u then v else x)):Sem Next).run P w):=by
 obtain⟨h1,h2,h3⟩:=hs
 rw[MR h1 ha]
 simp only[asBool,pure_bind,O8]
 cases hq:(Gt a).2 with
 |true=>
  rw[MR (h2 hq) hb]
  exact EM S (VR.bool _)
 |false=>
  rw[MR (h3 hq) hc]
  exact EM S (VR.bool _)
theorem Acw (S:Bl T G h w) (hs:(Aag a).1) (ha:VR G a u) {o:Oper} {ρ:Operand->Value} {y:Operand} (ho:o.op= .nilCheck y) (hy:ρ y=u):PR T G h (Aag a).2 ((execOp ρ o).run P w):=by
 unfold execOp
 simp only[ho,hy]
 cases a<;>simp only[Aag,Ew] at hs⊢
 ·cases ha;exact EM S (.ptr ..)
 ·have ha':=ha
  cases ha with|elt _ _ _ _ b off val r hr hf hv=>exact EM S ha'
 ·have ha':=ha
  cases ha with|fn _ _ vs hl h=>exact EM S ha'
theorem AfU (op:UnOp) (S:Bl T G h w) (hs:(unP op a).1) (ha:VR G a u):PR T G h (unP op a).2 ((Op.unary op u>>=λz=>pure (Next.value z)).run P w):=by
 unfold unP at hs⊢
 split at hs<;>try exact hs.elim
 ·rw[ha.bool_inv]
  split at hs<;>try exact hs.elim
  exact EM S (VR.bool _)
 ·rw[ha.int_inv]
  split at hs<;>try exact hs.elim
  refine⟨G,_,w,?_,B8.refl G,S,VR.int _ _⟩
  simp[Op.unary,Op.intArith,E8 hs]
  simpa using E8 hs
theorem Rj {i:Nat} (S:Bl T G h w) (hs:(Hq a i).1) (ha:VR G a u):PR T G h (Hq a i).2 ((Instr.extract u i>>=λz=>pure (Next.value z)).run P w):=by
 unfold Hq at hs⊢
 split at hs<;>try exact hs.elim
 rename_i l
 cases ha with
 |tup _ vs hl hc=>
  have hi:i<vs.length:=by rw[hl];exact hs
  have h1:l[i]?=some (l[i]'hs):=List.getElem?_eq_getElem hs
  have h2:vs[i]?=some (vs[i]'hi):=List.getElem?_eq_getElem hi
  refine⟨G,vs[i],w,?_,B8.refl G,S,?_⟩
  ·simp[Instr.extract,h2]
  ·grind
theorem P0 {t f off n:Nat} {r:Bool} (e:DS P t f=some (off,n,r)):∃fs fd,P.underlying t=some (.struct fs)/\fs[f]?=some fd/\fd.offset=off/\EL P fd.type=some (r,n)/\n≠0:=by
 all_goals grind[DS]
theorem H6 {t:TypeId} {f:Field} {n:Nat} {r:Bool} (ht:EL P f.type=some (r,n)) (hn:n≠0) (ad:Addr):(fieldPlace ad f).run P w= .ok (ad.add f.offset) w:=by
 obtain⟨d,i,hu,hi,_,hs,_⟩:=D3 ht
 simp[fieldPlace,AS hi,hs,hn]
theorem Fd (b o n:Nat):(⟨b,o,none⟩:Addr).add n=⟨b,o+n,none⟩:=Addr.add_mid b o n
theorem N2 {t f:Nat} (S:Bl T G h w) (hs:(Fk P t a f).1) (ha:VR G a u):PR T G h (Fk P t a f).2 ((Instr.fieldAt t u f>>=λz=>pure (Next.value z)).run P w):=by
 unfold Fk at hs⊢
 split at hs<;>try exact hs.elim
 ·rename_i b k i o off n r hf
  obtain⟨fs,fd,hu,hfd,rfl,ht,hn⟩:=P0 hf
  cases ha
  refine⟨G,.pointer (some ⟨b,i*k+(o+fd.offset),none⟩),w,?_,B8.refl G,S,.ptr ..⟩
  simp[Instr.fieldAt,run_underlying hu,hfd,Instr.sureAddr,H6 (w:=w) (t:=t) ht hn,Fd,Nat.add_assoc]
 ·rename_i k rows i o off n r hf
  obtain⟨fs,fd,hu,hfd,rfl,ht,hn⟩:=P0 hf
  cases ha with
  |elt _ _ _ _ b off val r hr hf hv=>
   refine⟨G,.pointer (some ⟨b,off+(o+fd.offset),none⟩),w,?_,B8.refl G,S,.elt k rows i _ b off val r hr hf hv⟩
   simp[Instr.fieldAt,run_underlying hu,hfd,Instr.sureAddr,H6 (w:=w) (t:=t) ht hn,Fd,Nat.add_assoc]
theorem Kd {t n off:Nat} {r:Bool} (ht:EL P t=some (r,n)) (vs:List Value) (hl:off+n<=vs.length):(part t vs.toArray off).run P w= .ok (Cg r ((vs.drop off).take n)) w:=by
 obtain⟨d,i,hu,hi,hr,hs,h1⟩:=D3 ht
 unfold part
 rw[Sem.run_bind,OC hu,Result.andThen_ok,hr]
 cases r with
 |true=>
  simp only[if_true,Sem.run_bind,AS hi,Result.andThen_ok,Sem.run_pure,hs,Cg]
  grind
 |false=>
  have h1:=h1 rfl
  subst h1
  have hlt:off<vs.length:=by omega
  simp only[Bool.false_eq_true,if_false,Cg]
  rw[List.getElem?_toArray,List.getElem?_eq_getElem hlt]
  simp only[Sem.run_pure]
  congr 1
  rw[List.drop_eq_getElem_cons hlt]
  rfl
theorem G6 {l:List AV} {vs:List Value} {off n:Nat} (hl:vs.length=l.length) (hc:∀(i:Nat) (a:AV) (v:Value),l[i]?=some a->vs[i]?=some v->VR G a v):
  ∀(j:Nat) (a:AV) (v:Value),((l.drop off).take n)[j]?=some a->((vs.drop off).take n)[j]?=some v->VR G a v:=λj a v h1 h2=>by
 rw[List.getElem?_take] at h1 h2
 split at h1
 ·rename_i hj
  rw[if_pos hj] at h2
  rw[List.getElem?_drop] at h1 h2
  exact hc _ _ _ h1 h2
 ·cases h1
theorem WC {t f:Nat} (S:Bl T G h w) (hs:(Mw P t a f).1) (ha:VR G a u):PR T G h (Mw P t a f).2 ((Instr.field t u f>>=λz=>pure (Next.value z)).run P w):=by
 unfold Mw at hs⊢
 split at hs<;>try exact hs.elim
 rename_i l off n r hf
 obtain⟨fs,fd,hu,hfd,rfl,ht,hn⟩:=P0 hf
 obtain⟨_,_,_,_,_,_,hr1⟩:=D3 ht
 dsimp only at hs
 cases ha with
 |agg _ vs hl hc=>
  refine⟨G,Cg r ((vs.drop fd.offset).take n),w,?_,B8.refl G,S,EA (n:=n) (by simp;omega) (by simp;omega) hr1 (G6 hl hc)⟩
  have hp:=Kd (P:=P) (w:=w) ht vs (off:=fd.offset) (by omega)
  simp[Instr.field,run_underlying hu,hfd,asAgg,hp]
theorem Ch {t e s y:Nat} (hh:BL P t=some (e,s,y)):∃i,P.underlying t=some (.slice e)/\P.info? e=some i/\i.size=s/\i.bytes=y/\(i.zero.map λz=>z.cells.size)=some s/\0<s:=by
 all_goals grind[BL]
theorem Pk {t n s:Nat} {r:Bool} (hh:Xq P t=some (n,s,r)):∃e,P.underlying t=some (.array n e)/\EL P e=some (r,s):=by
 all_goals grind[Xq]
theorem Cb {t e s y:Nat} (hh:BL P t=some (e,s,y)) (b o n c:Nat) (k:IntKind) (j:Int) (h0:0<=j) (h1:j<n):
  (Instr.indexAt t (.slice (some ⟨b,o,none⟩) n c) (.int k j)).run P w= .ok (.pointer (some ⟨b,o+j.toNat*s,none⟩)) w:=by
 obtain⟨i,hu,hi,hs,_⟩:=Ch hh
 simp[Instr.indexAt,asIntOf,run_underlying hu,h0,h1,AS hi,hs,Fd]
theorem FC {t n s:Nat} {r:Bool} (hh:Xq P t=some (n,s,r)) (b o:Nat) (k:IntKind) (j:Int) (h0:0<=j) (h1:j<n):
  (Instr.indexAt t (.pointer (some ⟨b,o,none⟩)) (.int k j)).run P w= .ok (.pointer (some ⟨b,o+j.toNat*s,none⟩)) w:=by
 obtain⟨e,hu,ht⟩:=Pk hh
 obtain⟨_,i,_,hi,_,hs,_⟩:=D3 ht
 simp[Instr.indexAt,asIntOf,run_underlying hu,Instr.sureAddr,h0,h1,AS hi,hs,Fd]
theorem G9 {F:Js} {k:Nat} {rows:List (List D)} (hd:VD G.frz (.slc k rows) v) (hj:0<rows.length):∃b off c,v= .slice (some ⟨b,off,none⟩) rows.length c/\∀i,i<rows.length->VR G (.elt k rows i 0) (.pointer (some ⟨b,off+i*k,none⟩)):=by
 obtain⟨A,c,rfl,_,_,_,hk,hx⟩:=hd.slc_inv
 obtain⟨b,off,val,rfl,hv⟩:=hx hj
 refine⟨b,off,c,rfl,λi hi=>?_⟩
 have hr:rows[i]?=some rows[i]:=List.getElem?_eq_getElem hi
 have:=VR.elt (G:=G) k rows i 0 b (off+i*k) (λj=>val i j) rows[i] hr (λj x hx=>by rw[Nat.add_assoc];exact(hv i _ j x hr hx).1) (λj x hx=>(hv i _ j x hr hx).2)
 simpa using this
theorem N6 {t:Nat} (S:Bl T G h w) (hs:(Fl P t a b).1) (ha:VR G a u) (hb:VR G b v):PR T G h (Fl P t a b).2 ((Instr.indexAt t u v>>=λz=>pure (Next.value z)).run P w):=by
 unfold Fl at hs⊢
 split at hs<;>try exact hs.elim
 ·rename_i k rows kk j
  rw[hb.int_inv]
  split at hs<;>try exact hs.elim
  rename_i e s y he
  obtain⟨rfl,h0,h1⟩:=hs
  cases ha with
  |d hd=>
   obtain⟨b,off,c,rfl,hx⟩:=G9 (F:=G.frz) hd (by omega)
   refine⟨G,_,w,?_,B8.refl G,S,hx j.toNat (by omega)⟩
   simp[Cb (w:=w) he b off rows.length c kk j h0 h1]
 ·rename_i t' k rows kk j
  rw[hb.int_inv]
  split at hs<;>try exact hs.elim
  rename_i e s y he
  obtain⟨rfl,h0,h1⟩:=hs
  cases ha with
  |own hd _=>
   obtain⟨b,off,c,rfl,hx⟩:=G9 (F:=G.frz) hd (by omega)
   refine⟨G,_,w,?_,B8.refl G,S,hx j.toNat (by omega)⟩
   simp[Cb (w:=w) he b off rows.length c kk j h0 h1]
 ·rename_i k rows kk j
  rw[hb.int_inv]
  split at hs<;>try exact hs.elim
  rename_i e s y he
  obtain⟨rfl,h0,h1⟩:=hs
  cases ha with
  |nn hd=>
   obtain⟨b,off,c,ee,hx⟩:=G9 (F:=G.frz) hd (by omega)
   rw[ee]
   refine⟨G,_,w,?_,B8.refl G,S,hx j.toNat (by omega)⟩
   simp[Cb (w:=w) he b off rows.length c kk j h0 h1]
 ·rename_i k rows kk j
  rw[hb.int_inv]
  split at hs<;>try exact hs.elim
  rename_i e s y he
  obtain⟨rfl,h0,h1⟩:=hs
  cases ha with
  |full hd=>
   obtain⟨b,off,c,ee,hx⟩:=G9 (F:=G.frz) hd (by omega)
   rw[ee]
   refine⟨G,_,w,?_,B8.refl G,S,hx j.toNat (by omega)⟩
   simp[Cb (w:=w) he b off rows.length c kk j h0 h1]
 ·rename_i b' k n c kk j
  rw[hb.int_inv]
  split at hs<;>try exact hs.elim
  rename_i e s y he
  obtain⟨rfl,h0,h1⟩:=hs
  cases ha
  refine⟨G,.pointer (some ⟨b',j.toNat*s+0,none⟩),w,?_,B8.refl G,S,.ptr ..⟩
  simp[Cb (w:=w) he b' 0 n c kk j h0 h1]
 ·rename_i b' k rows c kk j
  rw[hb.int_inv]
  split at hs<;>try exact hs.elim
  rename_i e s y he
  obtain⟨rfl,h0⟩:=hs
  cases ha
  refine⟨G,.pointer (some ⟨b',rows.length*s+0,none⟩),w,?_,B8.refl G,S,.ptr ..⟩
  subst h0
  have hrun:=Cb (w:=w) he b' 0 (rows.length+1) c kk (rows.length:Int) (by omega) (by omega)
  rw[Sem.run_bind,hrun]
  simp
 ·rename_i b' k i o kk j
  rw[hb.int_inv]
  split at hs<;>try exact hs.elim
  rename_i n s r he
  obtain⟨h0,h1⟩:=hs
  cases ha
  refine⟨G,.pointer (some ⟨b',i*k+(o+j.toNat*s),none⟩),w,?_,B8.refl G,S,.ptr ..⟩
  simp[FC (w:=w) he b' _ kk j h0 h1,Nat.add_assoc]
 ·rename_i k rows i o kk j
  rw[hb.int_inv]
  split at hs<;>try exact hs.elim
  rename_i n s r he
  obtain⟨h0,h1⟩:=hs
  cases ha with
  |elt _ _ _ _ b off val r hr hf hv=>
   refine⟨G,.pointer (some ⟨b,off+(o+j.toNat*s),none⟩),w,?_,B8.refl G,S,.elt k rows i _ b off val r hr hf hv⟩
   simp[FC (w:=w) he b _ kk j h0 h1,Nat.add_assoc]
theorem WI {t:Nat} (S:Bl T G h w) (hs:(M6 P t a b).1) (ha:VR G a u) (hb:VR G b v):PR T G h (M6 P t a b).2 ((Instr.index t u v>>=λz=>pure (Next.value z)).run P w):=by
 unfold M6 at hs⊢
 split at hs<;>try exact hs.elim
 ·rename_i s kk j
  obtain⟨h0,h1,h2⟩:=hs
  rw[hb.int_inv]
  obtain⟨t',rfl,hs1,hs2⟩:=ha.str_inv
  have hu:=Ep h0
  subst hs1
  have hlt:j.toNat<t'.size:=by
   have:t'.data.toList.length=t'.size:=by rw[Array.length_toList];rfl
   omega
  refine⟨G,.int .u8 (t'.data.toList.getD j.toNat 0).toNat,w,?_,B8.refl G,S,VR.int _ _⟩
  have hg:t'[j.toNat]?=some (t'.data.toList.getD j.toNat 0):=by
   rw[ByteArray.getElem?_lt' t' _ hlt]
   congr 1
   have:j.toNat<t'.data.toList.length:=by rw[Array.length_toList];exact hlt
   simp only[List.getD,List.getElem?_eq_getElem this,Option.getD_some]
   rfl
  simp[Instr.index,asIntOf,run_underlying hu,h1,hg]
 ·rename_i l kk j
  rw[hb.int_inv]
  split at hs<;>try exact hs.elim
  rename_i n s r he
  obtain⟨h0,h1,h2⟩:=hs
  obtain⟨e,hu,ht⟩:=Pk he
  obtain⟨_,i,_,hi,_,hsz,hr1⟩:=D3 ht
  cases ha with
  |agg _ vs hl hc=>
   refine⟨G,Cg r ((vs.drop (j.toNat*s)).take s),w,?_,B8.refl G,S,EA (n:=s) (by simp;omega) (by simp;omega) hr1 (G6 hl hc)⟩
   have hp:=Kd (P:=P) (w:=w) ht vs (off:=j.toNat*s) (by omega)
   simp[Instr.index,asIntOf,run_underlying hu,h0,h1,AS hi,hsz,hp]
theorem Z2 {t:Nat} (S:Bl T G h w) (hs:(RA P t a h).1) (ha:VR G a u):PR T G h (RA P t a h).2 ((Instr.loadAt t u>>=λz=>pure (Next.value z)).run P w):=by
 unfold RA at hs⊢
 split at hs<;>try exact hs.elim
 ·rename_i b k i o r n ht
  split at hs<;>try exact hs.elim
  rename_i cs hc
  cases ha
  obtain⟨vs,h1,h2,h3,_,h4⟩:=Zu S hc
  obtain⟨_,_,_,_,_,_,hr1⟩:=D3 ht
  refine⟨G,Cg r vs,w,?_,B8.refl G,S,EA h2 h3 hr1 h4⟩
  simp[H7 ht h2 h1]
 ·rename_i k rows i o r n ht
  obtain⟨_,_,_,_,_,_,hr1⟩:=D3 ht
  cases ha with
  | elt _ _ _ _ b off val row hr hf hv=>
   have hg:rows.getD i []=row:=by simp[List.getD,hr]
   rw[hg] at hs⊢
   dsimp only at hs
   refine⟨G,Cg r ((List.range n).map λj=>val (o+j)),w,?_,B8.refl G,S,EA (n:=n) (by simp) (by simp;omega) hr1 (λj a v h1 h2=>?_)⟩
   ·have hra:w.rangeAt b (off+o) ((List.range n).map λj=>val (o+j)):=λj v hv'=>by
     rw[List.getElem?_map] at hv'
     rcases Nat.lt_or_ge j n with hj|hj
     ·rw[List.getElem?_range hj,Option.map_some] at hv'
      injection hv' with hv'
      rw[Nat.add_assoc,<-hv']
      exact S.frz _ _ _ (hf (o+j) _ (List.getElem?_eq_getElem (by omega)))
     ·rw[List.getElem?_eq_none (by simpa using hj)] at hv';cases hv'
    simp[H7 ht (by simp) hra]
   ·have hj:j<n:=by
     grind
    rw[List.getElem?_map,List.getElem?_take_of_lt hj,List.getElem?_drop] at h1
    rw[List.getElem?_map,List.getElem?_range hj,Option.map_some] at h2
    injection h2 with h2
    obtain⟨x,hx,rfl⟩:=Option.map_eq_some_iff.1 h1
    rw[<-h2]
    exact .d (hv _ _ hx)
end
end
section
open Go.RowKit
def Me (P:Program) (t:TypeId):Option (List AV×List (Nat×Nat)):=
 match (P.info? t).bind (·.zero),P.underlying t with
 |some z,some (.struct fs)=>match fs.toList.mapM (λf=>(P.info? f.type).map λi=>(f.offset,i.size)) with
  |some pl=>some (z.cells.toList.map ofV,pl)
  |none=>none
 |some z,some (.array n e)=>match P.info? e with
  |some i=>some (z.cells.toList.map ofV,(List.range n).map λj=>(j*i.size,i.size))
  |none=>none
 |_,_=>none
def AV.cells:AV->List AV
 | .agg l=>l
 |a=>[a]
def AV.plain:AV->Bool
 | .agg l=>l.all AV.one
 |a=>a.one
def Oc (pl:List (Nat×Nat)) (cs:List AV):List (Nat×AV)->Option (List AV)
 |[]=>some cs
 |(i,a)::r=>match pl[i]? with
  |some (off,n)=>if a.plain=true/\a.cells.length=n/\off+n<=cs.length then Oc pl (cs.take off++(a.cells++cs.drop (off+n))) r else none
  |none=>none
def Mh (P:Program) (t:TypeId) (ps:List (Nat×AV)):PV:=
 match Me P t with
 |some (z,pl)=>match Oc pl z ps with
  |some cs=>(True,.agg cs)
  |none=>Ew
 |none=>Ew
def toD:AV->Option D
 | .d x=>some x
 | .own _ k rows=>some (.slc k rows)
 | .nils=>some (.slc 0 [])
 | .full k rows=>some (.slc k rows)
 | .nn k rows=>some (.slc k rows)
 |_=>none
def Sq:List AV->Option (List D)
 |[]=>some []
 |a::r=>match toD a,Sq r with
  |some x,some l=>some (x::l)
  |_,_=>none
def Jb (k:Nat):Nat->List (Nat×AV)->Option (List (List D))
 |_,[]=>some []
 |i,(j,a)::r=>if j=i/\a.cells.length=k then(match Sq a.cells,Jb k (i+1) r with
  |some x,some l=>some (x::l)
  |_,_=>none) else none
def E4 (P:Program) (t:TypeId) (len:Nat) (ps:List (Nat×AV)):PV:=
 match BL P t with
 |some (_,k,_)=>match Jb k 0 ps with
  |some rows=>(ps.length=len/\len*k<=16777216,.d (.slc k rows))
  |none=>Ew
 |none=>Ew
def WW:Option AV->Option (Option Int)
 |none=>some none
 |some (.d (.int _ n))=>some (some n)
 |_=>none
def Ny (k:Nat) (rows:List (List D)) (lo hi mx:Option Int):PV:=
 match mx with
 |none=>(0<=lo.getD 0/\lo.getD 0<=hi.getD rows.length/\hi.getD rows.length<=rows.length,.d (.slc k ((rows.take (hi.getD rows.length).toNat).drop (lo.getD 0).toNat)))
 |some m=>(hi.isSome=true/\0<=lo.getD 0/\lo.getD 0<=hi.getD 0/\hi.getD 0<=m/\m<=rows.length,if hi=some m then .full k ((rows.take (hi.getD 0).toNat).drop (lo.getD 0).toNat) else .d (.slc k ((rows.take (hi.getD 0).toNat).drop (lo.getD 0).toNat)))
def Nf (P:Program) (t:TypeId) (a:AV) (lo hi mx:Option AV):PV:=
 match WW lo,WW hi,WW mx with
 | some lo,some hi,some mx=>match a with
  | .d (.str s)=>(F9 P t=true/\mx=none/\0<=lo.getD 0/\lo.getD 0<=hi.getD s.length/\hi.getD s.length<=s.length,.d (.str ((s.take (hi.getD s.length).toNat).drop (lo.getD 0).toNat)))
  | .d (.slc k rows)=>match BL P t with
   |some (_,s,_)=>((s=k\/rows=[])/\(Ny k rows lo hi mx).1,(Ny k rows lo hi mx).2)
   |none=>Ew
  | .own _ k rows=>match BL P t with
   |some (_,s,_)=>((s=k\/rows=[])/\(Ny k rows lo hi mx).1,(Ny k rows lo hi mx).2)
   |none=>Ew
  | .full k rows=>match BL P t with
   |some (_,s,_)=>((s=k\/rows=[])/\(Ny k rows lo hi mx).1,(Ny k rows lo hi mx).2)
   |none=>Ew
  | .elt k rows i o=>match Xq P t with
   |some (n,s,r)=>(lo=none/\hi=none/\mx=none/\o=0/\s=1/\n=(rows.getD i []).length/\0<n/\n<=1000,.d (.slc 1 ((rows.getD i []).map λx=>[x])))
   |none=>Ew
  |_=>Ew
 |_,_,_=>Ew
def Hv (P:Program) (t:TypeId):Option IntKind:=match P.underlying t with|some (.int k)=>some k|_=>none
def Du (s:List UInt8):List (List D):=s.map λc=>[.int .u8 c.toNat]
def Yo:List D->Option UInt8
 |[.int .u8 n]=>if 0<=n/\n<=255 then some (UInt8.ofNat n.toNat) else none
 |_=>none
def F0:List (List D)->Option (List UInt8)
 |[]=>some []
 |r::l=>match Yo r,F0 l with
  |some c,some s=>some (c::s)
  |_,_=>none
def F8 (P:Program) (t:TypeId):Bool:=
 match BL P t with
 |some (e,s,_)=>Hv P e==some .u8&&s==1
 |none=>false
def NW (P:Program) (s d:TypeId) (a:AV):PV:=
 match a with
 | .d (.int _ n)=>match Hv P d with
  |some k=>(True,.d (.int k (k.wrap n)))
  |none=>Ew
 | .d (.str l)=>if F9 P s=true/\F9 P d=true then(True,.d (.str l)) else(F9 P s=true/\F8 P d=true,.d (.slc 1 (Du l)))
 | .d (.slc k rows)=>match F0 rows with
  |some l=>(F8 P s=true/\F9 P d=true/\(k=1\/rows=[]),.d (.str l))
  |none=>Ew
 | .own _ k rows=>match F0 rows with
  |some l=>(F8 P s=true/\F9 P d=true/\(k=1\/rows=[]),.d (.str l))
  |none=>Ew
 | .nils=>(F8 P s=true/\F9 P d=true,.d (.str []))
 | .full k rows=>match F0 rows with
  |some l=>(F8 P s=true/\F9 P d=true/\(k=1\/rows=[]),.d (.str l))
  |none=>Ew
 |_=>Ew
def PB (P:Program) (t:TypeId) (a:AV):PV:=((P.underlying t).isSome=true/\Ly P t=false,.ifc t a)
section
variable {P:Program} {T:Ap} {G:Gh} {h:AH} {w:World} {a b c:AV} {u v x:Value}
theorem WH {t:Nat} (S:Bl T G h w) (hs:(PB P t a).1) (ha:VR G a u):PR T G h (PB P t a).2 ((Instr.makeInterface t u>>=λz=>pure (Next.value z)).run P w):=by
 obtain⟨h1,h2⟩:=hs
 obtain⟨d,hd⟩:=Option.isSome_iff_exists.1 h1
 refine⟨G,.iface t u,w,?_,B8.refl G,S,.ifc t ha⟩
 unfold Ly at h2
 rw[hd] at h2
 simp only[Instr.makeInterface,Sem.run_bind,run_underlying hd,Result.andThen_ok]
 cases d<;>first|rfl|cases h2
def C3 (G:Gh) (cs:List AV) (vs:List Value):Prop:=vs.length=cs.length/\∀(i:Nat) (a:AV) (v:Value),cs[i]?=some a->vs[i]?=some v->VR G a v
theorem VR.cells (hp:a.plain=true) (ha:VR G a v):C3 G a.cells v.cells.toList:=by
 cases ha with
 |agg l vs hl hc=>exact⟨hl,hc⟩
 |tup|cndT|cndF|undef|any=>simp[AV.plain,AV.one] at hp
 | d hd=>
  rename_i x
  have hone:=hd.one
  have hc:v.cells= #[v]:=by cases v<;>first|rfl|(simp[Value.oneCell'] at hone)
  exact⟨by rw[hc];rfl,λi a u h1 h2=>by
   rw[hc] at h2
   cases i with
   |zero=>
    simp[AV.cells] at h1 h2
    obtain rfl:=h1
    obtain rfl:=h2
    exact .d hd
   |succ i=>simp[AV.cells] at h1⟩
 | own hd ht=>exact⟨by cases hd<;>rfl,λi a v h1 h2=>by
   cases hd<;>(cases i<;>simp[AV.cells,Value.cells] at h1 h2<;>(obtain rfl:=h1;obtain rfl:=h2;first|exact .own (.slc0 _ _ _ (by assumption) (by assumption)) ht|exact .own (.slc _ _ _ _ _ _ (by assumption) (by assumption) (by assumption) (by assumption) (by assumption) (by assumption)) ht))⟩
 | elt k rows i o b off val r hr hf hv=>exact⟨rfl,λi a v h1 h2=>by
   cases i<;>simp[AV.cells,Value.cells] at h1 h2
   obtain rfl:=h1;obtain rfl:=h2
   exact .elt _ _ _ _ b off val r hr hf hv⟩
 | fn f cap vs hl hc=>exact⟨rfl,λi a v h1 h2=>by
   cases i<;>simp[AV.cells,Value.cells] at h1 h2
   obtain rfl:=h1;obtain rfl:=h2
   exact .fn f cap vs hl hc⟩
 | ifc t hh=>exact⟨rfl,λi a v h1 h2=>by
   cases i<;>simp[AV.cells,Value.cells] at h1 h2
   obtain rfl:=h1;obtain rfl:=h2
   exact .ifc t hh⟩
 | nn hd=>exact⟨rfl,λi a v h1 h2=>by
   cases i<;>simp[AV.cells,Value.cells] at h1 h2
   obtain rfl:=h1;obtain rfl:=h2
   exact .nn hd⟩
 | full hd=>exact⟨rfl,λi a v h1 h2=>by
   cases i<;>simp[AV.cells,Value.cells] at h1 h2
   obtain rfl:=h1;obtain rfl:=h2
   exact .full hd⟩
 |nils=>exact⟨rfl,λi a v h1 h2=>by cases i<;>simp[AV.cells,Value.cells] at h1 h2;obtain rfl:=h1;obtain rfl:=h2;exact .nils⟩
 |ptr=>exact⟨rfl,λi a v h1 h2=>by cases i<;>simp[AV.cells,Value.cells] at h1 h2;obtain rfl:=h1;obtain rfl:=h2;exact .ptr ..⟩
 |arr=>exact⟨rfl,λi a v h1 h2=>by cases i<;>simp[AV.cells,Value.cells] at h1 h2;obtain rfl:=h1;obtain rfl:=h2;exact .arr ..⟩
 |lar g1 g2=>exact⟨rfl,λi a v h1 h2=>by cases i<;>simp[AV.cells,Value.cells] at h1 h2;obtain rfl:=h1;obtain rfl:=h2;exact .lar g1 g2⟩
 |mp ht=>exact⟨rfl,λi a v h1 h2=>by cases i<;>simp[AV.cells,Value.cells] at h1 h2;obtain rfl:=h1;obtain rfl:=h2;exact .mp ht⟩
 |nilf=>exact⟨rfl,λi a v h1 h2=>by cases i<;>simp[AV.cells,Value.cells] at h1 h2;obtain rfl:=h1;obtain rfl:=h2;exact .nilf⟩
 |nilp=>exact⟨rfl,λi a v h1 h2=>by cases i<;>simp[AV.cells,Value.cells] at h1 h2;obtain rfl:=h1;obtain rfl:=h2;exact .nilp⟩
 |nili=>exact⟨rfl,λi a v h1 h2=>by cases i<;>simp[AV.cells,Value.cells] at h1 h2;obtain rfl:=h1;obtain rfl:=h2;exact .nili⟩
theorem ND {α:Type} (l:List α) (i:Nat) (c:α) (h:i<l.length):(l.set i c).take (i+1)=l.take i++[c]:=by
 rw[List.take_add_one,List.getElem?_set_self h,List.take_set_of_le (Nat.le_refl _)]
 rfl
theorem KA (new:List Value):∀(k off:Nat) (cs:Array Value),off+k+new.length<=cs.size->
  ((new.zipIdx k).foldl (λcs (c,j)=>cs.setIfInBounds (off+j) c) cs).toList=cs.toList.take (off+k)++(new++cs.toList.drop (off+k+new.length)):=by
 induction new with
 |nil=>intro k off cs _;simp
 |cons c new ih=>
  intro k off cs hl
  simp only[List.length_cons] at hl
  rw[List.zipIdx_cons,List.foldl_cons,ih (k+1) off _ (by simp;omega)]
  simp only[Array.toList_setIfInBounds]
  have h1:off+(k+1)=off+k+1:=by omega
  have hlt:off+k<cs.toList.length:=by rw[Array.length_toList];omega
  rw[h1,ND _ _ _ hlt,List.drop_set_of_lt (by omega),List.append_assoc]
  have h2:off+k+(c::new).length=off+k+1+new.length:=by simp only[List.length_cons];omega
  rw[h2]
  rfl
theorem C3.fill {cs ns:List AV} {vs us:List Value} {off:Nat} (h1:C3 G cs vs) (h2:C3 G ns us) (hl:off+ns.length<=cs.length):C3 G (cs.take off++(ns++cs.drop (off+ns.length))) (vs.take off++(us++vs.drop (off+us.length))):=by
 obtain⟨e1,r1⟩:=h1
 obtain⟨e2,r2⟩:=h2
 refine⟨by simp;omega,λi a v ha hv=>?_⟩
 all_goals grind
theorem Mx {pl:List (Nat×Nat)} {place:Nat->Option (Nat×Nat)} (hpl:∀i x,pl[i]?=some x->place i=some x):
  ∀(ps:List (Nat×AV)) (qs:List (Nat×Value)) (cs:List AV) (vs:Array Value) (cs':List AV),C3 G cs vs.toList->qs.length=ps.length->(∀(i:Nat) (p:Nat×AV) (q:Nat×Value),ps[i]?=some p->qs[i]?=some q->p.1=q.1/\VR G p.2 q.2)->
   Oc pl cs ps=some cs'->∃vs',Instr.fill place vs qs=some vs'/\C3 G cs' vs'.toList
 |[],[],cs,vs,cs',hc,_,_,e=>by simp[Oc] at e;subst e;exact⟨vs,rfl,hc⟩
 | (i,a)::ps,(j,v)::qs,cs,vs,cs',hc,hl,hp,e=>by
  obtain⟨h0,hv⟩:=hp 0 _ _ rfl rfl
  dsimp only at h0 hv
  subst h0
  unfold Oc at e
  split at e
  ·rename_i off n hpli
   split at e
   ·rename_i hcond
    obtain⟨hpl1,hn,hfit⟩:=hcond
    have hcells:=hv.cells hpl1
    have hsz:v.cells.size=n:=by rw[<-hn,<-hcells.1];simp
    have hvs:vs.size=cs.length:=by rw[<-hc.1];simp
    have hnew:=C3.fill (off:=off) hc hcells (by omega)
    obtain⟨vs',h1,h2⟩:=Mx hpl ps qs _ (v.cells.zipIdx.foldl (λcs (c,j)=>cs.setIfInBounds (off+j) c) vs) cs' (by
      have:=KA v.cells.toList 0 off vs (by simp;omega)
      rw[<-Array.foldl_toList,Array.toList_zipIdx,this]
      simpa[hn] using hnew) (by simpa using hl) (λi p q h1 h2=>hp (i+1) p q (by simpa using h1) (by simpa using h2)) e
    refine⟨vs',?_,h2⟩
    simp only[Instr.fill,hpl i _ hpli]
    grind
   ·cases e
  ·cases e
 |[],_::_,_,_,_,_,hl,_,_=>by simp at hl
 |_::_,[],_,_,_,_,hl,_,_=>by simp at hl
theorem KM (cs:List Value):C3 G (cs.map ofV) cs:=⟨by simp,λi a v h1 h2=>by
 grind[VR.ofV]⟩
theorem Oz {P:Program} {w:World} :∀(l:List Field) (pl:List (Nat×Nat)),l.mapM (λf=>(P.info? f.type).map λi=>(f.offset,i.size))=some pl->
  (l.mapM λf=>do pure (f.offset,<-sizeOf f.type):Sem _).run P w= .ok pl w
 |[],pl,e=>by simp at e;subst e;simp
 |f::l,pl,e=>by
  rw[List.mapM_cons] at e
  simp only[Option.bind_eq_bind,Option.bind_eq_some_iff,Option.map_eq_some_iff,Option.pure_def,Option.some.injEq] at e
  obtain⟨_,⟨i,hi,rfl⟩,pl',hl,rfl⟩:=e
  have:=Oz (w:=w) l pl' hl
  simp only[List.mapM_cons,Sem.run_bind,AS hi,Result.andThen_ok,Sem.run_pure,this,bind_assoc,pure_bind]
theorem Wq {t:Nat} {ps:List (Nat×AV)} {qs:List (Nat×Value)} (S:Bl T G h w) (hs:(Mh P t ps).1) (hl:qs.length=ps.length)
  (hp:∀(i:Nat) (p:Nat×AV) (q:Nat×Value),ps[i]?=some p->qs[i]?=some q->p.1=q.1/\VR G p.2 q.2):PR T G h (Mh P t ps).2 ((Instr.build t qs.toArray>>=λz=>pure (Next.value z)).run P w):=by
 unfold Mh at hs⊢
 split at hs<;>try exact hs.elim
 rename_i z pl hb
 split at hs<;>try exact hs.elim
 rename_i cs hfill
 unfold Me at hb
 split at hb
 ·rename_i zv fs hz hu
  split at hb
  ·rename_i pl' hpl
   simp only[Option.some.injEq,Prod.mk.injEq] at hb
   obtain⟨rfl,rfl⟩:=hb
   obtain⟨i,hi,hiz⟩:=Option.bind_eq_some_iff.1 hz
   obtain⟨vs',h1,h2⟩:=Mx (place:=λi=>pl'.toArray[i]?) (λi x e=>by simpa using e) ps qs _ zv.cells cs (KM _) hl hp hfill
   refine⟨G,.agg vs',w,?_,B8.refl G,S,?_⟩
   ·have hm:(fs.mapM λf=>do pure (f.offset,<-sizeOf f.type):Sem _).run P w= .ok pl'.toArray w:=by
     rw[Array.mapM_eq_mapM_toList,Sem.run_map,Oz _ _ hpl]
     rfl
    have hm':(fs.mapM λf=>Prod.mk f.offset<$>sizeOf f.type:Sem _).run P w= .ok pl'.toArray w:=by simpa using hm
    simp only[Instr.build,zeroValue,typeInfo,Sem.run_bind,Sem.run_pure,Result.andThen_ok,run_underlying hu,hm,bind_assoc,pure_bind]
    have h1':Instr.fill (λx=>pl'[x]?) zv.cells qs=some vs':=by simpa using h1
    simp[program,Sem.run,hi,hiz,hm',run_underlying hu,h1']
   ·have:=VR.agg (G:=G) cs vs'.toList h2.1 h2.2
    simpa using this
  ·cases hb
 ·rename_i zv n e hz hu
  split at hb
  ·rename_i ie hie
   simp only[Option.some.injEq,Prod.mk.injEq] at hb
   obtain⟨rfl,rfl⟩:=hb
   obtain⟨i,hi,hiz⟩:=Option.bind_eq_some_iff.1 hz
   obtain⟨vs',h1,h2⟩:=Mx (place:=λi=>some (i*ie.size,ie.size)) (λi x e=>by
    grind) ps qs _ zv.cells cs (KM _) hl hp hfill
   refine⟨G,.agg vs',w,?_,B8.refl G,S,?_⟩
   ·simp only[Instr.build,zeroValue,typeInfo,Sem.run_bind,Sem.run_pure,Result.andThen_ok,run_underlying hu,bind_assoc,pure_bind]
    simp[program,Sem.run,hi,hiz,AS hie,run_underlying hu,h1]
   ·have:=VR.agg (G:=G) cs vs'.toList h2.1 h2.2
    simpa using this
  ·cases hb
 ·cases hb
end
end
section
open Go.RowKit
section
variable {P:Program} {T:Ap} {G:Gh} {h:AH} {w:World} {a b c:AV} {u v x:Value}
theorem AfQ {d:D} (e:toD a=some d) (ha:VR G a v):VD G.frz d v:=by
 unfold toD at e
 split at e
 ·injection e with e;subst e;cases ha;assumption
 ·injection e with e;subst e;cases ha with|own hd ht=>exact hd
 ·injection e with e;subst e;cases ha;exact .slc0 0 none 0 (λ_=>rfl) (by decide)
 ·injection e with e;subst e;cases ha with|full hd=>exact hd
 ·injection e with e;subst e;cases ha with|nn hd=>exact hd
 ·cases e
theorem Vx:∀{cs:List AV} {ds:List D} {vs:List Value},Sq cs=some ds->C3 G cs vs->ds.length=cs.length/\∀(j:Nat) (d:D) (v:Value),ds[j]?=some d->vs[j]?=some v->VD G.frz d v
 |[],ds,vs,e,_=>by simp[Sq] at e;subst e;exact⟨rfl,λj d v h=>by simp at h⟩
 |a::cs,ds,[],e,hc=>by have:=hc.1;simp at this
 | a::cs,ds,v::vs,e,hc=>by
  unfold Sq at e
  split at e
  ·rename_i x l hx hl
   injection e with e
   subst e
   obtain⟨h1,h2⟩:=Vx hl (vs:=vs) ⟨by have:=hc.1;simpa using this,λi a v e1 e2=>hc.2 (i+1) a v (by simpa using e1) (by simpa using e2)⟩
   refine⟨by simp[h1],λj d u e1 e2=>?_⟩
   cases j with
   |zero=>simp at e1 e2;subst e1 e2;exact AfQ hx (hc.2 0 a v rfl rfl)
   |succ j=>simp at e1 e2;exact h2 j d u e1 e2
  ·cases e
theorem Nl:∀{cs:List AV} {ds:List D},Sq cs=some ds->∀a∈cs,a.one=true
 |[],_,_=>by simp
 | a::cs,ds,e=>by
  unfold Sq at e
  split at e
  ·rename_i x l hx hl
   intro b hb
   rcases List.mem_cons.1 hb with rfl|hb
   ·unfold toD at hx;split at hx<;>first|rfl|cases hx
   ·exact Nl hl b hb
  ·cases e
theorem KP {k:Nat} :∀(ps:List (Nat×AV)) (qs:List (Nat×Value)) (i:Nat) (cs:Array Value) (rows:List (List D)),cs.size=(i+ps.length)*k->qs.length=ps.length->
  (∀(j:Nat) (p:Nat×AV) (q:Nat×Value),ps[j]?=some p->qs[j]?=some q->p.1=q.1/\VR G p.2 q.2)->Jb k i ps=some rows->
   ∃vs',Instr.fill (λi=>some (i*k,k)) cs qs=some vs'/\vs'.size=cs.size/\(∀j,j<i*k->vs'[j]?=cs[j]?)/\rows.length=ps.length/\(∀r∈rows,r.length=k)/\
    ∀(n:Nat) (r:List D) (j:Nat) (d:D),rows[n]?=some r->r[j]?=some d->∃v,vs'[(i+n)*k+j]?=some v/\VD G.frz d v
 |[],[],i,cs,rows,hs,_,_,e=>by
  simp[Jb] at e
  subst e
  exact⟨cs,rfl,rfl,λ_ _=>rfl,rfl,by simp,λn r j d h=>by simp at h⟩
 | (j0,a)::ps,(j1,v)::qs,i,cs,rows,hs,hl,hp,e=>by
  obtain⟨h0,hv⟩:=hp 0 _ _ rfl rfl
  dsimp only at h0 hv
  subst h0
  unfold Jb at e
  split at e
  ·rename_i hc
   obtain⟨rfl,hk⟩:=hc
   split at e
   ·rename_i x l hx hr
    injection e with e
    subst e
    have hplain:a.plain=true:=by
     have:=Nl hx
     cases a<;>simp only[AV.cells,AV.plain] at this⊢ <;>first|exact this _ (List.mem_singleton_self _)|(exact List.all_eq_true.2 this)
    have hcells:=hv.cells hplain
    have hsz:v.cells.size=k:=by rw[<-hk,<-hcells.1];simp
    obtain⟨hxl,hxv⟩:=Vx hx hcells
    have hsz':cs.size=(j0+(ps.length+1))*k:=by simpa using hs
    have hle:j0*k+k<=cs.size:=by rw[hsz',<-Nat.succ_mul];exact Nat.mul_le_mul_right _ (by omega)
    have hset:=KA v.cells.toList 0 (j0*k) cs (by simp[hsz];exact hle)
    obtain⟨vs',g1,g2,g3,g4,g5,g6⟩:=KP ps qs (j0+1) (v.cells.zipIdx.foldl (λcs (c,j)=>cs.setIfInBounds (j0*k+j) c) cs) l (by
      have:=congrArg List.length hset
      rw[<-Array.foldl_toList,Array.toList_zipIdx]
      rw[Array.length_toList] at this
      rw[this]
      simp[hsz]
      rw[hsz'] at hle⊢
      have e1:(j0+1+ps.length)*k=(j0+(ps.length+1))*k:=by rw[show j0+1+ps.length=j0+(ps.length+1) by omega]
      omega) (by simpa using hl) (λi p q h1 h2=>hp (i+1) p q (by simpa using h1) (by simpa using h2)) hr
    have hnew:∀j:Nat,(v.cells.zipIdx.foldl (λcs (c,j)=>cs.setIfInBounds (j0*k+j) c) cs)[j]?=(cs.toList.take (j0*k)++(v.cells.toList++cs.toList.drop (j0*k+k)))[j]?:=λj=>by
     have:=congrArg (λl:List Value=>l[j]?) hset
     rw[<-Array.foldl_toList,Array.toList_zipIdx,<-Array.getElem?_toList]
     simpa[hsz] using this
    have hsize:(v.cells.zipIdx.foldl (λcs (c,j)=>cs.setIfInBounds (j0*k+j) c) cs).size=cs.size:=by
     have:=congrArg List.length hset
     rw[<-Array.foldl_toList,Array.toList_zipIdx]
     grind
    refine⟨vs',?_,by rw[g2,hsize],λj hj=>?_,by simp[g4],?_,λn r j d e1 e2=>?_⟩
    ·simp only[Instr.fill]
     grind
    ·rw[g3 j (by rw[Nat.succ_mul];omega),hnew,List.getElem?_append_left (by simp;omega),List.getElem?_take_of_lt hj,Array.getElem?_toList]
    ·all_goals grind
    ·cases n with
     |zero=>
      simp only[List.getElem?_cons_zero,Option.some.injEq] at e1
      subst e1
      have hj:j<k:=by rw[<-hk,<-hxl];exact(List.getElem?_eq_some_iff.1 e2).1
      have hvj:v.cells.toList[j]?=some (v.cells.toList[j]'(by simp[hsz];exact hj)):=List.getElem?_eq_getElem _
      grind
     |succ n=>
      grind
   ·cases e
  ·cases e
 |[],_::_,_,_,_,_,hl,_,_=>by simp at hl
 |_::_,[],_,_,_,_,hl,_,_=>by simp at hl
theorem P9 {k n:Nat} {rows:List (List D)} (S:Bl T G h w) (vs:Array Value) (e:TypeId) (fz:Nat×Nat) (cap:Nat) (hn:rows.length=n) (hc:n<=cap) (hm:cap<=maxLen) (hk:∀r∈rows,r.length=k)
  (hv:∀(i:Nat) (r:List D) (j:Nat) (d:D),rows[i]?=some r->r[j]?=some d->∃v,vs[i*k+j]?=some v/\VD G.frz d v):
  VR (G.ice w.heap.size vs) (.d (.slc k rows)) (.slice (some ⟨w.heap.size,0,none⟩) n cap):=by
 subst hn
 rcases Nat.eq_zero_or_pos rows.length with h0|h0
 ·have:rows=[]:=List.eq_nil_of_length_eq_zero h0
  subst this
  exact .d (.slc0 k _ cap (λe=>by cases e) hm)
 ·refine .d (.slc k rows w.heap.size 0 cap (λi j=>vs.getD (i*k+j) Go.undef) h0 hc hm hk (λi r j x e1 e2=>?_) (λi r j x e1 e2=>?_))
  ·obtain⟨v,h1,_⟩:=hv i r j x e1 e2
   show(if w.heap.size=w.heap.size then vs[0+(i*k+j)]? else _)=_
   rw[if_pos rfl,Nat.zero_add,h1,Array.getD_eq_getD_getElem?,h1]
   rfl
  ·obtain⟨v,h1,h2⟩:=hv i r j x e1 e2
   rw[Array.getD_eq_getD_getElem?,h1]
   exact h2.mono (S.gle_ice vs).frz
theorem Mi {t len:Nat} {ps:List (Nat×AV)} {qs:List (Nat×Value)} (S:Bl T G h w) (hs:(E4 P t len ps).1) (hl:qs.length=ps.length)
  (hp:∀(i:Nat) (p:Nat×AV) (q:Nat×Value),ps[i]?=some p->qs[i]?=some q->p.1=q.1/\VR G p.2 q.2):PR T G h (E4 P t len ps).2 ((Instr.buildSlice t len qs.toArray>>=λz=>pure (Next.value z)).run P w):=by
 unfold E4 at hs⊢
 split at hs<;>try exact hs.elim
 rename_i e k y hsl
 split at hs<;>try exact hs.elim
 rename_i rows hr
 obtain⟨rfl,hbig⟩:=hs
 obtain⟨i,hu,hi,hsz,_,hz,hk⟩:=Ch hsl
 obtain⟨z,hz1,hz2⟩:=Option.map_eq_some_iff.1 hz
 obtain⟨vs',h1,h2,_,h4,h5,h6⟩:=KP (G:=G) ps qs 0 ((Array.range (ps.length*k)).map (z.cells[· %z.cells.size]!)) rows (by simp) hl hp hr
 refine⟨G.ice w.heap.size vs',.slice (some ⟨w.heap.size,0,none⟩) ps.length ps.length,w.alloc (.cells vs' e),?_,S.gle_ice vs',S.ice vs' e (0,0),P9 S vs' e (0,0) ps.length h4 (Nat.le_refl _) ?_ h5 (λn r j d e1 e2=>by simpa using h6 n r j d e1 e2)⟩
 ·simp only[Instr.buildSlice,Sem.run_bind,run_underlying hu,Result.andThen_ok,AS hi,hsz]
  rw[if_neg (by omega)]
  rcases Nat.eq_zero_or_pos ps.length with h0|h0
  ·have hps:ps=[]:=List.eq_nil_of_length_eq_zero h0
   subst hps
   have hqs:qs=[]:=List.eq_nil_of_length_eq_zero hl
   subst hqs
   have hv0:vs'= #[]:=Array.eq_empty_of_size_eq_zero (by rw[h2];simp)
   subst hv0
   simp[Instr.fill,newRow,newObj,Sem.run,zeroValue,typeInfo,hi,hz1,program]
   congr 2
   exact Array.eq_empty_of_size_eq_zero (by simp)
  ·have hne:ps.length*k≠0:=Nat.mul_ne_zero (by omega) (by omega)
   rw[if_neg hne]
   simp only[zeroValue,typeInfo,Sem.run_bind,bind_assoc,pure_bind]
   simp[program,Sem.run,hi,hz1]
   have h1':Instr.fill (λi=>some (i*k,k)) (Array.map (λx=>z.cells[x%z.cells.size]!) (Array.range (ps.length*k))) qs=some vs':=h1
   rw[h1']
   simp[newRow,newObj,Sem.run]
 ·rcases Nat.eq_zero_or_pos ps.length with h0|h0
  ·rw[h0];decide
  ·have:ps.length*1<=ps.length*k:=Nat.mul_le_mul_left _ hk
   unfold maxLen
   omega
theorem Uv {F:Js} {k:Nat} {rows:List (List D)} {s m:Nat} {A:Option Addr} {c:Nat} (hd:VD F (.slc k rows) (.slice A rows.length c)) (hs:s=k\/rows=[]) {lo hi:Nat} (h1:lo<=hi) (h2:hi<=rows.length) (h3:hi<=m) (h4:m<=c):
  VD F (.slc k ((rows.take hi).drop lo)) (.slice (if m=lo then A else A.map (·.add (lo*s))) (hi-lo) (m-lo)):=by
 obtain⟨A',c',e,g1,g2,g3,g4,g5⟩:=hd.slc_inv
 injection e with e1 e2 e3
 subst e1 e3
 have hlen:((rows.take hi).drop lo).length=hi-lo:=by simp;omega
 rcases Nat.eq_zero_or_pos (hi-lo) with h0|h0
 ·have hnil:(rows.take hi).drop lo=[]:=List.eq_nil_of_length_eq_zero (by omega)
  rw[hnil,h0]
  refine .slc0 k _ _ (λe=>?_) (by omega)
  split at e
  ·omega
  ·cases A with
   |none=>have:=g3 rfl;omega
   |some a=>cases e
 ·obtain⟨b,off,val,rfl,g6⟩:=g5 (by omega)
  rw[if_neg (by omega)]
  have hsk:s=k:=hs.resolve_right (λe=>by subst e;simp at h2;omega)
  subst hsk
  have hget:∀(i:Nat) (r:List D),((rows.take hi).drop lo)[i]?=some r->rows[lo+i]?=some r:=λi r e=>by
   all_goals grind
  have:=VD.slc (F:=F) s ((rows.take hi).drop lo) b (off+lo*s) (m-lo) (λi j=>val (lo+i) j) (by omega) (by omega) (by omega) (λr hr=>by
    obtain⟨i,hi',rfl⟩:=List.getElem_of_mem hr
    exact g4 _ (List.mem_of_getElem? (hget i _ (List.getElem?_eq_getElem hi')))) (λi r j x e1 e2=>by
    grind) (λi r j x e1 e2=>(g6 (lo+i) r j x (hget i r e1) e2).2)
  rw[hlen] at this
  simpa[Fd] using this
theorem Io {y:Nat} {k:IntKind} {n:Int} (code:BoundsCode) (h0:0<=n) (h1:n<=y):(Instr.sliceBound (.int k n) y code).run P w= .ok n.toNat w:=by
 simp[Instr.sliceBound,asIntOf,h0,h1]
def OI:Option Int->Option Value->Prop
 |none,q=>q=none
 |some n,q=> ∃k,q=some (.int k n)
theorem PQ {o:Option AV} {r:Option Int} {q:Option Value} (e:WW o=some r) (hq:∀x,q=some x->∃a,o=some a/\VR G a x) (hn:q=none->o=none):OI r q:=by
 unfold WW at e
 split at e
 ·injection e with e;subst e
  cases q with
  |none=>rfl
  |some x=>obtain⟨a,ha,_⟩:=hq x rfl;cases ha
 ·injection e with e;subst e
  cases q with
  |none=>have:=hn rfl;cases this
  |some x=>obtain⟨a,ha,hv⟩:=hq x rfl;injection ha with ha;subst ha;exact⟨_,by rw[hv.int_inv]⟩
 ·cases e
theorem Et {isS:Bool} {n c:Nat} {lo hi mx:Option Int} {l h m:Option Value} (el:OI lo l) (eh:OI hi h) (em:OI mx m)
  (lo' hi' m':Nat) (h0:(lo':Int)=lo.getD 0) (h1:(hi':Int)=hi.getD n) (h2:(m':Int)=mx.getD c) (h3:lo'<=hi') (h4:hi'<=m') (h5:m'<=c) (h6:mx.isSome=true->hi.isSome=true):
  (Instr.sliceBounds isS n c l h m).run P w= .ok (lo',hi',m') w:=by
 have b1:∀code,(Instr.sliceBound (.int .i64 lo') hi' code).run P w= .ok lo' w:=λcode=>by simpa using Io (P:=P) (w:=w) (y:=hi') (k:= .i64) (n:=lo') code (by omega) (by omega)
 have g1:∀k code,(Instr.sliceBound (.int k lo') hi' code).run P w= .ok lo' w:=λk code=>by simpa using Io (P:=P) (w:=w) (y:=hi') (k:=k) (n:=lo') code (by omega) (by omega)
 have g2:∀k code,(Instr.sliceBound (.int k hi') m' code).run P w= .ok hi' w:=λk code=>by simpa using Io (P:=P) (w:=w) (y:=m') (k:=k) (n:=hi') code (by omega) (by omega)
 have g3:∀k code,(Instr.sliceBound (.int k m') c code).run P w= .ok m' w:=λk code=>by simpa using Io (P:=P) (w:=w) (y:=c) (k:=k) (n:=m') code (by omega) (by omega)
 cases mx with
 | none=>
  simp only[OI] at em
  subst em
  have hm:m'=c:=by simp only[Option.getD_none] at h2;omega
  subst hm
  cases hi with
  | none=>
   simp only[OI] at eh
   subst eh
   have hh:hi'=n:=by simp only[Option.getD_none] at h1;omega
   subst hh
   cases lo with
   |none=>
    simp only[OI] at el
    subst el
    have:lo'=0:=by simp only[Option.getD_none] at h0;omega
    subst this
    simp[Instr.sliceBounds]
   |some x=>
    obtain⟨k,rfl⟩:=el
    simp only[Option.getD_some] at h0
    subst h0
    simp[Instr.sliceBounds,g1]
  | some y=>
   obtain⟨k',rfl⟩:=eh
   simp only[Option.getD_some] at h1
   subst h1
   cases lo with
   |none=>
    simp only[OI] at el
    subst el
    have:lo'=0:=by simp only[Option.getD_none] at h0;omega
    subst this
    simp[Instr.sliceBounds,g2]
   |some x=>
    obtain⟨k,rfl⟩:=el
    simp only[Option.getD_some] at h0
    subst h0
    simp[Instr.sliceBounds,g1,g2]
 | some z=>
  obtain⟨k2,rfl⟩:=em
  simp only[Option.getD_some] at h2
  subst h2
  cases hi with
  |none=>have:=h6 rfl;cases this
  | some y=>
   obtain⟨k',rfl⟩:=eh
   simp only[Option.getD_some] at h1
   subst h1
   cases lo with
   |none=>
    simp only[OI] at el
    subst el
    have:lo'=0:=by simp only[Option.getD_none] at h0;omega
    subst this
    simp[Instr.sliceBounds,g2,g3]
   |some x=>
    obtain⟨k,rfl⟩:=el
    simp only[Option.getD_some] at h0
    subst h0
    simp[Instr.sliceBounds,g1,g2,g3]
theorem Py {t e s y k:Nat} {rows:List (List D)} {lo hi mx:Option Int} {l hh m:Option Value} (S:Bl T G h w) (hsl:BL P t=some (e,s,y)) (hsk:s=k\/rows=[]) (hc:(Ny k rows lo hi mx).1) (hv:VD G.frz (.slc k rows) u)
  (el:OI lo l) (eh:OI hi hh) (em:OI mx m):
  PR T G h (Ny k rows lo hi mx).2 ((Instr.sliceAt t u l hh m>>=λz=>pure (Next.value z)).run P w):=by
 obtain⟨i,hu,hi',hsz,_⟩:=Ch hsl
 obtain⟨A,c,rfl,g1,g2,g3,_⟩:=hv.slc_inv
 have run:∀lo' hi2 m':Nat,(Instr.sliceBounds true rows.length c l hh m).run P w= .ok (lo',hi2,m') w->(Instr.sliceAt t (.slice A rows.length c) l hh m>>=λz=>pure (Next.value z)).run P w= .ok (.value (.slice (if m'=lo' then A else A.map (·.add (lo'*s))) (hi2-lo') (m'-lo'))) w:=λlo' hi2 m' hb=>by
  simp[Instr.sliceAt,Instr.slice,run_underlying hu,hb,AS hi',hsz]
 unfold Ny at hc⊢
 split at hc
 ·obtain⟨c1,c2,c3⟩:=hc
  have hb:=Et (P:=P) (w:=w) (isS:=true) (n:=rows.length) (c:=c) el eh em (lo.getD 0).toNat (hi.getD rows.length).toNat c (by omega) (by omega) (by simp) (by omega) (by omega) (Nat.le_refl _) (by simp)
  exact⟨G,_,w,run _ _ _ hb,B8.refl G,S,.d (Uv hv hsk (by omega) (by omega) (by omega) (Nat.le_refl _))⟩
 ·rename_i z
  obtain⟨c0,c1,c2,c3,c4⟩:=hc
  obtain⟨y',rfl⟩:=Option.isSome_iff_exists.1 c0
  simp only[Option.getD_some] at c2 c3
  have hb:=Et (P:=P) (w:=w) (isS:=true) (n:=rows.length) (c:=c) el eh em (lo.getD 0).toNat y'.toNat z.toNat (by omega) (by simp only[Option.getD_some];omega) (by simp only[Option.getD_some];omega) (by omega) (by omega) (by omega) (by simp)
  have hcs:=Uv (s:=s) (m:=z.toNat) hv hsk (lo:=(lo.getD 0).toNat) (hi:=((some y':Option Int).getD 0).toNat) (by simp only[Option.getD_some];omega) (by simp only[Option.getD_some];omega) (by simp only[Option.getD_some];omega) (by omega)
  refine⟨G,_,w,run _ _ _ hb,B8.refl G,S,?_⟩
  split
  ·rename_i hyz
   injection hyz with hyz
   subst hyz
   have hlen:((rows.take ((some y':Option Int).getD 0).toNat).drop (lo.getD 0).toNat).length=y'.toNat-(lo.getD 0).toNat:=by simp only[Option.getD_some,List.length_drop,List.length_take];omega
   have hq:=VR.full (G:=G) (k:=k) (rows:=(rows.take ((some y':Option Int).getD 0).toNat).drop (lo.getD 0).toNat) (A:=(if y'.toNat=(lo.getD 0).toNat then A else A.map (·.add ((lo.getD 0).toNat*s)))) (by rw[hlen];exact hcs)
   rw[hlen] at hq
   exact hq
  ·exact .d hcs
theorem Xc {t:Nat} {lo hi mx:Option AV} {l hh m:Option Value} (S:Bl T G h w) (hs:(Nf P t a lo hi mx).1) (ha:VR G a u)
  (ql:∀x,l=some x->∃a,lo=some a/\VR G a x) (nl:l=none->lo=none) (qh:∀x,hh=some x->∃a,hi=some a/\VR G a x) (nh:hh=none->hi=none) (qm:∀x,m=some x->∃a,mx=some a/\VR G a x) (nm:m=none->mx=none):
  PR T G h (Nf P t a lo hi mx).2 ((Instr.sliceAt t u l hh m>>=λz=>pure (Next.value z)).run P w):=by
 unfold Nf at hs⊢
 split at hs<;>try exact hs.elim
 rename_i lo' hi' mx' e1 e2 e3
 have el:=PQ e1 ql nl
 have eh:=PQ e2 qh nh
 have em:=PQ e3 qm nm
 split at hs<;>try exact hs.elim
 ·rename_i s
  obtain⟨h0,h1,h2,h3,h4⟩:=hs
  subst h1
  obtain⟨t',rfl,hs1,hs2⟩:=ha.str_inv
  subst hs1
  have hu:=Ep h0
  have hsz:=Bm t'
  have hb:=Et (P:=P) (w:=w) (isS:=false) (n:=t'.size) (c:=t'.size) (mx:=none) (m:=none) el eh rfl (lo'.getD 0).toNat (hi'.getD t'.data.toList.length).toNat t'.size (by omega) (by rw[show(t'.size:Int)=(t'.data.toList.length:Int) by omega];omega) (by simp) (by omega) (by omega) (Nat.le_refl _) (by simp)
  simp only[OI] at em
  subst em
  refine⟨G,.string (t'.extract (lo'.getD 0).toNat (hi'.getD t'.data.toList.length).toNat),w,?_,B8.refl G,S,VR.str _ _ ?_ ?_⟩
  ·simp[Instr.sliceAt,Instr.slice,run_underlying hu,hb]
  ·rw[Lib.extract_data,List.drop_take]
  ·have:t'.data.toList.length<=maxLen:=by rw[hsz];exact hs2
   simp only[List.length_drop,List.length_take]
   omega
 ·rename_i k rows
  split at hs<;>try exact hs.elim
  rename_i e s y hsl
  cases ha with
  |d hd=>exact Py S hsl hs.1 hs.2 hd el eh em
 ·rename_i t' k rows
  split at hs<;>try exact hs.elim
  rename_i e s y hsl
  cases ha with
  |own hd _=>exact Py S hsl hs.1 hs.2 hd el eh em
 ·rename_i k rows
  split at hs<;>try exact hs.elim
  rename_i e s y hsl
  cases ha with
  |full hd=>exact Py S hsl hs.1 hs.2 hd el eh em
 ·rename_i k rows i o
  split at hs<;>try exact hs.elim
  rename_i n s r har
  obtain⟨rfl,rfl,rfl,rfl,rfl,hn,hn0,hn1⟩:=hs
  obtain⟨e,hu,ht⟩:=Pk har
  obtain⟨_,ie,_,hie,_,hsz,_⟩:=D3 ht
  simp only[OI] at el eh em
  subst el eh em
  cases ha with
  | elt _ _ _ _ b off val row hr hf hv=>
   have hg:rows.getD i []=row:=by simp[List.getD,hr]
   rw[hg] at hn⊢
   subst hn
   have hb:=Et (P:=P) (w:=w) (isS:=false) (n:=row.length) (c:=row.length) (lo:=none) (hi:=none) (mx:=none) (l:=none) (h:=none) (m:=none) rfl rfl rfl 0 row.length row.length (by simp) (by simp) (by simp) (by omega) (Nat.le_refl _) (Nat.le_refl _) (by simp)
   have hget:∀(i:Nat) (r:List D),(row.map λx=>[x])[i]?=some r->∃x,row[i]?=some x/\r=[x]:=λi r e=>by
    grind
   have:=VD.slc (F:=G.frz) 1 (row.map λx=>[x]) b off row.length (λi j=>val i) (by simp;omega) (by simp) (by unfold maxLen;omega) (λr hr=>by
     obtain⟨x,_,rfl⟩:=List.mem_map.1 hr
     rfl) (λi r j x e1 e2=>by
     obtain⟨y,h1,rfl⟩:=hget i r e1
     cases j with
     |zero=>simp at e2;subst e2;simpa using hf i _ h1
     |succ j=>simp at e2) (λi r j x e1 e2=>by
     grind)
   refine⟨G,_,w,?_,B8.refl G,S,.d this⟩
   have hn':¬row.length=0:=by omega
   simp[Instr.sliceAt,run_underlying hu,Instr.sureAddr,hb,AS hie,hsz,hn',Addr.add]
theorem UD {t:Nat} {k:IntKind} (e:Hv P t=some k):P.underlying t=some (.int k):=by
 all_goals grind[Hv]
theorem Lp {t:Nat} (e:F8 P t=true):∃el,P.underlying t=some (.slice el)/\P.underlying el=some (.int .u8):=by
 unfold F8 at e
 split at e
 ·rename_i el s y hsl
  simp only[Bool.and_eq_true,beq_iff_eq] at e
  obtain⟨i,hu,_⟩:=Ch hsl
  grind[UD]
 ·cases e
theorem Mk:∀{rows:List (List D)} {l:List UInt8},F0 rows=some l->rows.length=l.length/\∀(i:Nat) (c:UInt8),l[i]?=some c->rows[i]?=some [.int .u8 (c.toNat:Int)]
 |[],l,e=>by simp[F0] at e;subst e;exact⟨rfl,λi c h=>by simp at h⟩
 | r::rows,l,e=>by
  unfold F0 at e
  split at e
  ·rename_i c s hc hs
   injection e with e
   subst e
   obtain⟨h1,h2⟩:=Mk hs
   refine⟨by simp[h1],λi d hd=>?_⟩
   cases i with
   | zero=>
    simp at hd
    subst hd
    unfold Yo at hc
    split at hc
    ·rename_i n
     split at hc
     ·rename_i hn
      injection hc with hc
      subst hc
      simp
      grind
     ·cases hc
    ·cases hc
   |succ i=>simp at hd⊢;exact h2 i d hd
  ·cases e
theorem Kb {s d:TypeId} {k:Nat} {rows:List (List D)} {l:List UInt8} (S:Bl T G h w) (hb:F8 P s=true) (hd:F9 P d=true) (hv:VD G.frz (.slc k rows) u) (hk:k=1\/rows=[]) (hl:F0 rows=some l):
  PR T G h (.d (.str l)) ((convert s d u>>=λz=>pure (Next.value z)).run P w):=by
 obtain⟨el,hu,he⟩:=Lp hb
 have hds:=Ep hd
 obtain⟨hlen,hbyte⟩:=Mk hl
 obtain⟨A,c,rfl,g1,g2,g3,g4,g5⟩:=hv.slc_inv
 rcases Nat.eq_zero_or_pos rows.length with h0|h0
 ·have hl0:l=[]:=List.eq_nil_of_length_eq_zero (by omega)
  subst hl0
  refine⟨G,.string .empty,w,?_,B8.refl G,S,VR.str _ _ rfl (by simp)⟩
  cases A with
  |none=>simp[run_convert_bytes_string w s d el none rows.length c hu he hds,Conv.bytesToString]
  |some a=>
   rw[h0]
   simp[run_convert_bytes_string w s d el (some a) 0 c hu he hds,Conv.bytesToString,loadCells,loadCellsFrom]
 ·obtain⟨b,off,val,rfl,g6⟩:=g5 h0
  have hk1:k=1:=hk.resolve_right (λe=>by subst e;simp at h0)
  subst hk1
  have hrun:=run_convert_bytes_back (P:=P) w s d el ⟨b,off,none⟩ c l hu he hds (λj hj=>by
   have h1:=hbyte j l[j] (List.getElem?_eq_getElem hj)
   obtain⟨h2,h3⟩:=g6 j _ 0 _ h1 rfl
   rw[Fd]
   have:=S.frz _ _ _ h2
   simp only[Nat.mul_one,Nat.add_zero] at this
   rw[this,h3.int_inv])
  refine⟨G,.string ⟨l.toArray⟩,w,?_,B8.refl G,S,VR.str _ _ (by simp) (by omega)⟩
  rw[hlen,Sem.run_bind,hrun]
  rfl
theorem J8 {s:List UInt8} {i:Nat} {r:List D} (e:(Du s)[i]?=some r):∃c,s[i]?=some c/\r=[.int .u8 (c.toNat:Int)]:=by
 grind[Du]
theorem Yv {s d:TypeId} (S:Bl T G h w) (hsrc:(P.underlying s).isSome=true) (hs:(NW P s d a).1) (ha:VR G a u):PR T G h (NW P s d a).2 ((convert s d u>>=λz=>pure (Next.value z)).run P w):=by
 unfold NW at hs⊢
 split at hs<;>try exact hs.elim
 ·rename_i k n
  split at hs<;>try exact hs.elim
  rename_i k' hk
  have hd:=UD hk
  obtain⟨su,hsu⟩:=Option.isSome_iff_exists.1 hsrc
  have:=ha.int_inv
  subst this
  refine⟨G,.int k' (k'.wrap n),w,?_,B8.refl G,S,VR.int _ _⟩
  simp only[convert,Sem.run_bind,run_underlying hsu,run_underlying hd,Result.andThen_ok]
  cases su<;>rfl
 ·rename_i l
  obtain⟨t,rfl,h1,h2⟩:=ha.str_inv
  subst h1
  split at hs
  ·rename_i hc
   rw[if_pos hc]
   refine⟨G,.string t,w,?_,B8.refl G,S,ha⟩
   simp[convert,run_underlying (Ep hc.1),run_underlying (Ep hc.2)]
  ·rename_i hc
   rw[if_neg hc]
   obtain⟨hss,hb⟩:=hs
   obtain⟨el,hu,he⟩:=Lp hb
   have hrun:=run_bytes_of_string (P:=P) w s d el t (Ep hss) hu he
   have hcap:t.size<=grownCap w t.size 0 el/\grownCap w t.size 0 el<=maxLen:=by
    have:t.size<2^63:=by unfold maxLen at h2;omega
    have h3:0<2^63-t.size:=by omega
    have h4:=Nat.mod_lt (w.tape w.drawn (.appendCap t.size 0 el)) h3
    simp only[grownCap,Question.cut]
    unfold maxLen
    omega
   generalize grownCap w t.size 0 el=cap at*
   have S1:=S.drew
   have hsz:(bytesRow t cap).size=cap:=by
    unfold bytesRow
    have:t.data.size=t.size:=rfl
    simp[this]
    omega
   refine⟨G.ice w.heap.size (bytesRow t cap),.slice (some ⟨w.heap.size,0,none⟩) t.size cap,_,by rw[Sem.run_bind,hrun];rfl,S1.gle_ice _,S1.ice _ _ _,?_⟩
   have hlen:(Du t.data.toList).length=t.size:=by unfold Du;rw[List.length_map,Bm]
   exact P9 S1 (bytesRow t cap) el (0,0) cap hlen hcap.1 hcap.2 (λr hr=>by
    unfold Du at hr
    obtain⟨c,_,rfl⟩:=List.mem_map.1 hr
    rfl) (λi r j x e1 e2=>by
    obtain⟨c,h1,rfl⟩:=J8 e1
    cases j with
    | zero=>
     simp at e2
     subst e2
     refine⟨_,?_,.int _ _⟩
     have hi:i<t.data.size:=by
      grind
     unfold bytesRow
     grind
    |succ j=>simp at e2)
 ·rename_i k rows
  split at hs<;>try exact hs.elim
  rename_i l hl
  cases ha with
  |d hd=>exact Kb S hs.1 hs.2.1 hd hs.2.2 hl
 ·rename_i t k rows
  split at hs<;>try exact hs.elim
  rename_i l hl
  cases ha with
  |own hd _=>exact Kb S hs.1 hs.2.1 hd hs.2.2 hl
 ·cases ha
  exact Kb (k:=1) (rows:=[]) S hs.1 hs.2 (.slc0 1 none 0 (λ_=>rfl) (by decide)) (.inr rfl) rfl
 ·rename_i k rows
  split at hs<;>try exact hs.elim
  rename_i l hl
  cases ha with
  |full hd=>exact Kb S hs.1 hs.2.1 hd hs.2.2 hl
def flF (g:TypeId->Option (List Nat)) (P:Program):Nat->List Field->Option (List Nat)
 |_,[]=>some []
 |o,f::fs=>match g f.type,EL P f.type,flF g P (o+((EL P f.type).map (·.2)).getD 0) fs with
  |some ks,some (_,n),some r=>if f.name≠ "_" /\f.offset=o/\ks.length=n/\n≠0 then some (ks++r) else none
  |_,_,_=>none
def flK (P:Program):Nat->TypeId->Option (List Nat)
 |0,_=>none
 |d+1,t=>match P.underlying t with
  |some (.int _)=>some [1]
  |some .bool=>some [2]
  |some .string=>some [3]
  |some (.struct fs)=>if P.stoodInHeld t=true then none else flF (flK P d) P 0 fs.toList
  |_=>none
def eqI (P:Program) (t:TypeId):Option (List Nat):=if P.eqGuardType P.depth t=true then none else match P.underlying t with
 |some (.struct _)=>flK P 4 t
 |_=>none
def N1:Nat->AV->AV->Option Bool
 |1,.d (.int k a),.d (.int k' b)=>if k=k' then some (decide (a=b)) else none
 |2,.d (.bool a),.d (.bool b)=>some (a==b)
 |3,.d (.str a),.d (.str b)=>some (decide (a=b))
 |_,_,_=>none
def Eo:List Nat->List AV->List AV->Option Bool
 |[],[],[]=>some true
 |k::ks,a::l,b::m=>match N1 k a b,Eo ks l m with
  |some p,some q=>some (p&&q)
  |_,_=>none
 |_,_,_=>none
def eqP (P:Program) (op:BinOp) (t:TypeId) (a b:AV):PV:=
 match a,b,eqI P t with
 | .agg l,.agg m,some ks=>match Eo ks l m with
  |some r=>match op with
   | .eql=>(True,.d (.bool r))
   | .neq=>(True,.d (.bool (!r)))
   |_=>Ew
  |none=>Ew
 |_,_,_=>Ew
theorem Lm:∀{k1 k2:List Nat} {l m:List AV} {r:Bool},Eo (k1++k2) l m=some r->∃p q,Eo k1 (l.take k1.length) (m.take k1.length)=some p/\Eo k2 (l.drop k1.length) (m.drop k1.length)=some q/\r=(p&&q)
 |[],k2,l,m,r,e=>⟨true,r,rfl,by simpa using e,by simp⟩
 | k::k1,k2,a::l,b::m,r,e=>by
  simp only[List.cons_append,Eo] at e
  split at e
  ·rename_i p q hp hq
   injection e with e
   subst e
   obtain⟨p',q',h1,h2,rfl⟩:=Lm hq
   grind[Eo]
  ·cases e
 |_::_,_,[],_,_,e=>by simp[Eo] at e
 |_::_,_,_::_,[],_,e=>by simp[Eo] at e
theorem Mv:∀{ks:List Nat} {l m:List AV} {r:Bool},Eo ks l m=some r->l.length=ks.length/\m.length=ks.length
 |[],[],[],_,_=>⟨rfl,rfl⟩
 | k::ks,a::l,b::m,r,e=>by
  simp only[Eo] at e
  split at e
  ·rename_i p q hp hq
   obtain⟨h1,h2⟩:=Mv hq
   grind
  ·cases e
 |[],_::_,_,_,e=>by simp[Eo] at e
 |[],[],_::_,_,e=>by simp[Eo] at e
 |_::_,[],_,_,e=>by simp[Eo] at e
 |_::_,_::_,[],_,e=>by simp[Eo] at e
theorem Ait {r:Bool} (h:N1 1 a b=some r):∃k x y,a= .d (.int k x)/\b= .d (.int k y)/\r=decide (x=y):=by
 cases a<;>try(simp[N1] at h;done)
 rename_i x
 cases b<;>try(cases x<;>simp[N1] at h<;>done)
 rename_i y
 cases x<;>try(simp[N1] at h;done)
 rename_i k n
 cases y<;>try(simp[N1] at h;done)
 all_goals grind[N1]
theorem Aiu {r:Bool} (h:N1 2 a b=some r):∃x y,a= .d (.bool x)/\b= .d (.bool y)/\r=(x==y):=by
 cases a<;>try(simp[N1] at h;done)
 rename_i x
 cases b<;>try(cases x<;>simp[N1] at h<;>done)
 rename_i y
 cases x<;>try(simp[N1] at h;done)
 rename_i n
 cases y<;>try(simp[N1] at h;done)
 grind[N1]
theorem Aiv {r:Bool} (h:N1 3 a b=some r):∃x y,a= .d (.str x)/\b= .d (.str y)/\r=decide (x=y):=by
 cases a<;>try(simp[N1] at h;done)
 rename_i x
 cases b<;>try(cases x<;>simp[N1] at h<;>done)
 rename_i y
 cases x<;>try(simp[N1] at h;done)
 rename_i n
 cases y<;>try(simp[N1] at h;done)
 grind[N1]
theorem GN {g:TypeId->Option (List Nat)} {d:Nat} {l m:List AV} {vs us:List Value} (h1:C3 G l vs) (h2:C3 G m us)
  (hg:∀t ks (l m:List AV) (vs us:List Value) (r rb:Bool) (n:Nat),g t=some ks->EL P t=some (rb,n)->C3 G l vs->C3 G m us->Eo ks l m=some r->(Op.equalIn d t (Cg rb vs) (Cg rb us)).run P w= .ok r w):
  ∀(fs:List Field) (o:Nat) (ks:List Nat) (r:Bool),flF g P o fs=some ks->Eo ks (l.drop o) (m.drop o)=some r->(Op.eqFields d vs.toArray us.toArray fs).run P w= .ok r w
 | [],o,ks,r,e,er=>by
  simp[flF] at e
  subst e
  have:r=true:=by
   cases hl:l.drop o<;>cases hm:m.drop o<;>rw[hl,hm] at er<;>simp[Eo] at er
   exact er
  subst this
  simp[Op.eqFields]
 | f::fs,o,ks,r,e,er=>by
  unfold flF at e
  split at e
  ·rename_i k1 rb n k2 hk1 ht hk2
   split at e
   ·rename_i hc
    obtain⟨hname,hoff,hlen,hn0⟩:=hc
    injection e with e
    subst e
    obtain⟨p,q,e1,e2,rfl⟩:=Lm er
    rw[ht] at hk2
    simp only[Option.map_some,Option.getD_some] at hk2
    rw[hlen] at e1 e2
    simp only[List.drop_drop] at e2
    have hl1:=(Mv e1).1
    have hl2:=(Mv e1).2
    have fit1:o+n<=vs.length:=by
     rw[h1.1]
     simp only[List.length_take,List.length_drop] at hl1
     omega
    have fit2:o+n<=us.length:=by
     rw[h2.1]
     simp only[List.length_take,List.length_drop] at hl2
     omega
    have heq:=hg f.type k1 _ _ _ _ p rb n hk1 ht (⟨by simp[h1.1],G6 h1.1 h1.2⟩:C3 G ((l.drop o).take n) ((vs.drop o).take n)) (⟨by simp[h2.1],G6 h2.1 h2.2⟩:C3 G ((m.drop o).take n) ((us.drop o).take n)) e1
    have hrest:=GN h1 h2 hg fs (o+n) k2 q hk2 e2
    have hp1:=Kd (P:=P) (w:=w) ht vs (off:=o) fit1
    have hp2:=Kd (P:=P) (w:=w) ht us (off:=o) fit2
    simp only[Op.eqFields,hname,ne_eq,not_false_eq_true,if_true,Sem.run_bind,hoff,hp1,hp2,heq,Result.andThen_ok]
    cases p with
    |true=>simpa using hrest
    |false=>simp
   ·cases e
  ·cases e
theorem Vi:∀(d:Nat) (t:TypeId) (ks:List Nat) (l m:List AV) (vs us:List Value) (r rb:Bool) (n e:Nat),flK P d t=some ks->EL P t=some (rb,n)->C3 G l vs->C3 G m us->Eo ks l m=some r->(Op.equalIn (d+e) t (Cg rb vs) (Cg rb us)).run P w= .ok r w
 |0,_,_,_,_,_,_,_,_,_,_,h,_,_,_,_=>by simp[flK] at h
 | d+1,t,ks,l,m,vs,us,r,rb,n,e,hk,ht,h1,h2,er=>by
  obtain⟨desc,i,hu,hi,hrb,hn,hr1⟩:=D3 ht
  unfold flK at hk
  rw[hu] at hk
  have hde:d+1+e=(d+e)+1:=by omega
  rw[hde]
  have basic:∀k,ks=[k]->∃a b v u,l=[a]/\m=[b]/\vs=[v]/\us=[u]/\VR G a v/\VR G b u/\N1 k a b=some r:=λk hks=>by
   subst hks
   match l,m,er with
   | [a],[b],er=>
    match vs,us,h1,h2 with
    |[v],[u],h1,h2=>
     refine⟨a,b,v,u,rfl,rfl,rfl,rfl,h1.2 0 a v rfl rfl,h2.2 0 b u rfl rfl,?_⟩
     all_goals grind[Eo]
    |[],_,h1,_=>have:=h1.1;simp at this
    |[_],[],_,h2=>have:=h2.1;simp at this
    |_::_::_,_,h1,_=>have:=h1.1;simp at this
    |[_],_::_::_,_,h2=>have:=h2.1;simp at this
   |[],_,er=>simp[Eo] at er
   |[_],[],er=>simp[Eo] at er
   |_::_::_,[],er=>simp[Eo] at er
   |_::_::_,[_],er=>simp[Eo] at er
   |[_],_::_::_,er=>simp[Eo] at er
   |_::_::_,_::_::_,er=>simp[Eo] at er
  cases desc with
  |int kk=>
   injection hk with hk
   obtain⟨a,b,v,u,rfl,rfl,rfl,rfl,hv,hw,hc⟩:=basic 1 hk.symm
   obtain⟨k,x,y,rfl,rfl,rfl⟩:=Ait hc
   have e1:=hv.int_inv
   have e2:=hw.int_inv
   subst e1 e2
   rw[<-hrb]
   have:=run_equalIn_int (P:=P) w (d+e) t k kk x y hu
   grind[Cg]
  |bool=>
   injection hk with hk
   obtain⟨a,b,v,u,rfl,rfl,rfl,rfl,hv,hw,hc⟩:=basic 2 hk.symm
   obtain⟨x,y,rfl,rfl,rfl⟩:=Aiu hc
   have e1:=hv.bool_inv
   have e2:=hw.bool_inv
   subst e1 e2
   rw[<-hrb]
   simp only[Cg,TypeDesc.isRow,Bool.false_eq_true,if_false,List.headD_cons]
   rw[run_equalIn_bool' (P:=P) w (d+e) t _ _ hu]
  |string=>
   injection hk with hk
   obtain⟨a,b,v,u,rfl,rfl,rfl,rfl,hv,hw,hc⟩:=basic 3 hk.symm
   obtain⟨x,y,rfl,rfl,rfl⟩:=Aiv hc
   obtain⟨s1,rfl,q1,_⟩:=hv.str_inv
   obtain⟨s2,rfl,q2,_⟩:=hw.str_inv
   rw[<-hrb]
   simp only[Cg,TypeDesc.isRow,Bool.false_eq_true,if_false,List.headD_cons]
   rw[run_equalIn_string (P:=P) w (d+e) t _ _ hu,ByteArray.toList_eq,ByteArray.toList_eq,q1,q2]
   grind
  | struct fs=>
   dsimp only at hk
   split at hk
   ·cases hk
   ·rename_i hst
    have hrow:rb=true:=by rw[<-hrb]
    subst hrow
    simp only[Cg,if_true]
    have hfs:P.fieldsOf t=fs:=by simp[Program.fieldsOf,hu]
    rw[run_equalIn_struct w (d+e) t _ _ (by rw[hfs];exact hu) (by simpa using hst),hfs]
    exact GN h1 h2 (λt ks l m vs us r rb n a1 a2 a3 a4 a5=>Vi d t ks l m vs us r rb n e a1 a2 a3 a4 a5) fs.toList 0 ks r hk (by simpa using er)
  |_=>cases hk
theorem AeX (op:BinOp) (t:TypeId) (x y:Operand) (S:Bl T G h w) (hs:(eqP P op t a b).1) (ha:VR G a u) (hb:VR G b v):
  PR T G h (eqP P op t a b).2 (((do eqGuard op t x y u v;binOp op t u v:Sem Value)>>=λz=>pure (Next.value z)).run P w):=by
 unfold eqP at hs⊢
 split at hs<;>try exact hs.elim
 rename_i l m ks hk
 split at hs<;>try exact hs.elim
 rename_i r hr
 unfold eqI at hk
 split at hk
 ·cases hk
 ·rename_i hgd
  split at hk
  ·rename_i fs hu
   cases ha with
   | agg _ vs hl hc=>
    cases hb with
    | agg _ us hl' hc'=>
     have hg:=run_eqGuard_agg (P:=P) w op t x y vs.toArray us.toArray (by simpa using hgd)
     have hty:∃n,EL P t=some (true,n)\/True:=⟨0,.inr trivial⟩
     have heq:(Op.equalIn 10000 t (.agg vs.toArray) (.agg us.toArray)).run P w= .ok r w:=by
      unfold flK at hk
      rw[hu] at hk
      dsimp only at hk
      split at hk
      ·cases hk
      ·rename_i hst
       have hfs:P.fieldsOf t=fs:=by simp[Program.fieldsOf,hu]
       rw[run_equalIn_struct w 9999 t _ _ (by rw[hfs];exact hu) (by simpa using hst),hfs]
       exact GN (G:=G) (g:=flK P 3) ⟨hl,hc⟩ ⟨hl',hc'⟩ (λt ks l m vs us r rb n a1 a2 a3 a4 a5=>Vi 3 t ks l m vs us r rb n 9996 a1 a2 a3 a4 a5) fs.toList 0 ks r hk (by simpa using hr)
     split at hs<;>try exact hs.elim
     ·refine⟨G,.bool r,w,?_,B8.refl G,S,VR.bool _⟩
      rw[Sem.run_bind,Sem.run_bind,hg,Result.andThen_ok,run_eql_struct,heq]
      rfl
     ·refine⟨G,.bool (!r),w,?_,B8.refl G,S,VR.bool _⟩
      rw[Sem.run_bind,Sem.run_bind,hg,Result.andThen_ok,run_neq_struct,heq]
      rfl
  ·cases hk
end
end
section
open Go.RowKit
def Yh (P:Program) (op:BinOp) (t:TypeId) (a b:AV):PV:=
 match a with
 | .agg _=>eqP P op t a b
 |_=>Mf P op t a b
def Pm (P:Program) (t:TypeId) (a:AV):PV:=
 match a with
 | .ifc t' v=>(t'=t/\(P.underlying t).isSome=true/\Ly P t=false,v)
 |_=>Ew
def MO (P:Program) (op:Op) (ρ:Operand->AV) (h:AH):Option PV:=
 match op with
 | .move x=>some (True,ρ x)
 | .assign x=>some (True,ρ x)
 | .pick c a b=>some (O8 (ρ c) (ρ a) (ρ b))
 | .load t a=>some (RA P t (ρ a) h)
 | .nilCheck x=>some (Aag (ρ x))
 | .binOp op t x y _=>some (Yh P op t (ρ x) (ρ y))
 | .unOp op _ x=>some (unP op (ρ x))
 | .convert s d x=>some ((P.underlying s).isSome=true/\(NW P s d (ρ x)).1,(NW P s d (ρ x)).2)
 | .makeInterface t x=>some (PB P t (ρ x))
 | .makeFunc (.func f) first cap=>if first.isEmpty=true then some (True,.fn f (cap.toList.map ρ)) else none
 | .slice t x lo hi mx=>some (Nf P t (ρ x) (lo.map ρ) (hi.map ρ) (mx.map ρ))
 | .fieldAddr t x f=>some (Fk P t (ρ x) f)
 | .field t x f=>some (Mw P t (ρ x) f)
 | .indexAddr t x i=>some (Fl P t (ρ x) (ρ i))
 | .index t x i=>some (M6 P t (ρ x) (ρ i))
 | .extract x i=>some (Hq (ρ x) i)
 | .build t ps=>some (Mh P t (ps.toList.map λp=>(p.1,ρ p.2)))
 | .buildSlice t n ps=>some (E4 P t n (ps.toList.map λp=>(p.1,ρ p.2)))
 | .call {callee:= .builtin .len,args:=⟨[x]⟩,argTypes:=⟨[t]⟩} =>some (Zv P t (ρ x))
 | .call {callee:= .builtin .min,args:=⟨[x,y]⟩,.. } =>some (ZK (ρ x) (ρ y))
 | .typeAssert x _ t false=>some (Pm P t (ρ x))
 |_=>none
section
variable {P:Program} {T:Ap} {G:Gh} {h:AH} {w:World} {a b c:AV} {u v x:Value}
theorem AbB (op:BinOp) (t:TypeId) (x y:Operand) (S:Bl T G h w) (hs:(Yh P op t a b).1) (ha:VR G a u) (hb:VR G b v):
  PR T G h (Yh P op t a b).2 (((do eqGuard op t x y u v;binOp op t u v:Sem Value)>>=λz=>pure (Next.value z)).run P w):=by
 unfold Yh at hs⊢
 split at hs
 ·exact AeX op t x y S hs ha hb
 ·exact AbA op t x y S hs ha hb
theorem Acp {t:TypeId} (S:Bl T G h w) (hs:(Zv P t a).1) (ha:VR G a u) (ty:TypeId):PR T G h (Zv P t a).2 ((Builtin.len_ #[t] ty #[u]>>=λz=>pure (Next.value z)).run P w):=by
 have sl:(BL P t).isSome=true->∃e,P.underlying t=some (.slice e):=λe=>by
  obtain⟨⟨e,s,y⟩,h1⟩:=Option.isSome_iff_exists.1 e
  obtain⟨_,hu,_⟩:=Ch h1
  exact⟨e,hu⟩
 unfold Zv at hs⊢
 split at hs<;>try exact hs.elim
 ·obtain⟨t',rfl,h1,_⟩:=ha.str_inv
  subst h1
  refine⟨G,.int .i64 t'.data.toList.length,w,?_,B8.refl G,S,VR.int _ _⟩
  simp[Builtin.len_,run_underlying (Ep hs),goInt]
 ·obtain⟨e,hu⟩:=sl hs
  cases ha with
  |d hd=>
   obtain⟨A,c,rfl,_⟩:=hd.slc_inv
   refine⟨G,_,w,?_,B8.refl G,S,VR.int _ _⟩
   simp[Builtin.len_,run_underlying hu,goInt]
 ·obtain⟨e,hu⟩:=sl hs
  cases ha with
  |own hd _=>
   obtain⟨A,c,rfl,_⟩:=hd.slc_inv
   refine⟨G,_,w,?_,B8.refl G,S,VR.int _ _⟩
   simp[Builtin.len_,run_underlying hu,goInt]
 ·obtain⟨e,hu⟩:=sl hs
  cases ha
  refine⟨G,.int .i64 0,w,?_,B8.refl G,S,VR.int _ _⟩
  simp[Builtin.len_,run_underlying hu,goInt]
 ·obtain⟨e,hu⟩:=sl hs
  cases ha
  refine⟨G,_,w,?_,B8.refl G,S,VR.int _ _⟩
  simp[Builtin.len_,run_underlying hu,goInt]
 ·obtain⟨e,hu⟩:=sl hs
  cases ha
  refine⟨G,_,w,?_,B8.refl G,S,VR.int _ _⟩
  simp[Builtin.len_,run_underlying hu,goInt]
 ·obtain⟨e,hu⟩:=sl hs
  cases ha
  refine⟨G,_,w,?_,B8.refl G,S,VR.int _ _⟩
  simp[Builtin.len_,run_underlying hu,goInt]
theorem Acu (S:Bl T G h w) (hs:(ZK a b).1) (ha:VR G a u) (hb:VR G b v) (ty:TypeId) (tys:Array TypeId):PR T G h (ZK a b).2 ((Builtin.min_ tys ty #[u,v]>>=λz=>pure (Next.value z)).run P w):=by
 unfold ZK at hs⊢
 split at hs<;>try exact hs.elim
 rename_i k x k' y
 dsimp only at hs
 subst hs
 have e1:=ha.int_inv
 have e2:=hb.int_inv
 subst e1 e2
 refine⟨G,_,w,?_,B8.refl G,S,VR.int _ _⟩
 simp[Builtin.min_,Builtin.min2]
theorem JS {ρ:Operand->AV} {e:Operand->Value} {l:List (Nat×Operand)} (hv:∀x∈l.map (·.2),VR G (ρ x) (e x)):
  ∀(i:Nat) (p:Nat×AV) (q:Nat×Value),(l.map λp=>(p.1,ρ p.2))[i]?=some p->(l.map λp=>(p.1,e p.2))[i]?=some q->p.1=q.1/\VR G p.2 q.2:=λi p q h1 h2=>by
 rw[List.getElem?_map] at h1 h2
 obtain⟨z,hz,rfl⟩:=Option.map_eq_some_iff.1 h1
 rw[hz] at h2
 injection h2 with h2
 subst h2
 exact⟨rfl,hv _ (List.mem_map_of_mem (List.mem_of_getElem? hz))⟩
theorem Aam {op:Op} {ρ:Operand->AV} {r:PV} (e:MO P op ρ h=some r) (hs:r.1) {o:Oper} (ho:o.op=op) (S:Bl T G h w) {ec:Operand->Value} (hv:∀x∈op.operands.toList,VR G (ρ x) (ec x)):
  PR T G h r.2 ((execOp ec o).run P w):=by
 unfold MO at e
 split at e
 case h_1 x=>
  injection e with e;subst e
  unfold execOp;simp only[ho]
  exact EM S (hv x (by simp[Op.operands]))
 case h_2 x=>
  injection e with e;subst e
  unfold execOp;simp only[ho]
  exact EM S (hv x (by simp[Op.operands]))
 case h_3 c a b=>
  injection e with e;subst e
  unfold execOp;simp only[ho]
  exact Aaq S hs (hv c (by simp[Op.operands])) (hv a (by simp[Op.operands])) (hv b (by simp[Op.operands]))
 case h_4 t a=>
  injection e with e;subst e
  unfold execOp;simp only[ho]
  exact Z2 S hs (hv a (by simp[Op.operands]))
 case h_5 x=>
  injection e with e;subst e
  exact Acw S hs (hv x (by simp[Op.operands])) ho rfl
 case h_6 op t x y yt=>
  injection e with e;subst e
  unfold execOp;simp only[ho]
  exact AbB op t x y S hs (hv x (by simp[Op.operands])) (hv y (by simp[Op.operands]))
 case h_7 op t x=>
  injection e with e;subst e
  unfold execOp;simp only[ho]
  exact AfU op S hs (hv x (by simp[Op.operands]))
 case h_8 s d x=>
  injection e with e;subst e
  unfold execOp;simp only[ho]
  exact Yv S hs.1 hs.2 (hv x (by simp[Op.operands]))
 case h_9 t x=>
  injection e with e;subst e
  unfold execOp;simp only[ho]
  exact WH S hs (hv x (by simp[Op.operands]))
 case h_10 f first cap=>
  split at e
  ·rename_i hf
   injection e with e;subst e
   have hf:first= #[]:=by simpa using hf
   subst hf
   unfold execOp;simp only[ho]
   refine EM S ?_
   obtain⟨cap⟩:=cap
   have:=VR.fn (G:=G) f (cap.map ρ) (cap.map ec) (by simp) (λi a v h1 h2=>by
    rw[List.getElem?_map] at h1 h2
    obtain⟨z,hz,rfl⟩:=Option.map_eq_some_iff.1 h1
    rw[hz] at h2
    injection h2 with h2
    subst h2
    exact hv z (by
     have:=List.mem_of_getElem? hz
     simp[Op.operands]
     exact this))
   simpa[Instr.makeFunc] using this
  ·cases e
 case h_11 t x lo hi mx=>
  injection e with e;subst e
  unfold execOp;simp only[ho]
  have hopt:∀o:Option Operand,(∀y∈o.toList,y∈(Op.slice t x lo hi mx).operands.toList)->∀z,o.map ec=some z->∃a,o.map ρ=some a/\VR G a z:=λo ho z hz=>by
   cases o with
   |none=>cases hz
   |some y=>injection hz with hz;subst hz;exact⟨_,rfl,hv y (ho y (by simp))⟩
  exact Xc S hs (hv x (by simp[Op.operands])) (hopt lo (λy hy=>by cases lo<;>simp at hy;subst hy;simp[Op.operands])) (λe=>by cases lo<;>simp_all) (hopt hi (λy hy=>by cases hi<;>simp at hy;subst hy;simp[Op.operands])) (λe=>by cases hi<;>simp_all) (hopt mx (λy hy=>by cases mx<;>simp at hy;subst hy;simp[Op.operands])) (λe=>by cases mx<;>simp_all)
 case h_12 t x f=>
  injection e with e;subst e
  unfold execOp;simp only[ho]
  exact N2 S hs (hv x (by simp[Op.operands]))
 case h_13 t x f=>
  injection e with e;subst e
  unfold execOp;simp only[ho]
  exact WC S hs (hv x (by simp[Op.operands]))
 case h_14 t x i=>
  injection e with e;subst e
  unfold execOp;simp only[ho]
  exact N6 S hs (hv x (by simp[Op.operands])) (hv i (by simp[Op.operands]))
 case h_15 t x i=>
  injection e with e;subst e
  unfold execOp;simp only[ho]
  exact WI S hs (hv x (by simp[Op.operands])) (hv i (by simp[Op.operands]))
 case h_16 x i=>
  injection e with e;subst e
  unfold execOp;simp only[ho]
  exact Rj S hs (hv x (by simp[Op.operands]))
 case h_17 t ps=>
  injection e with e;subst e
  unfold execOp;simp only[ho]
  obtain⟨ps⟩:=ps
  have:=Wq (qs:=ps.map λp=>(p.1,ec p.2)) S hs (by simp) (JS (λx hx=>hv x (by simpa[Op.operands] using hx)))
  simpa using this
 case h_18 t n ps=>
  injection e with e;subst e
  unfold execOp;simp only[ho]
  obtain⟨ps⟩:=ps
  have:=Mi (qs:=ps.map λp=>(p.1,ec p.2)) S hs (by simp) (JS (λx hx=>hv x (by simpa[Op.operands] using hx)))
  simpa using this
 case h_19 x t=>
  injection e with e;subst e
  unfold execOp;simp only[ho]
  have:=Acp S hs (hv x (by simp[Op.operands,Call.operands])) o.type
  simpa[resolve,invoke,builtin] using this
 case h_20 x y tys=>
  injection e with e;subst e
  unfold execOp;simp only[ho]
  have:=Acu (P:=P) S hs (hv x (by simp[Op.operands,Call.operands])) (hv y (by simp[Op.operands,Call.operands])) o.type tys
  simpa[resolve,invoke,builtin] using this
 case h_21 x xt t=>
  injection e with e;subst e
  unfold execOp;simp only[ho]
  have hvx:=hv x (by simp[Op.operands])
  unfold Pm at hs⊢
  split at hs<;>try exact hs.elim
  rename_i t' v heq
  obtain⟨rfl,h1,h2⟩:=hs
  obtain⟨d,hu⟩:=Option.isSome_iff_exists.1 h1
  have hni:∀ms,d≠ .interface ms:=λms e=>by subst e;simp[Ly,hu] at h2
  rw[heq] at hvx
  generalize ec x=z at hvx
  cases hvx with
  |ifc _ hx=>
   refine⟨G,_,w,?_,B8.refl G,S,hx⟩
   cases d<;>first|exact absurd rfl (hni _)|simp[Instr.typeAssert,run_underlying hu]
 case h_22=>cases e
end
end
section
open Go.RowKit
def AO (dst:Option Tmp) (v:AV) (sl:List AV):List AV:=
 match dst with
 |some d=>sl.set d v
 |none=>sl
theorem Dz.put {G:Gh} {sl:List AV} {act:Act} (R:Dz G sl act.tmps) {a:AV} {v:Value} (hv:VR G a v) (dst:Option Tmp):Dz G (AO dst a sl) (act.put dst v).tmps:=by
 cases dst with
 |none=>exact R
 | some d=>
  refine⟨by simp[AO,Act.put,R.1],λi b e=>?_⟩
  simp only[AO] at e
  simp only[Act.put]
  by_cases hi:d=i
  ·subst hi
   have hlt:d<sl.length:=by
    grind
   rw[List.getElem?_set_self hlt] at e
   injection e with e
   subst e
   exact⟨v,by rw[Array.getElem?_setIfInBounds_self_of_lt (by rw[R.1];exact hlt)],hv⟩
  ·rw[List.getElem?_set_ne hi] at e
   obtain⟨u,h1,h2⟩:=R.2 i b e
   grind
theorem Bv (a:Act) (d:Option Tmp) (v:Value):(a.put d v).defers=a.defers:=by cases d<;>rfl
def LQ (K:List AV->AH->Prop) (X:AV->AH->Prop):AQ
 | .normal,s,h=>K s h
 | .pan p,_,h=>X p h
 |_,_,_=>False
def LV (P:Program) (T:Ap) (ops:Array Oper) (l:List Oper) (sl:List AV) (h:AH) (K:List AV->AH->Prop) (X:AV->AH->Prop):Prop:=
 ∀(G0 G:Gh) (w:World) (a:Act) (ds:List Deferred),B8 G0 G->Bl T G h w->Dz G sl a.tmps->a.defers=ds->wpList P ops (IH T (LQ K X) G0 ds) l a w
def AV.strip:AV->AV
 | .cnd _ a=>a
 |a=>a
def AV.okc:AV->Bool
 | .cnd g _=>g
 |_=>true
theorem VR.strip {G:Gh} {a:AV} {v:Value} (h:VR G a v) (hk:a.okc=true):VR G a.strip v:=by
 cases h with
 |cndT h=>exact h
 |cndF a=>simp[AV.okc] at hk
 |d h=>exact .d h
 |own h ht=>exact .own h ht
 |nils=>exact .nils
 |full h=>exact .full h
 |nn h=>exact .nn h
 |ptr=>exact .ptr ..
 |elt k rows i o b off val r hr hf hv=>exact .elt k rows i o b off val r hr hf hv
 |arr=>exact .arr ..
 |lar h h1=>exact .lar h h1
 |fn f cap vs hl h=>exact .fn f cap vs hl h
 |mp ht=>exact .mp ht
 |nilf=>exact .nilf
 |nilp=>exact .nilp
 |agg l vs hl h=>exact .agg l vs hl h
 |tup l vs hl h=>exact .tup l vs hl h
 |ifc t h=>exact .ifc t h
 |nili=>exact .nili
 |undef=>exact .undef
 |any v=>exact .any v
def U8 (ops:Array Oper) (sl:List AV) (j:Nat) (want:Bool):Option Bool:=
 match (ops[j]?).bind (·.dst) with
 |some d=>match sl.getD d .any with
  | .d (.bool b)=>some (b==want)
  | .cnd g (.d (.bool b))=>some (g&&(b==want))
  | .cnd false _=>some false
  | .undef=>some false
  |_=>none
 |none=>some false
def Ri (T:Ap) (sl:List AV) (x:Operand):AV:=(ev T sl x).strip
def okL (T:Ap) (sl:List AV):List Operand->Bool
 |[]=>true
 |x::l=>(ev T sl x).okc&&okL T sl l
def opL:Op->List Operand
 | .move x| .assign x| .load _ x| .nilCheck x| .unOp _ _ x| .convert _ _ x| .makeInterface _ x| .fieldAddr _ x _| .field _ x _| .extract x _=>[x]
 | .binOp _ _ a v _| .indexAddr _ a v| .index _ a v=>[a,v]
 | .slice _ x l h m=>x::(l.toList++(h.toList++m.toList))
 | .call {callee:= .builtin .len,args:=⟨[x]⟩,.. } =>[x]
 |op=>op.operands.toList
theorem Ac5 {op:Op} {x:Operand} (h:x∈op.operands.toList):x∈opL op:=by
 unfold opL
 split<;>first
  |exact h
  |(simp[Op.operands,Call.operands] at h⊢;first|exact h|(rcases h with h|h|h|h<;>simp[h])|grind)
theorem LL {T:Ap} {sl:List AV} {x:Operand} :∀{l:List Operand},okL T sl l=true->x∈l->(ev T sl x).okc=true
 |y::l,h,hx=>by
  simp only[okL,Bool.and_eq_true] at h
  rcases List.mem_cons.1 hx with rfl|hx
  ·exact h.1
  ·exact LL h.2 hx
def opG (P:Program) (op:Op) (T:Ap) (sl:List AV) (h:AH):Option PV:=
 match op with
 | .pick c a b=>some (O8 (ev T sl c) (ev T sl a) (ev T sl b))
 |op=>match MO P op (Ri T sl) h with
  |some r=>some (okL T sl (opL op)=true/\r.1,r.2)
  |none=>none
def zI (P:Program) (t:TypeId):Option (List AV):=
 match (P.info? t).bind (·.zero) with
 |some z=>if(z.cells.toList.map ofV).all AV.one=true then some (z.cells.toList.map ofV) else none
 |none=>none
inductive Eff where
 |obj (ob:Ob)
 |put (objs:Af)
def stA (objs:Af) (b k i o:Nat) (cs:List AV):Option (Af):=
 match A9 b objs with
 |some ob=>if ob.k=k/\o+cs.length<=k then(match ob.rows[i]? with
  |some (a::r)=>some (C8 b ⟨ob.k,ob.c,ob.rows.set i ((a::r).take o++(cs++(a::r).drop (o+cs.length)))⟩ objs)
  |_=>none) else none
 |none=>none
def Wx (P:Program) (op:Op) (ρ:Operand->AV) (h:AH):Option Eff:=
 match op with
 | .alloc t=>match zI P t with
  |some z=>some (.obj ⟨z.length,1,[z]⟩)
  |none=>none
 | .box _ x=>if(ρ x).plain=true then some (.obj ⟨(ρ x).cells.length,1,[(ρ x).cells]⟩) else none
 | .store t a v=>match ρ a,EL P t with
  | .ptr b k i o,some (_,n)=>if(ρ v).plain=true/\(ρ v).cells.length=n then(match stA h.objs b k i o (ρ v).cells with
   |some objs=>some (.put objs)
   |none=>none) else none
  |_,_=>none
 |_=>none
def Ab (b:Nat):Af->Prop
 |[]=>True
 |p::r=>((p.1==b)=false/\(b==p.1)=false)/\Ab b r
def BP (cp:Bool) (o:Oper):Bool:=
 match o.guard with
 |some _=>false
 |none=>match o.op with
  | .alloc _| .box .. | .store .. | .panic _| .defer _| .go _| .makeMap .. | .mapUpdate .. | .makeSlice .. =>true
  | .call {callee:= .value _,.. } =>!cp
  | .buildSlice _ _ ps=>!cp&&!(!ps.isEmpty&&ps.all λp=>match p.2 with| .const _=>true|_=>false)
  | .call {callee:= .builtin .len,.. } =>false
  | .call {callee:= .builtin .min,.. } =>false
  | .call _=>true
  |_=>false
def Np (o:Oper):Bool:=
 match o.op with
 | .load .. | .lookup .. =>false
 |_=>true
def Jn (P:Program) (T:Ap) (o:Oper) (ρ:Operand->AV) (h:AH) (v:AV):Prop:=
 ∀(G:Gh) (w:World) (a:Act),Bl T G h w->(∀x∈o.op.operands.toList,VR G (ρ x) (a.eval x))->∀(Kc:Act->World->Prop) (Q:Exit->Act->World->Prop),
  (∀G' u w',B8 G G'->Bl T G' h w'->VR G' v u->Kc (a.put o.dst u) w')->o.wp P a w Kc Q
def Yg (P:Program) (T:Ap) (ops:Array Oper) (o:Oper) (v:AV) (sl:List AV) (h:AH):Prop:=
 match o.guard with
 |none=>Jn P T o (ev T sl) h v
 |some g=> ∃t v0,U8 ops sl g.1 g.2=some t/\v= .cnd t v0/\(t=true->Jn P T o (ev T sl) h v0)
def Jf (P:Program) (T:Ap) (o:Oper) (sl:List AV) (h:AH) (N:AV->AH->Prop) (X:AV->AH->Prop):Prop:=
 o.guard=none/\∀(G:Gh) (w:World) (a:Act),Bl T G h w->(∀x∈o.op.operands.toList,VR G (ev T sl x) (a.eval x))->∀(Kc:Act->World->Prop) (Q:Exit->Act->World->Prop),
  (∀r h' G' u w',N r h'->B8 G G'->Bl T G' h' w'->VR G' r u->Kc (a.put o.dst u) w')->
  (∀p h' G' u w',X p h'->B8 G G'->Bl T G' h' w'->VR G' p u->Q (.panic [{v:=u,recovered:=false }]) a w')->o.wp P a w Kc Q
def DW (P:Program) (T:Ap) (cp:Bool) (ops:Array Oper):List Oper->List AV->AH->(List AV->AH->Prop)->(AV->AH->Prop)->Prop
 |[],sl,h,K,X=>K sl h
 |o::rest,sl,h,K,X=>if BP cp o=true then Jf P T o sl h (λr h'=>DW P T cp ops rest (AO o.dst r sl) h' K X) X
  else∃v,Yg P T ops o v sl h/\(Np o=true->∀h',Yg P T ops o v sl h')/\DW P T cp ops rest (AO o.dst v sl) h K X
def lvc (P:Program) (T:Ap) (cp:Bool) (ops:Array Oper):List Oper->List AV->AH->(List AV->AH->Prop)->(AV->AH->Prop)->Prop
 |[],sl,h,K,X=>K sl h
 | o::rest,sl,h,K,X=>match o.guard with
  | none=>match MO P o.op (ev T sl) h with
   |some r=>r.1/\lvc P T cp ops rest (AO o.dst r.2 sl) h K X
   |none=>match Wx P o.op (ev T sl) h with
    |some (.obj ob)=> ∀b,Ab b h.objs->lvc P T cp ops rest (AO o.dst (.ptr b ob.k 0 0) sl) ⟨(b,ob)::h.objs,h.live⟩ K X
    |some (.put objs)=>lvc P T cp ops rest (AO o.dst .undef sl) ⟨objs,h.live⟩ K X
    |none=>DW P T cp ops (o::rest) sl h K X
  | some g=>match U8 ops sl g.1 g.2 with
   |some t=>match opG P o.op T sl h with
    |some r=>(t=true->r.1)/\lvc P T cp ops rest (AO o.dst (.cnd t r.2) sl) h K X
    |none=>DW P T cp ops (o::rest) sl h K X
   |none=>False
section
variable {P:Program} {T:Ap} {G:Gh} {h:AH} {w:World} {sl:List AV} {ops:Array Oper} {rest:List Oper} {o:Oper} {K:List AV->AH->Prop} {X:AV->AH->Prop}
theorem Ig:∀{l:Af} {n:Nat},(∀p∈l,p.1<n)->Ab n l
 |[],_,_=>trivial
 |p::r,n,h=>by
  have:=h p (List.mem_cons_self ..)
  exact⟨⟨by simp;omega,by simp;omega⟩,Ig λq hq=>h q (List.mem_cons_of_mem _ hq)⟩
theorem Ac4 {cs:List AV} {vs:List Value} (hc:C3 G cs vs) (h1:∀a∈cs,a.one=true):∀(i:Nat) (r:List AV) (j:Nat) (a:AV),[cs][i]?=some r->r[j]?=some a->a.one=true/\∃v,vs.toArray[i*cs.length+j]?=some v/\VR G a v:=λi r j a e1 e2=>by
 cases i with
 |succ i=>simp at e1
 |zero=>
  simp at e1
  subst e1
  refine⟨h1 a (List.mem_of_getElem? e2),?_⟩
  have hj:j<vs.length:=by rw[hc.1];exact(List.getElem?_eq_some_iff.1 e2).1
  exact⟨vs[j],by simp[hj],hc.2 j a _ e2 (List.getElem?_eq_getElem hj)⟩
theorem In {a:AV} (h:a.plain=true):∀x∈a.cells,x.one=true:=by
 cases a<;>simp only[AV.plain,AV.cells] at h⊢ <;>first
  |exact List.all_eq_true.1 h
  |(intro x hx;rw[List.mem_singleton.1 hx];exact h)
theorem AaE (S:Bl T G h w) {t b k i o n:Nat} {r:Bool} {a:AV} {v:Value} {objs:Af} (ht:EL P t=some (r,n)) (hp:a.plain=true) (hn:a.cells.length=n) (hv:VR G a v)
  (e:stA h.objs b k i o a.cells=some objs):∃w',(Instr.storeAt t (.pointer (some ⟨b,i*k+o,none⟩)) v).run P w= .ok () w'/\Bl T G ⟨objs,h.live⟩ w':=by
 unfold stA at e
 split at e<;>try(cases e;done)
 rename_i ob hg
 split at e<;>try(cases e;done)
 rename_i hc
 obtain⟨rfl,hfit⟩:=hc
 split at e<;>try(cases e;done)
 rename_i a0 r0 hr
 generalize hr0:a0::r0=row at hr e
 injection e with e
 subst e
 have hO:=S.obj _ (De hg)
 have hfits:ob.rows.length<=ob.c:=hO.fits
 obtain⟨vs,ty,fz,hh,hs,hz,hm⟩:=hO.mem
 dsimp only at hs hm
 have hcells:=hv.cells hp
 have hi:i<ob.rows.length:=(List.getElem?_eq_some_iff.1 hr).1
 have hrow:row.length=ob.k:=(hO.lenk row (List.mem_of_getElem? hr)).resolve_right (by rw[<-hr0];simp)
 have hik:i*ob.k+ob.k<=vs.size:=by
  rw[hs,<-Nat.succ_mul]
  exact Nat.mul_le_mul_right _ (by omega)
 have hlen:v.cells.toList.length=n:=by rw[hcells.1,hn]
 have hrun:=PZ (P:=P) (w:=w) (o:=i*ob.k+o) ht (v:=v) rfl hlen (λu hu=>by
  obtain⟨j,hj,rfl⟩:=List.getElem_of_mem hu
  have hj':j<a.cells.length:=by rw[<-hcells.1];exact hj
  exact(hcells.2 j _ _ (List.getElem?_eq_getElem hj') (List.getElem?_eq_getElem hj)).one (In hp _ (List.getElem_mem hj'))) hh hz (by omega)
 obtain⟨vs',h1,h2,h3⟩:=Dy b v.cells.toList (i*ob.k+o) w vs ty fz hh
 have hnewlen:(row.take o++(a.cells++row.drop (o+a.cells.length))).length=ob.k:=by simp;omega
 refine⟨_,hrun,S.write hg (Cq b _ _ w) (λo' u hu=>?_) ⟨hO.low,λi' r' j hr' hj=>?_,by simpa using hO.rest,λr' hr'=>?_,by simpa using hO.fits,hO.cmax,vs',ty,fz,h1,by rw[h2];exact hs,by rw[h2];exact hz,λi' r' j a' e1 e2=>?_⟩⟩
 ·rw[cell_of_row _ _ _ vs' ty fz h1,cell_of_row _ _ _ vs ty fz hh]
  rcases Nat.lt_or_ge o' vs.size with hlt|hge
  ·rw[h3 o' hlt,if_neg]
   rintro⟨g1,g2⟩
   have:=hO.free i row (o'-i*ob.k) hr (by omega)
   rw[show i*ob.k+(o'-i*ob.k)=o' by omega,hu] at this
   cases this
  ·rw[Array.getElem?_eq_none (by omega),Array.getElem?_eq_none hge]
 ·dsimp only at hr'⊢
  by_cases hii:i=i'
  ·subst hii
   rw[List.getElem?_set_self hi] at hr'
   injection hr' with hr'
   exact hO.free i row j hr (by rw[<-hr',hnewlen] at hj;omega)
  ·rw[List.getElem?_set_ne hii] at hr'
   exact hO.free i' r' j hr' hj
 ·rcases List.mem_or_eq_of_mem_set hr' with hr'|rfl
  ·exact hO.lenk r' hr'
  ·exact .inl hnewlen
 ·dsimp only at e1 e2⊢
  have hi':i'<ob.rows.length:=by
   grind
  have hlt:i'*ob.k+ob.k<=vs.size:=by
   rw[hs,<-Nat.succ_mul]
   exact Nat.mul_le_mul_right _ (by omega)
  by_cases hii:i=i'
  ·subst hii
   rw[List.getElem?_set_self hi] at e1
   injection e1 with e1
   subst e1
   have hj:j<ob.k:=by rw[<-hnewlen];exact(List.getElem?_eq_some_iff.1 e2).1
   rw[h3 _ (by omega)]
   rcases Nat.lt_or_ge j o with hjo|hjo
   ·rw[if_neg (by omega)]
    rw[List.getElem?_append_left (by simp;omega),List.getElem?_take_of_lt hjo] at e2
    exact hm i row j a' hr e2
   ·rw[List.getElem?_append_right (by simp;omega)] at e2
    have hto:(row.take o).length=o:=by simp;omega
    rw[hto] at e2
    rcases Nat.lt_or_ge (j-o) a.cells.length with hjn|hjn
    ·rw[if_pos (by omega)]
     rw[List.getElem?_append_left hjn] at e2
     have e3:v.cells.toList[j-o]?=some (v.cells.toList[j-o]'(by omega)):=List.getElem?_eq_getElem _
     refine⟨In hp _ (List.mem_of_getElem? e2),_,?_,hcells.2 _ _ _ e2 e3⟩
     rw[show i*ob.k+j-(i*ob.k+o)=j-o by omega]
     exact e3
    ·rw[if_neg (by omega)]
     rw[List.getElem?_append_right hjn,List.getElem?_drop] at e2
     have:o+a.cells.length+(j-o-a.cells.length)=j:=by omega
     rw[this] at e2
     exact hm i row j a' hr e2
  ·rw[List.getElem?_set_ne hii] at e1
   have hj:j<ob.k:=by
    have hj0:=(List.getElem?_eq_some_iff.1 e2).1
    rcases hO.lenk r' (List.mem_of_getElem? e1) with hl|hl
    ·rw[<-hl];exact hj0
    ·rw[hl] at hj0;simp at hj0
   rw[h3 _ (by omega),if_neg]
   ·exact hm i' r' j a' e1 e2
   ·rintro⟨g1,g2⟩
    have ho:o+n<=ob.k:=by omega
    rcases Nat.lt_or_ge i' i with hlt2|hge
    ·have:(i'+1)*ob.k<=i*ob.k:=Nat.mul_le_mul_right _ (by omega)
     rw[Nat.succ_mul] at this
     omega
    ·have:(i+1)*ob.k<=i'*ob.k:=Nat.mul_le_mul_right _ (by omega)
     rw[Nat.succ_mul] at this
     omega
theorem YO {a:Act} (R:Dz G sl a.tmps) {j:Nat} {want t:Bool} (e:U8 ops sl j want=some t) (hg:o.guard=some (j,want)):Region.wanted o (yielded ops a.tmps)=t:=by
 unfold Region.wanted
 rw[hg]
 dsimp only
 unfold yielded
 unfold U8 at e
 split at e
 ·rename_i d hd
  rw[hd]
  simp only[Option.bind_some,List.getD] at e⊢
  cases hs:sl[d]? with
  |none=>simp[hs] at e
  | some x=>
   obtain⟨v,h1,h2⟩:=R.2 d x hs
   rw[h1]
   rw[hs,Option.getD_some] at e
   split at e
   ·injection e with e
    subst e
    rw[h2.bool_inv]
    grind
   ·rename_i g b
    injection e with e
    subst e
    cases h2 with
    |cndT h2=>rw[h2.bool_inv];cases want<;>cases b<;>rfl
    |cndF=>cases want<;>rfl
   ·injection e with e
    subst e
    cases h2
    cases want<;>rfl
   ·injection e with e
    subst e
    cases h2
    cases want<;>rfl
   ·cases e
 ·grind
theorem Aal {op:Op} {ρ:Operand->AV} {h h':AH} (hl:∀t a,op≠ .load t a):MO P op ρ h=MO P op ρ h':=by
 cases op<;>first|rfl|exact absurd rfl (hl _ _)|(unfold MO;split<;>first|rfl|(rename_i e;cases e))
theorem Ru {o:Oper} (h:Np o=true):∀t a,o.op≠ .load t a:=λt a e=>by
 grind[Np]
theorem Jn.of_opP {ρ:Operand->AV} {r:PV} (he:MO P o.op ρ h=some r) (hs:r.1):Jn P T o ρ h r.2:=by
 intro G w a S hv Kc Q hK
 obtain⟨G',v,w',hrun,hG',S',hv'⟩:=Aam he hs rfl S hv
 unfold Oper.wp
 rw[hrun]
 exact hK G' v w' hG' S' hv'
theorem DW.val {cp:Bool} {r:PV} (hg:o.guard=none) (he:MO P o.op (ev T sl) h=some r) (hs:r.1) (k:DW P T cp ops rest (AO o.dst r.2 sl) h K X):DW P T cp ops (o::rest) sl h K X:=by
 unfold DW
 by_cases hb:BP cp o=true
 ·rw[if_pos hb]
  exact⟨hg,λG w a S hv Kc Q hK _=>Jn.of_opP he hs G w a S hv Kc Q λG' u w' h1 h2 h3=>hK r.2 h G' u w' k h1 h2 h3⟩
 all_goals grind[Yg,Jn.of_opP,Aal,Ru]
theorem S4 {r:PV} (he:opG P o.op T sl h=some r) (hs:r.1):Jn P T o (ev T sl) h r.2:=by
 unfold opG at he
 split at he
 ·rename_i c x y ho
  injection he with he
  subst he
  exact Jn.of_opP (by rw[ho];rfl) hs
 ·split at he
  ·rename_i q hq
   injection he with he
   subst he
   intro G w a S hv Kc Q hK
   obtain⟨G',v,w',hrun,hG',S',hv'⟩:=Aam hq hs.2 rfl S (ec:=a.eval) (λx hx=>(hv x hx).strip (LL hs.1 (Ac5 hx)))
   unfold Oper.wp
   rw[hrun]
   exact hK G' v w' hG' S' hv'
  ·cases he
theorem Af5 {op:Op} {h h':AH} (hl:∀t a,op≠ .load t a):opG P op T sl h=opG P op T sl h':=by
 unfold opG
 all_goals grind[Aal]
theorem Abn {cp:Bool} {r:PV} {g:Nat×Bool} {t:Bool} (hg:o.guard=some g) (ht:U8 ops sl g.1 g.2=some t) (he:opG P o.op T sl h=some r) (hs:t=true->r.1) (k:DW P T cp ops rest (AO o.dst (.cnd t r.2) sl) h K X):DW P T cp ops (o::rest) sl h K X:=by
 all_goals grind[DW,BP,Yg,S4,Af5,Ru]
theorem Rh {cp:Bool} {e:Eff} (hg:o.guard=none) (he:Wx P o.op (ev T sl) h=some e):BP cp o=true:=by
 grind[BP,Wx]
theorem TY {e:Eff} {N:AV->AH->Prop} (hg:o.guard=none) (he:Wx P o.op (ev T sl) h=some e)
  (k:match e with
   | .obj ob=> ∀b,Ab b h.objs->N (.ptr b ob.k 0 0) ⟨(b,ob)::h.objs,h.live⟩
   | .put objs=>N .undef ⟨objs,h.live⟩):Jf P T o sl h N X:=by
 refine⟨hg,λG w a S hv Kc Q hK _=>?_⟩
 have newobj:∀(cs:List AV) (vs:List Value) (ty:TypeId),C3 G cs vs->(∀x∈cs,x.one=true)->Bl T G ⟨(w.heap.size,⟨cs.length,1,[cs]⟩)::h.objs,h.live⟩ (w.alloc (.cells vs.toArray ty)):=λcs vs ty hc h1=>
  S.alloc ⟨cs.length,1,[cs]⟩ vs.toArray ty (0,0) (by simp) (by simp) (by show 1<=maxLen;decide) (by simp[hc.1]) (λo _=>by simp) (Ac4 hc h1)
 unfold Wx at he
 split at he
 ·rename_i t ho
  split at he<;>try(cases he;done)
  rename_i z hz
  injection he with he
  subst he
  unfold zI at hz
  split at hz<;>try(cases hz;done)
  rename_i zv hzv
  split at hz<;>try(cases hz;done)
  rename_i hone
  injection hz with hz
  subst hz
  obtain⟨i,hi,hiz⟩:=Option.bind_eq_some_iff.1 hzv
  have S':=newobj (zv.cells.toList.map ofV) zv.cells.toList t (KM _) (List.all_eq_true.1 hone)
  have hrun:(execOp a.eval o).run P w= .ok (.value (.pointer (some ⟨w.heap.size,0,none⟩))) (w.alloc (.cells zv.cells t)):=by
   unfold execOp
   simp only[ho]
   simp[Instr.alloc,zeroValue,typeInfo,hi,hiz,newVar,newRow,newObj,Sem.run,program]
  unfold Oper.wp
  rw[hrun]
  have hptr:=VR.ptr (G:=G) w.heap.size (zv.cells.toList.map ofV).length 0 0
  simp only[Nat.zero_mul,Nat.add_zero] at hptr
  exact hK _ _ G _ _ (k w.heap.size (Ig S.fresh)) (B8.refl G) (by simpa using S') hptr
 ·rename_i t x ho
  split at he<;>try(cases he;done)
  rename_i hp
  injection he with he
  subst he
  have hv:=hv x (by simp[ho,Op.operands])
  have hc:=hv.cells hp
  have S':=newobj _ _ t hc (In hp)
  have hrun:(execOp a.eval o).run P w= .ok (.value (.pointer (some ⟨w.heap.size,0,none⟩))) (w.alloc (.cells (a.eval x).cells t)):=by
   unfold execOp
   simp only[ho]
   simp[Instr.box,newVar,newRow,newObj,Sem.run]
  unfold Oper.wp
  rw[hrun]
  have hptr:=VR.ptr (G:=G) w.heap.size (ev T sl x).cells.length 0 0
  simp only[Nat.zero_mul,Nat.add_zero] at hptr
  exact hK _ _ G _ _ (k w.heap.size (Ig S.fresh)) (B8.refl G) (by simpa using S') hptr
 ·rename_i t ad v ho
  split at he<;>try(cases he;done)
  rename_i b kk i off r n hptr hty
  split at he<;>try(cases he;done)
  rename_i hc
  split at he<;>try(cases he;done)
  rename_i objs hst
  injection he with he
  subst he
  obtain⟨w',hrun,S'⟩:=AaE S hty hc.1 hc.2 (hv v (by simp[ho,Op.operands])) hst
  have had:=hv ad (by simp[ho,Op.operands])
  rw[hptr] at had
  have had:a.eval ad= .pointer (some ⟨b,i*kk+off,none⟩):=by
   generalize a.eval ad=z at had
   cases had
   rfl
  have hrun':(execOp a.eval o).run P w= .ok .skip w':=by
   unfold execOp
   simp only[ho,had,Sem.run_bind,hrun,Result.andThen_ok,Sem.run_pure]
  unfold Oper.wp
  rw[hrun']
  exact hK _ _ G Go.undef w' k (B8.refl G) S' .undef
 ·cases he
theorem AN {cp:Bool} :∀(l:List Oper) (sl:List AV) (h:AH),lvc P T cp ops l sl h K X->DW P T cp ops l sl h K X
 |[],sl,h,H=>H
 | o::rest,sl,h,H=>by
  unfold lvc at H
  split at H
  ·rename_i hg
   split at H
   ·rename_i r hr
    exact DW.val hg hr H.1 (AN rest _ _ H.2)
   ·split at H
    ·rename_i ob he
     unfold DW
     rw[if_pos (Rh hg he)]
     exact TY hg he λb hb=>AN rest _ _ (H b hb)
    ·rename_i objs he
     unfold DW
     rw[if_pos (Rh hg he)]
     exact TY hg he (AN rest _ _ H)
    ·exact H
  ·rename_i g hg
   split at H
   ·rename_i t ht
    split at H
    ·rename_i r hr
     exact Abn hg ht hr H.1 (AN rest _ _ H.2)
    ·exact H
   ·exact H.elim
theorem Yg.run {v:AV} (hy:Yg P T ops o v sl h) {G:Gh} {w:World} {a:Act} (S:Bl T G h w) (R:Dz G sl a.tmps) {Kc:Act->World->Prop} {Q:Exit->Act->World->Prop}
  (hK:∀G' u w',B8 G G'->Bl T G' h w'->VR G' v u->Kc (a.put o.dst u) w'):if Region.wanted o (yielded ops a.tmps)=true then o.wp P a w Kc Q else Kc (a.put o.dst Go.undef) w:=by
 unfold Yg at hy
 split at hy
 ·rename_i hg
  rw[if_pos (by simp[Region.wanted,hg])]
  exact hy G w a S (λx _=>F4 S R x) Kc Q hK
 ·rename_i g hg
  obtain⟨t,v0,ht,rfl,hv⟩:=hy
  rw[YO R ht hg]
  cases t with
  |true=>
   rw[if_pos rfl]
   exact hv rfl G w a S (λx _=>F4 S R x) Kc Q λG' u w' h1 h2 h3=>hK G' u w' h1 h2 (.cndT h3)
  |false=>
   rw[if_neg (by simp)]
   exact hK G _ w (B8.refl G) S (.cndF _)
theorem Jp {cp:Bool} :∀(l:List Oper) (sl:List AV) (h:AH),DW P T cp ops l sl h K X->LV P T ops l sl h K X
 |[],sl,h,H=>λG0 G w a ds hG S R hd=>⟨hd,.normal,sl,h,G,H,trivial,hG,S,R⟩
 | o::rest,sl,h,H=>by
  intro G0 G w a ds hG S R hd
  unfold DW at H
  split at H
  ·obtain⟨hg,H⟩:=H
   refine wpList_plain hg λK' hK'=>H G w a S (λx _=>F4 S R x) K' _ (λr h' G' u w' hr hG' S' hu=>?_) (λp h' G' u w' hp hG' S' hu=>?_)
   ·exact hK' _ _ (Jp rest _ _ hr G0 G' w' _ ds (hG.trans hG') S' ((R.mono hG').put hu o.dst) (by rw[Bv];exact hd))
   ·exact⟨hd,.pan p,sl,h',G',hp,⟨u,rfl,hu⟩,hG.trans hG',S',R.mono hG'⟩
  ·obtain⟨v,hy,_,hr⟩:=H
   refine wpList_step λK' hK'=>hy.run S R λG' u w' hG' S' hu=>?_
   exact hK' _ _ (Jp rest _ _ hr G0 G' w' _ ds (hG.trans hG') S' ((R.mono hG').put hu o.dst) (by rw[Bv];exact hd))
theorem CB {c:Code} {Q:AQ} (H:∀(G:Gh) (w:World) (a:Act),Bl T G h w->Dz G sl a.tmps->c.wp P (IH T (LQ (λs h=>Q .normal s h) (λp h=> ∀s,Q (.pan p) s h)) G a.defers) a w):Aa P T c Q sl h:=by
 intro G w a S R
 refine wp_mono (H G w a S R) ?_
 rintro e a' w' ⟨hd,x,s,h',G',hq,hx,hG,S',R'⟩
 cases x with
 |normal=>exact⟨hd,.normal,s,h',G',hq,hx,hG,S',R'⟩
 |pan p=>exact⟨hd,.pan p,s,h',G',hq s,hx,hG,S',R'⟩
 |exit i=>exact hq.elim
 |ret=>exact hq.elim
theorem Jm {id:Nat} {l:List Oper} {Q:AQ} (H:lvc P T false l.toArray l sl h (λs h=>Q .normal s h) (λp h=> ∀s,Q (.pan p) s h)):Aa P T (.region id l.toArray false) Q sl h:=
 CB λG w a S R=>wp_region_lit (Jp l sl h (AN l sl h H) G G w a a.defers (B8.refl G) S R rfl)
theorem A6 {id:Nat} {l:List Oper} {y:Code} {Q:AQ} (H:∀K:List AV->AH->Prop,(∀s h,Aa P T y Q s h->K s h)->lvc P T false l.toArray l sl h K (λp h=> ∀s,Q (.pan p) s h)):Aa P T (.seq (.region id l.toArray false) y) Q sl h:=
 Aa.seq λK hK=>Jm (H K hK)
structure PC (P:Program) (T:Ap) (f:FuncId) (args:List AV) (r:AV):Prop where
 call:∀az w,(callFunc f az).run P w= .ok (.enter f az) w
 run:Ar P T f args r
structure AC (P:Program) (T:Ap) (f:FuncId) (args:List AV) (h:AH) (R:AR->AH->Prop):Prop where
 call:∀az w,(callFunc f az).run P w= .ok (.enter f az) w
 run:Ao P T f args h R
theorem Na {c:Call} {fo:Operand} {f:FuncId} {cap:List AV} {ρ:Operand->AV} {a:Act} (ho:o.op= .call c) (hc:c.callee= .value fo) (hf:ρ fo= .fn f cap) (hv:∀x∈o.op.operands.toList,VR G (ρ x) (a.eval x))
  (hcall:∀az w,(callFunc f az).run P w= .ok (.enter f az) w):∃vs:Array Value,(execOp a.eval o).run P w= .ok (.enter f vs) w/\Dz G (c.args.toList.map ρ++cap) vs:=by
 have hv':=hv fo (by simp[ho,Op.operands,Call.operands,hc])
 rw[hf] at hv'
 generalize hz:a.eval fo=z at hv'
 cases hv' with
 | fn _ _ us hl hcap=>
  refine⟨c.args.map a.eval++us.toArray,?_,by simp[hl],λi x e=>?_⟩
  ·unfold execOp
   simp only[ho,resolve,hc,hz,Deferred.ofValue]
   simp[invoke,hcall]
  ·rcases Nat.lt_or_ge i c.args.size with hi|hi
   ·rw[List.getElem?_append_left (by simpa using hi),List.getElem?_map] at e
    obtain⟨q,hq,rfl⟩:=Option.map_eq_some_iff.1 e
    refine⟨a.eval q,?_,hv q (by
     have:=List.mem_of_getElem? hq
     simp[ho,Op.operands,Call.operands,hc]
     exact .inr (by simpa using this))⟩
    rw[Array.getElem?_append_left (by simpa using hi),Array.getElem?_map]
    rw[Array.getElem?_toList] at hq
    rw[hq]
    rfl
   ·rw[List.getElem?_append_right (by simpa using hi)] at e
    simp only[List.length_map,Array.length_toList] at e
    have hlt:i-c.args.size<us.length:=by rw[hl];exact(List.getElem?_eq_some_iff.1 e).1
    refine⟨us[i-c.args.size],?_,hcap _ _ _ e (List.getElem?_eq_getElem hlt)⟩
    rw[Array.getElem?_append_right (by simpa using hi)]
    simp[hlt]
theorem XA {c:Call} {fo:Operand} {f:FuncId} {cap:List AV} {R:AR->AH->Prop} {N:AV->AH->Prop} (ho:o.op= .call c) (hg:o.guard=none) (hc:c.callee= .value fo) (hf:ev T sl fo= .fn f cap)
  (C:AC P T f (c.args.toList.map (ev T sl)++cap) h R)
  (k:∀x h',R x h'->match x with
   | .ret r=>N r h'
   | .pan p=>X p h'):Jf P T o sl h N X:=by
 refine⟨hg,λG w a S hv Kc Q hK hX=>?_⟩
 obtain⟨vs,hrun,hvs⟩:=Na ho hc hf (a:=a) hv C.call
 unfold Oper.wp
 rw[hrun]
 refine(C.run G w vs S hvs).mono ?_
 rintro e w' ⟨x,h',G',hR,hG',S',hx⟩
 have hk:=k x h' hR
 cases x with
 |ret r=>
  obtain⟨v,rfl,hv⟩:=hx
  exact hK r h' G' v w' hk hG' S' hv
 |pan p=>
  obtain⟨v,rfl,hv⟩:=hx
  exact hX p h' G' v w' hk hG' S' hv
theorem If {c:Call} {fo:Operand} (ho:o.op= .call c) (hg:o.guard=none) (hc:c.callee= .value fo) (cp:Bool):BP cp o=!cp:=by
 unfold BP
 rw[hg,ho]
 obtain⟨ca,ar,at_⟩:=c
 grind
theorem Jn.pc {c:Call} {fo:Operand} {f:FuncId} {cap args:List AV} {r:AV} {ρ:Operand->AV} (ho:o.op= .call c) (hc:c.callee= .value fo) (hf:ρ fo= .fn f cap)
  (C:PC P T f args r) (ha:Bj false (c.args.toList.map ρ++cap) args):Jn P T o ρ h r:=by
 intro G w a S hv Kc Q hK
 obtain⟨vs,hrun,hvs⟩:=Na ho hc hf (a:=a) hv C.call
 unfold Oper.wp
 rw[hrun]
 refine((C.run.acalls (h:=h) ha) G w vs S hvs).mono ?_
 rintro e w' ⟨x,h',G',⟨rfl,rfl,_⟩,hG',S',v,rfl,hv⟩
 exact hK G' v w' hG' S' hv
theorem DW.pc {cp:Bool} {c:Call} {fo:Operand} {f:FuncId} {cap args:List AV} {r:AV} (ho:o.op= .call c) (hg:o.guard=none) (hc:c.callee= .value fo) (hf:ev T sl fo= .fn f cap)
  (C:PC P T f args r) (ha:Bj false (c.args.toList.map (ev T sl)++cap) args) (k:lvc P T cp ops rest (AO o.dst r sl) h K X):DW P T cp ops (o::rest) sl h K X:=by
 have hy:∀h,Jn P T o (ev T sl) h r:=λh=>Jn.pc ho hc hf C ha
 unfold DW
 rw[If ho hg hc cp]
 cases cp with
 |true=>
  rw[if_neg (by simp)]
  exact⟨r,by unfold Yg;rw[hg];exact hy h,λ_ h'=>by unfold Yg;rw[hg];exact hy h',AN rest _ _ k⟩
 |false=>
  rw[if_pos (by rfl)]
  exact⟨hg,λG w a S hv Kc Q hK _=>hy h G w a S hv Kc Q λG' u w' h1 h2 h3=>hK r h G' u w' (AN rest _ _ k) h1 h2 h3⟩
theorem Aec {cp:Bool} {c:Call} {fo:Operand} {f:FuncId} {cap args:List AV} {r:AV} {g:Nat×Bool} {t:Bool} (ho:o.op= .call c) (hg:o.guard=some g) (ht:U8 ops sl g.1 g.2=some t) (hc:c.callee= .value fo) (hf:Ri T sl fo= .fn f cap)
  (C:t=true->PC P T f args r) (hok:t=true->okL T sl (fo::c.args.toList)=true) (ha:Bj false (c.args.toList.map (Ri T sl)++cap) args) (k:lvc P T cp ops rest (AO o.dst (.cnd t r) sl) h K X):DW P T cp ops (o::rest) sl h K X:=by
 have hy:t=true->∀h,Jn P T o (ev T sl) h r:=λe h=>by
  intro G w a S hv Kc Q hK
  refine(Jn.pc (h:=h) (ρ:=Ri T sl) ho hc hf (C e) ha) G w a S (λx hx=>(hv x hx).strip (LL (hok e) ?_)) Kc Q hK
  rw[ho] at hx
  simpa[Op.operands,Call.operands,hc] using hx
 unfold DW
 rw[if_neg (by unfold BP;rw[hg];simp)]
 exact⟨.cnd t r,by unfold Yg;rw[hg];exact⟨t,r,ht,rfl,λe=>hy e h⟩,λ_ h'=>by unfold Yg;rw[hg];exact⟨t,r,ht,rfl,λe=>hy e h'⟩,AN rest _ _ k⟩
end
end
end Go.Proofs.YtidldcfpmehpiaaGreatDoor
