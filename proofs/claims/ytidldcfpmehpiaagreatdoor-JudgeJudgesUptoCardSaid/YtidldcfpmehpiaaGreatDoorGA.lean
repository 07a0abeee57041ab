/- Texts that the laws rest on, packed. -/
import Derived.Deep.MidRow
import Derived.Deep.Quiet
import Derived.Below
import Derived.Laws.IdiomCopy
import Derived.Laws.Strings
import Derived.IntWalk
import Derived.Laws.BytesString
import Derived.Laws.StructEq
import Derived.Lib.Strings
import Derived.Laws.IdiomStrings
set_option linter.unusedSimpArgs false
set_option linter.unusedVariables false
set_option maxRecDepth 20000
set_option maxHeartbeats 4000000
namespace Go.Proofs.YtidldcfpmehpiaaGreatDoor
section
open Go.RowKit
inductive D where
 |int (k:IntKind) (n:Int)
 |bool (b:Bool)
 |str (s:List UInt8)
 |slc (k:Nat) (rows:List (List D))
 |raw (v:Value)
 deriving Inhabited
inductive AV where
 |d (x:D)
 |own (t k:Nat) (rows:List (List D))
 |nils
 |full (k:Nat) (rows:List (List D))
 |nn (k:Nat) (rows:List (List D))
 |ptr (b k i o:Nat)
 |elt (k:Nat) (rows:List (List D)) (i o:Nat)
 |arr (b k n c:Nat)
 |lar (b k:Nat) (rows:List (List D)) (c:Nat)
 |fn (f:FuncId) (cap:List AV)
 |nilf
 |nilp
 |agg (l:List AV)
 |tup (l:List AV)
 |ifc (t:TypeId) (v:AV)
 |nili
 |cnd (g:Bool) (a:AV)
 |mp (t:Nat) (ks:List (List UInt8))
 |undef
 |any
 deriving Inhabited
structure Ob where
 k:Nat
 c:Nat
 rows:List (List AV)
structure AH where
 objs:List (Nat×Ob)
 live:List Nat
abbrev Frz:=Nat→Nat→Option Value
inductive VD (F:Frz):D→Value→Prop where
 |int (k:IntKind) (n:Int):VD F (.int k n) (.int k n)
 |bool (b:Bool):VD F (.bool b) (.bool b)
 |str (s:ByteArray) (h:s.size≤maxLen):VD F (.str s.data.toList) (.string s)
 |slc0 (k:Nat) (A:Option Addr) (c:Nat) (h:A=none→c=0) (hm:c≤maxLen):VD F (.slc k []) (.slice A 0 c)
 | slc (k:Nat) (rows:List (List D)) (b off c:Nat) (val:Nat→Nat→Value) (h0:0<rows.length) (hc:rows.length≤c) (hm:c≤maxLen)
   (hk:∀r∈rows,r.length=k)
   (hf:∀(i:Nat) (r:List D) (j:Nat) (x:D),rows[i]?=some r→r[j]?=some x→F b (off+(i*k+j))=some (val i j))
   (hv:∀(i:Nat) (r:List D) (j:Nat) (x:D),rows[i]?=some r→r[j]?=some x→VD F x (val i j)):VD F (.slc k rows) (.slice (some ⟨b,off,none⟩) rows.length c)
 |raw (v:Value) (h:v.oneCell'=true):VD F (.raw v) v
theorem VD.mono {F F':Frz} (hF:∀b o u,F b o=some u→F' b o=some u) {x:D} {v:Value} (h:VD F x v):VD F' x v:=by
 induction h with
 |int k n=>exact .int k n
 |bool b=>exact .bool b
 |str s h=>exact .str s h
 |slc0 k A c h hm=>exact .slc0 k A c h hm
 |raw v h=>exact .raw v h
 |slc k rows b off c val h0 hc hm hk hf hv ih=>exact .slc k rows b off c val h0 hc hm hk (fun i r j x h1 h2=>hF _ _ _ (hf i r j x h1 h2)) ih
section
variable {F:Frz} {v:Value} {k:IntKind} {n:Int} {b:Bool} {s:List UInt8} {kk:Nat} {rows:List (List D)}
theorem VD.int_inv (h:VD F (.int k n) v):v= .int k n:=by cases h;rfl
theorem VD.bool_inv (h:VD F (.bool b) v):v= .bool b:=by cases h;rfl
theorem VD.str_inv (h:VD F (.str s) v):∃t:ByteArray,v= .string t∧t.data.toList=s∧t.size≤maxLen:=by cases h with|str t h=>exact⟨t,rfl,rfl,h⟩
theorem VD.slc_inv (h:VD F (.slc kk rows) v):∃A c,v= .slice A rows.length c∧rows.length≤c∧c≤maxLen∧(A=none→c=0)∧(∀r∈rows,r.length=kk)∧
  (0<rows.length→∃b off,∃val:Nat→Nat→Value,A=some ⟨b,off,none⟩∧∀(i:Nat) (r:List D) (j:Nat) (x:D),rows[i]?=some r→r[j]?=some x→F b (off+(i*kk+j))=some (val i j)∧VD F x (val i j)):=by
 cases h with
 |slc0 _ A c h hm=>exact⟨A,c,rfl,by simp,hm,h,by simp,by simp⟩
 |slc _ _ b off c val h0 hc hm hk hf hv=>exact⟨_,c,rfl,hc,hm,by simp,hk,fun _=>⟨b,off,val,rfl,fun i r j x h1 h2=>⟨hf i r j x h1 h2,hv i r j x h1 h2⟩⟩⟩
theorem VD.one {x:D} (h:VD F x v):v.oneCell'=true:=by cases h<;>first|rfl|assumption
end
theorem VD.bstr {F:Frz} (s:List UInt8) (h:s.length≤maxLen):VD F (.str s) (.string ⟨s.toArray⟩):=by
 have:=VD.str (F:=F) (⟨s.toArray⟩:ByteArray) (by simpa[ByteArray.size] using h)
 simpa using this
structure Gh where
 base:World
 frz:Frz
 tok:Nat→Option (Nat×Value)
 nt:Nat
def mpT (r:Nat) (ks:List (List UInt8)):Value:= .tuple (Value.map (some r)::ks.map fun s=>Value.string ⟨s.toArray⟩).toArray
theorem mpT_inj {r r':Nat} {ks ks':List (List UInt8)} (h:mpT r ks=mpT r' ks'):r=r'∧ks=ks':=by
 unfold mpT at h
 injection h with h
 have h2:=congrArg Array.toList h
 simp only[List.cons.injEq,Value.map.injEq,Option.some.injEq] at h2
 refine⟨h2.1,?_⟩
 have h3:=h2.2
 clear h h2
 induction ks generalizing ks' with
 |nil=>cases ks' with
  |nil=>rfl
  |cons _ _=>simp at h3
 | cons a l ih=>cases ks' with
  |nil=>simp at h3
  |cons b l'=>
   simp only[List.map_cons,List.cons.injEq,Value.string.injEq,ByteArray.mk.injEq] at h3
   rw[ih h3.2,show a=b from by have:=congrArg Array.toList h3.1;simpa using this]
def MapR (es:Array MapEntry) (ks:List (List UInt8)):Prop:=es.toList.map (fun e=>(e.key,e.val))=ks.map fun s=>(Value.string ⟨s.toArray⟩,Value.agg #[])
inductive VR (G:Gh):AV→Value→Prop where
 |d {x:D} {v:Value} (h:VD G.frz x v):VR G (.d x) v
 |own {t k:Nat} {rows:List (List D)} {v:Value} (h:VD G.frz (.slc k rows) v) (ht:G.tok t=some (k,v)):VR G (.own t k rows) v
 |nils:VR G .nils (.slice none 0 0)
 |full {k:Nat} {rows:List (List D)} {A:Option Addr} (h:VD G.frz (.slc k rows) (.slice A rows.length rows.length)):VR G (.full k rows) (.slice A rows.length rows.length)
 |nn {k:Nat} {rows:List (List D)} {a:Addr} {c:Nat} (h:VD G.frz (.slc k rows) (.slice (some a) rows.length c)):VR G (.nn k rows) (.slice (some a) rows.length c)
 |ptr (b k i o:Nat):VR G (.ptr b k i o) (.pointer (some ⟨b,i*k+o,none⟩))
 | elt (k:Nat) (rows:List (List D)) (i o b off:Nat) (val:Nat→Value) (r:List D) (hr:rows[i]?=some r)
   (hf:∀(j:Nat) (x:D),r[j]?=some x→G.frz b (off+j)=some (val j)) (hv:∀(j:Nat) (x:D),r[j]?=some x→VD G.frz x (val j)):VR G (.elt k rows i o) (.pointer (some ⟨b,off+o,none⟩))
 |arr (b k n c:Nat):VR G (.arr b k n c) (.slice (some ⟨b,0,none⟩) n c)
 |lar {b k:Nat} {rows:List (List D)} {c:Nat} (h:VD G.frz (.slc k rows) (.slice (some ⟨b,0,none⟩) rows.length c)) (h1:rows.length+1≤c):VR G (.lar b k rows c) (.slice (some ⟨b,0,none⟩) (rows.length+1) c)
 |fn (f:FuncId) (cap:List AV) (vs:List Value) (hl:vs.length=cap.length) (h:∀(i:Nat) (a:AV) (v:Value),cap[i]?=some a→vs[i]?=some v→VR G a v):VR G (.fn f cap) (.func (.func f) #[] vs.toArray)
 |nilf:VR G .nilf .nilFunc
 |nilp:VR G .nilp (.pointer none)
 |agg (l:List AV) (vs:List Value) (hl:vs.length=l.length) (h:∀(i:Nat) (a:AV) (v:Value),l[i]?=some a→vs[i]?=some v→VR G a v):VR G (.agg l) (.agg vs.toArray)
 |tup (l:List AV) (vs:List Value) (hl:vs.length=l.length) (h:∀(i:Nat) (a:AV) (v:Value),l[i]?=some a→vs[i]?=some v→VR G a v):VR G (.tup l) (.tuple vs.toArray)
 |ifc (t:TypeId) {a:AV} {v:Value} (h:VR G a v):VR G (.ifc t a) (.iface t v)
 |nili:VR G .nili .nilIface
 |cndT {a:AV} {v:Value} (h:VR G a v):VR G (.cnd true a) v
 |cndF (a:AV):VR G (.cnd false a) Go.undef
 |mp {t r:Nat} {ks:List (List UInt8)} (ht:G.tok t=some (0,mpT r ks)):VR G (.mp t ks) (.map (some r))
 |undef:VR G .undef Go.undef
 |any (v:Value):VR G .any v
structure Gle (G G':Gh):Prop where
 base:G'.base=G.base
 frz:∀b o u,G.frz b o=some u→G'.frz b o=some u
 new:∀b o u,G'.frz b o=some u→G.frz b o=some u∨G.base.heap.size≤b
 tok:∀t x,G.tok t=some x→G'.tok t=some x
theorem Gle.refl (G:Gh):Gle G G:=⟨rfl,fun _ _ _ h=>h,fun _ _ _ h=> .inl h,fun _ _ h=>h⟩
theorem Gle.trans {G G' G'':Gh} (h:Gle G G') (k:Gle G' G''):Gle G G'':=
 ⟨k.base.trans h.base,fun b o u e=>k.frz _ _ _ (h.frz _ _ _ e),fun b o u e=>(k.new b o u e).elim (fun e=>h.new b o u e) (fun e=> .inr (by rw[←h.base];exact e)),fun t x e=>k.tok _ _ (h.tok _ _ e)⟩
theorem VR.mono2 {G G':Gh} (hF:∀b o u,G.frz b o=some u→G'.frz b o=some u) (hT:∀t x,G.tok t=some x→G'.tok t=some x) {a:AV} {v:Value} (h:VR G a v):VR G' a v:=by
 induction h with
 |d h=>exact .d (h.mono hF)
 |own h ht=>exact .own (h.mono hF) (hT _ _ ht)
 |nils=>exact .nils
 |full h=>exact .full (h.mono hF)
 |nn h=>exact .nn (h.mono hF)
 |ptr b k i o=>exact .ptr b k i o
 |elt k rows i o b off val r hr hf hv=>exact .elt k rows i o b off val r hr (fun j x hx=>hF _ _ _ (hf j x hx)) (fun j x hx=>(hv j x hx).mono hF)
 |arr b k n c=>exact .arr b k n c
 |lar h h1=>exact .lar (h.mono hF) h1
 |fn f cap vs hl h ih=>exact .fn f cap vs hl ih
 |nilf=>exact .nilf
 |nilp=>exact .nilp
 |agg l vs hl h ih=>exact .agg l vs hl ih
 |tup l vs hl h ih=>exact .tup l vs hl ih
 |ifc t h ih=>exact .ifc t ih
 |nili=>exact .nili
 |cndT h ih=>exact .cndT ih
 |cndF a=>exact .cndF a
 |mp ht=>exact .mp (hT _ _ ht)
 |undef=>exact .undef
 |any v=>exact .any v
theorem VR.mono {G G':Gh} (hG:Gle G G') {a:AV} {v:Value} (h:VR G a v):VR G' a v:=h.mono2 hG.frz hG.tok
def AV.one:AV→Bool
 | .agg _| .tup _| .cnd .. | .undef| .any=>false
 |_=>true
theorem VR.one {G:Gh} {a:AV} {v:Value} (h:VR G a v) (ha:a.one=true):v.oneCell'=true:=by
 cases h with
 |d h=>exact h.one
 |own h _=>exact h.one
 |agg|tup|cndT|cndF|undef|any=>simp[AV.one] at ha
 |_=>rfl
structure ObR (G:Gh) (w:World) (b:Nat) (ob:Ob):Prop where
 low:G.base.heap.size≤b
 free:∀(i:Nat) (r:List AV) (j:Nat),ob.rows[i]?=some r→j<r.length→G.frz b (i*ob.k+j)=none
 rest:∀o,ob.rows.length*ob.k≤o→G.frz b o=none
 lenk:∀r∈ob.rows,r.length=ob.k∨r=[]
 fits:ob.rows.length≤ob.c
 cmax:ob.c≤maxLen
 mem:∃(vs:Array Value) (e:TypeId) (fz:Nat×Nat),w.heap[b]?=some (.cells vs e fz)∧vs.size=ob.c*ob.k∧(∀o,o<vs.size→(decide (fz.1≤o)&&decide (o<fz.2))=false)∧
  ∀(i:Nat) (r:List AV) (j:Nat) (a:AV),ob.rows[i]?=some r→r[j]?=some a→a.one=true∧∃v,vs[i*ob.k+j]?=some v∧VR G a v
structure TokR (G:Gh) (w:World) (t:Nat):Prop where
 any:∃x,G.tok t=some x
 sl:∀k v,G.tok t=some (k,v)→0<k→∃n c A,v= .slice A n c∧n≤c∧c≤maxLen∧(A=none→n=0∧c=0)∧
  ∀a,A=some a→n<c→∃(g:Nat) (vs:Array Value) (e:TypeId) (fz:Nat×Nat),a=⟨g,0,none⟩∧G.base.heap.size≤g∧w.heap[g]?=some (.cells vs e fz)∧vs.size=c*k∧
   (∀o,o<vs.size→(decide (fz.1≤o)&&decide (o<fz.2))=false)∧∀o,n*k≤o→G.frz g o=none
 mp:∀v,G.tok t=some (0,v)→∃r ks,v=mpT r ks∧G.base.heap.size≤r∧(∀o,G.frz r o=none)∧∃es clock,w.heap[r]?=some (.map es clock)∧MapR es ks
theorem TokR.mem {G:Gh} {w:World} {t k:Nat} {v:Value} (h:TokR G w t) (e:G.tok t=some (k,v)) (hk:0<k):∃k n c A,G.tok t=some (k,.slice A n c)∧n≤c∧c≤maxLen∧0<k∧(A=none→n=0∧c=0)∧
  ∀a,A=some a→n<c→∃(g:Nat) (vs:Array Value) (e:TypeId) (fz:Nat×Nat),a=⟨g,0,none⟩∧G.base.heap.size≤g∧w.heap[g]?=some (.cells vs e fz)∧vs.size=c*k∧
   (∀o,o<vs.size→(decide (fz.1≤o)&&decide (o<fz.2))=false)∧∀o,n*k≤o→G.frz g o=none:=by
 obtain⟨n,c,A,rfl,h1,h2,h3,h4⟩:=h.sl k v e hk
 exact⟨k,n,c,A,e,h1,h2,hk,h3,h4⟩
theorem TokR.ofMem {G:Gh} {w:World} {t:Nat} (h:∃k n c A,G.tok t=some (k,.slice A n c)∧n≤c∧c≤maxLen∧0<k∧(A=none→n=0∧c=0)∧
  ∀a,A=some a→n<c→∃(g:Nat) (vs:Array Value) (e:TypeId) (fz:Nat×Nat),a=⟨g,0,none⟩∧G.base.heap.size≤g∧w.heap[g]?=some (.cells vs e fz)∧vs.size=c*k∧
   (∀o,o<vs.size→(decide (fz.1≤o)&&decide (o<fz.2))=false)∧∀o,n*k≤o→G.frz g o=none):TokR G w t:=by
 obtain⟨k,n,c,A,e,h1,h2,hk,h3,h4⟩:=h
 refine⟨⟨_,e⟩,fun k' v' e' _=>?_,fun v' e'=>?_⟩
 ·rw[e] at e'
  injection e' with e'
  injection e' with e1 e2
  subst e1;subst e2
  exact⟨n,c,A,rfl,h1,h2,h3,h4⟩
 ·rw[e] at e'
  injection e' with e'
  injection e' with e1 e2
  omega
theorem TokR.cases {G:Gh} {w:World} {t:Nat} (h:TokR G w t):(∃k n c A,G.tok t=some (k,.slice A n c)∧n≤c∧c≤maxLen∧0<k∧(A=none→n=0∧c=0)∧
  ∀a,A=some a→n<c→∃(g:Nat) (vs:Array Value) (e:TypeId) (fz:Nat×Nat),a=⟨g,0,none⟩∧G.base.heap.size≤g∧w.heap[g]?=some (.cells vs e fz)∧vs.size=c*k∧
   (∀o,o<vs.size→(decide (fz.1≤o)&&decide (o<fz.2))=false)∧∀o,n*k≤o→G.frz g o=none)∨∃r ks,G.tok t=some (0,mpT r ks)∧G.base.heap.size≤r∧(∀o,G.frz r o=none)∧∃es clock,w.heap[r]?=some (.map es clock)∧MapR es ks:=by
 obtain⟨⟨k,v⟩,e⟩:=h.any
 rcases Nat.eq_zero_or_pos k with rfl|hk
 ·obtain⟨r,ks,rfl,h2⟩:=h.mp v e
  exact .inr ⟨r,ks,e,h2⟩
 ·exact .inl (h.mem e hk)
theorem TokR.ofMp {G:Gh} {w:World} {t r:Nat} {ks:List (List UInt8)} (e:G.tok t=some (0,mpT r ks)) (h:G.base.heap.size≤r) (hf:∀o,G.frz r o=none) (hm:∃es clock,w.heap[r]?=some (.map es clock)∧MapR es ks):TokR G w t:=by
 refine⟨⟨_,e⟩,fun k' v' e' hk=>?_,fun v' e'=>?_⟩
 ·rw[e] at e'
  injection e' with e'
  injection e' with e1 e2
  omega
 ·rw[e] at e'
  injection e' with e'
  injection e' with e1 e2
  subst e2
  exact⟨r,ks,rfl,h,hf,hm⟩
def tokBlk (G:Gh) (t:Nat):Option Nat:=
 match G.tok t with
 |some (_,.slice (some a) n c)=>if n<c then some a.block else none
 |some (_,.tuple x)=>match x[0]? with
  |some (Value.map (some r))=>some r
  |_=>none
 |_=>none
theorem tokBlk_mp {G:Gh} {t r:Nat} {ks:List (List UInt8)} (e:G.tok t=some (0,mpT r ks)):tokBlk G t=some r:=by
 unfold tokBlk
 rw[e]
 simp[mpT]
abbrev Tbl:=Nat→List D
structure Sim (T:Tbl) (G:Gh) (h:AH) (w:World):Prop where
 below:Below G.base.heap.size G.base w
 glob:∀g j x,(T g)[j]?=some x→∃u,G.frz g j=some u∧VD G.frz x u
 frz:∀b o u,G.frz b o=some u→w.cell? ⟨b,o,none⟩=some u
 fin:∀t,G.nt≤t→G.tok t=none
 obj:∀p∈h.objs,ObR G w p.1 p.2
 nd:(h.objs.map Prod.fst).Nodup
 liv:∀t∈h.live,TokR G w t
 tdis:h.live.Pairwise fun t t'=> ∀g,tokBlk G t=some g→tokBlk G t'=some g→False
 todis:∀t∈h.live,∀g,tokBlk G t=some g→g∉h.objs.map Prod.fst
 lnd:h.live.Nodup
theorem Sim.frzlt {T:Tbl} {G:Gh} {h:AH} {w:World} (S:Sim T G h w) {b o:Nat} {u:Value} (e:G.frz b o=some u):b<w.heap.size:=by
 have:=S.frz b o u e
 exact World.block_lt_of_cell? (w:=w) (a:=⟨b,o,none⟩) this
theorem ObR.lt {G:Gh} {w:World} {b:Nat} {ob:Ob} (h:ObR G w b ob):b<w.heap.size:=by
 obtain⟨vs,e,fz,hh,_⟩:=h.mem
 rcases Nat.lt_or_ge b w.heap.size with h'|h'
 ·exact h'
 ·rw[Array.getElem?_eq_none h'] at hh;cases hh
theorem TokR.lt {G:Gh} {w:World} {t g:Nat} (h:TokR G w t) (hg:tokBlk G t=some g):g<w.heap.size:=by
 rcases h.cases with⟨k,n,c,A,e,_,_,_,_,hA⟩|⟨r,ks,e,_,_,es,clock,hh,_⟩
 rotate_left
 ·rw[tokBlk_mp e] at hg
  injection hg with hg
  subst hg
  rcases Nat.lt_or_ge r w.heap.size with h'|h'
  ·exact h'
  ·rw[Array.getElem?_eq_none h'] at hh;cases hh
 unfold tokBlk at hg
 rw[e] at hg
 cases A with
 |none=>cases hg
 | some a=>
  dsimp only at hg
  split at hg
  ·rename_i hlt
   injection hg with hg
   obtain⟨g',vs,e',fz,rfl,_,hh,_⟩:=hA a rfl hlt
   subst hg
   rcases Nat.lt_or_ge g' w.heap.size with h'|h'
   ·exact h'
   ·rw[Array.getElem?_eq_none h'] at hh;cases hh
  ·cases hg
theorem ObR.world {G:Gh} {w w':World} {b:Nat} {ob:Ob} (h:ObR G w b ob) (e:w'.heap[b]?=w.heap[b]?):ObR G w' b ob:=
 ⟨h.low,h.free,h.rest,h.lenk,h.fits,h.cmax,by obtain⟨vs,ty,fz,hh,r⟩:=h.mem;exact⟨vs,ty,fz,e.trans hh,r⟩⟩
theorem TokR.world {G:Gh} {w w':World} {t:Nat} (h:TokR G w t) (e:∀g,tokBlk G t=some g→w'.heap[g]?=w.heap[g]?):TokR G w' t:=by
 rcases h.cases with⟨k,n,c,A,ht,h1,h2,h3,h4,h5⟩|⟨r,ks,ht,h1,h2,es,clock,h3,h4⟩
 rotate_left
 ·exact .ofMp ht h1 h2 ⟨es,clock,(e r (tokBlk_mp ht)).trans h3,h4⟩
 refine .ofMem ⟨k,n,c,A,ht,h1,h2,h3,h4,fun a ha hlt=>?_⟩
 obtain⟨g,vs,ty,fz,rfl,h6,h7,h8⟩:=h5 a ha hlt
 exact⟨g,vs,ty,fz,rfl,h6,(e g (by unfold tokBlk;rw[ht,ha];exact if_pos hlt)).trans h7,h8⟩
theorem ObR.mono {G G':Gh} (hG:Gle G G') {w:World} {b:Nat} {ob:Ob} (h:ObR G w b ob) (hf:∀o,G.frz b o=none→G'.frz b o=none):ObR G' w b ob:=
 ⟨by rw[hG.base];exact h.low,fun i r j h1 h2=>hf _ (h.free i r j h1 h2),fun o ho=>hf o (h.rest o ho),h.lenk,h.fits,h.cmax,by
  obtain⟨vs,ty,fz,hh,h1,h2,h3⟩:=h.mem
  exact⟨vs,ty,fz,hh,h1,h2,fun i r j a hr ha=>by obtain⟨o,v,e,hv⟩:=h3 i r j a hr ha;exact⟨o,v,e,hv.mono hG⟩⟩⟩
theorem TokR.mono {G G':Gh} (hG:Gle G G') {w:World} {t:Nat} (h:TokR G w t) (hf:∀g,tokBlk G t=some g→∀o,G.frz g o=none→G'.frz g o=none):TokR G' w t:=by
 rcases h.cases with⟨k,n,c,A,ht,h1,h2,h3,h4,h5⟩|⟨r,ks,ht,h1,h2,h3⟩
 rotate_left
 ·exact .ofMp (hG.tok _ _ ht) (by rw[hG.base];exact h1) (fun o=>hf r (tokBlk_mp ht) o (h2 o)) h3
 refine .ofMem ⟨k,n,c,A,hG.tok _ _ ht,h1,h2,h3,h4,fun a ha hlt=>?_⟩
 obtain⟨g,vs,ty,fz,rfl,h6,h7,h8,h9,h10⟩:=h5 a ha hlt
 exact⟨g,vs,ty,fz,rfl,by rw[hG.base];exact h6,h7,h8,h9,fun o ho=>hf g (by unfold tokBlk;rw[ht,ha];exact if_pos hlt) o (h10 o ho)⟩
theorem tokBlk_mono {G G':Gh} (hG:Gle G G') {w:World} {t:Nat} (h:TokR G w t):tokBlk G' t=tokBlk G t:=by
 obtain⟨x,ht⟩:=h.any
 unfold tokBlk
 rw[ht,hG.tok _ _ ht]
theorem Sim.grow {T:Tbl} {G G':Gh} {h:AH} {w w':World} (S:Sim T G h w) (hb:Below w.heap.size w w') (hG:Gle G G') (hfin:∀t,G'.nt≤t→G'.tok t=none)
  (hn:∀b o u,G'.frz b o=some u→G.frz b o=some u∨w.heap.size≤b) (hc:∀b o u,G'.frz b o=some u→w'.cell? ⟨b,o,none⟩=some u):Sim T G' h w':=by
 have hfz:∀b,b<w.heap.size→∀o,G.frz b o=none→G'.frz b o=none:=fun b hb o h0=>by
  cases hh:G'.frz b o with
  |none=>rfl
  |some u=>rcases hn b o u hh with h1|h1;exact(by rw[h0] at h1;cases h1);omega
 refine⟨?_,fun g j x hx=>?_,hc,hfin,fun p hp=>?_,S.nd,fun t ht=>?_,?_,?_,S.lnd⟩
 ·rw[hG.base];exact S.below.trans (hb.mono S.below.size)
 ·obtain⟨u,h1,h2⟩:=S.glob g j x hx
  exact⟨u,hG.frz _ _ _ h1,h2.mono hG.frz⟩
 ·have:=S.obj p hp
  exact(this.mono hG (fun o ho=>hfz _ this.lt o ho)).world (hb.block _ this.lt)
 ·have:=S.liv t ht
  refine(this.mono hG (fun g hg o ho=>hfz g (this.lt hg) o ho)).world (fun g hg=>hb.block _ ?_)
  rw[tokBlk_mono hG this] at hg
  exact this.lt hg
 ·refine S.tdis.imp_of_mem (fun {t t'} ht ht' hd g h1 h2=>hd g ?_ ?_)
  ·rw[←tokBlk_mono hG (S.liv t ht)];exact h1
  ·rw[←tokBlk_mono hG (S.liv t' ht')];exact h2
 ·intro t ht g hg
  rw[tokBlk_mono hG (S.liv t ht)] at hg
  exact S.todis t ht g hg
theorem Sim.drew {T:Tbl} {G:Gh} {h:AH} {w:World} (S:Sim T G h w):Sim T G h w.drew:=
 S.grow (Below.refl _ _).drew (Gle.refl G) S.fin (fun _ _ _ e=> .inl e) (fun b o u e=>S.frz b o u e)
theorem Sim.drop {T:Tbl} {G:Gh} {h h':AH} {w:World} (S:Sim T G h w) (ho:h'.objs.Sublist h.objs) (hl:h'.live.Sublist h.live):Sim T G h' w:=
 ⟨S.below,S.glob,S.frz,S.fin,fun p hp=>S.obj p (ho.subset hp),S.nd.sublist (ho.map _),fun t ht=>S.liv t (hl.subset ht),S.tdis.sublist hl,
  fun t ht g hg hm=>S.todis t (hl.subset ht) g hg ((ho.map _).subset hm),S.lnd.sublist hl⟩
end
section
open Go.RowKit
variable {T:Tbl} {G G':Gh} {h:AH} {w w':World}
theorem Sim.fresh (S:Sim T G h w):∀p∈h.objs,p.1<w.heap.size:=fun p hp=>(S.obj p hp).lt
theorem Sim.nofrz (S:Sim T G h w) {b:Nat} (hb:w.heap.size≤b) (o:Nat):G.frz b o=none:=by
 cases e:G.frz b o with
 |none=>rfl
 |some u=>have:=S.frzlt e;omega
theorem cell_alloc_lt (w:World) (ob:Obj) {a:Addr} (ha:a.block<w.heap.size):(w.alloc ob).cell? a=w.cell? a:=World.cell?_alloc_old w ob a (Nat.ne_of_lt ha)
theorem Sim.alloc0 (S:Sim T G h w) (o:Obj):Sim T G h (w.alloc o):=
 S.grow ((Below.refl _ _).alloc (Nat.le_refl _) o) (Gle.refl G) S.fin (fun _ _ _ e=> .inl e) (fun b j u e=>by
  have:=S.frzlt e
  rw[cell_alloc_lt w o (a:=⟨b,j,none⟩) this]
  exact S.frz b j u e)
theorem Sim.alloc (S:Sim T G h w) (ob:Ob) (vs:Array Value) (e:TypeId) (fz:Nat×Nat) (hk:∀r∈ob.rows,r.length=ob.k) (hf:ob.rows.length≤ob.c) (hm:ob.c≤maxLen)
  (hs:vs.size=ob.c*ob.k) (hz:∀o,o<vs.size→(decide (fz.1≤o)&&decide (o<fz.2))=false)
  (hc:∀(i:Nat) (r:List AV) (j:Nat) (a:AV),ob.rows[i]?=some r→r[j]?=some a→a.one=true∧∃v,vs[i*ob.k+j]?=some v∧VR G a v):
  Sim T G ⟨(w.heap.size,ob)::h.objs,h.live⟩ (w.alloc (.cells vs e fz)):=by
 have S':=S.alloc0 (.cells vs e fz)
 refine⟨S'.below,S'.glob,S'.frz,S'.fin,fun p hp=>?_,?_,S'.liv,S'.tdis,fun t ht g hg hm'=>?_,S'.lnd⟩
 ·rcases List.mem_cons.1 hp with rfl|hp
  ·exact⟨S.below.size,fun _ _ _ _ _=>S.nofrz (Nat.le_refl _) _,fun _ _=>S.nofrz (Nat.le_refl _) _,fun r hr=> .inl (hk r hr),hf,hm,vs,e,fz,heap_alloc_new w _,hs,hz,hc⟩
  ·exact S'.obj p hp
 ·refine List.nodup_cons.2 ⟨fun hmem=>?_,S.nd⟩
  obtain⟨p,hp,e⟩:=List.mem_map.1 hmem
  have:=S.fresh p hp
  omega
 ·rcases List.mem_cons.1 hm' with e|hm'
  ·have:=(S.liv t ht).lt hg
   dsimp only at e
   omega
  ·exact S.todis t ht g hg hm'
def Gh.ice (G:Gh) (b:Nat) (vs:Array Value):Gh:= {G with frz:=fun b' o=>if b'=b then vs[o]? else G.frz b' o }
theorem Sim.gle_ice (S:Sim T G h w) (vs:Array Value):Gle G (G.ice w.heap.size vs):=
  ⟨rfl,fun b o u e=>by have:=S.frzlt e;show(if b=w.heap.size then _ else _)=_;rw[if_neg (by omega)];exact e,
   fun b o u e=>by
    have e':(if b=w.heap.size then vs[o]? else G.frz b o)=some u:=e
    by_cases hb:b=w.heap.size
    · exact .inr (by rw[hb];exact S.below.size)
    · rw [if_neg hb] at e';exact .inl e',fun _ _ e=>e⟩
theorem Sim.ice (S:Sim T G h w) (vs:Array Value) (e:TypeId) (fz:Nat×Nat):Sim T (G.ice w.heap.size vs) h (w.alloc (.cells vs e fz)):=by
 refine S.grow ((Below.refl _ _).alloc (Nat.le_refl _) _) (S.gle_ice vs) S.fin (fun b o u hu=>?_) (fun b o u hu=>?_)
 ·have hu':(if b=w.heap.size then vs[o]? else G.frz b o)=some u:=hu
  by_cases hb:b=w.heap.size
  ·exact .inr (by omega)
  ·rw[if_neg hb] at hu';exact .inl hu'
 ·have hu':(if b=w.heap.size then vs[o]? else G.frz b o)=some u:=hu
  by_cases hb:b=w.heap.size
  ·subst hb
   rw[if_pos rfl] at hu'
   rw[cell_of_row _ _ _ vs e fz (heap_alloc_new w _)]
   exact hu'
  ·rw[if_neg hb] at hu'
   have:=S.frzlt hu'
   rw[cell_alloc_lt w _ (a:=⟨b,o,none⟩) this]
   exact S.frz b o u hu'
def getO (b:Nat):List (Nat×Ob)→Option Ob
 |[]=>none
 |p::r=>if(p.1==b)=true then some p.2 else getO b r
def setO (b:Nat) (ob:Ob):List (Nat×Ob)→List (Nat×Ob)
 |[]=>[]
 |p::r=>if(p.1==b)=true then(b,ob)::r else p::setO b ob r
theorem getO_mem {b:Nat} {ob:Ob} :∀{l:List (Nat×Ob)},getO b l=some ob→(b,ob)∈l
 | p::r,e=>by
  unfold getO at e
  split at e
  ·rename_i hb
   injection e with e
   have:p.1=b:=by simpa using hb
   rw[←this,←e]
   exact List.mem_cons_self ..
  ·exact List.mem_cons_of_mem _ (getO_mem e)
theorem setO_keys {b:Nat} {ob:Ob} :∀(l:List (Nat×Ob)),(setO b ob l).map Prod.fst=l.map Prod.fst
 |[]=>rfl
 | p::r=>by
  unfold setO
  split
  ·rename_i hb
   have:p.1=b:=by simpa using hb
   simp[this]
  ·simp[setO_keys r]
theorem setO_mem {b:Nat} {ob:Ob} {q:Nat×Ob} :∀{l:List (Nat×Ob)},(l.map Prod.fst).Nodup→q∈setO b ob l→q=(b,ob)∨(q∈l∧q.1≠b)
 | p::r,hn,hq=>by
  unfold setO at hq
  simp only[List.map_cons,List.nodup_cons] at hn
  split at hq
  ·rename_i hb
   have hb:p.1=b:=by simpa using hb
   rcases List.mem_cons.1 hq with rfl|hq
   ·exact .inl rfl
   ·refine .inr ⟨List.mem_cons_of_mem _ hq,fun e=>hn.1 ?_⟩
    rw[hb,←e]
    exact List.mem_map_of_mem hq
  ·rename_i hb
   rcases List.mem_cons.1 hq with rfl|hq
   ·exact .inr ⟨List.mem_cons_self ..,by simpa using hb⟩
   ·rcases setO_mem hn.2 hq with h1|⟨h1,h2⟩
    ·exact .inl h1
    ·exact .inr ⟨List.mem_cons_of_mem _ h1,h2⟩
structure Wrote (b:Nat) (w w':World):Prop where
 os:w'.os=w.os
 tape:w'.tape=w.tape
 output:w'.output=w.output
 size:w'.heap.size=w.heap.size
 block:∀b',b'≠b→w'.heap[b']?=w.heap[b']?
theorem Wrote.below {b:Nat} {w w':World} (h:Wrote b w w') {B:Nat} (hB:B≤b):Below B w w':=⟨h.os,h.tape,h.output,by rw[h.size];exact Nat.le_refl _,fun k hk=>h.block k (by omega)⟩
theorem Wrote.cell {b:Nat} {w w':World} (h:Wrote b w w') {b' o:Nat} (hb:b'≠b):w'.cell? ⟨b',o,none⟩=w.cell? ⟨b',o,none⟩:=World.cell?_of_block (w:=w) (a:=⟨b',o,none⟩) (h.block b' hb)
theorem Sim.write (S:Sim T G h w) {b:Nat} {ob ob':Ob} (hg:getO b h.objs=some ob) (hw:Wrote b w w') (hcell:∀o u,G.frz b o=some u→w'.cell? ⟨b,o,none⟩=w.cell? ⟨b,o,none⟩) (hob:ObR G w' b ob'):Sim T G ⟨setO b ob' h.objs,h.live⟩ w':=by
 have hin:=getO_mem hg
 have hO:=S.obj _ hin
 refine⟨S.below.trans (hw.below hO.low),S.glob,fun b' o u e=>?_,S.fin,fun p hp=>?_,?_,fun t ht=>?_,S.tdis,fun t ht g hg'=>?_,S.lnd⟩
 ·by_cases hne:b'=b
  ·subst hne
   rw[hcell o u e]
   exact S.frz b' o u e
  ·rw[hw.cell hne]
   exact S.frz b' o u e
 ·rcases setO_mem S.nd hp with rfl|⟨hp,hne⟩
  ·exact hob
  ·exact(S.obj p hp).world (hw.block _ hne)
 ·rw[setO_keys];exact S.nd
 ·refine(S.liv t ht).world (fun g hg'=>hw.block g (fun e=>?_))
  exact S.todis t ht g hg' (by rw[e];exact List.mem_map_of_mem hin)
 ·rw[setO_keys];exact S.todis t ht g hg'
theorem setCells_wrote (b:Nat):∀(xs:List Value) (o:Nat) (w:World),Wrote b w (w.setCells b o xs)
 |[],o,w=>⟨rfl,rfl,rfl,rfl,fun _ _=>rfl⟩
 |x::xs,o,w=>by
  have h:=setCells_wrote b xs (o+1) (w.setCell ⟨b,o,none⟩ x)
  exact⟨h.os.trans rfl,h.tape.trans rfl,h.output.trans rfl,h.size.trans (by simp),fun b' hb=>(h.block b' hb).trans (Below.heap_setCell _ _ _ _ hb)⟩
theorem setCells_heap (b:Nat):∀(xs:List Value) (o:Nat) (w:World) (vs:Array Value) (e:TypeId) (fz:Nat×Nat),w.heap[b]?=some (.cells vs e fz)→
  ∃vs':Array Value,(w.setCells b o xs).heap[b]?=some (.cells vs' e fz)∧vs'.size=vs.size∧∀j,j<vs.size→vs'[j]?=if o≤j∧j<o+xs.length then xs[j-o]? else vs[j]?
 |[],o,w,vs,e,fz,hh=>⟨vs,hh,rfl,fun j hj=>by rw[if_neg (by simp only[List.length_nil];omega)]⟩
 | x::xs,o,w,vs,e,fz,hh=>by
  have h1:(w.setCell ⟨b,o,none⟩ x).heap[b]?=some (.cells (vs.setIfInBounds o x) e fz):=by
   simp[World.setCell,Array.getElem?_modify,hh]
  obtain⟨vs',h2,h3,h4⟩:=setCells_heap b xs (o+1) _ _ e fz h1
  refine⟨vs',h2,by simpa using h3,fun j hj=>?_⟩
  rw[h4 j (by simpa using hj)]
  by_cases c1:o+1≤j∧j<o+1+xs.length
  ·rw[if_pos c1,if_pos (by simp;omega)]
   have:j-o=(j-(o+1))+1:=by omega
   rw[this,List.getElem?_cons_succ]
  ·rw[if_neg c1]
   by_cases c2:j=o
   ·subst c2
    rw[if_pos (by simp),Nat.sub_self,List.getElem?_cons_zero]
    simp[hj]
   ·rw[if_neg (by simp;omega),Array.getElem?_setIfInBounds_ne (by omega)]
def tyI (P:Program) (t:TypeId):Option (Bool×Nat):=
 match P.underlying t,P.info? t with
 |some d,some i=>if d.isRow=true∨i.size=1 then some (d.isRow,i.size) else none
 |_,_=>none
theorem tyI_inv {P:Program} {t n:Nat} {r:Bool} (h:tyI P t=some (r,n)):∃d i,P.underlying t=some d∧P.info? t=some i∧d.isRow=r∧i.size=n∧(r=false→n=1):=by
 unfold tyI at h
 split at h
 ·rename_i d i hd hi
  split at h
  ·rename_i hc
   simp only[Option.some.injEq,Prod.mk.injEq] at h
   obtain⟨rfl,rfl⟩:=h
   exact⟨d,i,hd,hi,rfl,rfl,fun hr=>hc.resolve_left (by simp[hr])⟩
  ·cases h
 ·cases h
def ofCells (r:Bool) (cs:List Value):Value:=if r then .agg cs.toArray else cs.headD Go.undef
theorem run_isAgg {P:Program} {t:TypeId} {d:TypeDesc} (hu:P.underlying t=some d) (w:World):(isAgg t).run P w= .ok d.isRow w:=by
 unfold isAgg
 rw[Sem.run_bind,run_underlying hu w]
 cases d<;>rfl
theorem run_sizeOf {P:Program} {t:TypeId} {i:TypeInfo} (hi:P.info? t=some i) (w:World):(sizeOf t).run P w= .ok i.size w:=by
 simp[sizeOf,typeInfo,hi]
theorem run_load_av {P:Program} {t n b o:Nat} {r:Bool} (ht:tyI P t=some (r,n)) {cs:List Value} (hn:cs.length=n) (hc:w.rangeAt b o cs):
  (Instr.loadAt t (.pointer (some ⟨b,o,none⟩))).run P w= .ok (ofCells r cs) w:=by
 obtain⟨d,i,hu,hi,hr,hs,h1⟩:=tyI_inv ht
 cases r with
 |true=>
  rw[run_loadAt_mid w b o t cs d hc hu hr (by rw[hi];simp[hs,hn])]
  rfl
 | false=>
  have h1:=h1 rfl
  obtain⟨v,rfl⟩:∃v,cs=[v]:=by
   match cs,hn with
   |[v],_=>exact⟨v,rfl⟩
   |[],e=>simp at e;omega
   |_::_::_,e=>simp at e;omega
  have hv:=hc 0 v rfl
  rw[Nat.add_zero] at hv
  simp[Instr.loadAt,Instr.sureAddr,loadVar,run_isAgg hu,hr,hv,ofCells]
theorem run_store_av {P:Program} {t n b o:Nat} {r:Bool} (ht:tyI P t=some (r,n)) {v:Value} {cs:List Value} (hv:v.cells.toList=cs) (hn:cs.length=n) (h1:∀u∈cs,u.oneCell'=true) {vs:Array Value} {e:TypeId} {fz:Nat×Nat}
  (hh:w.heap[b]?=some (.cells vs e fz)) (hz:∀o,o<vs.size→(decide (fz.1≤o)&&decide (o<fz.2))=false) (hfit:o+n≤vs.size):
  (Instr.storeAt t (.pointer (some ⟨b,o,none⟩)) v).run P w= .ok () (w.setCells b o cs):=by
 obtain⟨d,i,hu,hi,hr,hs,_⟩:=tyI_inv ht
 have hsz:v.cells.size=i.size:=by rw[hs,←hn,←hv];simp
 simp only[Instr.storeAt,Instr.sureAddr,storeVar,Sem.run_bind,Sem.run_pure,Result.andThen_ok,run_sizeOf hi,hsz,ne_eq,not_true_eq_false,if_false,hv]
 refine run_storeCells_cells b o cs 0 w (fun j hj=>?_) (fun j hj=>?_) h1
 ·rw[cell_of_row _ _ _ vs e fz hh]
  rw[Nat.add_zero,Array.getElem?_eq_getElem (by omega)]
  rfl
 ·have:=hz (o+j) (by omega)
  simp only[World.frozen?,hh,Nat.add_zero]
  exact this
end
section
open Go.RowKit
inductive DB:D→Prop where
 |int (k:IntKind) (n:Int):DB (.int k n)
 |bool (b:Bool):DB (.bool b)
 |str (s:List UInt8) (h:s.length≤maxLen):DB (.str s)
 |slc (k:Nat) (rows:List (List D)) (h:rows.length≤maxLen) (hk:∀r∈rows,r.length=k) (hx:∀r∈rows,∀x∈r,DB x):DB (.slc k rows)
 |raw (v:Value):DB (.raw v)
theorem VD.bnd {F:Frz} {x:D} {v:Value} (h:VD F x v):DB x:=by
 induction h with
 |int k n=>exact .int k n
 |bool b=>exact .bool b
 |str s h=>exact .str _ (by rw[Array.length_toList];exact h)
 |slc0 k A c h hm=>exact .slc k [] (Nat.zero_le _) (by simp) (by simp)
 |raw v h=>exact .raw v
 |slc k rows b off c val h0 hc hm hk hf hv ih=>
  refine .slc k rows (by omega) hk (fun r hr x hx=>?_)
  obtain⟨i,hi,rfl⟩:=List.getElem_of_mem hr
  obtain⟨j,hj,rfl⟩:=List.getElem_of_mem hx
  exact ih i _ j _ (List.getElem?_eq_getElem hi) (List.getElem?_eq_getElem hj)
theorem DB.slc_inv {k:Nat} {rows:List (List D)} (h:DB (.slc k rows)):rows.length≤maxLen∧(∀r∈rows,r.length=k)∧∀r∈rows,∀x∈r,DB x:=by cases h;exact⟨by assumption,by assumption,by assumption⟩
def AV.bnd1:AV→Prop
 | .d x=>DB x
 | .own _ k rows=>DB (.slc k rows)
 |_=>True
def AV.bnd:AV→Prop
 | .agg l=> ∀a∈l,a.bnd1
 | .tup l=> ∀a∈l,a.bnd1
 |a=>a.bnd1
theorem VR.bnd1 {G:Gh} {a:AV} {v:Value} (h:VR G a v):a.bnd1:=by
 cases h with
 |d h=>exact h.bnd
 |own h _=>exact h.bnd
 |_=>trivial
theorem VR.bnd {G:Gh} {a:AV} {v:Value} (h:VR G a v):a.bnd:=by
 cases h with
 |d h=>exact h.bnd
 |own h _=>exact h.bnd
 |agg l vs hl h=>
  intro a ha
  obtain⟨i,hi,rfl⟩:=List.getElem_of_mem ha
  exact(h i _ _ (List.getElem?_eq_getElem hi) (List.getElem?_eq_getElem (by omega))).bnd1
 |tup l vs hl h=>
  intro a ha
  obtain⟨i,hi,rfl⟩:=List.getElem_of_mem ha
  exact(h i _ _ (List.getElem?_eq_getElem hi) (List.getElem?_eq_getElem (by omega))).bnd1
 |_=>trivial
inductive AX where
 |normal
 |exit (id:Nat)
 |ret
 |pan (p:AV)
def ExR (G:Gh):AX→Exit→Prop
 | .normal,.normal=>True
 | .exit i,.exit j=>i=j
 | .ret,.ret=>True
 | .pan p,.panic ch=> ∃v,ch=[{v:=v,recovered:=false }]∧VR G p v
 |_,_=>False
def SlR (G:Gh) (sl:List AV) (tmps:Array Value):Prop:=tmps.size=sl.length∧∀(i:Nat) (a:AV),sl[i]?=some a→∃v,tmps[i]?=some v∧VR G a v
theorem SlR.mono {G G':Gh} (hG:Gle G G') {sl:List AV} {tmps:Array Value} (h:SlR G sl tmps):SlR G' sl tmps:=
 ⟨h.1,fun i a e=>by obtain⟨v,h1,h2⟩:=h.2 i a e;exact⟨v,h1,h2.mono hG⟩⟩
abbrev AQ:=AX→List AV→AH→Prop
def Lift (T:Tbl) (Q:AQ) (G:Gh) (ds:List Deferred) (e:Exit) (a:Act) (w:World):Prop:=
 a.defers=ds∧∃x sl h G',Q x sl h∧ExR G' x e∧Gle G G'∧Sim T G' h w∧SlR G' sl a.tmps
def AWp (P:Program) (T:Tbl) (c:Code) (Q:AQ) (sl:List AV) (h:AH):Prop:=
 ∀(G:Gh) (w:World) (a:Act),Sim T G h w→SlR G sl a.tmps→c.wp P (Lift T Q G a.defers) a w
section
variable {P:Program} {T:Tbl} {Q Q':AQ} {sl:List AV} {h:AH}
theorem Lift.mono {G G':Gh} {ds:List Deferred} {e:Exit} {a:Act} {w:World} (hG:Gle G G') (hQ:∀x s h,Q x s h→Q' x s h) (H:Lift T Q G' ds e a w):Lift T Q' G ds e a w:=by
 obtain⟨hd,x,s,h,G2,hq,hx,hg,S,R⟩:=H
 exact⟨hd,x,s,h,G2,hQ _ _ _ hq,hx,hG.trans hg,S,R⟩
theorem AWp.mono {c:Code} (hQ:∀x s h,Q x s h→Q' x s h) (H:AWp P T c Q sl h):AWp P T c Q' sl h:=
 fun G w a S R=>wp_mono (H G w a S R) fun e a' w' h'=>Lift.mono (Gle.refl G) hQ h'
theorem AWp.skip (H:Q .normal sl h):AWp P T .skip Q sl h:=
 fun G w a S R=>wp_skip ⟨rfl,.normal,sl,h,G,H,trivial,Gle.refl G,S,R⟩
theorem AWp.exit {id:Nat} (H:Q (.exit id) sl h):AWp P T (.exit id) Q sl h:=
 fun G w a S R=>wp_exit ⟨rfl,.exit id,sl,h,G,H,rfl,Gle.refl G,S,R⟩
theorem AWp.ret (H:Q .ret sl h):AWp P T .ret Q sl h:=
 fun G w a S R=>wp_ret ⟨rfl,.ret,sl,h,G,H,trivial,Gle.refl G,S,R⟩
def thenQ (K:List AV→AH→Prop) (Q:AQ):AQ
 | .normal,s,h=>K s h
 |x,s,h=>Q x s h
theorem AWp.seq {x y:Code} (H:∀K:List AV→AH→Prop,(∀s h,AWp P T y Q s h→K s h)→AWp P T x (thenQ K Q) sl h):AWp P T (.seq x y) Q sl h:=by
 intro G w a S R
 refine wp_seq (wp_mono (H _ (fun s h hh=>hh) G w a S R) ?_)
 rintro e a' w' ⟨hd,x,s,h',G',hq,hx,hG,S',R'⟩
 cases x with
 |normal=>
  cases e<;>simp only[ExR] at hx
  have:=hq G' w' a' S' R'
  rw[hd] at this
  exact wp_mono this fun e a w H=>H.mono hG (fun _ _ _ q=>q)
 |exit i=>
  cases e<;>simp only[ExR] at hx
  exact⟨hd,_,s,h',G',hq,hx,hG,S',R'⟩
 |ret=>
  cases e<;>simp only[ExR] at hx
  exact⟨hd,_,s,h',G',hq,trivial,hG,S',R'⟩
 |pan p=>
  cases e<;>simp only[ExR] at hx
  exact⟨hd,_,s,h',G',hq,hx,hG,S',R'⟩
theorem AWp.mid {x y:Code} (M:List AV→AH→Prop) (H:AWp P T x (thenQ M Q) sl h) (H2:∀s h,M s h→AWp P T y Q s h):AWp P T (.seq x y) Q sl h:=
 AWp.seq fun K hK=>AWp.mono (fun x s h q=>by cases x<;>first|exact hK _ _ (H2 _ _ q)|exact q) H
def blkQ (id:Nat) (Q:AQ):AQ
 | .exit i,s,h=>if i=id then Q .normal s h else Q (.exit i) s h
 |x,s,h=>Q x s h
theorem AWp.block {id:Nat} {c:Code} (H:AWp P T c (blkQ id Q) sl h):AWp P T (.block id c) Q sl h:=by
 intro G w a S R
 refine wp_block (wp_mono (H G w a S R) ?_)
 rintro e a' w' ⟨hd,x,s,h',G',hq,hx,hG,S',R'⟩
 cases x with
 |normal=>
  cases e<;>simp only[ExR] at hx
  exact⟨hd,_,s,h',G',hq,trivial,hG,S',R'⟩
 |exit i=>
  cases e<;>simp only[ExR] at hx
  subst hx
  simp only[Exit.inBlock,blkQ] at hq⊢
  split
  ·rename_i hi;rw[if_pos hi] at hq;exact⟨hd,.normal,s,h',G',hq,trivial,hG,S',R'⟩
  ·rename_i hi;rw[if_neg hi] at hq;exact⟨hd,_,s,h',G',hq,rfl,hG,S',R'⟩
 |ret=>
  cases e<;>simp only[ExR] at hx
  exact⟨hd,_,s,h',G',hq,trivial,hG,S',R'⟩
 |pan p=>
  cases e<;>simp only[ExR] at hx
  exact⟨hd,_,s,h',G',hq,hx,hG,S',R'⟩
def ofV:Value→AV
 | .int k n=> .d (.int k n)
 | .bool b=> .d (.bool b)
 | .string s=>if s.size≤maxLen then .d (.str s.data.toList) else .any
 | .slice none 0 0=> .nils
 | .pointer none=> .nilp
 | .nilFunc=> .nilf
 | .nilIface=> .nili
 | .agg cs=> .agg (cs.toList.map fun
   | .int k n=> .d (.int k n)
   | .bool b=> .d (.bool b)
   | .string s=>if s.size≤maxLen then .d (.str s.data.toList) else .any
   | .slice none 0 0=> .nils
   | .pointer none=> .nilp
   | .nilFunc=> .nilf
   | .nilIface=> .nili
   |_=> .any)
 |_=> .any
theorem VR.ofV (G:Gh) (v:Value):VR G (ofV v) v:=by
 have key:∀v:Value,VR G (match v with
   | .int k n=> .d (.int k n)
   | .bool b=> .d (.bool b)
   | .string s=>if s.size≤maxLen then .d (.str s.data.toList) else .any
   | .slice none 0 0=> .nils
   | .pointer none=> .nilp
   | .nilFunc=> .nilf
   | .nilIface=> .nili
   |_=> .any) v:=by
  intro v
  split
  ·exact .d (.int _ _)
  ·exact .d (.bool _)
  ·split
   ·rename_i h;exact .d (.str _ h)
   ·exact .any _
  ·exact .nils
  ·exact .nilp
  ·exact .nilf
  ·exact .nili
  ·exact .any _
 unfold Go.Proofs.YtidldcfpmehpiaaGreatDoor.ofV
 split
 ·exact .d (.int _ _)
 ·exact .d (.bool _)
 ·split
  ·rename_i h;exact .d (.str _ h)
  ·exact .any _
 ·exact .nils
 ·exact .nilp
 ·exact .nilf
 ·exact .nili
 ·rename_i cs
  have:=VR.agg (G:=G) (cs.toList.map fun
   | .int k n=> .d (.int k n)
   | .bool b=> .d (.bool b)
   | .string s=>if s.size≤maxLen then .d (.str s.data.toList) else .any
   | .slice none 0 0=> .nils
   | .pointer none=> .nilp
   | .nilFunc=> .nilf
   | .nilIface=> .nili
   |_=> .any) cs.toList (by simp) (fun i a v h1 h2=>by
    rw[List.getElem?_map,h2,Option.map_some] at h1
    injection h1 with h1
    rw[←h1]
    exact key v)
  simpa using this
 ·exact .any _
def ev (T:Tbl) (sl:List AV):Operand→AV
 | .tmp t=>sl.getD t .any
 | .const v=>ofV v
 | .global g=> .elt (T g).length [T g] 0 0
 | .func f=> .fn f []
theorem ev_ok {G:Gh} {w:World} {a:Act} (S:Sim T G h w) (R:SlR G sl a.tmps) (x:Operand):VR G (ev T sl x) (a.eval x):=by
 cases x with
 | tmp t=>
  simp only[ev,Act.eval,List.getD]
  cases hs:sl[t]? with
  |none=>exact .any _
  |some b=>
   obtain⟨v,h1,h2⟩:=R.2 t b hs
   simpa[Array.getD_eq_getD_getElem?,h1] using h2
 |const v=>exact VR.ofV G v
 | global g=>
  have:=VR.elt (G:=G) (T g).length [T g] 0 0 g 0 (fun j=>(G.frz g j).getD Go.undef) (T g) rfl (fun j x hx=>by
   obtain⟨u,h1,_⟩:=S.glob g j x hx
   simp[h1]) (fun j x hx=>by
   obtain⟨u,h1,h2⟩:=S.glob g j x hx
   simpa[h1] using h2)
  exact this
 |func f=>exact VR.fn (G:=G) f [] [] rfl (by simp)
theorem AWp.cond {c:Operand} {x y:Code} (b:Bool) (hc:ev T sl c= .d (.bool b)) (ht:b=true→AWp P T x Q sl h) (hf:b=false→AWp P T y Q sl h):AWp P T (.cond c x y) Q sl h:=by
 intro G w a S R
 have hv:=ev_ok S R c
 rw[hc] at hv
 have hv:a.eval c= .bool b:=by cases hv with|d h=>exact h.bool_inv
 exact wp_cond_split hv (fun e=>ht e G w a S R) (fun e=>hf e G w a S R)
def keepA (ks:List Nat):Nat→List AV→List AV
 |_,[]=>[]
 |i,a::r=>(if ks.contains i=true then a else .any)::keepA ks (i+1) r
theorem keepA_len (ks:List Nat):∀(i:Nat) (l:List AV),(keepA ks i l).length=l.length
 |_,[]=>rfl
 |i,a::r=>by simp[keepA,keepA_len ks (i+1) r]
theorem keepA_get (ks:List Nat):∀(i:Nat) (l:List AV) (j:Nat) (a:AV),(keepA ks i l)[j]?=some a→l[j]?=some a∨(a= .any∧∃b,l[j]?=some b)
 |_,[],_,_,e=>by simp[keepA] at e
 |i,b::r,0,a,e=>by
  simp only[keepA,List.getElem?_cons_zero,Option.some.injEq] at e
  split at e
  ·exact .inl (by simp[e])
  ·exact .inr ⟨e.symm,b,rfl⟩
 |i,b::r,j+1,a,e=>by
  simp only[keepA,List.getElem?_cons_succ] at e⊢
  exact keepA_get ks (i+1) r j a e
theorem SlR.keep {G:Gh} {tmps:Array Value} (R:SlR G sl tmps) (ks:List Nat):SlR G (keepA ks 0 sl) tmps:=
 ⟨by rw[keepA_len];exact R.1,fun i a e=>by
  rcases keepA_get ks 0 sl i a e with h1|⟨rfl,b,h1⟩
  ·exact R.2 i a h1
  ·obtain⟨v,h2,_⟩:=R.2 i b h1;exact⟨v,h2,.any v⟩⟩
theorem AWp.loop {c:Code} (ks:List Nat) (I:Nat→List AV→AH→Prop) (h0:∃n,I n (keepA ks 0 sl) h)
  (round:∀n s h,I n s h→AWp P T c (thenQ (fun s' h'=> ∃n' x y,n'<n∧I n' (keepA ks 0 s') ⟨h'.objs.drop x,h'.live.drop y⟩) Q) s h):AWp P T (.loop c) Q sl h:=by
 intro G w a S R
 let J:Nat→Act→World→Prop:=fun n a' w'=>a'.defers=a.defers∧∃s h' G',I n s h'∧Gle G G'∧Sim T G' h' w'∧SlR G' s a'.tmps
 have hex:∀a' w',(∃n,J n a' w')→∃n,J n a' w'∧∀m,J m a' w'→n≤m:=fun a' w' ⟨n,hn⟩=>by
  induction n using Nat.strongRecOn with
  | _ n ih=>
   by_cases hm:∃m,m<n∧J m a' w'
   ·obtain⟨m,hlt,hj⟩:=hm
    exact ih m hlt hj
   ·exact⟨n,hn,fun m hj=>by
     rcases Nat.lt_or_ge m n with h'|h'
     ·exact absurd ⟨m,h',hj⟩ hm
     ·exact h'⟩
 refine wp_loop (fun a' w'=> ∃n,J n a' w') (fun a' w'=>Classical.epsilon fun n=>J n a' w'∧∀m,J m a' w'→n≤m) ?_ ?_
 ·obtain⟨n,hn⟩:=h0
  exact⟨n,rfl,_,h,G,hn,Gle.refl G,S,R.keep ks⟩
 ·intro a1 w1 hI
  obtain⟨⟨hd,s,h',G',hi,hG,S',R'⟩,hmin⟩:=Classical.epsilon_spec (p:=fun n=>J n a1 w1∧∀m,J m a1 w1→n≤m) (hex a1 w1 hI)
  refine wp_mono (round _ s h' hi G' w1 a1 S' R') ?_
  rintro e a2 w2 ⟨hd2,x,s2,h2,G2,hq,hx,hG2,S2,R2⟩
  cases x with
  |normal=>
   cases e<;>simp only[ExR] at hx
   obtain⟨n',x,y,hlt,hi'⟩:=hq
   have hj:J n' a2 w2:=⟨hd2.trans hd,_,_,G2,hi',hG.trans hG2,S2.drop (List.drop_sublist ..) (List.drop_sublist ..),R2.keep ks⟩
   refine⟨⟨n',hj⟩,?_⟩
   have:=(Classical.epsilon_spec (p:=fun n=>J n a2 w2∧∀m,J m a2 w2→n≤m) (hex a2 w2 ⟨n',hj⟩)).2 n' hj
   exact Nat.lt_of_le_of_lt this hlt
  |exit i=>
   cases e<;>simp only[ExR] at hx
   exact⟨hd2.trans hd,_,s2,h2,G2,hq,hx,hG.trans hG2,S2,R2⟩
  |ret=>
   cases e<;>simp only[ExR] at hx
   exact⟨hd2.trans hd,_,s2,h2,G2,hq,trivial,hG.trans hG2,S2,R2⟩
  |pan p=>
   cases e<;>simp only[ExR] at hx
   exact⟨hd2.trans hd,_,s2,h2,G2,hq,hx,hG.trans hG2,S2,R2⟩
theorem AWp.ownNil {c:Code} (i k:Nat) (hi:sl[i]?=some .nils) (hk:0<k) (H:∀t,AWp P T c Q (sl.set i (.own t k [])) ⟨h.objs,t::h.live⟩):AWp P T c Q sl h:=by
 intro G w a S R
 let G':Gh:= {G with tok:=fun t=>if t=G.nt then some (k,.slice none 0 0) else G.tok t,nt:=G.nt+1 }
 have hG:Gle G G':=⟨rfl,fun _ _ _ e=>e,fun _ _ _ e=> .inl e,fun t x e=>by
  show(if t=G.nt then _ else _)=_
  rw[if_neg (fun e'=>by rw[S.fin t (by omega)] at e;cases e)]
  exact e⟩
 have S1:Sim T G' h w:=S.grow (Below.refl _ _) hG (fun t ht=>by
   show(if t=G.nt then _ else _)=_
   have ht':G.nt+1≤t:=ht
   rw[if_neg (by omega)]
   exact S.fin t (by omega)) (fun _ _ _ e=> .inl e) S.frz
 have hnew:tokBlk G' G.nt=none:=by
  unfold tokBlk
  rw[show G'.tok G.nt=some (k,Value.slice none 0 0) from if_pos rfl]
 have S2:Sim T G' ⟨h.objs,G.nt::h.live⟩ w:=by
  refine⟨S1.below,S1.glob,S1.frz,S1.fin,S1.obj,S1.nd,fun t ht=>?_,List.pairwise_cons.2 ⟨fun t ht g h1=>?_,S1.tdis⟩,fun t ht g hg=>?_,List.nodup_cons.2 ⟨fun hm=>?_,S.lnd⟩⟩
  ·rcases List.mem_cons.1 ht with rfl|ht
   ·exact .ofMem ⟨k,0,0,none,by show(if G.nt=G.nt then _ else _)=_;rw[if_pos rfl],Nat.le_refl _,by decide,hk,fun _=>⟨rfl,rfl⟩,fun a e=>by cases e⟩
   ·exact S1.liv t ht
  ·rw[hnew] at h1;cases h1
  ·rcases List.mem_cons.1 ht with rfl|ht
   ·rw[hnew] at hg;cases hg
   ·exact S1.todis t ht g hg
  ·obtain⟨_,e⟩:=(S.liv _ hm).any
   rw[S.fin _ (Nat.le_refl _)] at e
   cases e
 have R2:SlR G' (sl.set i (.own G.nt k [])) a.tmps:=by
  refine⟨by simpa using R.1,fun j b e=>?_⟩
  by_cases hj:i=j
  ·subst hj
   rw[List.getElem?_set_self (List.getElem?_eq_some_iff.1 hi).1] at e
   injection e with e
   obtain⟨v,h1,h2⟩:=R.2 i _ hi
   refine⟨v,h1,?_⟩
   have hv:v= .slice none 0 0:=by cases h2;rfl
   subst hv
   rw[←e]
   exact .own (.slc0 k none 0 (fun _=>rfl) (by decide)) (by show(if G.nt=G.nt then _ else _)=_;rw[if_pos rfl])
  ·rw[List.getElem?_set_ne hj] at e
   obtain⟨v,h1,h2⟩:=R.2 j b e
   exact⟨v,h1,h2.mono hG⟩
 exact wp_mono (H G.nt G' w a S2 R2) fun e a' w' hh=>hh.mono hG (fun _ _ _ q=>q)
end
end
section
open Go.RowKit
inductive AR where
 |ret (r:AV)
 |pan (p:AV)
def ACalls (P:Program) (T:Tbl) (f:FuncId) (args:List AV) (h:AH) (R:AR→AH→Prop):Prop:=
 ∀(G:Gh) (w:World) (vs:Array Value),Sim T G h w→SlR G args vs→Calls P f vs w fun e w'=> ∃x h' G',R x h'∧Gle G G'∧Sim T G' h' w'∧
  match x with
  | .ret r=> ∃v,e= .returned v∧VR G' r v
  | .pan p=> ∃v,e= .panicked [{v:=v,recovered:=false }]∧VR G' p v
def Gh.keepT (G:Gh) (kp:Bool):Gh:= {G with tok:=if kp=true then G.tok else fun _=>none }
def gh0 (w:World) (F:Frz):Gh:=⟨w,F,fun _=>none,0⟩
def PCall (P:Program) (T:Tbl) (f:FuncId) (args:List AV) (r:AV):Prop:=
 ∀(F:Frz) (w:World) (vs:Array Value),(∀b o u,F b o=some u→w.cell? ⟨b,o,none⟩=some u)→(∀g j x,(T g)[j]?=some x→∃u,F g j=some u∧VD F x u)→SlR (gh0 w F) args vs→
  Calls P f vs w fun e w'=> ∃v F',e= .returned v∧Below w.heap.size w w'∧(∀b o u,F b o=some u→F' b o=some u)∧(∀b o u,F' b o=some u→F b o=some u∨w.heap.size≤b)∧
   (∀b o u,F' b o=some u→w'.cell? ⟨b,o,none⟩=some u)∧VR (gh0 w F') r v
def LeD:D→D→Prop
 | .slc k rows,.slc k' rows'=>rows=rows'∧(k=k'∨rows=[])
 |x,y=>x=y
mutual
def LeA (kp:Bool):AV→AV→Prop
 | .own t k rows,b=>match b with
  | .d (.slc k' rows')=>rows=rows'∧(k=k'∨rows=[])
  | .own t' k' rows'=>kp=true∧t=t'∧k=k'∧rows=rows'
  | .any=>True
  |_=>False
 | .nils,b=>match b with
  | .d (.slc _ rows')=>rows'=[]
  | .nils=>True
  | .full _ rows'=>rows'=[]
  | .any=>True
  |_=>False
 | .nn k rows,b=>match b with
  | .d (.slc k' rows')=>rows=rows'∧(k=k'∨rows=[])
  | .nn k' rows'=>rows=rows'∧(k=k'∨rows=[])
  | .any=>True
  |_=>False
 | .full k rows,b=>match b with
  | .d (.slc k' rows')=>rows=rows'∧(k=k'∨rows=[])
  | .full k' rows'=>rows=rows'∧(k=k'∨rows=[])
  | .any=>True
  |_=>False
 | .d x,b=>match b with
  | .d y=>LeD x y
  | .any=>True
  |_=>False
 | .agg l,b=>match b with
  | .agg l'=>LeL kp l l'
  | .any=>True
  |_=>False
 | .tup l,b=>match b with
  | .tup l'=>LeL kp l l'
  | .any=>True
  |_=>False
 | .ifc t a,b=>match b with
  | .ifc t' a'=>t=t'∧LeA kp a a'
  | .any=>True
  |_=>False
 | .fn f l,b=>match b with
  | .fn f' l'=>f=f'∧LeL kp l l'
  | .any=>True
  |_=>False
 | .mp t ks,b=>match b with
  | .mp t' ks'=>kp=true∧t=t'∧ks=ks'
  | .any=>True
  |_=>False
 | .cnd _ _,b=>b= .any
 |a,b=>a=b∨b= .any
def LeL (kp:Bool):List AV→List AV→Prop
 |[],[]=>True
 |a::l,b::l'=>LeA kp a b∧LeL kp l l'
 |_,_=>False
end
theorem LeL.len {kp:Bool} :∀{l l':List AV},LeL kp l l'→l.length=l'.length
 |[],[],_=>rfl
 |a::l,b::l',h=>by simp only[LeL] at h;simp[LeL.len h.2]
 |[],_::_,h=>by simp[LeL] at h
 |_::_,[],h=>by simp[LeL] at h
theorem VD.slc_k {F:Frz} {k k':Nat} {rows:List (List D)} {v:Value} (h:VD F (.slc k rows) v) (hk:k=k'∨rows=[]):VD F (.slc k' rows) v:=by
 rcases hk with rfl|rfl
 ·exact h
 ·obtain⟨A,c,rfl,_,h2,h3,_⟩:=h.slc_inv
  exact .slc0 k' A c h3 h2
theorem LeD.ok {F:Frz} {x y:D} {v:Value} (h:VD F x v) (k:LeD x y):VD F y v:=by
 unfold LeD at k
 split at k
 ·obtain⟨rfl,hk⟩:=k;exact h.slc_k hk
 ·subst k;exact h
mutual
theorem LeA.ok {G:Gh} {kp:Bool} :∀(a b:AV) (v:Value),LeA kp a b→VR G a v→VR (G.keepT kp) b v
 | .own t k rows,b,v,h,hv=>by
  cases hv with
  |own hd ht=>
   unfold LeA at h
   split at h
   ·obtain⟨rfl,hk⟩:=h;exact .d (hd.slc_k hk)
   ·obtain⟨rfl,rfl,rfl,rfl⟩:=h;exact .own hd (by simp only[Gh.keepT,if_pos];exact ht)
   ·exact .any _
   ·exact h.elim
 | .nils,b,v,h,hv=>by
  cases hv
  unfold LeA at h
  split at h
  ·subst h;exact .d (.slc0 _ none 0 (fun _=>rfl) (by decide))
  ·exact .nils
  ·subst h;exact .full (rows:=[]) (.slc0 _ none 0 (fun _=>rfl) (by decide))
  ·exact .any _
  ·exact h.elim
 | .nn k rows,b,v,h,hv=>by
  cases hv with
  |nn hd=>
   unfold LeA at h
   split at h
   ·obtain⟨rfl,hk⟩:=h;exact .d (hd.slc_k hk)
   ·obtain⟨rfl,hk⟩:=h;exact .nn (hd.slc_k hk)
   ·exact .any _
   ·exact h.elim
 | .full k rows,b,v,h,hv=>by
  cases hv with
  |full hd=>
   unfold LeA at h
   split at h
   ·obtain⟨rfl,hk⟩:=h;exact .d (hd.slc_k hk)
   ·obtain⟨rfl,hk⟩:=h;exact .full (hd.slc_k hk)
   ·exact .any _
   ·exact h.elim
 | .d x,b,v,h,hv=>by
  cases hv with
  |d hd=>
   unfold LeA at h
   split at h
   ·exact .d (LeD.ok hd h)
   ·exact .any _
   ·exact h.elim
 | .agg l,b,v,h,hv=>by
  cases hv with
  |agg _ vs hl hc=>
   unfold LeA at h
   split at h
   ·exact .agg _ vs (by rw[hl];exact h.len) (LeL.ok l _ vs hl h hc)
   ·exact .any _
   ·exact h.elim
 | .tup l,b,v,h,hv=>by
  cases hv with
  |tup _ vs hl hc=>
   unfold LeA at h
   split at h
   ·exact .tup _ vs (by rw[hl];exact h.len) (LeL.ok l _ vs hl h hc)
   ·exact .any _
   ·exact h.elim
 | .fn f l,b,v,h,hv=>by
  cases hv with
  |fn _ _ vs hl hc=>
   unfold LeA at h
   split at h
   ·obtain⟨rfl,h⟩:=h;exact .fn _ _ vs (by rw[hl];exact h.len) (LeL.ok l _ vs hl h hc)
   ·exact .any _
   ·exact h.elim
 | .ifc t a,b,v,h,hv=>by
  cases hv with
  |ifc _ hv=>
   unfold LeA at h
   split at h
   ·obtain⟨rfl,h⟩:=h;exact .ifc _ (LeA.ok a _ _ h hv)
   ·exact .any _
   ·exact h.elim
 | .cnd g a,b,v,h,hv=>by unfold LeA at h;subst h;exact .any _
 | .ptr b' k i o,b,v,h,hv=>by unfold LeA at h;rcases h with rfl|rfl;cases hv;exact .ptr ..;exact .any _
 | .elt k rows i o,b,v,h,hv=>by
  unfold LeA at h
  rcases h with rfl|rfl
  ·cases hv with|elt _ _ _ _ b off val r hr hf hv=>exact .elt k rows i o b off val r hr hf hv
  ·exact .any _
 | .arr b' k n c,b,v,h,hv=>by unfold LeA at h;rcases h with rfl|rfl;cases hv;exact .arr ..;exact .any _
 | .lar ..,b,v,h,hv=>by
  unfold LeA at h
  rcases h with rfl|rfl
  ·cases hv with|lar g1 g2=>exact .lar g1 g2
  ·exact .any _
 | .nilf,b,v,h,hv=>by unfold LeA at h;rcases h with rfl|rfl;cases hv;exact .nilf;exact .any _
 | .mp t ks,b,v,h,hv=>by
  cases hv with
  |mp ht=>
   unfold LeA at h
   split at h
   ·obtain⟨rfl,rfl,rfl⟩:=h;exact .mp (by simp only[Gh.keepT,if_pos];exact ht)
   ·exact .any _
   ·exact h.elim
 | .nilp,b,v,h,hv=>by unfold LeA at h;rcases h with rfl|rfl;cases hv;exact .nilp;exact .any _
 | .nili,b,v,h,hv=>by unfold LeA at h;rcases h with rfl|rfl;cases hv;exact .nili;exact .any _
 | .undef,b,v,h,hv=>by unfold LeA at h;rcases h with rfl|rfl;cases hv;exact .undef;exact .any _
 | .any,b,v,h,hv=>by unfold LeA at h;rcases h with rfl|rfl<;>exact .any _
theorem LeL.ok {G:Gh} {kp:Bool} :∀(l l':List AV) (vs:List Value),vs.length=l.length→LeL kp l l'→(∀(i:Nat) (a:AV) (v:Value),l[i]?=some a→vs[i]?=some v→VR G a v)→∀(i:Nat) (a:AV) (v:Value),l'[i]?=some a→vs[i]?=some v→VR (G.keepT kp) a v
 |[],[],_,_,_,_=>fun i a v e=>by simp at e
 | a::l,b::l',u::us,hl,h,hc=>fun i=>by
  unfold LeL at h
  cases i with
  |zero=>
   intro x v e1 e2
   simp only[List.getElem?_cons_zero,Option.some.injEq] at e1 e2
   subst e1 e2
   exact LeA.ok a b u h.1 (hc 0 a u rfl rfl)
  |succ i=>
   intro x v e1 e2
   simp only[List.getElem?_cons_succ] at e1 e2
   exact LeL.ok l l' us (by simpa using hl) h.2 (fun i a v e1 e2=>hc (i+1) a v (by simpa using e1) (by simpa using e2)) i x v e1 e2
 |a::l,b::l',[],hl,h,hc=>by simp at hl
 |[],_::_,_,_,h,_=>by simp[LeL] at h
 |_::_,[],_,_,h,_=>by simp[LeL] at h
end
def ldA (objs:List (Nat×Ob)) (b k i o n:Nat):Option (List AV):=
 match getO b objs with
 |some ob=>if ob.k=k∧o+n≤k then(match ob.rows[i]? with|some (a::r)=>some (((a::r).drop o).take n)|_=>none) else none
 |none=>none
section
variable {P:Program} {T:Tbl} {G:Gh} {h:AH} {w:World}
theorem ldA_ok (S:Sim T G h w) {b k i o n:Nat} {cs:List AV} (e:ldA h.objs b k i o n=some cs):
  ∃vs:List Value,w.rangeAt b (i*k+o) vs∧vs.length=n∧cs.length=n∧(∀a∈cs,a.one=true)∧∀(j:Nat) (a:AV) (v:Value),cs[j]?=some a→vs[j]?=some v→VR G a v:=by
 unfold ldA at e
 split at e
 ·rename_i ob hg
  split at e
  ·rename_i hc
   obtain⟨rfl,hn⟩:=hc
   split at e
   ·rename_i a0 r0 hr
    generalize hr0:a0::r0=r at hr e
    injection e with e
    have hO:=S.obj _ (getO_mem hg)
    obtain⟨vs,ty,fz,hh,hs,_,hm⟩:=hO.mem
    have hrl:r.length=ob.k:=(hO.lenk r (List.mem_of_getElem? hr)).resolve_right (by rw[←hr0];simp)
    have hi:i<ob.rows.length:=(List.getElem?_eq_some_iff.1 hr).1
    have hcell:∀j,j<n→∃a v,r[o+j]?=some a∧a.one=true∧vs[i*ob.k+o+j]?=some v∧VR G a v:=fun j hj=>by
     have ha:r[o+j]?=some (r[o+j]'(by omega)):=List.getElem?_eq_getElem _
     obtain⟨h1,v,h2,h3⟩:=hm i r (o+j) _ hr ha
     exact⟨_,v,ha,h1,by rw[Nat.add_assoc];exact h2,h3⟩
    have hlen:cs.length=n:=by rw[←e];simp;omega
    refine⟨(List.range n).map fun j=>vs.getD (i*ob.k+o+j) Go.undef,fun j v hv=>?_,by simp,hlen,fun a ha=>?_,fun j a v h1 h2=>?_⟩
    ·rw[List.getElem?_map] at hv
     rcases Nat.lt_or_ge j n with hj|hj
     ·rw[List.getElem?_range hj,Option.map_some] at hv
      injection hv with hv
      obtain⟨a,u,_,_,h2,_⟩:=hcell j hj
      rw[cell_of_row _ _ _ vs ty fz hh,←hv,h2,Array.getD_eq_getD_getElem?,h2]
      rfl
     ·rw[List.getElem?_eq_none (by simpa using hj)] at hv;cases hv
    ·obtain⟨j,hj,rfl⟩:=List.getElem_of_mem ha
     obtain⟨a,u,h1,h2,_⟩:=hcell j (by omega)
     subst e
     have:((r.drop o).take n)[j]?=some a:=by rw[List.getElem?_take_of_lt (by omega),List.getElem?_drop];exact h1
     rw[List.getElem?_eq_getElem hj] at this
     injection this with this
     rw[this];exact h2
    ·have hj:j<n:=by rw[←hlen];exact(List.getElem?_eq_some_iff.1 h1).1
     obtain⟨a',u,g1,_,g2,g3⟩:=hcell j hj
     subst e
     rw[List.getElem?_take_of_lt hj,List.getElem?_drop,g1] at h1
     injection h1 with h1
     rw[List.getElem?_map,List.getElem?_range hj,Option.map_some] at h2
     injection h2 with h2
     rw[←h1,←h2,Array.getD_eq_getD_getElem?,g2]
     exact g3
   ·cases e
  ·cases e
 ·cases e
def ofCellsA (r:Bool) (cs:List AV):AV:=if r then .agg cs else cs.headD .any
theorem ofCellsA_ok {r:Bool} {n:Nat} {cs:List AV} {vs:List Value} (h1:vs.length=n) (h2:cs.length=n) (h3:r=false→n=1) (h:∀(j:Nat) (a:AV) (v:Value),cs[j]?=some a→vs[j]?=some v→VR G a v):VR G (ofCellsA r cs) (ofCells r vs):=by
 cases r with
 |true=>exact .agg cs vs (by omega) h
 |false=>
  have h3:=h3 rfl
  match cs,vs,h1,h2 with
  |[a],[v],_,_=>exact h 0 a v rfl rfl
  |[],_,_,e=>simp at e;omega
  |_::_::_,_,_,e=>simp at e;omega
  |[_],[],e,_=>simp at e;omega
  |[_],_::_::_,e,_=>simp at e;omega
def resA (P:Program) (s:List AV) (h:AH):ResultVar→Option AV
 | .tmp t=>some (s.getD t .undef)
 | .cell p ty=>match s.getD p .undef,tyI P ty with
  | .ptr b k i o,some (r,n)=>(ldA h.objs b k i o n).map (ofCellsA r)
  |_,_=>none
def resL (P:Program) (s:List AV) (h:AH):List ResultVar→Option (List AV)
 |[]=>some []
 |x::l=>(resA P s h x).bind fun a=>(resL P s h l).map (a:: ·)
def resOf (P:Program) (s:List AV) (h:AH) (rs:List ResultVar):Option AV:=
 (resL P s h rs).map fun|[a]=>a|l=> .tup l
def resOne (tmps:Array Value):ResultVar→Sem Value
 | .tmp t=>pure (tmps.getD t undef)
 | .cell a t=>do loadVar t (←asAddr (tmps.getD a undef))
theorem slot_ok {s:List AV} {tmps:Array Value} (R:SlR G s tmps) (t:Nat):VR G (s.getD t .undef) (tmps.getD t Go.undef):=by
 simp only[List.getD]
 cases hs:s[t]? with
 |none=>
  have:tmps[t]?=none:=Array.getElem?_eq_none (by rw[R.1];exact List.getElem?_eq_none_iff.1 hs)
  simp only[Option.getD_none,Array.getD_eq_getD_getElem?,this]
  exact .undef
 |some b=>
  obtain⟨v,h1,h2⟩:=R.2 t b hs
  simpa[Array.getD_eq_getD_getElem?,h1] using h2
theorem resA_ok (S:Sim T G h w) {s:List AV} {tmps:Array Value} (R:SlR G s tmps) {x:ResultVar} {a:AV} (e:resA P s h x=some a):∃v,(resOne tmps x).run P w= .ok v w∧VR G a v:=by
 cases x with
 |tmp t=>
  simp only[resA,Option.some.injEq] at e
  subst e
  exact⟨_,rfl,slot_ok R t⟩
 | cell p ty=>
  have hp:=slot_ok R p
  simp only[resA] at e
  split at e
  ·rename_i b k i o r n hptr hty
   rw[hptr] at hp
   obtain⟨cs,hcs,rfl⟩:=Option.map_eq_some_iff.1 e
   obtain⟨vs,h1,h2,h3,_,h4⟩:=ldA_ok S hcs
   obtain⟨_,_,_,_,_,_,hr1⟩:=tyI_inv hty
   refine⟨ofCells r vs,?_,ofCellsA_ok h2 h3 hr1 h4⟩
   have hv:tmps.getD p Go.undef= .pointer (some ⟨b,i*k+o,none⟩):=by
    generalize tmps.getD p Go.undef=v at hp
    cases hp
    rfl
   have hl:=run_load_av (P:=P) hty h2 h1
   simp only[Instr.loadAt,Instr.sureAddr,Sem.run_bind,Sem.run_pure,Result.andThen_ok] at hl
   simp only[resOne,hv,asAddr,Sem.run_bind,Sem.run_pure,Result.andThen_ok,hl]
  ·cases e
theorem resL_ok (S:Sim T G h w) {s:List AV} {tmps:Array Value} (R:SlR G s tmps):∀{l:List ResultVar} {az:List AV},resL P s h l=some az→
  ∃vs,(l.mapM (resOne tmps)).run P w= .ok vs w∧vs.length=az.length∧∀(i:Nat) (a:AV) (v:Value),az[i]?=some a→vs[i]?=some v→VR G a v
 |[],az,e=>by
  simp only[resL,Option.some.injEq] at e
  subst e
  exact⟨[],by simp,rfl,fun i a v e=>by simp at e⟩
 |x::l,az,e=>by
  simp only[resL,Option.bind_eq_some_iff,Option.map_eq_some_iff] at e
  obtain⟨a,ha,az',hl,rfl⟩:=e
  obtain⟨v,h1,h2⟩:=resA_ok S R ha
  obtain⟨vs,h3,h4,h5⟩:=resL_ok S R hl
  refine⟨v::vs,by simp[List.mapM_cons,h1,h3],by simp[h4],fun i b u e1 e2=>?_⟩
  cases i with
  |zero=>simp at e1 e2;subst e1 e2;exact h2
  |succ i=>simp at e1 e2;exact h5 i b u e1 e2
theorem resOf_ok (S:Sim T G h w) {s:List AV} {tmps:Array Value} (R:SlR G s tmps) {fn:Func} {r:AV} (e:resOf P s h fn.results.toList=some r):∃v,(results fn tmps).run P w= .ok v w∧VR G r v:=by
 unfold resOf at e
 obtain⟨az,ha,hr⟩:=Option.map_eq_some_iff.1 e
 obtain⟨vs,h1,h2,h3⟩:=resL_ok S R ha
 have hm:(fn.results.mapM (resOne tmps)).run P w= .ok vs.toArray w:=by
  rw[Array.mapM_eq_mapM_toList]
  simp[h1]
 have hrun:(results fn tmps).run P w= .ok (if h:vs.toArray.size=1 then vs.toArray[0] else .tuple vs.toArray) w:=by
  change Sem.run P (fn.results.mapM (resOne tmps)>>=fun vs=>pure (if h:vs.size=1 then vs[0] else .tuple vs)) w=_
  rw[Sem.run_bind,hm]
  rfl
 rw[hrun]
 refine⟨_,rfl,?_⟩
 clear hrun hm h1
 cases az with
 |nil=>
  cases vs with
  |nil=>simp only at hr;subst hr;exact .tup [] [] rfl (by simp)
  |cons=>simp at h2
 | cons a az=>
  cases vs with
  |nil=>simp at h2
  | cons v vs=>
   cases az with
   |nil=>
    cases vs with
    |nil=>simp only at hr;subst hr;exact h3 0 a v rfl rfl
    |cons=>simp at h2
   | cons b l=>
    cases vs with
    |nil=>simp at h2
    |cons u us=>
     simp only at hr
     subst hr
     have:¬(v::u::us).toArray.size=1:=by simp
     rw[dif_neg this]
     exact .tup _ _ h2 h3
end
section
variable {P:Program} {T:Tbl} {f N:Nat} {fn:Func} {c:Code} {args:List AV} {h:AH}
def endQ (P:Program) (rs:Array ResultVar) (R:AR→AH→Prop):AQ
 | .normal,s,h=> ∃r,resOf P s h rs.toList=some r∧∃r',LeA true r r'∧∃n m,R (.ret r') ⟨h.objs.drop n,h.live.drop m⟩
 | .ret,s,h=> ∃r,resOf P s h rs.toList=some r∧∃r',LeA true r r'∧∃n m,R (.ret r') ⟨h.objs.drop n,h.live.drop m⟩
 | .pan p,s,h=> ∃n m,R (.pan p) ⟨h.objs.drop n,h.live.drop m⟩
 | .exit _,_,_=>False
theorem SlR.enter {G:Gh} {vs:Array Value} (R:SlR G args vs) (N:Nat):SlR G (args++List.replicate (N-args.length) .undef) (vs++Array.replicate (N-vs.size) Go.undef):=by
 refine⟨by simp[R.1],fun i a e=>?_⟩
 rcases Nat.lt_or_ge i args.length with hi|hi
 ·rw[List.getElem?_append_left hi] at e
  obtain⟨v,h1,h2⟩:=R.2 i a e
  exact⟨v,by rw[Array.getElem?_append_left (by rw[R.1];exact hi)];exact h1,h2⟩
 ·rw[List.getElem?_append_right hi,List.getElem?_replicate] at e
  split at e
  ·rename_i hlt
   injection e with e
   refine⟨Go.undef,?_,by rw[←e];exact .undef⟩
   rw[Array.getElem?_append_right (by rw[R.1];exact hi),Array.getElem?_replicate,R.1,if_pos hlt]
  ·cases e
theorem SlR.bnd {G:Gh} {vs:Array Value} (R:SlR G args vs):∀a∈args,a.bnd:=fun a ha=>by
 obtain⟨i,hi,rfl⟩:=List.getElem_of_mem ha
 obtain⟨v,_,h2⟩:=R.2 i _ (List.getElem?_eq_getElem hi)
 exact h2.bnd
def pureQ (P:Program) (rs:Array ResultVar) (r':AV):AQ
 | .normal,s,h=> ∃r,resOf P s h rs.toList=some r∧LeA false r r'
 | .ret,s,h=> ∃r,resOf P s h rs.toList=some r∧LeA false r r'
 |_,_,_=>False
theorem PCall.enter {r:AV} (hf:P.funcs[f]?=some fn) (hb:fn.body=some c) (hN:fn.ntmps=N)
  (H:(∀a∈args,a.bnd)→AWp P T c (pureQ P fn.results r) (args++List.replicate (N-args.length) .undef) ⟨[],[]⟩):PCall P T f args r:=by
 intro F w vs hF hT Rs
 refine calls_of_wp hf hb ?_
 have S:Sim T (gh0 w F) ⟨[],[]⟩ w:=⟨Below.refl _ _,hT,hF,fun _ _=>rfl,by simp,by simp,by simp,by simp,by simp,by simp⟩
 have hw:=H Rs.bnd (gh0 w F) w {tmps:=vs++Array.replicate (fn.ntmps-vs.size) undef,defers:=[]} S (by rw[hN];exact Rs.enter N)
 refine wp_mono hw ?_
 rintro e a w' ⟨hd,x,s,h',G',hq,hx,hG,S',R'⟩
 have hret:(∃r',resOf P s h' fn.results.toList=some r'∧LeA false r' r)→∃v,(results fn a.tmps).run P w'= .ok v w'∧(∃u F',Ending.returned v= .returned u∧Below w.heap.size w w'∧(∀b o u,F b o=some u→F' b o=some u)∧(∀b o u,F' b o=some u→F b o=some u∨w.heap.size≤b)∧
   (∀b o u,F' b o=some u→w'.cell? ⟨b,o,none⟩=some u)∧VR (gh0 w F') r u):=by
  rintro⟨r',hr,hle⟩
  obtain⟨v,h1,h2⟩:=resOf_ok S' R' hr
  refine⟨v,h1,v,G'.frz,rfl,?_,hG.frz,hG.new,S'.frz,?_⟩
  ·have:=S'.below;rw[hG.base] at this;exact this
  ·have:=LeA.ok r' r v hle h2
   exact this.mono2 (G:=G'.keepT false) (G':=gh0 w G'.frz) (fun _ _ _ e=>e) (fun t x e=>by simp[Gh.keepT] at e)
 cases x with
 |normal=>
  cases e<;>simp only[ExR] at hx
  obtain⟨v,h1,h2⟩:=hret hq
  exact⟨hd,v,h1,h2⟩
 |ret=>
  cases e<;>simp only[ExR] at hx
  obtain⟨v,h1,h2⟩:=hret hq
  exact⟨hd,v,h1,h2⟩
 |exit i=>exact hq.elim
 |pan p=>exact hq.elim
theorem PCall.acalls {args':List AV} {r:AV} (c:PCall P T f args' r) (hle:LeL false args args'):ACalls P T f args h fun x h'=>x= .ret r∧h'=h∧r.bnd:=by
 intro G w vs S Rs
 have hR:SlR (gh0 w G.frz) args' vs:=by
  refine⟨by rw[Rs.1];exact hle.len,fun i a e=>?_⟩
  have hi:i<vs.size:=by rw[Rs.1,hle.len];exact(List.getElem?_eq_some_iff.1 e).1
  refine⟨vs[i],Array.getElem?_eq_getElem hi,?_⟩
  have:=LeL.ok (G:=G) args args' vs.toList (by simpa using Rs.1) hle (fun i a v e1 e2=>by
   obtain⟨u,h1,h2⟩:=Rs.2 i a e1
   rw[Array.getElem?_toList] at e2
   rw[h1] at e2
   injection e2 with e2
   rw[←e2];exact h2) i a vs[i] e (by rw[Array.getElem?_toList];exact Array.getElem?_eq_getElem hi)
  exact this.mono2 (G:=G.keepT false) (G':=gh0 w G.frz) (fun _ _ _ e=>e) (fun t x e=>by simp[Gh.keepT] at e)
 refine(c G.frz w vs S.frz S.glob hR).mono ?_
 rintro e w' ⟨v,F',rfl,hb,h1,h2,h3,hv⟩
 let G1:Gh:= {G with frz:=F' }
 have hG:Gle G G1:=⟨rfl,h1,fun b o u e=>(h2 b o u e).imp_right (fun hb=>Nat.le_trans S.below.size hb),fun _ _ e=>e⟩
 have hv1:VR G1 r v:=hv.mono2 (G:=gh0 w F') (G':=G1) (fun _ _ _ e=>e) (fun t x e=>by simp[gh0] at e)
 exact⟨.ret r,h,G1,⟨rfl,rfl,hv1.bnd⟩,hG,S.grow hb hG S.fin h2 h3,v,rfl,hv1⟩
end
end
section
open Go.RowKit
abbrev PV:=Prop×AV
def koP:PV:=(False,.any)
def inR:IntKind→Int→Prop
 | .i64,n=> -9223372036854775808≤n∧n≤9223372036854775807
 | .u8,n=>0≤n∧n≤255
 | .i32,n=> -2147483648≤n∧n≤2147483647
 | .u32,n=>0≤n∧n≤4294967295
 |k,n=>k.wrap n=n
theorem inR_wrap {k:IntKind} {n:Int} (h:inR k n):k.wrap n=n:=by
 cases k<;>simp only[inR] at h<;>first|exact h|exact IntWalk.i64_in n h|exact IntWalk.u8_in n h|exact IntWalk.i32_in n h|exact IntWalk.u32_in n h
def arithP (op:BinOp) (k:IntKind) (a b:Int):PV:=
 match op with
 | .add=>(inR k (a+b),.d (.int k (a+b)))
 | .sub=>(inR k (a-b),.d (.int k (a-b)))
 | .mul=>(inR k (a*b),.d (.int k (a*b)))
 | .quo=>(b≠0∧inR k (a.tdiv b),.d (.int k (a.tdiv b)))
 | .rem=>(b≠0,.d (.int k (a.tmod b)))
 | .and=>(True,.d (.int k (k.wrap (BitVec.ofInt k.bits a&&&BitVec.ofInt k.bits b).toNat)))
 | .or=>(True,.d (.int k (k.wrap (BitVec.ofInt k.bits a|||BitVec.ofInt k.bits b).toNat)))
 | .eql=>(True,.d (.bool (decide (a=b))))
 | .neq=>(True,.d (.bool (!decide (a=b))))
 | .lss=>(True,.d (.bool (decide (a<b))))
 | .leq=>(True,.d (.bool (decide (a≤b))))
 | .gtr=>(True,.d (.bool (decide (b<a))))
 | .geq=>(True,.d (.bool (decide (b≤a))))
 |_=>koP
def shiftP (op:BinOp) (k:IntKind) (a b:Int):PV:=
 match op with
 | .shl=>(0≤b∧inR k (a*2^(min b.toNat k.bits)),.d (.int k (a*2^(min b.toNat k.bits))))
 | .shr=>(0≤b,.d (.int k (a.fdiv (2^(min b.toNat k.bits)))))
 |_=>koP
def isB (P:Program) (t:TypeId):Bool:=match P.underlying t with|some .bool=>true|_=>false
def isStr (P:Program) (t:TypeId):Bool:=match P.underlying t with|some .string=>true|_=>false
def isIf (P:Program) (t:TypeId):Bool:=match P.underlying t with|some (.interface _)=>true|_=>false
def isE (P:Program) (t:TypeId):Bool:=match P.underlying t with|some (.interface ms)=>ms.isEmpty|_=>false
def isSl (P:Program) (t:TypeId):Bool:=match P.underlying t with|some (.slice _)=>true|_=>false
def binP (P:Program) (op:BinOp) (t:TypeId):AV→AV→PV
 | .d (.int k a),.d (.int k' b)=>match op with
  | .shl=>shiftP .shl k a b
  | .shr=>shiftP .shr k a b
  |op=>if k=k' then arithP op k a b else koP
 | .d (.bool a),.d (.bool b)=>match op with
  | .eql=>(isB P t=true,.d (.bool (a==b)))
  | .neq=>(isB P t=true,.d (.bool (!(a==b))))
  |_=>koP
 | .d (.str a),.d (.str b)=>match op with
  | .add=>(a.length+b.length≤9223372036854775807,.d (.str (a++b)))
  | .eql=>(True,.d (.bool (decide (a=b))))
  | .neq=>(True,.d (.bool (!decide (a=b))))
  |_=>koP
 | .ifc _ _,.nili=>match op with
  | .eql=>(isIf P t=true,.d (.bool false))
  | .neq=>(isIf P t=true,.d (.bool true))
  |_=>koP
 | .nili,.nili=>match op with
  | .eql=>(isE P t=true,.d (.bool true))
  | .neq=>(isE P t=true,.d (.bool false))
  |_=>koP
 | .nils,.nils=>match op with
  | .eql=>(isSl P t=true,.d (.bool true))
  | .neq=>(isSl P t=true,.d (.bool false))
  |_=>koP
 | .nn _ _,.nils=>match op with
  | .eql=>(isSl P t=true,.d (.bool false))
  | .neq=>(isSl P t=true,.d (.bool true))
  |_=>koP
 | .arr ..,.nils=>match op with
  | .eql=>(isSl P t=true,.d (.bool false))
  | .neq=>(isSl P t=true,.d (.bool true))
  |_=>koP
 |_,_=>koP
def pickB:AV→Bool×Bool
 | .d (.bool v)=>(true,v)
 | .cnd g (.d (.bool v))=>(g,v)
 |_=>(false,false)
def pickP (c a b:AV):PV:=
 ((pickB c).1=true∧((pickB c).2=true→(pickB a).1=true)∧((pickB c).2=false→(pickB b).1=true),.d (.bool (bif (pickB c).2 then(pickB a).2 else(pickB b).2)))
def loadP (P:Program) (t:TypeId) (a:AV) (h:AH):PV:=
 match a,tyI P t with
 | .ptr b k i o,some (r,n)=>match ldA h.objs b k i o n with
  |some cs=>(True,ofCellsA r cs)
  |none=>koP
 | .elt _ rows i o,some (r,n)=>(o+n≤(rows.getD i []).length,ofCellsA r ((((rows.getD i []).drop o).take n).map .d))
 |_,_=>koP
def nilP:AV→PV
 | .ptr b k i o=>(True,.ptr b k i o)
 | .elt k rows i o=>(True,.elt k rows i o)
 | .fn f c=>(True,.fn f c)
 |_=>koP
def unP (op:UnOp):AV→PV
 | .d (.bool b)=>match op with
  | .not=>(True,.d (.bool (!b)))
  |_=>koP
 | .d (.int k n)=>match op with
  | .neg=>(inR k (0-n),.d (.int k (0-n)))
  |_=>koP
 |_=>koP
def fdI (P:Program) (t:TypeId) (f:Nat):Option (Nat×Nat×Bool):=
 match P.underlying t with
 | some (.struct fs)=>match fs[f]? with
  |some fd=>match tyI P fd.type with
   |some (r,n)=>if n=0 then none else some (fd.offset,n,r)
   |none=>none
  |none=>none
 |_=>none
def slI (P:Program) (t:TypeId):Option (TypeId×Nat×Nat):=
 match P.underlying t with
 |some (.slice e)=>match P.info? e with
  |some i=>if(i.zero.map fun z=>z.cells.size)=some i.size∧0<i.size then some (e,i.size,i.bytes) else none
  |none=>none
 |_=>none
def arI (P:Program) (t:TypeId):Option (Nat×Nat×Bool):=
 match P.underlying t with
 |some (.array n e)=>match tyI P e with
  |some (r,s)=>some (n,s,r)
  |none=>none
 |_=>none
def fieldAddrP (P:Program) (t:TypeId) (a:AV) (f:Nat):PV:=
 match a,fdI P t f with
 | .ptr b k i o,some (off,_,_)=>(True,.ptr b k i (o+off))
 | .elt k rows i o,some (off,_,_)=>(True,.elt k rows i (o+off))
 |_,_=>koP
def fieldP (P:Program) (t:TypeId) (a:AV) (f:Nat):PV:=
 match a,fdI P t f with
 | .agg l,some (off,n,r)=>(off+n≤l.length,ofCellsA r ((l.drop off).take n))
 |_,_=>koP
def extractP (a:AV) (i:Nat):PV:=
 match a with
 | .tup l=>(i<l.length,l.getD i .any)
 |_=>koP
def indexAddrP (P:Program) (t:TypeId) (a i:AV):PV:=
 match a,i with
 | .d (.slc k rows),.d (.int _ j)=>match slI P t with
  |some (_,s,_)=>(s=k∧0≤j∧j<rows.length,.elt k rows j.toNat 0)
  |none=>koP
 | .own _ k rows,.d (.int _ j)=>match slI P t with
  |some (_,s,_)=>(s=k∧0≤j∧j<rows.length,.elt k rows j.toNat 0)
  |none=>koP
 | .nn k rows,.d (.int _ j)=>match slI P t with
  |some (_,s,_)=>(s=k∧0≤j∧j<rows.length,.elt k rows j.toNat 0)
  |none=>koP
 | .full k rows,.d (.int _ j)=>match slI P t with
  |some (_,s,_)=>(s=k∧0≤j∧j<rows.length,.elt k rows j.toNat 0)
  |none=>koP
 | .arr b k n _,.d (.int _ j)=>match slI P t with
  |some (_,s,_)=>(s=k∧0≤j∧j<n,.ptr b k j.toNat 0)
  |none=>koP
 | .lar b k rows _,.d (.int _ j)=>match slI P t with
  |some (_,s,_)=>(s=k∧j=rows.length,.ptr b k rows.length 0)
  |none=>koP
 | .ptr b k i o,.d (.int _ j)=>match arI P t with
  |some (n,s,_)=>(0≤j∧j<n,.ptr b k i (o+j.toNat*s))
  |none=>koP
 | .elt k rows i o,.d (.int _ j)=>match arI P t with
  |some (n,s,_)=>(0≤j∧j<n,.elt k rows i (o+j.toNat*s))
  |none=>koP
 |_,_=>koP
def indexP (P:Program) (t:TypeId) (a i:AV):PV:=
 match a,i with
 | .d (.str s),.d (.int _ j)=>(isStr P t=true∧0≤j∧j<s.length,.d (.int .u8 (s.getD j.toNat 0).toNat))
 | .agg l,.d (.int _ j)=>match arI P t with
  |some (n,s,r)=>(0≤j∧j<n∧j.toNat*s+s≤l.length,ofCellsA r ((l.drop (j.toNat*s)).take s))
  |none=>koP
 |_,_=>koP
def lenP (P:Program) (t:TypeId) (a:AV):PV:=
 match a with
 | .d (.str s)=>(isStr P t=true,.d (.int .i64 s.length))
 | .d (.slc _ rows)=>((slI P t).isSome=true,.d (.int .i64 rows.length))
 | .own _ _ rows=>((slI P t).isSome=true,.d (.int .i64 rows.length))
 | .nils=>((slI P t).isSome=true,.d (.int .i64 0))
 | .full _ rows=>((slI P t).isSome=true,.d (.int .i64 rows.length))
 | .nn _ rows=>((slI P t).isSome=true,.d (.int .i64 rows.length))
 | .arr _ _ n _=>((slI P t).isSome=true,.d (.int .i64 n))
 |_=>koP
def minP (a b:AV):PV:=
 match a,b with
 | .d (.int k x),.d (.int k' y)=>(k=k',.d (.int k (if y<x then y else x)))
 |_,_=>koP
def PR (T:Tbl) (G:Gh) (h:AH) (V:AV) (r:Result Next):Prop:=∃G' v w',r= .ok (.value v) w'∧Gle G G'∧Sim T G' h w'∧VR G' V v
section
variable {P:Program} {T:Tbl} {G:Gh} {h:AH} {w:World} {a b c:AV} {u v x:Value}
theorem PR.pure (S:Sim T G h w) (hv:VR G a v):PR T G h a (.ok (.value v) w):=⟨G,v,w,rfl,Gle.refl G,S,hv⟩
theorem VR.int_inv {k:IntKind} {n:Int} (h:VR G (.d (.int k n)) v):v= .int k n:=by cases h with|d h=>exact h.int_inv
theorem VR.bool_inv {b:Bool} (h:VR G (.d (.bool b)) v):v= .bool b:=by cases h with|d h=>exact h.bool_inv
theorem VR.str_inv {s:List UInt8} (h:VR G (.d (.str s)) v):∃t:ByteArray,v= .string t∧t.data.toList=s∧t.size≤maxLen:=by cases h with|d h=>exact h.str_inv
theorem VR.int (k:IntKind) (n:Int):VR G (.d (.int k n)) (.int k n):= .d (.int k n)
theorem VR.bool (b:Bool):VR G (.d (.bool b)) (.bool b):= .d (.bool b)
theorem VR.str (t:ByteArray) (s:List UInt8) (e:t.data.toList=s) (h:s.length≤maxLen):VR G (.d (.str s)) (.string t):=by
 subst e
 exact .d (.str t (by rw[Array.length_toList] at h;exact h))
theorem run_arith {op:BinOp} {k:IntKind} {n m:Int} (t:TypeId) (hs:(arithP op k n m).1):∃v,(binOp op t (.int k n) (.int k m)).run P w= .ok v w∧VR G (arithP op k n m).2 v:=by
 have cmp:∀(o:BinOp) (r:Bool),(binOp o t (.int k n) (.int k m)).run P w= .ok (.bool r) w→∀r',r=r'→∃v,(binOp o t (.int k n) (.int k m)).run P w= .ok v w∧VR G (.d (.bool r')) v:=fun o r h r' e=>⟨_,h,by rw[e];exact VR.bool _⟩
 cases op with
 |add=>exact⟨.int k (n+m),by simp only[arithP] at hs;simp only[binOp,ne_eq,not_true_eq_false,if_false,Op.intArith,inR_wrap hs];rfl,VR.int _ _⟩
 |sub=>exact⟨.int k (n-m),by simp only[arithP] at hs;simp only[binOp,ne_eq,not_true_eq_false,if_false,Op.intArith,inR_wrap hs];rfl,VR.int _ _⟩
 |mul=>exact⟨.int k (n*m),by simp only[arithP] at hs;simp only[binOp,ne_eq,not_true_eq_false,if_false,Op.intArith,inR_wrap hs];rfl,VR.int _ _⟩
 |quo=>exact⟨.int k (n.tdiv m),by simp only[arithP] at hs;simp only[binOp,ne_eq,not_true_eq_false,if_false,Op.intDiv,inR_wrap hs.2];rw[if_neg hs.1];rfl,VR.int _ _⟩
 |rem=>exact⟨.int k (n.tmod m),by simp only[arithP] at hs;simp only[binOp,ne_eq,not_true_eq_false,if_false,Op.intDiv];rw[if_neg hs];rfl,VR.int _ _⟩
 |and=>exact⟨_,by simp only[binOp,ne_eq,not_true_eq_false,if_false,Op.intBits];rfl,VR.int _ _⟩
 |or=>exact⟨_,by simp only[binOp,ne_eq,not_true_eq_false,if_false,Op.intBits];rfl,VR.int _ _⟩
 |eql=>exact cmp .eql (n==m) (by simp only[binOp,ne_eq,not_true_eq_false,if_false,Op.intCmp];rfl) _ (Bool.eq_iff_iff.2 (by simp))
 |neq=>exact cmp .neq (n !=m) (by simp only[binOp,ne_eq,not_true_eq_false,if_false,Op.intCmp];rfl) _ (Bool.eq_iff_iff.2 (by simp))
 |lss=>exact cmp .lss (decide (n<m)) (by simp only[binOp,ne_eq,not_true_eq_false,if_false,Op.intCmp];rfl) _ rfl
 |leq=>exact cmp .leq (decide (n≤m)) (by simp only[binOp,ne_eq,not_true_eq_false,if_false,Op.intCmp];rfl) _ rfl
 |gtr=>exact cmp .gtr (decide (n>m)) (by simp only[binOp,ne_eq,not_true_eq_false,if_false,Op.intCmp];rfl) _ rfl
 |geq=>exact cmp .geq (decide (n≥m)) (by simp only[binOp,ne_eq,not_true_eq_false,if_false,Op.intCmp];rfl) _ rfl
 |_=>exact hs.elim
theorem run_equal_bool {t:TypeId} (hu:P.underlying t=some .bool) (a b:Bool):(Op.equal t (.bool a) (.bool b)).run P w= .ok (a==b) w:=by
 have:∀d,(Op.equalIn (d+1) t (.bool a) (.bool b)).run P w= .ok (a==b) w:=fun d=>by
  simp only[Op.equalIn,Sem.run_bind,run_underlying hu,Result.andThen_ok]
  rfl
 exact this 9999
theorem isB_inv {t:TypeId} (e:isB P t=true):P.underlying t=some .bool:=by
 unfold isB at e
 split at e
 ·assumption
 ·cases e
theorem isStr_inv {t:TypeId} (e:isStr P t=true):P.underlying t=some .string:=by
 unfold isStr at e
 split at e
 ·assumption
 ·cases e
theorem size_data (s:ByteArray):s.data.toList.length=s.size:=by rw[Array.length_toList];rfl
theorem isSl_inv {t:TypeId} (e:isSl P t=true):∃el,P.underlying t=some (.slice el):=by
 unfold isSl at e
 split at e
 ·exact⟨_,by assumption⟩
 ·cases e
theorem run_eqNil {t:TypeId} (e:isSl P t=true):(Op.equal t (.slice none 0 0) (.slice none 0 0)).run P w= .ok true w:=by
 obtain⟨el,hu⟩:=isSl_inv e
 have:∀d,(Op.equalIn (d+1) t (.slice none 0 0) (.slice none 0 0)).run P w= .ok true w:=fun d=>by
  simp only[Op.equalIn,Sem.run_bind,run_underlying hu,Result.andThen_ok]
  rfl
 exact this 9999
theorem run_neNil {t:TypeId} {ad:Addr} {n c:Nat} (e:isSl P t=true):(Op.equal t (.slice (some ad) n c) (.slice none 0 0)).run P w= .ok false w:=by
 obtain⟨el,hu⟩:=isSl_inv e
 have:∀d,(Op.equalIn (d+1) t (.slice (some ad) n c) (.slice none 0 0)).run P w= .ok false w:=fun d=>by
  simp only[Op.equalIn,Sem.run_bind,run_underlying hu,Result.andThen_ok]
  rfl
 exact this 9999
theorem binP_ok (op:BinOp) (t:TypeId) (x y:Operand) (S:Sim T G h w) (hs:(binP P op t a b).1) (ha:VR G a u) (hb:VR G b v):
    PR T G h (binP P op t a b).2 (((do eqGuard op t x y u v;binOp op t u v:Sem Value)>>=fun z=>pure (Next.value z)).run P w):=by
  have key:∀{r:Value},eqGuard op t x y u v=(pure ():Sem Unit)→(binOp op t u v).run P w= .ok r w→VR G (binP P op t a b).2 r→PR T G h (binP P op t a b).2 (((do eqGuard op t x y u v;binOp op t u v:Sem Value)>>=fun z=>pure (Next.value z)).run P w):=fun hg hr hv=>by
    refine⟨G,_,w,?_,Gle.refl G,S,hv⟩
    rw[hg,pure_bind,Sem.run_bind,hr]
    rfl
  have hgi:∀(k k':IntKind) (n m:Int),eqGuard op t x y (.int k n) (.int k' m)=(pure ():Sem Unit):=fun k k' n m=>by unfold eqGuard;split<;>rfl
  have hgb:∀(n m:Bool),eqGuard op t x y (.bool n) (.bool m)=(pure ():Sem Unit):=fun n m=>by unfold eqGuard;split<;>rfl
  have hgs:∀(n m:ByteArray),eqGuard op t x y (.string n) (.string m)=(pure ():Sem Unit):=fun n m=>by unfold eqGuard;split<;>rfl
  unfold binP at hs
  split at hs<;>try exact hs.elim
  · rename_i k n k' m
    have hu:=ha.int_inv
    have hv:=hb.int_inv
    subst hu hv
    split at hs
    · simp only[shiftP] at hs
      obtain⟨h0,h1⟩:=hs
      refine key (r:= .int k (n*2^(min m.toNat k.bits))) (hgi ..) ?_ (VR.int _ _)
      simp only[binOp,Op.shift]
      rw[if_neg (by omega)]
      simp only[inR_wrap h1]
      rfl
    · simp only[shiftP] at hs
      refine key (r:= .int k (n.fdiv (2^(min m.toNat k.bits)))) (hgi ..) ?_ (VR.int _ _)
      simp only[binOp,Op.shift]
      rw[if_neg (by omega)]
      rfl
    · rename_i hne1 hne2
      split at hs
      · rename_i hk
        subst hk
        obtain⟨r,h1,h2⟩:=run_arith (P:=P) (w:=w) (G:=G) t hs
        refine key (r:=r) (hgi ..) h1 ?_
        have:(binP P op t (.d (.int k n)) (.d (.int k m))).2=(arithP op k n m).2:=by
          cases op<;>first|exact absurd rfl hne1|exact absurd rfl hne2|(simp only[binP,if_true])
        rw[this]
        exact h2
      · exact hs.elim
  · rename_i n m
    have hu:=ha.bool_inv
    have hv:=hb.bool_inv
    subst hu hv
    split at hs<;>try exact hs.elim
    · refine key (r:= .bool (n==m)) (hgb ..) ?_ (VR.bool _)
      have e:binOp .eql t (.bool n) (.bool m)=(do pure (.bool (←Op.equal t (.bool n) (.bool m))):Sem Value):=rfl
      rw[e,Sem.run_bind,run_equal_bool (isB_inv hs)]
      rfl
    · refine key (r:= .bool (!(n==m))) (hgb ..) ?_ (VR.bool _)
      have e:binOp .neq t (.bool n) (.bool m)=(do pure (.bool (!(←Op.equal t (.bool n) (.bool m)))):Sem Value):=rfl
      rw[e,Sem.run_bind,run_equal_bool (isB_inv hs)]
      rfl
  · rename_i l m
    obtain⟨s,rfl,hs1,hs2⟩:=ha.str_inv
    obtain⟨s',rfl,hs3,hs4⟩:=hb.str_inv
    subst hs1 hs3
    split at hs<;>try exact hs.elim
    · refine key (r:= .string (s++s')) (hgs ..) ?_ ?_
      · have:¬((s.size+s'.size:Nat):Int)>IntKind.i64.max:=by
          have e1:=size_data s
          have e2:=size_data s'
          have e3:IntKind.i64.max=9223372036854775807:=by decide
          dsimp only at hs
          omega
        have e:binOp .add t (.string s) (.string s')=Op.stringOp .add s s':=rfl
        rw[e]
        simp only[Op.stringOp]
        rw[if_neg this]
        rfl
      · refine VR.str _ _ (by simp) ?_
        rw[List.length_append]
        exact hs
    · refine key (r:= .bool (s.data.toList==s'.data.toList)) (hgs ..) ?_ ?_
      · have e:binOp .eql t (.string s) (.string s')=Op.stringOp .eql s s':=rfl
        rw[e]
        simp only[Op.stringOp,ByteArray.toList_eq]
        rfl
      · rw [show(s.data.toList==s'.data.toList)=decide (s.data.toList=s'.data.toList) from Bool.eq_iff_iff.2 (by simp)]
        exact VR.bool _
    · refine key (r:= .bool (!(s.data.toList==s'.data.toList))) (hgs ..) ?_ ?_
      · have e:binOp .neq t (.string s) (.string s')=Op.stringOp .neq s s':=rfl
        rw[e]
        simp only[Op.stringOp,ByteArray.toList_eq]
        rfl
      · rw [show(s.data.toList==s'.data.toList)=decide (s.data.toList=s'.data.toList) from Bool.eq_iff_iff.2 (by simp)]
        exact VR.bool _
  · rename_i t1 v1
    cases hb
    cases ha with
    | ifc _ hx=>
      rename_i z
      have hgn:eqGuard op t x y (.iface t1 z) .nilIface=(pure ():Sem Unit):=by unfold eqGuard;split<;>rfl
      have heq:isIf P t=true→(Op.equal t (.iface t1 z) .nilIface).run P w= .ok false w:=fun e=>by
        unfold isIf at e
        split at e
        · rename_i ms hu
          have:∀d,(Op.equalIn (d+1) t (.iface t1 z) .nilIface).run P w= .ok false w:=fun d=>by
            simp only[Op.equalIn,Sem.run_bind,run_underlying hu,Result.andThen_ok]
            rfl
          exact this 9999
        · cases e
      split at hs<;>try exact hs.elim
      · refine key (r:= .bool false) hgn ?_ (VR.bool _)
        have e:binOp .eql t (.iface t1 z) .nilIface=(do pure (.bool (←Op.equal t (.iface t1 z) .nilIface)):Sem Value):=rfl
        rw[e,Sem.run_bind,heq hs]
        rfl
      · refine key (r:= .bool true) hgn ?_ (VR.bool _)
        have e:binOp .neq t (.iface t1 z) .nilIface=(do pure (.bool (!(←Op.equal t (.iface t1 z) .nilIface))):Sem Value):=rfl
        rw[e,Sem.run_bind,heq hs]
        rfl
  · cases ha
    cases hb
    have hu':isE P t=true→∃ms:Array (String×TypeId),P.underlying t=some (.interface ms)∧ms.isEmpty=true:=fun e=>by
      unfold isE at e
      split at e
      · rename_i ms hu;exact⟨ms,hu,e⟩
      · cases e
    have heq:isE P t=true→(Op.equal t .nilIface .nilIface).run P w= .ok true w:=fun e=>by
      obtain⟨ms,hu,_⟩:=hu' e
      have:∀d,(Op.equalIn (d+1) t .nilIface .nilIface).run P w= .ok true w:=fun d=>by
        simp only[Op.equalIn,Sem.run_bind,run_underlying hu,Result.andThen_ok]
        rfl
      exact this 9999
    have hgn:isE P t=true→(eqGuard op t x y .nilIface .nilIface).run P w= .ok () w:=fun e=>by
      obtain⟨ms,hu,hm⟩:=hu' e
      have this:∀d,(Op.eqGuardIn (d+1) t .nilIface .nilIface).run P w= .ok false w:=fun d=>by
        simp only[Op.eqGuardIn,Sem.run_bind,run_underlying hu,Result.andThen_ok,hm]
        rfl
      have h9:(Op.eqGuardIn Op.maxDepth t .nilIface .nilIface).run P w= .ok false w:=this 9999
      unfold eqGuard
      cases op<;>first
        |rfl
        | (simp only[Bool.not_true,Bool.false_eq_true,if_false]
           repeat' split
           all_goals first
             |rfl
             |(simp only[Sem.run_bind,h9,Result.andThen_ok];rfl))
    have fin:∀r:Value,isE P t=true→(binOp op t .nilIface .nilIface).run P w= .ok r w→VR G (binP P op t .nili .nili).2 r→PR T G h (binP P op t .nili .nili).2 (((do eqGuard op t x y .nilIface .nilIface;binOp op t .nilIface .nilIface:Sem Value)>>=fun z=>pure (Next.value z)).run P w):=fun r e h1 h2=>by
      refine⟨G,r,w,?_,Gle.refl G,S,h2⟩
      simp only[Sem.run_bind,hgn e,Result.andThen_ok,h1,Sem.run_pure]
    split at hs<;>try exact hs.elim
    · refine fin (.bool true) hs ?_ (VR.bool _)
      have e:binOp .eql t .nilIface .nilIface=(do pure (.bool (←Op.equal t .nilIface .nilIface)):Sem Value):=rfl
      rw[e,Sem.run_bind,heq hs]
      rfl
    · refine fin (.bool false) hs ?_ (VR.bool _)
      have e:binOp .neq t .nilIface .nilIface=(do pure (.bool (!(←Op.equal t .nilIface .nilIface))):Sem Value):=rfl
      rw[e,Sem.run_bind,heq hs]
      rfl
  · cases ha
    cases hb
    have hgn:eqGuard op t x y (.slice none 0 0) (.slice none 0 0)=(pure ():Sem Unit):=by unfold eqGuard;split<;>rfl
    split at hs<;>try exact hs.elim
    · refine key (r:= .bool true) hgn ?_ (VR.bool _)
      have e:binOp .eql t (.slice none 0 0) (.slice none 0 0)=(do pure (.bool (←Op.equal t (.slice none 0 0) (.slice none 0 0))):Sem Value):=rfl
      rw[e,Sem.run_bind,run_eqNil hs]
      rfl
    · refine key (r:= .bool false) hgn ?_ (VR.bool _)
      have e:binOp .neq t (.slice none 0 0) (.slice none 0 0)=(do pure (.bool (!(←Op.equal t (.slice none 0 0) (.slice none 0 0)))):Sem Value):=rfl
      rw[e,Sem.run_bind,run_eqNil hs]
      rfl
  · rename_i k rows
    cases hb
    cases ha with
    | @nn _ _ ad c hd=>
    have hgn:eqGuard op t x y (.slice (some ad) rows.length c) (.slice none 0 0)=(pure ():Sem Unit):=by unfold eqGuard;split<;>rfl
    split at hs<;>try exact hs.elim
    · refine key (r:= .bool false) hgn ?_ (VR.bool _)
      have e:binOp .eql t (.slice (some ad) rows.length c) (.slice none 0 0)=(do pure (.bool (←Op.equal t (.slice (some ad) rows.length c) (.slice none 0 0))):Sem Value):=rfl
      rw[e,Sem.run_bind,run_neNil hs]
      rfl
    · refine key (r:= .bool true) hgn ?_ (VR.bool _)
      have e:binOp .neq t (.slice (some ad) rows.length c) (.slice none 0 0)=(do pure (.bool (!(←Op.equal t (.slice (some ad) rows.length c) (.slice none 0 0)))):Sem Value):=rfl
      rw[e,Sem.run_bind,run_neNil hs]
      rfl
  · rename_i b1 k1 n1 c1
    cases ha
    cases hb
    have hgn:eqGuard op t x y (.slice (some ⟨b1,0,none⟩) n1 c1) (.slice none 0 0)=(pure ():Sem Unit):=by unfold eqGuard;split<;>rfl
    split at hs<;>try exact hs.elim
    · refine key (r:= .bool false) hgn ?_ (VR.bool _)
      have e:binOp .eql t (.slice (some ⟨b1,0,none⟩) n1 c1) (.slice none 0 0)=(do pure (.bool (←Op.equal t (.slice (some ⟨b1,0,none⟩) n1 c1) (.slice none 0 0))):Sem Value):=rfl
      rw[e,Sem.run_bind,run_neNil hs]
      rfl
    · refine key (r:= .bool true) hgn ?_ (VR.bool _)
      have e:binOp .neq t (.slice (some ⟨b1,0,none⟩) n1 c1) (.slice none 0 0)=(do pure (.bool (!(←Op.equal t (.slice (some ⟨b1,0,none⟩) n1 c1) (.slice none 0 0)))):Sem Value):=rfl
      rw[e,Sem.run_bind,run_neNil hs]
      rfl
theorem pickB_ok (h1:(pickB a).1=true) (hv:VR G a v):v= .bool (pickB a).2:=by
 unfold pickB at h1⊢
 split at h1
 ·exact hv.bool_inv
 ·dsimp only at h1
  subst h1
  cases hv with
  |cndT h=>exact h.bool_inv
 ·cases h1
theorem pickP_ok (S:Sim T G h w) (hs:(pickP a b c).1) (ha:VR G a u) (hb:VR G b v) (hc:VR G c x):
  PR T G h (pickP a b c).2 ((do pure (Next.value (if←asBool u then v else x)):Sem Next).run P w):=by
 obtain⟨h1,h2,h3⟩:=hs
 rw[pickB_ok h1 ha]
 simp only[asBool,pure_bind,pickP]
 cases hq:(pickB a).2 with
 |true=>
  rw[pickB_ok (h2 hq) hb]
  exact PR.pure S (VR.bool _)
 |false=>
  rw[pickB_ok (h3 hq) hc]
  exact PR.pure S (VR.bool _)
theorem nilP_ok (S:Sim T G h w) (hs:(nilP a).1) (ha:VR G a u) {o:Oper} {ρ:Operand→Value} {y:Operand} (ho:o.op= .nilCheck y) (hy:ρ y=u):PR T G h (nilP a).2 ((execOp ρ o).run P w):=by
 unfold execOp
 simp only[ho,hy]
 cases a<;>simp only[nilP,koP] at hs⊢
 ·cases ha;exact PR.pure S (.ptr ..)
 ·have ha':=ha
  cases ha with|elt _ _ _ _ b off val r hr hf hv=>exact PR.pure S ha'
 ·have ha':=ha
  cases ha with|fn _ _ vs hl h=>exact PR.pure S ha'
theorem unP_ok (op:UnOp) (S:Sim T G h w) (hs:(unP op a).1) (ha:VR G a u):PR T G h (unP op a).2 ((Op.unary op u>>=fun z=>pure (Next.value z)).run P w):=by
 unfold unP at hs⊢
 split at hs<;>try exact hs.elim
 ·rw[ha.bool_inv]
  split at hs<;>try exact hs.elim
  exact PR.pure S (VR.bool _)
 ·rw[ha.int_inv]
  split at hs<;>try exact hs.elim
  refine⟨G,_,w,?_,Gle.refl G,S,VR.int _ _⟩
  simp[Op.unary,Op.intArith,inR_wrap hs]
  simpa using inR_wrap hs
theorem extractP_ok {i:Nat} (S:Sim T G h w) (hs:(extractP a i).1) (ha:VR G a u):PR T G h (extractP a i).2 ((Instr.extract u i>>=fun z=>pure (Next.value z)).run P w):=by
 unfold extractP at hs⊢
 split at hs<;>try exact hs.elim
 rename_i l
 cases ha with
 | tup _ vs hl hc=>
  have hi:i<vs.length:=by rw[hl];exact hs
  have h1:l[i]?=some (l[i]'hs):=List.getElem?_eq_getElem hs
  have h2:vs[i]?=some (vs[i]'hi):=List.getElem?_eq_getElem hi
  refine⟨G,vs[i],w,?_,Gle.refl G,S,?_⟩
  ·simp[Instr.extract,h2]
  ·simp only[List.getD,h1,Option.getD_some]
   exact hc i _ _ h1 h2
theorem fdI_inv {t f off n:Nat} {r:Bool} (e:fdI P t f=some (off,n,r)):∃fs fd,P.underlying t=some (.struct fs)∧fs[f]?=some fd∧fd.offset=off∧tyI P fd.type=some (r,n)∧n≠0:=by
 unfold fdI at e
 split at e
 ·rename_i fs hu
  split at e
  ·rename_i fd hf
   split at e
   ·rename_i r' n' ht
    split at e
    ·cases e
    ·rename_i hn
     simp only[Option.some.injEq,Prod.mk.injEq] at e
     obtain⟨rfl,rfl,rfl⟩:=e
     exact⟨fs,fd,hu,hf,rfl,ht,hn⟩
   ·cases e
  ·cases e
 ·cases e
theorem run_fieldPlace {t:TypeId} {f:Field} {n:Nat} {r:Bool} (ht:tyI P f.type=some (r,n)) (hn:n≠0) (ad:Addr):(fieldPlace ad f).run P w= .ok (ad.add f.offset) w:=by
 obtain⟨d,i,hu,hi,_,hs,_⟩:=tyI_inv ht
 simp[fieldPlace,run_sizeOf hi,hs,hn]
theorem add_at (b o n:Nat):(⟨b,o,none⟩:Addr).add n=⟨b,o+n,none⟩:=Addr.add_mid b o n
theorem fieldAddrP_ok {t f:Nat} (S:Sim T G h w) (hs:(fieldAddrP P t a f).1) (ha:VR G a u):PR T G h (fieldAddrP P t a f).2 ((Instr.fieldAt t u f>>=fun z=>pure (Next.value z)).run P w):=by
 unfold fieldAddrP at hs⊢
 split at hs<;>try exact hs.elim
 ·rename_i b k i o off n r hf
  obtain⟨fs,fd,hu,hfd,rfl,ht,hn⟩:=fdI_inv hf
  cases ha
  refine⟨G,.pointer (some ⟨b,i*k+(o+fd.offset),none⟩),w,?_,Gle.refl G,S,.ptr ..⟩
  simp[Instr.fieldAt,run_underlying hu,hfd,Instr.sureAddr,run_fieldPlace (w:=w) (t:=t) ht hn,add_at,Nat.add_assoc]
 ·rename_i k rows i o off n r hf
  obtain⟨fs,fd,hu,hfd,rfl,ht,hn⟩:=fdI_inv hf
  cases ha with
  |elt _ _ _ _ b off val r hr hf hv=>
   refine⟨G,.pointer (some ⟨b,off+(o+fd.offset),none⟩),w,?_,Gle.refl G,S,.elt k rows i _ b off val r hr hf hv⟩
   simp[Instr.fieldAt,run_underlying hu,hfd,Instr.sureAddr,run_fieldPlace (w:=w) (t:=t) ht hn,add_at,Nat.add_assoc]
theorem run_part {t n off:Nat} {r:Bool} (ht:tyI P t=some (r,n)) (vs:List Value) (hl:off+n≤vs.length):(part t vs.toArray off).run P w= .ok (ofCells r ((vs.drop off).take n)) w:=by
 obtain⟨d,i,hu,hi,hr,hs,h1⟩:=tyI_inv ht
 unfold part
 rw[Sem.run_bind,run_isAgg hu,Result.andThen_ok,hr]
 cases r with
 |true=>
  simp only[if_true,Sem.run_bind,run_sizeOf hi,Result.andThen_ok,Sem.run_pure,hs,ofCells]
  congr 2
  simp[List.extract_eq_take_drop,Nat.add_sub_cancel_left]
 |false=>
  have h1:=h1 rfl
  subst h1
  have hlt:off<vs.length:=by omega
  simp only[Bool.false_eq_true,if_false,ofCells]
  rw[List.getElem?_toArray,List.getElem?_eq_getElem hlt]
  simp only[Sem.run_pure]
  congr 1
  rw[List.drop_eq_getElem_cons hlt]
  rfl
theorem cells_take {l:List AV} {vs:List Value} {off n:Nat} (hl:vs.length=l.length) (hc:∀(i:Nat) (a:AV) (v:Value),l[i]?=some a→vs[i]?=some v→VR G a v):
  ∀(j:Nat) (a:AV) (v:Value),((l.drop off).take n)[j]?=some a→((vs.drop off).take n)[j]?=some v→VR G a v:=fun j a v h1 h2=>by
 rw[List.getElem?_take] at h1 h2
 split at h1
 ·rename_i hj
  rw[if_pos hj] at h2
  rw[List.getElem?_drop] at h1 h2
  exact hc _ _ _ h1 h2
 ·cases h1
theorem fieldP_ok {t f:Nat} (S:Sim T G h w) (hs:(fieldP P t a f).1) (ha:VR G a u):PR T G h (fieldP P t a f).2 ((Instr.field t u f>>=fun z=>pure (Next.value z)).run P w):=by
 unfold fieldP at hs⊢
 split at hs<;>try exact hs.elim
 rename_i l off n r hf
 obtain⟨fs,fd,hu,hfd,rfl,ht,hn⟩:=fdI_inv hf
 obtain⟨_,_,_,_,_,_,hr1⟩:=tyI_inv ht
 dsimp only at hs
 cases ha with
 |agg _ vs hl hc=>
  refine⟨G,ofCells r ((vs.drop fd.offset).take n),w,?_,Gle.refl G,S,ofCellsA_ok (n:=n) (by simp;omega) (by simp;omega) hr1 (cells_take hl hc)⟩
  have hp:=run_part (P:=P) (w:=w) ht vs (off:=fd.offset) (by omega)
  simp[Instr.field,run_underlying hu,hfd,asAgg,hp]
theorem slI_inv {t e s y:Nat} (hh:slI P t=some (e,s,y)):∃i,P.underlying t=some (.slice e)∧P.info? e=some i∧i.size=s∧i.bytes=y∧(i.zero.map fun z=>z.cells.size)=some s∧0<s:=by
 unfold slI at hh
 split at hh
 ·rename_i e' hu
  split at hh
  ·rename_i i hi
   split at hh
   ·rename_i hc
    simp only[Option.some.injEq,Prod.mk.injEq] at hh
    obtain⟨rfl,rfl,rfl⟩:=hh
    exact⟨i,hu,hi,rfl,rfl,hc.1,hc.2⟩
   ·cases hh
  ·cases hh
 ·cases hh
theorem arI_inv {t n s:Nat} {r:Bool} (hh:arI P t=some (n,s,r)):∃e,P.underlying t=some (.array n e)∧tyI P e=some (r,s):=by
 unfold arI at hh
 split at hh
 ·rename_i n' e hu
  split at hh
  ·rename_i r' s' ht
   simp only[Option.some.injEq,Prod.mk.injEq] at hh
   obtain⟨rfl,rfl,rfl⟩:=hh
   exact⟨e,hu,ht⟩
  ·cases hh
 ·cases hh
theorem run_indexAt_slice {t e s y:Nat} (hh:slI P t=some (e,s,y)) (b o n c:Nat) (k:IntKind) (j:Int) (h0:0≤j) (h1:j<n):
  (Instr.indexAt t (.slice (some ⟨b,o,none⟩) n c) (.int k j)).run P w= .ok (.pointer (some ⟨b,o+j.toNat*s,none⟩)) w:=by
 obtain⟨i,hu,hi,hs,_⟩:=slI_inv hh
 simp[Instr.indexAt,asIntOf,run_underlying hu,h0,h1,run_sizeOf hi,hs,add_at]
theorem run_indexAt_array {t n s:Nat} {r:Bool} (hh:arI P t=some (n,s,r)) (b o:Nat) (k:IntKind) (j:Int) (h0:0≤j) (h1:j<n):
  (Instr.indexAt t (.pointer (some ⟨b,o,none⟩)) (.int k j)).run P w= .ok (.pointer (some ⟨b,o+j.toNat*s,none⟩)) w:=by
 obtain⟨e,hu,ht⟩:=arI_inv hh
 obtain⟨_,i,_,hi,_,hs,_⟩:=tyI_inv ht
 simp[Instr.indexAt,asIntOf,run_underlying hu,Instr.sureAddr,h0,h1,run_sizeOf hi,hs,add_at]
theorem elt_of_slc {F:Frz} {k:Nat} {rows:List (List D)} (hd:VD G.frz (.slc k rows) v) (hj:0<rows.length):∃b off c,v= .slice (some ⟨b,off,none⟩) rows.length c∧∀i,i<rows.length→VR G (.elt k rows i 0) (.pointer (some ⟨b,off+i*k,none⟩)):=by
 obtain⟨A,c,rfl,_,_,_,hk,hx⟩:=hd.slc_inv
 obtain⟨b,off,val,rfl,hv⟩:=hx hj
 refine⟨b,off,c,rfl,fun i hi=>?_⟩
 have hr:rows[i]?=some rows[i]:=List.getElem?_eq_getElem hi
 have:=VR.elt (G:=G) k rows i 0 b (off+i*k) (fun j=>val i j) rows[i] hr (fun j x hx=>by rw[Nat.add_assoc];exact(hv i _ j x hr hx).1) (fun j x hx=>(hv i _ j x hr hx).2)
 simpa using this
theorem indexAddrP_ok {t:Nat} (S:Sim T G h w) (hs:(indexAddrP P t a b).1) (ha:VR G a u) (hb:VR G b v):PR T G h (indexAddrP P t a b).2 ((Instr.indexAt t u v>>=fun z=>pure (Next.value z)).run P w):=by
 unfold indexAddrP at hs⊢
 split at hs<;>try exact hs.elim
 ·rename_i k rows kk j
  rw[hb.int_inv]
  split at hs<;>try exact hs.elim
  rename_i e s y he
  obtain⟨rfl,h0,h1⟩:=hs
  cases ha with
  |d hd=>
   obtain⟨b,off,c,rfl,hx⟩:=elt_of_slc (F:=G.frz) hd (by omega)
   refine⟨G,_,w,?_,Gle.refl G,S,hx j.toNat (by omega)⟩
   simp[run_indexAt_slice (w:=w) he b off rows.length c kk j h0 h1]
 ·rename_i t' k rows kk j
  rw[hb.int_inv]
  split at hs<;>try exact hs.elim
  rename_i e s y he
  obtain⟨rfl,h0,h1⟩:=hs
  cases ha with
  |own hd _=>
   obtain⟨b,off,c,rfl,hx⟩:=elt_of_slc (F:=G.frz) hd (by omega)
   refine⟨G,_,w,?_,Gle.refl G,S,hx j.toNat (by omega)⟩
   simp[run_indexAt_slice (w:=w) he b off rows.length c kk j h0 h1]
 ·rename_i k rows kk j
  rw[hb.int_inv]
  split at hs<;>try exact hs.elim
  rename_i e s y he
  obtain⟨rfl,h0,h1⟩:=hs
  cases ha with
  |nn hd=>
   obtain⟨b,off,c,ee,hx⟩:=elt_of_slc (F:=G.frz) hd (by omega)
   rw[ee]
   refine⟨G,_,w,?_,Gle.refl G,S,hx j.toNat (by omega)⟩
   simp[run_indexAt_slice (w:=w) he b off rows.length c kk j h0 h1]
 ·rename_i k rows kk j
  rw[hb.int_inv]
  split at hs<;>try exact hs.elim
  rename_i e s y he
  obtain⟨rfl,h0,h1⟩:=hs
  cases ha with
  |full hd=>
   obtain⟨b,off,c,ee,hx⟩:=elt_of_slc (F:=G.frz) hd (by omega)
   rw[ee]
   refine⟨G,_,w,?_,Gle.refl G,S,hx j.toNat (by omega)⟩
   simp[run_indexAt_slice (w:=w) he b off rows.length c kk j h0 h1]
 ·rename_i b' k n c kk j
  rw[hb.int_inv]
  split at hs<;>try exact hs.elim
  rename_i e s y he
  obtain⟨rfl,h0,h1⟩:=hs
  cases ha
  refine⟨G,.pointer (some ⟨b',j.toNat*s+0,none⟩),w,?_,Gle.refl G,S,.ptr ..⟩
  simp[run_indexAt_slice (w:=w) he b' 0 n c kk j h0 h1]
 ·rename_i b' k rows c kk j
  rw[hb.int_inv]
  split at hs<;>try exact hs.elim
  rename_i e s y he
  obtain⟨rfl,h0⟩:=hs
  cases ha
  refine⟨G,.pointer (some ⟨b',rows.length*s+0,none⟩),w,?_,Gle.refl G,S,.ptr ..⟩
  subst h0
  have hrun:=run_indexAt_slice (w:=w) he b' 0 (rows.length+1) c kk (rows.length:Int) (by omega) (by omega)
  rw[Sem.run_bind,hrun]
  simp
 ·rename_i b' k i o kk j
  rw[hb.int_inv]
  split at hs<;>try exact hs.elim
  rename_i n s r he
  obtain⟨h0,h1⟩:=hs
  cases ha
  refine⟨G,.pointer (some ⟨b',i*k+(o+j.toNat*s),none⟩),w,?_,Gle.refl G,S,.ptr ..⟩
  simp[run_indexAt_array (w:=w) he b' _ kk j h0 h1,Nat.add_assoc]
 ·rename_i k rows i o kk j
  rw[hb.int_inv]
  split at hs<;>try exact hs.elim
  rename_i n s r he
  obtain⟨h0,h1⟩:=hs
  cases ha with
  |elt _ _ _ _ b off val r hr hf hv=>
   refine⟨G,.pointer (some ⟨b,off+(o+j.toNat*s),none⟩),w,?_,Gle.refl G,S,.elt k rows i _ b off val r hr hf hv⟩
   simp[run_indexAt_array (w:=w) he b _ kk j h0 h1,Nat.add_assoc]
theorem indexP_ok {t:Nat} (S:Sim T G h w) (hs:(indexP P t a b).1) (ha:VR G a u) (hb:VR G b v):PR T G h (indexP P t a b).2 ((Instr.index t u v>>=fun z=>pure (Next.value z)).run P w):=by
 unfold indexP at hs⊢
 split at hs<;>try exact hs.elim
 ·rename_i s kk j
  obtain⟨h0,h1,h2⟩:=hs
  rw[hb.int_inv]
  obtain⟨t',rfl,hs1,hs2⟩:=ha.str_inv
  have hu:=isStr_inv h0
  subst hs1
  have hlt:j.toNat<t'.size:=by
   have:t'.data.toList.length=t'.size:=by rw[Array.length_toList];rfl
   omega
  refine⟨G,.int .u8 (t'.data.toList.getD j.toNat 0).toNat,w,?_,Gle.refl G,S,VR.int _ _⟩
  have hg:t'[j.toNat]?=some (t'.data.toList.getD j.toNat 0):=by
   rw[ByteArray.getElem?_lt' t' _ hlt]
   congr 1
   have:j.toNat<t'.data.toList.length:=by rw[Array.length_toList];exact hlt
   simp only[List.getD,List.getElem?_eq_getElem this,Option.getD_some]
   rfl
  simp[Instr.index,asIntOf,run_underlying hu,h1,hg]
 ·rename_i l kk j
  rw[hb.int_inv]
  split at hs<;>try exact hs.elim
  rename_i n s r he
  obtain⟨h0,h1,h2⟩:=hs
  obtain⟨e,hu,ht⟩:=arI_inv he
  obtain⟨_,i,_,hi,_,hsz,hr1⟩:=tyI_inv ht
  cases ha with
  |agg _ vs hl hc=>
   refine⟨G,ofCells r ((vs.drop (j.toNat*s)).take s),w,?_,Gle.refl G,S,ofCellsA_ok (n:=s) (by simp;omega) (by simp;omega) hr1 (cells_take hl hc)⟩
   have hp:=run_part (P:=P) (w:=w) ht vs (off:=j.toNat*s) (by omega)
   simp[Instr.index,asIntOf,run_underlying hu,h0,h1,run_sizeOf hi,hsz,hp]
theorem loadP_ok {t:Nat} (S:Sim T G h w) (hs:(loadP P t a h).1) (ha:VR G a u):PR T G h (loadP P t a h).2 ((Instr.loadAt t u>>=fun z=>pure (Next.value z)).run P w):=by
 unfold loadP at hs⊢
 split at hs<;>try exact hs.elim
 ·rename_i b k i o r n ht
  split at hs<;>try exact hs.elim
  rename_i cs hc
  cases ha
  obtain⟨vs,h1,h2,h3,_,h4⟩:=ldA_ok S hc
  obtain⟨_,_,_,_,_,_,hr1⟩:=tyI_inv ht
  refine⟨G,ofCells r vs,w,?_,Gle.refl G,S,ofCellsA_ok h2 h3 hr1 h4⟩
  simp[run_load_av ht h2 h1]
 ·rename_i k rows i o r n ht
  obtain⟨_,_,_,_,_,_,hr1⟩:=tyI_inv ht
  cases ha with
  | elt _ _ _ _ b off val row hr hf hv=>
   have hg:rows.getD i []=row:=by simp[List.getD,hr]
   rw[hg] at hs⊢
   dsimp only at hs
   refine⟨G,ofCells r ((List.range n).map fun j=>val (o+j)),w,?_,Gle.refl G,S,ofCellsA_ok (n:=n) (by simp) (by simp;omega) hr1 (fun j a v h1 h2=>?_)⟩
   ·have hra:w.rangeAt b (off+o) ((List.range n).map fun j=>val (o+j)):=fun j v hv'=>by
     rw[List.getElem?_map] at hv'
     rcases Nat.lt_or_ge j n with hj|hj
     ·rw[List.getElem?_range hj,Option.map_some] at hv'
      injection hv' with hv'
      rw[Nat.add_assoc,←hv']
      exact S.frz _ _ _ (hf (o+j) _ (List.getElem?_eq_getElem (by omega)))
     ·rw[List.getElem?_eq_none (by simpa using hj)] at hv';cases hv'
    simp[run_load_av ht (by simp) hra]
   ·have hj:j<n:=by
     have:=(List.getElem?_eq_some_iff.1 h2).1
     simpa using this
    rw[List.getElem?_map,List.getElem?_take_of_lt hj,List.getElem?_drop] at h1
    rw[List.getElem?_map,List.getElem?_range hj,Option.map_some] at h2
    injection h2 with h2
    obtain⟨x,hx,rfl⟩:=Option.map_eq_some_iff.1 h1
    rw[←h2]
    exact .d (hv _ _ hx)
end
end
section
open Go.RowKit
def bdI (P:Program) (t:TypeId):Option (List AV×List (Nat×Nat)):=
 match (P.info? t).bind (·.zero),P.underlying t with
 |some z,some (.struct fs)=>match fs.toList.mapM (fun f=>(P.info? f.type).map fun i=>(f.offset,i.size)) with
  |some pl=>some (z.cells.toList.map ofV,pl)
  |none=>none
 |some z,some (.array n e)=>match P.info? e with
  |some i=>some (z.cells.toList.map ofV,(List.range n).map fun j=>(j*i.size,i.size))
  |none=>none
 |_,_=>none
def AV.cells:AV→List AV
 | .agg l=>l
 |a=>[a]
def AV.plain:AV→Bool
 | .agg l=>l.all AV.one
 |a=>a.one
def fillA (pl:List (Nat×Nat)) (cs:List AV):List (Nat×AV)→Option (List AV)
 |[]=>some cs
 |(i,a)::r=>match pl[i]? with
  |some (off,n)=>if a.plain=true∧a.cells.length=n∧off+n≤cs.length then fillA pl (cs.take off++(a.cells++cs.drop (off+n))) r else none
  |none=>none
def buildP (P:Program) (t:TypeId) (ps:List (Nat×AV)):PV:=
 match bdI P t with
 |some (z,pl)=>match fillA pl z ps with
  |some cs=>(True,.agg cs)
  |none=>koP
 |none=>koP
def toD:AV→Option D
 | .d x=>some x
 | .own _ k rows=>some (.slc k rows)
 | .nils=>some (.slc 0 [])
 | .full k rows=>some (.slc k rows)
 | .nn k rows=>some (.slc k rows)
 |_=>none
def toDs:List AV→Option (List D)
 |[]=>some []
 |a::r=>match toD a,toDs r with
  |some x,some l=>some (x::l)
  |_,_=>none
def rowsOf (k:Nat):Nat→List (Nat×AV)→Option (List (List D))
 |_,[]=>some []
 |i,(j,a)::r=>if j=i∧a.cells.length=k then(match toDs a.cells,rowsOf k (i+1) r with
  |some x,some l=>some (x::l)
  |_,_=>none) else none
def buildSliceP (P:Program) (t:TypeId) (len:Nat) (ps:List (Nat×AV)):PV:=
 match slI P t with
 |some (_,k,_)=>match rowsOf k 0 ps with
  |some rows=>(ps.length=len∧len*k≤16777216,.d (.slc k rows))
  |none=>koP
 |none=>koP
def optI:Option AV→Option (Option Int)
 |none=>some none
 |some (.d (.int _ n))=>some (some n)
 |_=>none
def cutP (k:Nat) (rows:List (List D)) (lo hi mx:Option Int):PV:=
 match mx with
 |none=>(0≤lo.getD 0∧lo.getD 0≤hi.getD rows.length∧hi.getD rows.length≤rows.length,.d (.slc k ((rows.take (hi.getD rows.length).toNat).drop (lo.getD 0).toNat)))
 |some m=>(hi.isSome=true∧0≤lo.getD 0∧lo.getD 0≤hi.getD 0∧hi.getD 0≤m∧m≤rows.length,if hi=some m then .full k ((rows.take (hi.getD 0).toNat).drop (lo.getD 0).toNat) else .d (.slc k ((rows.take (hi.getD 0).toNat).drop (lo.getD 0).toNat)))
def sliceP (P:Program) (t:TypeId) (a:AV) (lo hi mx:Option AV):PV:=
 match optI lo,optI hi,optI mx with
 | some lo,some hi,some mx=>match a with
  | .d (.str s)=>(isStr P t=true∧mx=none∧0≤lo.getD 0∧lo.getD 0≤hi.getD s.length∧hi.getD s.length≤s.length,.d (.str ((s.take (hi.getD s.length).toNat).drop (lo.getD 0).toNat)))
  | .d (.slc k rows)=>match slI P t with
   |some (_,s,_)=>((s=k∨rows=[])∧(cutP k rows lo hi mx).1,(cutP k rows lo hi mx).2)
   |none=>koP
  | .own _ k rows=>match slI P t with
   |some (_,s,_)=>((s=k∨rows=[])∧(cutP k rows lo hi mx).1,(cutP k rows lo hi mx).2)
   |none=>koP
  | .full k rows=>match slI P t with
   |some (_,s,_)=>((s=k∨rows=[])∧(cutP k rows lo hi mx).1,(cutP k rows lo hi mx).2)
   |none=>koP
  | .elt k rows i o=>match arI P t with
   |some (n,s,r)=>(lo=none∧hi=none∧mx=none∧o=0∧s=1∧n=(rows.getD i []).length∧0<n∧n≤1000,.d (.slc 1 ((rows.getD i []).map fun x=>[x])))
   |none=>koP
  |_=>koP
 |_,_,_=>koP
def intI (P:Program) (t:TypeId):Option IntKind:=match P.underlying t with|some (.int k)=>some k|_=>none
def byteRows (s:List UInt8):List (List D):=s.map fun c=>[.int .u8 c.toNat]
def byteOf:List D→Option UInt8
 |[.int .u8 n]=>if 0≤n∧n≤255 then some (UInt8.ofNat n.toNat) else none
 |_=>none
def bytesOf:List (List D)→Option (List UInt8)
 |[]=>some []
 |r::l=>match byteOf r,bytesOf l with
  |some c,some s=>some (c::s)
  |_,_=>none
def isBytes (P:Program) (t:TypeId):Bool:=
 match slI P t with
 |some (e,s,_)=>intI P e==some .u8&&s==1
 |none=>false
def convP (P:Program) (s d:TypeId) (a:AV):PV:=
 match a with
 | .d (.int _ n)=>match intI P d with
  |some k=>(True,.d (.int k (k.wrap n)))
  |none=>koP
 | .d (.str l)=>if isStr P s=true∧isStr P d=true then(True,.d (.str l)) else(isStr P s=true∧isBytes P d=true,.d (.slc 1 (byteRows l)))
 | .d (.slc k rows)=>match bytesOf rows with
  |some l=>(isBytes P s=true∧isStr P d=true∧(k=1∨rows=[]),.d (.str l))
  |none=>koP
 | .own _ k rows=>match bytesOf rows with
  |some l=>(isBytes P s=true∧isStr P d=true∧(k=1∨rows=[]),.d (.str l))
  |none=>koP
 | .nils=>(isBytes P s=true∧isStr P d=true,.d (.str []))
 | .full k rows=>match bytesOf rows with
  |some l=>(isBytes P s=true∧isStr P d=true∧(k=1∨rows=[]),.d (.str l))
  |none=>koP
 |_=>koP
def ifaceP (P:Program) (t:TypeId) (a:AV):PV:=((P.underlying t).isSome=true∧isIf P t=false,.ifc t a)
section
variable {P:Program} {T:Tbl} {G:Gh} {h:AH} {w:World} {a b c:AV} {u v x:Value}
theorem ifaceP_ok {t:Nat} (S:Sim T G h w) (hs:(ifaceP P t a).1) (ha:VR G a u):PR T G h (ifaceP P t a).2 ((Instr.makeInterface t u>>=fun z=>pure (Next.value z)).run P w):=by
 obtain⟨h1,h2⟩:=hs
 obtain⟨d,hd⟩:=Option.isSome_iff_exists.1 h1
 refine⟨G,.iface t u,w,?_,Gle.refl G,S,.ifc t ha⟩
 unfold isIf at h2
 rw[hd] at h2
 simp only[Instr.makeInterface,Sem.run_bind,run_underlying hd,Result.andThen_ok]
 cases d<;>first|rfl|cases h2
def CellsR (G:Gh) (cs:List AV) (vs:List Value):Prop:=vs.length=cs.length∧∀(i:Nat) (a:AV) (v:Value),cs[i]?=some a→vs[i]?=some v→VR G a v
theorem VR.cells (hp:a.plain=true) (ha:VR G a v):CellsR G a.cells v.cells.toList:=by
 cases ha with
 |agg l vs hl hc=>exact⟨hl,hc⟩
 |tup|cndT|cndF|undef|any=>simp[AV.plain,AV.one] at hp
 | d hd=>
  rename_i x
  have hone:=hd.one
  have hc:v.cells= #[v]:=by cases v<;>first|rfl|(simp[Value.oneCell'] at hone)
  exact⟨by rw[hc];rfl,fun i a u h1 h2=>by
   rw[hc] at h2
   cases i with
   |zero=>
    simp[AV.cells] at h1 h2
    obtain rfl:=h1
    obtain rfl:=h2
    exact .d hd
   |succ i=>simp[AV.cells] at h1⟩
 | own hd ht=>exact⟨by cases hd<;>rfl,fun i a v h1 h2=>by
   cases hd<;>(cases i<;>simp[AV.cells,Value.cells] at h1 h2<;>(obtain rfl:=h1;obtain rfl:=h2;first|exact .own (.slc0 _ _ _ (by assumption) (by assumption)) ht|exact .own (.slc _ _ _ _ _ _ (by assumption) (by assumption) (by assumption) (by assumption) (by assumption) (by assumption)) ht))⟩
 | elt k rows i o b off val r hr hf hv=>exact⟨rfl,fun i a v h1 h2=>by
   cases i<;>simp[AV.cells,Value.cells] at h1 h2
   obtain rfl:=h1;obtain rfl:=h2
   exact .elt _ _ _ _ b off val r hr hf hv⟩
 | fn f cap vs hl hc=>exact⟨rfl,fun i a v h1 h2=>by
   cases i<;>simp[AV.cells,Value.cells] at h1 h2
   obtain rfl:=h1;obtain rfl:=h2
   exact .fn f cap vs hl hc⟩
 | ifc t hh=>exact⟨rfl,fun i a v h1 h2=>by
   cases i<;>simp[AV.cells,Value.cells] at h1 h2
   obtain rfl:=h1;obtain rfl:=h2
   exact .ifc t hh⟩
 | nn hd=>exact⟨rfl,fun i a v h1 h2=>by
   cases i<;>simp[AV.cells,Value.cells] at h1 h2
   obtain rfl:=h1;obtain rfl:=h2
   exact .nn hd⟩
 | full hd=>exact⟨rfl,fun i a v h1 h2=>by
   cases i<;>simp[AV.cells,Value.cells] at h1 h2
   obtain rfl:=h1;obtain rfl:=h2
   exact .full hd⟩
 |nils=>exact⟨rfl,fun i a v h1 h2=>by cases i<;>simp[AV.cells,Value.cells] at h1 h2;obtain rfl:=h1;obtain rfl:=h2;exact .nils⟩
 |ptr=>exact⟨rfl,fun i a v h1 h2=>by cases i<;>simp[AV.cells,Value.cells] at h1 h2;obtain rfl:=h1;obtain rfl:=h2;exact .ptr ..⟩
 |arr=>exact⟨rfl,fun i a v h1 h2=>by cases i<;>simp[AV.cells,Value.cells] at h1 h2;obtain rfl:=h1;obtain rfl:=h2;exact .arr ..⟩
 |lar g1 g2=>exact⟨rfl,fun i a v h1 h2=>by cases i<;>simp[AV.cells,Value.cells] at h1 h2;obtain rfl:=h1;obtain rfl:=h2;exact .lar g1 g2⟩
 |mp ht=>exact⟨rfl,fun i a v h1 h2=>by cases i<;>simp[AV.cells,Value.cells] at h1 h2;obtain rfl:=h1;obtain rfl:=h2;exact .mp ht⟩
 |nilf=>exact⟨rfl,fun i a v h1 h2=>by cases i<;>simp[AV.cells,Value.cells] at h1 h2;obtain rfl:=h1;obtain rfl:=h2;exact .nilf⟩
 |nilp=>exact⟨rfl,fun i a v h1 h2=>by cases i<;>simp[AV.cells,Value.cells] at h1 h2;obtain rfl:=h1;obtain rfl:=h2;exact .nilp⟩
 |nili=>exact⟨rfl,fun i a v h1 h2=>by cases i<;>simp[AV.cells,Value.cells] at h1 h2;obtain rfl:=h1;obtain rfl:=h2;exact .nili⟩
theorem take_set_succ {α:Type} (l:List α) (i:Nat) (c:α) (h:i<l.length):(l.set i c).take (i+1)=l.take i++[c]:=by
 rw[List.take_add_one,List.getElem?_set_self h,List.take_set_of_le (Nat.le_refl _)]
 rfl
theorem foldl_set (new:List Value):∀(k off:Nat) (cs:Array Value),off+k+new.length≤cs.size→
  ((new.zipIdx k).foldl (fun cs (c,j)=>cs.setIfInBounds (off+j) c) cs).toList=cs.toList.take (off+k)++(new++cs.toList.drop (off+k+new.length)):=by
 induction new with
 |nil=>intro k off cs _;simp
 |cons c new ih=>
  intro k off cs hl
  simp only[List.length_cons] at hl
  rw[List.zipIdx_cons,List.foldl_cons,ih (k+1) off _ (by simp;omega)]
  simp only[Array.toList_setIfInBounds]
  have h1:off+(k+1)=off+k+1:=by omega
  have hlt:off+k<cs.toList.length:=by rw[Array.length_toList];omega
  rw[h1,take_set_succ _ _ _ hlt,List.drop_set_of_lt (by omega),List.append_assoc]
  have h2:off+k+(c::new).length=off+k+1+new.length:=by simp only[List.length_cons];omega
  rw[h2]
  rfl
theorem CellsR.fill {cs ns:List AV} {vs us:List Value} {off:Nat} (h1:CellsR G cs vs) (h2:CellsR G ns us) (hl:off+ns.length≤cs.length):CellsR G (cs.take off++(ns++cs.drop (off+ns.length))) (vs.take off++(us++vs.drop (off+us.length))):=by
 obtain⟨e1,r1⟩:=h1
 obtain⟨e2,r2⟩:=h2
 refine⟨by simp;omega,fun i a v ha hv=>?_⟩
 have t1:(cs.take off).length=off:=by simp;omega
 have t2:(vs.take off).length=off:=by simp;omega
 rcases Nat.lt_or_ge i off with hi|hi
 ·rw[List.getElem?_append_left (by omega),List.getElem?_take_of_lt hi] at ha hv
  exact r1 i a v ha hv
 ·rw[List.getElem?_append_right (by omega)] at ha hv
  rw[t1] at ha
  rw[t2] at hv
  rcases Nat.lt_or_ge (i-off) ns.length with hj|hj
  ·rw[List.getElem?_append_left (by omega)] at ha hv
   exact r2 _ a v ha hv
  ·rw[List.getElem?_append_right (by omega),List.getElem?_drop] at ha hv
   rw[e2] at hv
   exact r1 _ a v ha hv
theorem fillA_ok {pl:List (Nat×Nat)} {place:Nat→Option (Nat×Nat)} (hpl:∀i x,pl[i]?=some x→place i=some x):
  ∀(ps:List (Nat×AV)) (qs:List (Nat×Value)) (cs:List AV) (vs:Array Value) (cs':List AV),CellsR G cs vs.toList→qs.length=ps.length→(∀(i:Nat) (p:Nat×AV) (q:Nat×Value),ps[i]?=some p→qs[i]?=some q→p.1=q.1∧VR G p.2 q.2)→
   fillA pl cs ps=some cs'→∃vs',Instr.fill place vs qs=some vs'∧CellsR G cs' vs'.toList
 |[],[],cs,vs,cs',hc,_,_,e=>by simp[fillA] at e;subst e;exact⟨vs,rfl,hc⟩
 | (i,a)::ps,(j,v)::qs,cs,vs,cs',hc,hl,hp,e=>by
  obtain⟨h0,hv⟩:=hp 0 _ _ rfl rfl
  dsimp only at h0 hv
  subst h0
  unfold fillA at e
  split at e
  ·rename_i off n hpli
   split at e
   ·rename_i hcond
    obtain⟨hpl1,hn,hfit⟩:=hcond
    have hcells:=hv.cells hpl1
    have hsz:v.cells.size=n:=by rw[←hn,←hcells.1];simp
    have hvs:vs.size=cs.length:=by rw[←hc.1];simp
    have hnew:=CellsR.fill (off:=off) hc hcells (by omega)
    obtain⟨vs',h1,h2⟩:=fillA_ok hpl ps qs _ (v.cells.zipIdx.foldl (fun cs (c,j)=>cs.setIfInBounds (off+j) c) vs) cs' (by
      have:=foldl_set v.cells.toList 0 off vs (by simp;omega)
      rw[←Array.foldl_toList,Array.toList_zipIdx,this]
      simpa[hn] using hnew) (by simpa using hl) (fun i p q h1 h2=>hp (i+1) p q (by simpa using h1) (by simpa using h2)) e
    refine⟨vs',?_,h2⟩
    simp only[Instr.fill,hpl i _ hpli]
    rw[if_neg (by simp[hsz];omega)]
    exact h1
   ·cases e
  ·cases e
 |[],_::_,_,_,_,_,hl,_,_=>by simp at hl
 |_::_,[],_,_,_,_,hl,_,_=>by simp at hl
theorem ofV_cells (cs:List Value):CellsR G (cs.map ofV) cs:=⟨by simp,fun i a v h1 h2=>by
 rw[List.getElem?_map,h2,Option.map_some] at h1
 injection h1 with h1
 rw[←h1]
 exact VR.ofV G v⟩
theorem mapM_info {P:Program} {w:World} :∀(l:List Field) (pl:List (Nat×Nat)),l.mapM (fun f=>(P.info? f.type).map fun i=>(f.offset,i.size))=some pl→
  (l.mapM fun f=>do pure (f.offset,←sizeOf f.type):Sem _).run P w= .ok pl w
 |[],pl,e=>by simp at e;subst e;simp
 |f::l,pl,e=>by
  rw[List.mapM_cons] at e
  simp only[Option.bind_eq_bind,Option.bind_eq_some_iff,Option.map_eq_some_iff,Option.pure_def,Option.some.injEq] at e
  obtain⟨_,⟨i,hi,rfl⟩,pl',hl,rfl⟩:=e
  have:=mapM_info (w:=w) l pl' hl
  simp only[List.mapM_cons,Sem.run_bind,run_sizeOf hi,Result.andThen_ok,Sem.run_pure,this,bind_assoc,pure_bind]
theorem buildP_ok {t:Nat} {ps:List (Nat×AV)} {qs:List (Nat×Value)} (S:Sim T G h w) (hs:(buildP P t ps).1) (hl:qs.length=ps.length)
  (hp:∀(i:Nat) (p:Nat×AV) (q:Nat×Value),ps[i]?=some p→qs[i]?=some q→p.1=q.1∧VR G p.2 q.2):PR T G h (buildP P t ps).2 ((Instr.build t qs.toArray>>=fun z=>pure (Next.value z)).run P w):=by
 unfold buildP at hs⊢
 split at hs<;>try exact hs.elim
 rename_i z pl hb
 split at hs<;>try exact hs.elim
 rename_i cs hfill
 unfold bdI at hb
 split at hb
 ·rename_i zv fs hz hu
  split at hb
  ·rename_i pl' hpl
   simp only[Option.some.injEq,Prod.mk.injEq] at hb
   obtain⟨rfl,rfl⟩:=hb
   obtain⟨i,hi,hiz⟩:=Option.bind_eq_some_iff.1 hz
   obtain⟨vs',h1,h2⟩:=fillA_ok (place:=fun i=>pl'.toArray[i]?) (fun i x e=>by simpa using e) ps qs _ zv.cells cs (ofV_cells _) hl hp hfill
   refine⟨G,.agg vs',w,?_,Gle.refl G,S,?_⟩
   ·have hm:(fs.mapM fun f=>do pure (f.offset,←sizeOf f.type):Sem _).run P w= .ok pl'.toArray w:=by
     rw[Array.mapM_eq_mapM_toList,Sem.run_map,mapM_info _ _ hpl]
     rfl
    have hm':(fs.mapM fun f=>Prod.mk f.offset<$>sizeOf f.type:Sem _).run P w= .ok pl'.toArray w:=by simpa using hm
    simp only[Instr.build,zeroValue,typeInfo,Sem.run_bind,Sem.run_pure,Result.andThen_ok,run_underlying hu,hm,bind_assoc,pure_bind]
    have h1':Instr.fill (fun x=>pl'[x]?) zv.cells qs=some vs':=by simpa using h1
    simp[program,Sem.run,hi,hiz,hm',run_underlying hu,h1']
   ·have:=VR.agg (G:=G) cs vs'.toList h2.1 h2.2
    simpa using this
  ·cases hb
 ·rename_i zv n e hz hu
  split at hb
  ·rename_i ie hie
   simp only[Option.some.injEq,Prod.mk.injEq] at hb
   obtain⟨rfl,rfl⟩:=hb
   obtain⟨i,hi,hiz⟩:=Option.bind_eq_some_iff.1 hz
   obtain⟨vs',h1,h2⟩:=fillA_ok (place:=fun i=>some (i*ie.size,ie.size)) (fun i x e=>by
    rw[List.getElem?_map] at e
    obtain⟨j,hj,rfl⟩:=Option.map_eq_some_iff.1 e
    obtain⟨hlt,hj⟩:=List.getElem?_eq_some_iff.1 hj
    simp at hj
    subst hj
    rfl) ps qs _ zv.cells cs (ofV_cells _) hl hp hfill
   refine⟨G,.agg vs',w,?_,Gle.refl G,S,?_⟩
   ·simp only[Instr.build,zeroValue,typeInfo,Sem.run_bind,Sem.run_pure,Result.andThen_ok,run_underlying hu,bind_assoc,pure_bind]
    simp[program,Sem.run,hi,hiz,run_sizeOf hie,run_underlying hu,h1]
   ·have:=VR.agg (G:=G) cs vs'.toList h2.1 h2.2
    simpa using this
  ·cases hb
 ·cases hb
end
end
section
open Go.RowKit
section
variable {P:Program} {T:Tbl} {G:Gh} {h:AH} {w:World} {a b c:AV} {u v x:Value}
theorem toD_ok {d:D} (e:toD a=some d) (ha:VR G a v):VD G.frz d v:=by
 unfold toD at e
 split at e
 ·injection e with e;subst e;cases ha;assumption
 ·injection e with e;subst e;cases ha with|own hd ht=>exact hd
 ·injection e with e;subst e;cases ha;exact .slc0 0 none 0 (fun _=>rfl) (by decide)
 ·injection e with e;subst e;cases ha with|full hd=>exact hd
 ·injection e with e;subst e;cases ha with|nn hd=>exact hd
 ·cases e
theorem toDs_ok:∀{cs:List AV} {ds:List D} {vs:List Value},toDs cs=some ds→CellsR G cs vs→ds.length=cs.length∧∀(j:Nat) (d:D) (v:Value),ds[j]?=some d→vs[j]?=some v→VD G.frz d v
 |[],ds,vs,e,_=>by simp[toDs] at e;subst e;exact⟨rfl,fun j d v h=>by simp at h⟩
 |a::cs,ds,[],e,hc=>by have:=hc.1;simp at this
 | a::cs,ds,v::vs,e,hc=>by
  unfold toDs at e
  split at e
  ·rename_i x l hx hl
   injection e with e
   subst e
   obtain⟨h1,h2⟩:=toDs_ok hl (vs:=vs) ⟨by have:=hc.1;simpa using this,fun i a v e1 e2=>hc.2 (i+1) a v (by simpa using e1) (by simpa using e2)⟩
   refine⟨by simp[h1],fun j d u e1 e2=>?_⟩
   cases j with
   |zero=>simp at e1 e2;subst e1 e2;exact toD_ok hx (hc.2 0 a v rfl rfl)
   |succ j=>simp at e1 e2;exact h2 j d u e1 e2
  ·cases e
theorem toDs_plain:∀{cs:List AV} {ds:List D},toDs cs=some ds→∀a∈cs,a.one=true
 |[],_,_=>by simp
 | a::cs,ds,e=>by
  unfold toDs at e
  split at e
  ·rename_i x l hx hl
   intro b hb
   rcases List.mem_cons.1 hb with rfl|hb
   ·unfold toD at hx;split at hx<;>first|rfl|cases hx
   ·exact toDs_plain hl b hb
  ·cases e
theorem rows_fill {k:Nat} :∀(ps:List (Nat×AV)) (qs:List (Nat×Value)) (i:Nat) (cs:Array Value) (rows:List (List D)),cs.size=(i+ps.length)*k→qs.length=ps.length→
  (∀(j:Nat) (p:Nat×AV) (q:Nat×Value),ps[j]?=some p→qs[j]?=some q→p.1=q.1∧VR G p.2 q.2)→rowsOf k i ps=some rows→
   ∃vs',Instr.fill (fun i=>some (i*k,k)) cs qs=some vs'∧vs'.size=cs.size∧(∀j,j<i*k→vs'[j]?=cs[j]?)∧rows.length=ps.length∧(∀r∈rows,r.length=k)∧
    ∀(n:Nat) (r:List D) (j:Nat) (d:D),rows[n]?=some r→r[j]?=some d→∃v,vs'[(i+n)*k+j]?=some v∧VD G.frz d v
 |[],[],i,cs,rows,hs,_,_,e=>by
  simp[rowsOf] at e
  subst e
  exact⟨cs,rfl,rfl,fun _ _=>rfl,rfl,by simp,fun n r j d h=>by simp at h⟩
 | (j0,a)::ps,(j1,v)::qs,i,cs,rows,hs,hl,hp,e=>by
  obtain⟨h0,hv⟩:=hp 0 _ _ rfl rfl
  dsimp only at h0 hv
  subst h0
  unfold rowsOf at e
  split at e
  ·rename_i hc
   obtain⟨rfl,hk⟩:=hc
   split at e
   ·rename_i x l hx hr
    injection e with e
    subst e
    have hplain:a.plain=true:=by
     have:=toDs_plain hx
     cases a<;>simp only[AV.cells,AV.plain] at this⊢ <;>first|exact this _ (List.mem_singleton_self _)|(exact List.all_eq_true.2 this)
    have hcells:=hv.cells hplain
    have hsz:v.cells.size=k:=by rw[←hk,←hcells.1];simp
    obtain⟨hxl,hxv⟩:=toDs_ok hx hcells
    have hsz':cs.size=(j0+(ps.length+1))*k:=by simpa using hs
    have hle:j0*k+k≤cs.size:=by rw[hsz',←Nat.succ_mul];exact Nat.mul_le_mul_right _ (by omega)
    have hset:=foldl_set v.cells.toList 0 (j0*k) cs (by simp[hsz];exact hle)
    obtain⟨vs',g1,g2,g3,g4,g5,g6⟩:=rows_fill ps qs (j0+1) (v.cells.zipIdx.foldl (fun cs (c,j)=>cs.setIfInBounds (j0*k+j) c) cs) l (by
      have:=congrArg List.length hset
      rw[←Array.foldl_toList,Array.toList_zipIdx]
      rw[Array.length_toList] at this
      rw[this]
      simp[hsz]
      rw[hsz'] at hle⊢
      have e1:(j0+1+ps.length)*k=(j0+(ps.length+1))*k:=by rw[show j0+1+ps.length=j0+(ps.length+1) by omega]
      omega) (by simpa using hl) (fun i p q h1 h2=>hp (i+1) p q (by simpa using h1) (by simpa using h2)) hr
    have hnew:∀j:Nat,(v.cells.zipIdx.foldl (fun cs (c,j)=>cs.setIfInBounds (j0*k+j) c) cs)[j]?=(cs.toList.take (j0*k)++(v.cells.toList++cs.toList.drop (j0*k+k)))[j]?:=fun j=>by
     have:=congrArg (fun l:List Value=>l[j]?) hset
     rw[←Array.foldl_toList,Array.toList_zipIdx,←Array.getElem?_toList]
     simpa[hsz] using this
    have hsize:(v.cells.zipIdx.foldl (fun cs (c,j)=>cs.setIfInBounds (j0*k+j) c) cs).size=cs.size:=by
     have:=congrArg List.length hset
     rw[←Array.foldl_toList,Array.toList_zipIdx]
     rw[Array.length_toList] at this
     rw[this]
     simp[hsz]
     omega
    refine⟨vs',?_,by rw[g2,hsize],fun j hj=>?_,by simp[g4],?_,fun n r j d e1 e2=>?_⟩
    ·simp only[Instr.fill]
     rw[if_neg (by simp[hsz];omega)]
     exact g1
    ·rw[g3 j (by rw[Nat.succ_mul];omega),hnew,List.getElem?_append_left (by simp;omega),List.getElem?_take_of_lt hj,Array.getElem?_toList]
    ·intro r hr'
     rcases List.mem_cons.1 hr' with rfl|hr'
     ·rw[hxl,hk]
     ·exact g5 r hr'
    ·cases n with
     |zero=>
      simp only[List.getElem?_cons_zero,Option.some.injEq] at e1
      subst e1
      have hj:j<k:=by rw[←hk,←hxl];exact(List.getElem?_eq_some_iff.1 e2).1
      have hvj:v.cells.toList[j]?=some (v.cells.toList[j]'(by simp[hsz];exact hj)):=List.getElem?_eq_getElem _
      refine⟨_,?_,hxv j d _ e2 hvj⟩
      rw[Nat.add_zero,g3 _ (by rw[Nat.succ_mul];omega),hnew,List.getElem?_append_right (by simp;omega)]
      have:j0*k+j-(List.take (j0*k) cs.toList).length=j:=by simp;omega
      rw[this,List.getElem?_append_left (by simp[hsz];exact hj)]
      exact hvj
     |succ n=>
      simp only[List.getElem?_cons_succ] at e1
      obtain⟨v',q1,q2⟩:=g6 n r j d e1 e2
      exact⟨v',by rw[show j0+(n+1)=j0+1+n by omega];exact q1,q2⟩
   ·cases e
  ·cases e
 |[],_::_,_,_,_,_,hl,_,_=>by simp at hl
 |_::_,[],_,_,_,_,hl,_,_=>by simp at hl
theorem ice_slc {k n:Nat} {rows:List (List D)} (S:Sim T G h w) (vs:Array Value) (e:TypeId) (fz:Nat×Nat) (cap:Nat) (hn:rows.length=n) (hc:n≤cap) (hm:cap≤maxLen) (hk:∀r∈rows,r.length=k)
  (hv:∀(i:Nat) (r:List D) (j:Nat) (d:D),rows[i]?=some r→r[j]?=some d→∃v,vs[i*k+j]?=some v∧VD G.frz d v):
  VR (G.ice w.heap.size vs) (.d (.slc k rows)) (.slice (some ⟨w.heap.size,0,none⟩) n cap):=by
 subst hn
 rcases Nat.eq_zero_or_pos rows.length with h0|h0
 ·have:rows=[]:=List.eq_nil_of_length_eq_zero h0
  subst this
  exact .d (.slc0 k _ cap (fun e=>by cases e) hm)
 ·refine .d (.slc k rows w.heap.size 0 cap (fun i j=>vs.getD (i*k+j) Go.undef) h0 hc hm hk (fun i r j x e1 e2=>?_) (fun i r j x e1 e2=>?_))
  ·obtain⟨v,h1,_⟩:=hv i r j x e1 e2
   show(if w.heap.size=w.heap.size then vs[0+(i*k+j)]? else _)=_
   rw[if_pos rfl,Nat.zero_add,h1,Array.getD_eq_getD_getElem?,h1]
   rfl
  ·obtain⟨v,h1,h2⟩:=hv i r j x e1 e2
   rw[Array.getD_eq_getD_getElem?,h1]
   exact h2.mono (S.gle_ice vs).frz
theorem buildSliceP_ok {t len:Nat} {ps:List (Nat×AV)} {qs:List (Nat×Value)} (S:Sim T G h w) (hs:(buildSliceP P t len ps).1) (hl:qs.length=ps.length)
  (hp:∀(i:Nat) (p:Nat×AV) (q:Nat×Value),ps[i]?=some p→qs[i]?=some q→p.1=q.1∧VR G p.2 q.2):PR T G h (buildSliceP P t len ps).2 ((Instr.buildSlice t len qs.toArray>>=fun z=>pure (Next.value z)).run P w):=by
 unfold buildSliceP at hs⊢
 split at hs<;>try exact hs.elim
 rename_i e k y hsl
 split at hs<;>try exact hs.elim
 rename_i rows hr
 obtain⟨rfl,hbig⟩:=hs
 obtain⟨i,hu,hi,hsz,_,hz,hk⟩:=slI_inv hsl
 obtain⟨z,hz1,hz2⟩:=Option.map_eq_some_iff.1 hz
 obtain⟨vs',h1,h2,_,h4,h5,h6⟩:=rows_fill (G:=G) ps qs 0 ((Array.range (ps.length*k)).map (z.cells[· %z.cells.size]!)) rows (by simp) hl hp hr
 refine⟨G.ice w.heap.size vs',.slice (some ⟨w.heap.size,0,none⟩) ps.length ps.length,w.alloc (.cells vs' e),?_,S.gle_ice vs',S.ice vs' e (0,0),ice_slc S vs' e (0,0) ps.length h4 (Nat.le_refl _) ?_ h5 (fun n r j d e1 e2=>by simpa using h6 n r j d e1 e2)⟩
 ·simp only[Instr.buildSlice,Sem.run_bind,run_underlying hu,Result.andThen_ok,run_sizeOf hi,hsz]
  rw[if_neg (by omega)]
  rcases Nat.eq_zero_or_pos ps.length with h0|h0
  ·have hps:ps=[]:=List.eq_nil_of_length_eq_zero h0
   subst hps
   have hqs:qs=[]:=List.eq_nil_of_length_eq_zero hl
   subst hqs
   have hv0:vs'= #[]:=Array.eq_empty_of_size_eq_zero (by rw[h2];simp)
   subst hv0
   simp[Instr.fill,newRow,newObj,Sem.run,zeroValue,typeInfo,hi,hz1,program]
   congr 2
   exact Array.eq_empty_of_size_eq_zero (by simp)
  ·have hne:ps.length*k≠0:=Nat.mul_ne_zero (by omega) (by omega)
   rw[if_neg hne]
   simp only[zeroValue,typeInfo,Sem.run_bind,bind_assoc,pure_bind]
   simp[program,Sem.run,hi,hz1]
   have h1':Instr.fill (fun i=>some (i*k,k)) (Array.map (fun x=>z.cells[x%z.cells.size]!) (Array.range (ps.length*k))) qs=some vs':=h1
   rw[h1']
   simp[newRow,newObj,Sem.run]
 ·rcases Nat.eq_zero_or_pos ps.length with h0|h0
  ·rw[h0];decide
  ·have:ps.length*1≤ps.length*k:=Nat.mul_le_mul_left _ hk
   unfold maxLen
   omega
theorem cut_slc {F:Frz} {k:Nat} {rows:List (List D)} {s m:Nat} {A:Option Addr} {c:Nat} (hd:VD F (.slc k rows) (.slice A rows.length c)) (hs:s=k∨rows=[]) {lo hi:Nat} (h1:lo≤hi) (h2:hi≤rows.length) (h3:hi≤m) (h4:m≤c):
  VD F (.slc k ((rows.take hi).drop lo)) (.slice (if m=lo then A else A.map (·.add (lo*s))) (hi-lo) (m-lo)):=by
 obtain⟨A',c',e,g1,g2,g3,g4,g5⟩:=hd.slc_inv
 injection e with e1 e2 e3
 subst e1 e3
 have hlen:((rows.take hi).drop lo).length=hi-lo:=by simp;omega
 rcases Nat.eq_zero_or_pos (hi-lo) with h0|h0
 ·have hnil:(rows.take hi).drop lo=[]:=List.eq_nil_of_length_eq_zero (by omega)
  rw[hnil,h0]
  refine .slc0 k _ _ (fun e=>?_) (by omega)
  split at e
  ·omega
  ·cases A with
   |none=>have:=g3 rfl;omega
   |some a=>cases e
 ·obtain⟨b,off,val,rfl,g6⟩:=g5 (by omega)
  rw[if_neg (by omega)]
  have hsk:s=k:=hs.resolve_right (fun e=>by subst e;simp at h2;omega)
  subst hsk
  have hget:∀(i:Nat) (r:List D),((rows.take hi).drop lo)[i]?=some r→rows[lo+i]?=some r:=fun i r e=>by
   rw[List.getElem?_drop,List.getElem?_take] at e
   split at e
   ·exact e
   ·cases e
  have:=VD.slc (F:=F) s ((rows.take hi).drop lo) b (off+lo*s) (m-lo) (fun i j=>val (lo+i) j) (by omega) (by omega) (by omega) (fun r hr=>by
    obtain⟨i,hi',rfl⟩:=List.getElem_of_mem hr
    exact g4 _ (List.mem_of_getElem? (hget i _ (List.getElem?_eq_getElem hi')))) (fun i r j x e1 e2=>by
    have:=(g6 (lo+i) r j x (hget i r e1) e2).1
    rw[Nat.add_mul,Nat.add_assoc] at this
    rw[Nat.add_assoc]
    exact this) (fun i r j x e1 e2=>(g6 (lo+i) r j x (hget i r e1) e2).2)
  rw[hlen] at this
  simpa[add_at] using this
theorem run_bound {y:Nat} {k:IntKind} {n:Int} (code:BoundsCode) (h0:0≤n) (h1:n≤y):(Instr.sliceBound (.int k n) y code).run P w= .ok n.toNat w:=by
 simp[Instr.sliceBound,asIntOf,h0,h1]
def OI:Option Int→Option Value→Prop
 |none,q=>q=none
 |some n,q=> ∃k,q=some (.int k n)
theorem optI_ok {o:Option AV} {r:Option Int} {q:Option Value} (e:optI o=some r) (hq:∀x,q=some x→∃a,o=some a∧VR G a x) (hn:q=none→o=none):OI r q:=by
 unfold optI at e
 split at e
 ·injection e with e;subst e
  cases q with
  |none=>rfl
  |some x=>obtain⟨a,ha,_⟩:=hq x rfl;cases ha
 ·injection e with e;subst e
  cases q with
  |none=>have:=hn rfl;cases this
  |some x=>obtain⟨a,ha,hv⟩:=hq x rfl;injection ha with ha;subst ha;exact⟨_,by rw[hv.int_inv]⟩
 ·cases e
theorem run_bounds {isS:Bool} {n c:Nat} {lo hi mx:Option Int} {l h m:Option Value} (el:OI lo l) (eh:OI hi h) (em:OI mx m)
  (lo' hi' m':Nat) (h0:(lo':Int)=lo.getD 0) (h1:(hi':Int)=hi.getD n) (h2:(m':Int)=mx.getD c) (h3:lo'≤hi') (h4:hi'≤m') (h5:m'≤c) (h6:mx.isSome=true→hi.isSome=true):
  (Instr.sliceBounds isS n c l h m).run P w= .ok (lo',hi',m') w:=by
 have b1:∀code,(Instr.sliceBound (.int .i64 lo') hi' code).run P w= .ok lo' w:=fun code=>by simpa using run_bound (P:=P) (w:=w) (y:=hi') (k:= .i64) (n:=lo') code (by omega) (by omega)
 have g1:∀k code,(Instr.sliceBound (.int k lo') hi' code).run P w= .ok lo' w:=fun k code=>by simpa using run_bound (P:=P) (w:=w) (y:=hi') (k:=k) (n:=lo') code (by omega) (by omega)
 have g2:∀k code,(Instr.sliceBound (.int k hi') m' code).run P w= .ok hi' w:=fun k code=>by simpa using run_bound (P:=P) (w:=w) (y:=m') (k:=k) (n:=hi') code (by omega) (by omega)
 have g3:∀k code,(Instr.sliceBound (.int k m') c code).run P w= .ok m' w:=fun k code=>by simpa using run_bound (P:=P) (w:=w) (y:=c) (k:=k) (n:=m') code (by omega) (by omega)
 cases mx with
 | none=>
  simp only[OI] at em
  subst em
  have hm:m'=c:=by simp only[Option.getD_none] at h2;omega
  subst hm
  cases hi with
  | none=>
   simp only[OI] at eh
   subst eh
   have hh:hi'=n:=by simp only[Option.getD_none] at h1;omega
   subst hh
   cases lo with
   |none=>
    simp only[OI] at el
    subst el
    have:lo'=0:=by simp only[Option.getD_none] at h0;omega
    subst this
    simp[Instr.sliceBounds]
   |some x=>
    obtain⟨k,rfl⟩:=el
    simp only[Option.getD_some] at h0
    subst h0
    simp[Instr.sliceBounds,g1]
  | some y=>
   obtain⟨k',rfl⟩:=eh
   simp only[Option.getD_some] at h1
   subst h1
   cases lo with
   |none=>
    simp only[OI] at el
    subst el
    have:lo'=0:=by simp only[Option.getD_none] at h0;omega
    subst this
    simp[Instr.sliceBounds,g2]
   |some x=>
    obtain⟨k,rfl⟩:=el
    simp only[Option.getD_some] at h0
    subst h0
    simp[Instr.sliceBounds,g1,g2]
 | some z=>
  obtain⟨k2,rfl⟩:=em
  simp only[Option.getD_some] at h2
  subst h2
  cases hi with
  |none=>have:=h6 rfl;cases this
  | some y=>
   obtain⟨k',rfl⟩:=eh
   simp only[Option.getD_some] at h1
   subst h1
   cases lo with
   |none=>
    simp only[OI] at el
    subst el
    have:lo'=0:=by simp only[Option.getD_none] at h0;omega
    subst this
    simp[Instr.sliceBounds,g2,g3]
   |some x=>
    obtain⟨k,rfl⟩:=el
    simp only[Option.getD_some] at h0
    subst h0
    simp[Instr.sliceBounds,g1,g2,g3]
theorem cutP_ok {t e s y k:Nat} {rows:List (List D)} {lo hi mx:Option Int} {l hh m:Option Value} (S:Sim T G h w) (hsl:slI P t=some (e,s,y)) (hsk:s=k∨rows=[]) (hc:(cutP k rows lo hi mx).1) (hv:VD G.frz (.slc k rows) u)
  (el:OI lo l) (eh:OI hi hh) (em:OI mx m):
  PR T G h (cutP k rows lo hi mx).2 ((Instr.sliceAt t u l hh m>>=fun z=>pure (Next.value z)).run P w):=by
 obtain⟨i,hu,hi',hsz,_⟩:=slI_inv hsl
 obtain⟨A,c,rfl,g1,g2,g3,_⟩:=hv.slc_inv
 have run:∀lo' hi2 m':Nat,(Instr.sliceBounds true rows.length c l hh m).run P w= .ok (lo',hi2,m') w→(Instr.sliceAt t (.slice A rows.length c) l hh m>>=fun z=>pure (Next.value z)).run P w= .ok (.value (.slice (if m'=lo' then A else A.map (·.add (lo'*s))) (hi2-lo') (m'-lo'))) w:=fun lo' hi2 m' hb=>by
  simp[Instr.sliceAt,Instr.slice,run_underlying hu,hb,run_sizeOf hi',hsz]
 unfold cutP at hc⊢
 split at hc
 ·obtain⟨c1,c2,c3⟩:=hc
  have hb:=run_bounds (P:=P) (w:=w) (isS:=true) (n:=rows.length) (c:=c) el eh em (lo.getD 0).toNat (hi.getD rows.length).toNat c (by omega) (by omega) (by simp) (by omega) (by omega) (Nat.le_refl _) (by simp)
  exact⟨G,_,w,run _ _ _ hb,Gle.refl G,S,.d (cut_slc hv hsk (by omega) (by omega) (by omega) (Nat.le_refl _))⟩
 ·rename_i z
  obtain⟨c0,c1,c2,c3,c4⟩:=hc
  obtain⟨y',rfl⟩:=Option.isSome_iff_exists.1 c0
  simp only[Option.getD_some] at c2 c3
  have hb:=run_bounds (P:=P) (w:=w) (isS:=true) (n:=rows.length) (c:=c) el eh em (lo.getD 0).toNat y'.toNat z.toNat (by omega) (by simp only[Option.getD_some];omega) (by simp only[Option.getD_some];omega) (by omega) (by omega) (by omega) (by simp)
  have hcs:=cut_slc (s:=s) (m:=z.toNat) hv hsk (lo:=(lo.getD 0).toNat) (hi:=((some y':Option Int).getD 0).toNat) (by simp only[Option.getD_some];omega) (by simp only[Option.getD_some];omega) (by simp only[Option.getD_some];omega) (by omega)
  refine⟨G,_,w,run _ _ _ hb,Gle.refl G,S,?_⟩
  split
  ·rename_i hyz
   injection hyz with hyz
   subst hyz
   have hlen:((rows.take ((some y':Option Int).getD 0).toNat).drop (lo.getD 0).toNat).length=y'.toNat-(lo.getD 0).toNat:=by simp only[Option.getD_some,List.length_drop,List.length_take];omega
   have hq:=VR.full (G:=G) (k:=k) (rows:=(rows.take ((some y':Option Int).getD 0).toNat).drop (lo.getD 0).toNat) (A:=(if y'.toNat=(lo.getD 0).toNat then A else A.map (·.add ((lo.getD 0).toNat*s)))) (by rw[hlen];exact hcs)
   rw[hlen] at hq
   exact hq
  ·exact .d hcs
theorem sliceP_ok {t:Nat} {lo hi mx:Option AV} {l hh m:Option Value} (S:Sim T G h w) (hs:(sliceP P t a lo hi mx).1) (ha:VR G a u)
  (ql:∀x,l=some x→∃a,lo=some a∧VR G a x) (nl:l=none→lo=none) (qh:∀x,hh=some x→∃a,hi=some a∧VR G a x) (nh:hh=none→hi=none) (qm:∀x,m=some x→∃a,mx=some a∧VR G a x) (nm:m=none→mx=none):
  PR T G h (sliceP P t a lo hi mx).2 ((Instr.sliceAt t u l hh m>>=fun z=>pure (Next.value z)).run P w):=by
 unfold sliceP at hs⊢
 split at hs<;>try exact hs.elim
 rename_i lo' hi' mx' e1 e2 e3
 have el:=optI_ok e1 ql nl
 have eh:=optI_ok e2 qh nh
 have em:=optI_ok e3 qm nm
 split at hs<;>try exact hs.elim
 ·rename_i s
  obtain⟨h0,h1,h2,h3,h4⟩:=hs
  subst h1
  obtain⟨t',rfl,hs1,hs2⟩:=ha.str_inv
  subst hs1
  have hu:=isStr_inv h0
  have hsz:=size_data t'
  have hb:=run_bounds (P:=P) (w:=w) (isS:=false) (n:=t'.size) (c:=t'.size) (mx:=none) (m:=none) el eh rfl (lo'.getD 0).toNat (hi'.getD t'.data.toList.length).toNat t'.size (by omega) (by rw[show(t'.size:Int)=(t'.data.toList.length:Int) by omega];omega) (by simp) (by omega) (by omega) (Nat.le_refl _) (by simp)
  simp only[OI] at em
  subst em
  refine⟨G,.string (t'.extract (lo'.getD 0).toNat (hi'.getD t'.data.toList.length).toNat),w,?_,Gle.refl G,S,VR.str _ _ ?_ ?_⟩
  ·simp[Instr.sliceAt,Instr.slice,run_underlying hu,hb]
  ·rw[Lib.extract_data,List.drop_take]
  ·have:t'.data.toList.length≤maxLen:=by rw[hsz];exact hs2
   simp only[List.length_drop,List.length_take]
   omega
 ·rename_i k rows
  split at hs<;>try exact hs.elim
  rename_i e s y hsl
  cases ha with
  |d hd=>exact cutP_ok S hsl hs.1 hs.2 hd el eh em
 ·rename_i t' k rows
  split at hs<;>try exact hs.elim
  rename_i e s y hsl
  cases ha with
  |own hd _=>exact cutP_ok S hsl hs.1 hs.2 hd el eh em
 ·rename_i k rows
  split at hs<;>try exact hs.elim
  rename_i e s y hsl
  cases ha with
  |full hd=>exact cutP_ok S hsl hs.1 hs.2 hd el eh em
 ·rename_i k rows i o
  split at hs<;>try exact hs.elim
  rename_i n s r har
  obtain⟨rfl,rfl,rfl,rfl,rfl,hn,hn0,hn1⟩:=hs
  obtain⟨e,hu,ht⟩:=arI_inv har
  obtain⟨_,ie,_,hie,_,hsz,_⟩:=tyI_inv ht
  simp only[OI] at el eh em
  subst el eh em
  cases ha with
  | elt _ _ _ _ b off val row hr hf hv=>
   have hg:rows.getD i []=row:=by simp[List.getD,hr]
   rw[hg] at hn⊢
   subst hn
   have hb:=run_bounds (P:=P) (w:=w) (isS:=false) (n:=row.length) (c:=row.length) (lo:=none) (hi:=none) (mx:=none) (l:=none) (h:=none) (m:=none) rfl rfl rfl 0 row.length row.length (by simp) (by simp) (by simp) (by omega) (Nat.le_refl _) (Nat.le_refl _) (by simp)
   have hget:∀(i:Nat) (r:List D),(row.map fun x=>[x])[i]?=some r→∃x,row[i]?=some x∧r=[x]:=fun i r e=>by
    rw[List.getElem?_map] at e
    obtain⟨x,h1,rfl⟩:=Option.map_eq_some_iff.1 e
    exact⟨x,h1,rfl⟩
   have:=VD.slc (F:=G.frz) 1 (row.map fun x=>[x]) b off row.length (fun i j=>val i) (by simp;omega) (by simp) (by unfold maxLen;omega) (fun r hr=>by
     obtain⟨x,_,rfl⟩:=List.mem_map.1 hr
     rfl) (fun i r j x e1 e2=>by
     obtain⟨y,h1,rfl⟩:=hget i r e1
     cases j with
     |zero=>simp at e2;subst e2;simpa using hf i _ h1
     |succ j=>simp at e2) (fun i r j x e1 e2=>by
     obtain⟨y,h1,rfl⟩:=hget i r e1
     cases j with
     |zero=>simp at e2;subst e2;exact hv i _ h1
     |succ j=>simp at e2)
   refine⟨G,_,w,?_,Gle.refl G,S,.d this⟩
   have hn':¬row.length=0:=by omega
   simp[Instr.sliceAt,run_underlying hu,Instr.sureAddr,hb,run_sizeOf hie,hsz,hn',Addr.add]
theorem isIf_of {t:Nat} {k:IntKind} (e:intI P t=some k):P.underlying t=some (.int k):=by
 unfold intI at e
 split at e
 ·injection e with e;subst e;assumption
 ·cases e
theorem isBytes_inv {t:Nat} (e:isBytes P t=true):∃el,P.underlying t=some (.slice el)∧P.underlying el=some (.int .u8):=by
 unfold isBytes at e
 split at e
 ·rename_i el s y hsl
  simp only[Bool.and_eq_true,beq_iff_eq] at e
  obtain⟨i,hu,_⟩:=slI_inv hsl
  exact⟨el,hu,isIf_of e.1⟩
 ·cases e
theorem bytesOf_ok:∀{rows:List (List D)} {l:List UInt8},bytesOf rows=some l→rows.length=l.length∧∀(i:Nat) (c:UInt8),l[i]?=some c→rows[i]?=some [.int .u8 (c.toNat:Int)]
 |[],l,e=>by simp[bytesOf] at e;subst e;exact⟨rfl,fun i c h=>by simp at h⟩
 | r::rows,l,e=>by
  unfold bytesOf at e
  split at e
  ·rename_i c s hc hs
   injection e with e
   subst e
   obtain⟨h1,h2⟩:=bytesOf_ok hs
   refine⟨by simp[h1],fun i d hd=>?_⟩
   cases i with
   | zero=>
    simp at hd
    subst hd
    unfold byteOf at hc
    split at hc
    ·rename_i n
     split at hc
     ·rename_i hn
      injection hc with hc
      subst hc
      simp
      have:n.toNat<256:=by omega
      omega
     ·cases hc
    ·cases hc
   |succ i=>simp at hd⊢;exact h2 i d hd
  ·cases e
theorem run_back {s d:TypeId} {k:Nat} {rows:List (List D)} {l:List UInt8} (S:Sim T G h w) (hb:isBytes P s=true) (hd:isStr P d=true) (hv:VD G.frz (.slc k rows) u) (hk:k=1∨rows=[]) (hl:bytesOf rows=some l):
  PR T G h (.d (.str l)) ((convert s d u>>=fun z=>pure (Next.value z)).run P w):=by
 obtain⟨el,hu,he⟩:=isBytes_inv hb
 have hds:=isStr_inv hd
 obtain⟨hlen,hbyte⟩:=bytesOf_ok hl
 obtain⟨A,c,rfl,g1,g2,g3,g4,g5⟩:=hv.slc_inv
 rcases Nat.eq_zero_or_pos rows.length with h0|h0
 ·have hl0:l=[]:=List.eq_nil_of_length_eq_zero (by omega)
  subst hl0
  refine⟨G,.string .empty,w,?_,Gle.refl G,S,VR.str _ _ rfl (by simp)⟩
  cases A with
  |none=>simp[run_convert_bytes_string w s d el none rows.length c hu he hds,Conv.bytesToString]
  |some a=>
   rw[h0]
   simp[run_convert_bytes_string w s d el (some a) 0 c hu he hds,Conv.bytesToString,loadCells,loadCellsFrom]
 ·obtain⟨b,off,val,rfl,g6⟩:=g5 h0
  have hk1:k=1:=hk.resolve_right (fun e=>by subst e;simp at h0)
  subst hk1
  have hrun:=run_convert_bytes_back (P:=P) w s d el ⟨b,off,none⟩ c l hu he hds (fun j hj=>by
   have h1:=hbyte j l[j] (List.getElem?_eq_getElem hj)
   obtain⟨h2,h3⟩:=g6 j _ 0 _ h1 rfl
   rw[add_at]
   have:=S.frz _ _ _ h2
   simp only[Nat.mul_one,Nat.add_zero] at this
   rw[this,h3.int_inv])
  refine⟨G,.string ⟨l.toArray⟩,w,?_,Gle.refl G,S,VR.str _ _ (by simp) (by omega)⟩
  rw[hlen,Sem.run_bind,hrun]
  rfl
theorem byteRows_get {s:List UInt8} {i:Nat} {r:List D} (e:(byteRows s)[i]?=some r):∃c,s[i]?=some c∧r=[.int .u8 (c.toNat:Int)]:=by
 unfold byteRows at e
 rw[List.getElem?_map] at e
 obtain⟨c,h1,rfl⟩:=Option.map_eq_some_iff.1 e
 exact⟨c,h1,rfl⟩
theorem convP_ok {s d:TypeId} (S:Sim T G h w) (hsrc:(P.underlying s).isSome=true) (hs:(convP P s d a).1) (ha:VR G a u):PR T G h (convP P s d a).2 ((convert s d u>>=fun z=>pure (Next.value z)).run P w):=by
 unfold convP at hs⊢
 split at hs<;>try exact hs.elim
 ·rename_i k n
  split at hs<;>try exact hs.elim
  rename_i k' hk
  have hd:=isIf_of hk
  obtain⟨su,hsu⟩:=Option.isSome_iff_exists.1 hsrc
  have:=ha.int_inv
  subst this
  refine⟨G,.int k' (k'.wrap n),w,?_,Gle.refl G,S,VR.int _ _⟩
  simp only[convert,Sem.run_bind,run_underlying hsu,run_underlying hd,Result.andThen_ok]
  cases su<;>rfl
 ·rename_i l
  obtain⟨t,rfl,h1,h2⟩:=ha.str_inv
  subst h1
  split at hs
  ·rename_i hc
   rw[if_pos hc]
   refine⟨G,.string t,w,?_,Gle.refl G,S,ha⟩
   simp[convert,run_underlying (isStr_inv hc.1),run_underlying (isStr_inv hc.2)]
  ·rename_i hc
   rw[if_neg hc]
   obtain⟨hss,hb⟩:=hs
   obtain⟨el,hu,he⟩:=isBytes_inv hb
   have hrun:=run_bytes_of_string (P:=P) w s d el t (isStr_inv hss) hu he
   have hcap:t.size≤grownCap w t.size 0 el∧grownCap w t.size 0 el≤maxLen:=by
    have:t.size<2^63:=by unfold maxLen at h2;omega
    have h3:0<2^63-t.size:=by omega
    have h4:=Nat.mod_lt (w.tape w.drawn (.appendCap t.size 0 el)) h3
    simp only[grownCap,Question.cut]
    unfold maxLen
    omega
   generalize grownCap w t.size 0 el=cap at*
   have S1:=S.drew
   have hsz:(bytesRow t cap).size=cap:=by
    unfold bytesRow
    have:t.data.size=t.size:=rfl
    simp[this]
    omega
   refine⟨G.ice w.heap.size (bytesRow t cap),.slice (some ⟨w.heap.size,0,none⟩) t.size cap,_,by rw[Sem.run_bind,hrun];rfl,S1.gle_ice _,S1.ice _ _ _,?_⟩
   have hlen:(byteRows t.data.toList).length=t.size:=by unfold byteRows;rw[List.length_map,size_data]
   exact ice_slc S1 (bytesRow t cap) el (0,0) cap hlen hcap.1 hcap.2 (fun r hr=>by
    unfold byteRows at hr
    obtain⟨c,_,rfl⟩:=List.mem_map.1 hr
    rfl) (fun i r j x e1 e2=>by
    obtain⟨c,h1,rfl⟩:=byteRows_get e1
    cases j with
    | zero=>
     simp at e2
     subst e2
     refine⟨_,?_,.int _ _⟩
     have hi:i<t.data.size:=by
      have:=(List.getElem?_eq_some_iff.1 h1).1
      simpa using this
     unfold bytesRow
     rw[Nat.mul_one,Nat.add_zero,Array.getElem?_append_left (by simpa using hi),Array.getElem?_map,←Array.getElem?_toList,h1]
     rfl
    |succ j=>simp at e2)
 ·rename_i k rows
  split at hs<;>try exact hs.elim
  rename_i l hl
  cases ha with
  |d hd=>exact run_back S hs.1 hs.2.1 hd hs.2.2 hl
 ·rename_i t k rows
  split at hs<;>try exact hs.elim
  rename_i l hl
  cases ha with
  |own hd _=>exact run_back S hs.1 hs.2.1 hd hs.2.2 hl
 ·cases ha
  exact run_back (k:=1) (rows:=[]) S hs.1 hs.2 (.slc0 1 none 0 (fun _=>rfl) (by decide)) (.inr rfl) rfl
 ·rename_i k rows
  split at hs<;>try exact hs.elim
  rename_i l hl
  cases ha with
  |full hd=>exact run_back S hs.1 hs.2.1 hd hs.2.2 hl
def flF (g:TypeId→Option (List Nat)) (P:Program):Nat→List Field→Option (List Nat)
 |_,[]=>some []
 |o,f::fs=>match g f.type,tyI P f.type,flF g P (o+((tyI P f.type).map (·.2)).getD 0) fs with
  |some ks,some (_,n),some r=>if f.name≠ "_" ∧f.offset=o∧ks.length=n∧n≠0 then some (ks++r) else none
  |_,_,_=>none
def flK (P:Program):Nat→TypeId→Option (List Nat)
 |0,_=>none
 |d+1,t=>match P.underlying t with
  |some (.int _)=>some [1]
  |some .bool=>some [2]
  |some .string=>some [3]
  |some (.struct fs)=>if P.stoodInHeld t=true then none else flF (flK P d) P 0 fs.toList
  |_=>none
def eqI (P:Program) (t:TypeId):Option (List Nat):=if P.eqGuardType P.depth t=true then none else match P.underlying t with
 |some (.struct _)=>flK P 4 t
 |_=>none
def eqC:Nat→AV→AV→Option Bool
 |1,.d (.int k a),.d (.int k' b)=>if k=k' then some (decide (a=b)) else none
 |2,.d (.bool a),.d (.bool b)=>some (a==b)
 |3,.d (.str a),.d (.str b)=>some (decide (a=b))
 |_,_,_=>none
def eqKs:List Nat→List AV→List AV→Option Bool
 |[],[],[]=>some true
 |k::ks,a::l,b::m=>match eqC k a b,eqKs ks l m with
  |some p,some q=>some (p&&q)
  |_,_=>none
 |_,_,_=>none
def eqP (P:Program) (op:BinOp) (t:TypeId) (a b:AV):PV:=
 match a,b,eqI P t with
 | .agg l,.agg m,some ks=>match eqKs ks l m with
  |some r=>match op with
   | .eql=>(True,.d (.bool r))
   | .neq=>(True,.d (.bool (!r)))
   |_=>koP
  |none=>koP
 |_,_,_=>koP
theorem eqKs_append:∀{k1 k2:List Nat} {l m:List AV} {r:Bool},eqKs (k1++k2) l m=some r→∃p q,eqKs k1 (l.take k1.length) (m.take k1.length)=some p∧eqKs k2 (l.drop k1.length) (m.drop k1.length)=some q∧r=(p&&q)
 |[],k2,l,m,r,e=>⟨true,r,rfl,by simpa using e,by simp⟩
 | k::k1,k2,a::l,b::m,r,e=>by
  simp only[List.cons_append,eqKs] at e
  split at e
  ·rename_i p q hp hq
   injection e with e
   subst e
   obtain⟨p',q',h1,h2,rfl⟩:=eqKs_append hq
   refine⟨p&&p',q',?_,by simpa using h2,by rw[Bool.and_assoc]⟩
   simp[eqKs,hp,h1]
  ·cases e
 |_::_,_,[],_,_,e=>by simp[eqKs] at e
 |_::_,_,_::_,[],_,e=>by simp[eqKs] at e
theorem eqKs_len:∀{ks:List Nat} {l m:List AV} {r:Bool},eqKs ks l m=some r→l.length=ks.length∧m.length=ks.length
 |[],[],[],_,_=>⟨rfl,rfl⟩
 | k::ks,a::l,b::m,r,e=>by
  simp only[eqKs] at e
  split at e
  ·rename_i p q hp hq
   obtain⟨h1,h2⟩:=eqKs_len hq
   exact⟨by simp[h1],by simp[h2]⟩
  ·cases e
 |[],_::_,_,_,e=>by simp[eqKs] at e
 |[],[],_::_,_,e=>by simp[eqKs] at e
 |_::_,[],_,_,e=>by simp[eqKs] at e
 |_::_,_::_,[],_,e=>by simp[eqKs] at e
theorem eqC1 {r:Bool} (h:eqC 1 a b=some r):∃k x y,a= .d (.int k x)∧b= .d (.int k y)∧r=decide (x=y):=by
 cases a<;>try(simp[eqC] at h;done)
 rename_i x
 cases b<;>try(cases x<;>simp[eqC] at h<;>done)
 rename_i y
 cases x<;>try(simp[eqC] at h;done)
 rename_i k n
 cases y<;>try(simp[eqC] at h;done)
 rename_i k' m
 simp only[eqC] at h
 split at h
 ·rename_i hk
  subst hk
  injection h with h
  exact⟨k,n,m,rfl,rfl,h.symm⟩
 ·cases h
theorem eqC2 {r:Bool} (h:eqC 2 a b=some r):∃x y,a= .d (.bool x)∧b= .d (.bool y)∧r=(x==y):=by
 cases a<;>try(simp[eqC] at h;done)
 rename_i x
 cases b<;>try(cases x<;>simp[eqC] at h<;>done)
 rename_i y
 cases x<;>try(simp[eqC] at h;done)
 rename_i n
 cases y<;>try(simp[eqC] at h;done)
 rename_i m
 simp only[eqC] at h
 injection h with h
 exact⟨n,m,rfl,rfl,h.symm⟩
theorem eqC3 {r:Bool} (h:eqC 3 a b=some r):∃x y,a= .d (.str x)∧b= .d (.str y)∧r=decide (x=y):=by
 cases a<;>try(simp[eqC] at h;done)
 rename_i x
 cases b<;>try(cases x<;>simp[eqC] at h<;>done)
 rename_i y
 cases x<;>try(simp[eqC] at h;done)
 rename_i n
 cases y<;>try(simp[eqC] at h;done)
 rename_i m
 simp only[eqC] at h
 injection h with h
 exact⟨n,m,rfl,rfl,h.symm⟩
theorem run_eqFields {g:TypeId→Option (List Nat)} {d:Nat} {l m:List AV} {vs us:List Value} (h1:CellsR G l vs) (h2:CellsR G m us)
  (hg:∀t ks (l m:List AV) (vs us:List Value) (r rb:Bool) (n:Nat),g t=some ks→tyI P t=some (rb,n)→CellsR G l vs→CellsR G m us→eqKs ks l m=some r→(Op.equalIn d t (ofCells rb vs) (ofCells rb us)).run P w= .ok r w):
  ∀(fs:List Field) (o:Nat) (ks:List Nat) (r:Bool),flF g P o fs=some ks→eqKs ks (l.drop o) (m.drop o)=some r→(Op.eqFields d vs.toArray us.toArray fs).run P w= .ok r w
 | [],o,ks,r,e,er=>by
  simp[flF] at e
  subst e
  have:r=true:=by
   cases hl:l.drop o<;>cases hm:m.drop o<;>rw[hl,hm] at er<;>simp[eqKs] at er
   exact er
  subst this
  simp[Op.eqFields]
 | f::fs,o,ks,r,e,er=>by
  unfold flF at e
  split at e
  ·rename_i k1 rb n k2 hk1 ht hk2
   split at e
   ·rename_i hc
    obtain⟨hname,hoff,hlen,hn0⟩:=hc
    injection e with e
    subst e
    obtain⟨p,q,e1,e2,rfl⟩:=eqKs_append er
    rw[ht] at hk2
    simp only[Option.map_some,Option.getD_some] at hk2
    rw[hlen] at e1 e2
    simp only[List.drop_drop] at e2
    have hl1:=(eqKs_len e1).1
    have hl2:=(eqKs_len e1).2
    have fit1:o+n≤vs.length:=by
     rw[h1.1]
     simp only[List.length_take,List.length_drop] at hl1
     omega
    have fit2:o+n≤us.length:=by
     rw[h2.1]
     simp only[List.length_take,List.length_drop] at hl2
     omega
    have heq:=hg f.type k1 _ _ _ _ p rb n hk1 ht (⟨by simp[h1.1],cells_take h1.1 h1.2⟩:CellsR G ((l.drop o).take n) ((vs.drop o).take n)) (⟨by simp[h2.1],cells_take h2.1 h2.2⟩:CellsR G ((m.drop o).take n) ((us.drop o).take n)) e1
    have hrest:=run_eqFields h1 h2 hg fs (o+n) k2 q hk2 e2
    have hp1:=run_part (P:=P) (w:=w) ht vs (off:=o) fit1
    have hp2:=run_part (P:=P) (w:=w) ht us (off:=o) fit2
    simp only[Op.eqFields,hname,ne_eq,not_false_eq_true,if_true,Sem.run_bind,hoff,hp1,hp2,heq,Result.andThen_ok]
    cases p with
    |true=>simpa using hrest
    |false=>simp
   ·cases e
  ·cases e
theorem run_eqK:∀(d:Nat) (t:TypeId) (ks:List Nat) (l m:List AV) (vs us:List Value) (r rb:Bool) (n e:Nat),flK P d t=some ks→tyI P t=some (rb,n)→CellsR G l vs→CellsR G m us→eqKs ks l m=some r→(Op.equalIn (d+e) t (ofCells rb vs) (ofCells rb us)).run P w= .ok r w
 |0,_,_,_,_,_,_,_,_,_,_,h,_,_,_,_=>by simp[flK] at h
 | d+1,t,ks,l,m,vs,us,r,rb,n,e,hk,ht,h1,h2,er=>by
  obtain⟨desc,i,hu,hi,hrb,hn,hr1⟩:=tyI_inv ht
  unfold flK at hk
  rw[hu] at hk
  have hde:d+1+e=(d+e)+1:=by omega
  rw[hde]
  have basic:∀k,ks=[k]→∃a b v u,l=[a]∧m=[b]∧vs=[v]∧us=[u]∧VR G a v∧VR G b u∧eqC k a b=some r:=fun k hks=>by
   subst hks
   match l,m,er with
   | [a],[b],er=>
    match vs,us,h1,h2 with
    | [v],[u],h1,h2=>
     refine⟨a,b,v,u,rfl,rfl,rfl,rfl,h1.2 0 a v rfl rfl,h2.2 0 b u rfl rfl,?_⟩
     simp only[eqKs] at er
     split at er
     ·rename_i p q hp hq
      injection hq with hq
      subst hq
      simpa[hp] using er
     ·cases er
    |[],_,h1,_=>have:=h1.1;simp at this
    |[_],[],_,h2=>have:=h2.1;simp at this
    |_::_::_,_,h1,_=>have:=h1.1;simp at this
    |[_],_::_::_,_,h2=>have:=h2.1;simp at this
   |[],_,er=>simp[eqKs] at er
   |[_],[],er=>simp[eqKs] at er
   |_::_::_,[],er=>simp[eqKs] at er
   |_::_::_,[_],er=>simp[eqKs] at er
   |[_],_::_::_,er=>simp[eqKs] at er
   |_::_::_,_::_::_,er=>simp[eqKs] at er
  cases desc with
  |int kk=>
   injection hk with hk
   obtain⟨a,b,v,u,rfl,rfl,rfl,rfl,hv,hw,hc⟩:=basic 1 hk.symm
   obtain⟨k,x,y,rfl,rfl,rfl⟩:=eqC1 hc
   have e1:=hv.int_inv
   have e2:=hw.int_inv
   subst e1 e2
   rw[←hrb]
   have:=run_equalIn_int (P:=P) w (d+e) t k kk x y hu
   simp only[ofCells,TypeDesc.isRow,Bool.false_eq_true,if_false,List.headD_cons]
   rw[this]
   rfl
  |bool=>
   injection hk with hk
   obtain⟨a,b,v,u,rfl,rfl,rfl,rfl,hv,hw,hc⟩:=basic 2 hk.symm
   obtain⟨x,y,rfl,rfl,rfl⟩:=eqC2 hc
   have e1:=hv.bool_inv
   have e2:=hw.bool_inv
   subst e1 e2
   rw[←hrb]
   simp only[ofCells,TypeDesc.isRow,Bool.false_eq_true,if_false,List.headD_cons]
   rw[run_equalIn_bool' (P:=P) w (d+e) t _ _ hu]
  |string=>
   injection hk with hk
   obtain⟨a,b,v,u,rfl,rfl,rfl,rfl,hv,hw,hc⟩:=basic 3 hk.symm
   obtain⟨x,y,rfl,rfl,rfl⟩:=eqC3 hc
   obtain⟨s1,rfl,q1,_⟩:=hv.str_inv
   obtain⟨s2,rfl,q2,_⟩:=hw.str_inv
   rw[←hrb]
   simp only[ofCells,TypeDesc.isRow,Bool.false_eq_true,if_false,List.headD_cons]
   rw[run_equalIn_string (P:=P) w (d+e) t _ _ hu,ByteArray.toList_eq,ByteArray.toList_eq,q1,q2]
   congr 1
   exact Bool.eq_iff_iff.2 (by simp)
  | struct fs=>
   dsimp only at hk
   split at hk
   ·cases hk
   ·rename_i hst
    have hrow:rb=true:=by rw[←hrb]
    subst hrow
    simp only[ofCells,if_true]
    have hfs:P.fieldsOf t=fs:=by simp[Program.fieldsOf,hu]
    rw[run_equalIn_struct w (d+e) t _ _ (by rw[hfs];exact hu) (by simpa using hst),hfs]
    exact run_eqFields h1 h2 (fun t ks l m vs us r rb n a1 a2 a3 a4 a5=>run_eqK d t ks l m vs us r rb n e a1 a2 a3 a4 a5) fs.toList 0 ks r hk (by simpa using er)
  |_=>cases hk
theorem eqP_ok (op:BinOp) (t:TypeId) (x y:Operand) (S:Sim T G h w) (hs:(eqP P op t a b).1) (ha:VR G a u) (hb:VR G b v):
  PR T G h (eqP P op t a b).2 (((do eqGuard op t x y u v;binOp op t u v:Sem Value)>>=fun z=>pure (Next.value z)).run P w):=by
 unfold eqP at hs⊢
 split at hs<;>try exact hs.elim
 rename_i l m ks hk
 split at hs<;>try exact hs.elim
 rename_i r hr
 unfold eqI at hk
 split at hk
 ·cases hk
 ·rename_i hgd
  split at hk
  ·rename_i fs hu
   cases ha with
   | agg _ vs hl hc=>
    cases hb with
    | agg _ us hl' hc'=>
     have hg:=run_eqGuard_agg (P:=P) w op t x y vs.toArray us.toArray (by simpa using hgd)
     have hty:∃n,tyI P t=some (true,n)∨True:=⟨0,.inr trivial⟩
     have heq:(Op.equalIn 10000 t (.agg vs.toArray) (.agg us.toArray)).run P w= .ok r w:=by
      unfold flK at hk
      rw[hu] at hk
      dsimp only at hk
      split at hk
      ·cases hk
      ·rename_i hst
       have hfs:P.fieldsOf t=fs:=by simp[Program.fieldsOf,hu]
       rw[run_equalIn_struct w 9999 t _ _ (by rw[hfs];exact hu) (by simpa using hst),hfs]
       exact run_eqFields (G:=G) (g:=flK P 3) ⟨hl,hc⟩ ⟨hl',hc'⟩ (fun t ks l m vs us r rb n a1 a2 a3 a4 a5=>run_eqK 3 t ks l m vs us r rb n 9996 a1 a2 a3 a4 a5) fs.toList 0 ks r hk (by simpa using hr)
     split at hs<;>try exact hs.elim
     ·refine⟨G,.bool r,w,?_,Gle.refl G,S,VR.bool _⟩
      rw[Sem.run_bind,Sem.run_bind,hg,Result.andThen_ok,run_eql_struct,heq]
      rfl
     ·refine⟨G,.bool (!r),w,?_,Gle.refl G,S,VR.bool _⟩
      rw[Sem.run_bind,Sem.run_bind,hg,Result.andThen_ok,run_neq_struct,heq]
      rfl
  ·cases hk
end
end
section
open Go.RowKit
def binX (P:Program) (op:BinOp) (t:TypeId) (a b:AV):PV:=
 match a with
 | .agg _=>eqP P op t a b
 |_=>binP P op t a b
def assertP (P:Program) (t:TypeId) (a:AV):PV:=
 match a with
 | .ifc t' v=>(t'=t∧(P.underlying t).isSome=true∧isIf P t=false,v)
 |_=>koP
def opP (P:Program) (op:Op) (ρ:Operand→AV) (h:AH):Option PV:=
 match op with
 | .move x=>some (True,ρ x)
 | .assign x=>some (True,ρ x)
 | .pick c a b=>some (pickP (ρ c) (ρ a) (ρ b))
 | .load t a=>some (loadP P t (ρ a) h)
 | .nilCheck x=>some (nilP (ρ x))
 | .binOp op t x y _=>some (binX P op t (ρ x) (ρ y))
 | .unOp op _ x=>some (unP op (ρ x))
 | .convert s d x=>some ((P.underlying s).isSome=true∧(convP P s d (ρ x)).1,(convP P s d (ρ x)).2)
 | .makeInterface t x=>some (ifaceP P t (ρ x))
 | .makeFunc (.func f) first cap=>if first.isEmpty=true then some (True,.fn f (cap.toList.map ρ)) else none
 | .slice t x lo hi mx=>some (sliceP P t (ρ x) (lo.map ρ) (hi.map ρ) (mx.map ρ))
 | .fieldAddr t x f=>some (fieldAddrP P t (ρ x) f)
 | .field t x f=>some (fieldP P t (ρ x) f)
 | .indexAddr t x i=>some (indexAddrP P t (ρ x) (ρ i))
 | .index t x i=>some (indexP P t (ρ x) (ρ i))
 | .extract x i=>some (extractP (ρ x) i)
 | .build t ps=>some (buildP P t (ps.toList.map fun p=>(p.1,ρ p.2)))
 | .buildSlice t n ps=>some (buildSliceP P t n (ps.toList.map fun p=>(p.1,ρ p.2)))
 | .call {callee:= .builtin .len,args:=⟨[x]⟩,argTypes:=⟨[t]⟩} =>some (lenP P t (ρ x))
 | .call {callee:= .builtin .min,args:=⟨[x,y]⟩,.. } =>some (minP (ρ x) (ρ y))
 | .typeAssert x _ t false=>some (assertP P t (ρ x))
 |_=>none
section
variable {P:Program} {T:Tbl} {G:Gh} {h:AH} {w:World} {a b c:AV} {u v x:Value}
theorem binX_ok (op:BinOp) (t:TypeId) (x y:Operand) (S:Sim T G h w) (hs:(binX P op t a b).1) (ha:VR G a u) (hb:VR G b v):
  PR T G h (binX P op t a b).2 (((do eqGuard op t x y u v;binOp op t u v:Sem Value)>>=fun z=>pure (Next.value z)).run P w):=by
 unfold binX at hs⊢
 split at hs
 ·exact eqP_ok op t x y S hs ha hb
 ·exact binP_ok op t x y S hs ha hb
theorem lenP_ok {t:TypeId} (S:Sim T G h w) (hs:(lenP P t a).1) (ha:VR G a u) (ty:TypeId):PR T G h (lenP P t a).2 ((Builtin.len_ #[t] ty #[u]>>=fun z=>pure (Next.value z)).run P w):=by
 have sl:(slI P t).isSome=true→∃e,P.underlying t=some (.slice e):=fun e=>by
  obtain⟨⟨e,s,y⟩,h1⟩:=Option.isSome_iff_exists.1 e
  obtain⟨_,hu,_⟩:=slI_inv h1
  exact⟨e,hu⟩
 unfold lenP at hs⊢
 split at hs<;>try exact hs.elim
 ·obtain⟨t',rfl,h1,_⟩:=ha.str_inv
  subst h1
  refine⟨G,.int .i64 t'.data.toList.length,w,?_,Gle.refl G,S,VR.int _ _⟩
  simp[Builtin.len_,run_underlying (isStr_inv hs),goInt]
 ·obtain⟨e,hu⟩:=sl hs
  cases ha with
  |d hd=>
   obtain⟨A,c,rfl,_⟩:=hd.slc_inv
   refine⟨G,_,w,?_,Gle.refl G,S,VR.int _ _⟩
   simp[Builtin.len_,run_underlying hu,goInt]
 ·obtain⟨e,hu⟩:=sl hs
  cases ha with
  |own hd _=>
   obtain⟨A,c,rfl,_⟩:=hd.slc_inv
   refine⟨G,_,w,?_,Gle.refl G,S,VR.int _ _⟩
   simp[Builtin.len_,run_underlying hu,goInt]
 ·obtain⟨e,hu⟩:=sl hs
  cases ha
  refine⟨G,.int .i64 0,w,?_,Gle.refl G,S,VR.int _ _⟩
  simp[Builtin.len_,run_underlying hu,goInt]
 ·obtain⟨e,hu⟩:=sl hs
  cases ha
  refine⟨G,_,w,?_,Gle.refl G,S,VR.int _ _⟩
  simp[Builtin.len_,run_underlying hu,goInt]
 ·obtain⟨e,hu⟩:=sl hs
  cases ha
  refine⟨G,_,w,?_,Gle.refl G,S,VR.int _ _⟩
  simp[Builtin.len_,run_underlying hu,goInt]
 ·obtain⟨e,hu⟩:=sl hs
  cases ha
  refine⟨G,_,w,?_,Gle.refl G,S,VR.int _ _⟩
  simp[Builtin.len_,run_underlying hu,goInt]
theorem minP_ok (S:Sim T G h w) (hs:(minP a b).1) (ha:VR G a u) (hb:VR G b v) (ty:TypeId) (tys:Array TypeId):PR T G h (minP a b).2 ((Builtin.min_ tys ty #[u,v]>>=fun z=>pure (Next.value z)).run P w):=by
 unfold minP at hs⊢
 split at hs<;>try exact hs.elim
 rename_i k x k' y
 dsimp only at hs
 subst hs
 have e1:=ha.int_inv
 have e2:=hb.int_inv
 subst e1 e2
 refine⟨G,_,w,?_,Gle.refl G,S,VR.int _ _⟩
 simp[Builtin.min_,Builtin.min2]
theorem parts_ok {ρ:Operand→AV} {e:Operand→Value} {l:List (Nat×Operand)} (hv:∀x∈l.map (·.2),VR G (ρ x) (e x)):
  ∀(i:Nat) (p:Nat×AV) (q:Nat×Value),(l.map fun p=>(p.1,ρ p.2))[i]?=some p→(l.map fun p=>(p.1,e p.2))[i]?=some q→p.1=q.1∧VR G p.2 q.2:=fun i p q h1 h2=>by
 rw[List.getElem?_map] at h1 h2
 obtain⟨z,hz,rfl⟩:=Option.map_eq_some_iff.1 h1
 rw[hz] at h2
 injection h2 with h2
 subst h2
 exact⟨rfl,hv _ (List.mem_map_of_mem (List.mem_of_getElem? hz))⟩
theorem opP_ok {op:Op} {ρ:Operand→AV} {r:PV} (e:opP P op ρ h=some r) (hs:r.1) {o:Oper} (ho:o.op=op) (S:Sim T G h w) {ec:Operand→Value} (hv:∀x∈op.operands.toList,VR G (ρ x) (ec x)):
  PR T G h r.2 ((execOp ec o).run P w):=by
 unfold opP at e
 split at e
 case h_1 x=>
  injection e with e;subst e
  unfold execOp;simp only[ho]
  exact PR.pure S (hv x (by simp[Op.operands]))
 case h_2 x=>
  injection e with e;subst e
  unfold execOp;simp only[ho]
  exact PR.pure S (hv x (by simp[Op.operands]))
 case h_3 c a b=>
  injection e with e;subst e
  unfold execOp;simp only[ho]
  exact pickP_ok S hs (hv c (by simp[Op.operands])) (hv a (by simp[Op.operands])) (hv b (by simp[Op.operands]))
 case h_4 t a=>
  injection e with e;subst e
  unfold execOp;simp only[ho]
  exact loadP_ok S hs (hv a (by simp[Op.operands]))
 case h_5 x=>
  injection e with e;subst e
  exact nilP_ok S hs (hv x (by simp[Op.operands])) ho rfl
 case h_6 op t x y yt=>
  injection e with e;subst e
  unfold execOp;simp only[ho]
  exact binX_ok op t x y S hs (hv x (by simp[Op.operands])) (hv y (by simp[Op.operands]))
 case h_7 op t x=>
  injection e with e;subst e
  unfold execOp;simp only[ho]
  exact unP_ok op S hs (hv x (by simp[Op.operands]))
 case h_8 s d x=>
  injection e with e;subst e
  unfold execOp;simp only[ho]
  exact convP_ok S hs.1 hs.2 (hv x (by simp[Op.operands]))
 case h_9 t x=>
  injection e with e;subst e
  unfold execOp;simp only[ho]
  exact ifaceP_ok S hs (hv x (by simp[Op.operands]))
 case h_10 f first cap=>
  split at e
  ·rename_i hf
   injection e with e;subst e
   have hf:first= #[]:=by simpa using hf
   subst hf
   unfold execOp;simp only[ho]
   refine PR.pure S ?_
   obtain⟨cap⟩:=cap
   have:=VR.fn (G:=G) f (cap.map ρ) (cap.map ec) (by simp) (fun i a v h1 h2=>by
    rw[List.getElem?_map] at h1 h2
    obtain⟨z,hz,rfl⟩:=Option.map_eq_some_iff.1 h1
    rw[hz] at h2
    injection h2 with h2
    subst h2
    exact hv z (by
     have:=List.mem_of_getElem? hz
     simp[Op.operands]
     exact this))
   simpa[Instr.makeFunc] using this
  ·cases e
 case h_11 t x lo hi mx=>
  injection e with e;subst e
  unfold execOp;simp only[ho]
  have hopt:∀o:Option Operand,(∀y∈o.toList,y∈(Op.slice t x lo hi mx).operands.toList)→∀z,o.map ec=some z→∃a,o.map ρ=some a∧VR G a z:=fun o ho z hz=>by
   cases o with
   |none=>cases hz
   |some y=>injection hz with hz;subst hz;exact⟨_,rfl,hv y (ho y (by simp))⟩
  exact sliceP_ok S hs (hv x (by simp[Op.operands])) (hopt lo (fun y hy=>by cases lo<;>simp at hy;subst hy;simp[Op.operands])) (fun e=>by cases lo<;>simp_all) (hopt hi (fun y hy=>by cases hi<;>simp at hy;subst hy;simp[Op.operands])) (fun e=>by cases hi<;>simp_all) (hopt mx (fun y hy=>by cases mx<;>simp at hy;subst hy;simp[Op.operands])) (fun e=>by cases mx<;>simp_all)
 case h_12 t x f=>
  injection e with e;subst e
  unfold execOp;simp only[ho]
  exact fieldAddrP_ok S hs (hv x (by simp[Op.operands]))
 case h_13 t x f=>
  injection e with e;subst e
  unfold execOp;simp only[ho]
  exact fieldP_ok S hs (hv x (by simp[Op.operands]))
 case h_14 t x i=>
  injection e with e;subst e
  unfold execOp;simp only[ho]
  exact indexAddrP_ok S hs (hv x (by simp[Op.operands])) (hv i (by simp[Op.operands]))
 case h_15 t x i=>
  injection e with e;subst e
  unfold execOp;simp only[ho]
  exact indexP_ok S hs (hv x (by simp[Op.operands])) (hv i (by simp[Op.operands]))
 case h_16 x i=>
  injection e with e;subst e
  unfold execOp;simp only[ho]
  exact extractP_ok S hs (hv x (by simp[Op.operands]))
 case h_17 t ps=>
  injection e with e;subst e
  unfold execOp;simp only[ho]
  obtain⟨ps⟩:=ps
  have:=buildP_ok (qs:=ps.map fun p=>(p.1,ec p.2)) S hs (by simp) (parts_ok (fun x hx=>hv x (by simpa[Op.operands] using hx)))
  simpa using this
 case h_18 t n ps=>
  injection e with e;subst e
  unfold execOp;simp only[ho]
  obtain⟨ps⟩:=ps
  have:=buildSliceP_ok (qs:=ps.map fun p=>(p.1,ec p.2)) S hs (by simp) (parts_ok (fun x hx=>hv x (by simpa[Op.operands] using hx)))
  simpa using this
 case h_19 x t=>
  injection e with e;subst e
  unfold execOp;simp only[ho]
  have:=lenP_ok S hs (hv x (by simp[Op.operands,Call.operands])) o.type
  simpa[resolve,invoke,builtin] using this
 case h_20 x y tys=>
  injection e with e;subst e
  unfold execOp;simp only[ho]
  have:=minP_ok (P:=P) S hs (hv x (by simp[Op.operands,Call.operands])) (hv y (by simp[Op.operands,Call.operands])) o.type tys
  simpa[resolve,invoke,builtin] using this
 case h_21 x xt t=>
  injection e with e;subst e
  unfold execOp;simp only[ho]
  have hvx:=hv x (by simp[Op.operands])
  unfold assertP at hs⊢
  split at hs<;>try exact hs.elim
  rename_i t' v heq
  obtain⟨rfl,h1,h2⟩:=hs
  obtain⟨d,hu⟩:=Option.isSome_iff_exists.1 h1
  have hni:∀ms,d≠ .interface ms:=fun ms e=>by subst e;simp[isIf,hu] at h2
  rw[heq] at hvx
  generalize ec x=z at hvx
  cases hvx with
  |ifc _ hx=>
   refine⟨G,_,w,?_,Gle.refl G,S,hx⟩
   cases d<;>first|exact absurd rfl (hni _)|simp[Instr.typeAssert,run_underlying hu]
 case h_22=>cases e
end
end
section
open Go.RowKit
def putA (dst:Option Tmp) (v:AV) (sl:List AV):List AV:=
 match dst with
 |some d=>sl.set d v
 |none=>sl
theorem SlR.put {G:Gh} {sl:List AV} {act:Act} (R:SlR G sl act.tmps) {a:AV} {v:Value} (hv:VR G a v) (dst:Option Tmp):SlR G (putA dst a sl) (act.put dst v).tmps:=by
 cases dst with
 |none=>exact R
 | some d=>
  refine⟨by simp[putA,Act.put,R.1],fun i b e=>?_⟩
  simp only[putA] at e
  simp only[Act.put]
  by_cases hi:d=i
  ·subst hi
   have hlt:d<sl.length:=by
    have:=(List.getElem?_eq_some_iff.1 e).1
    simpa using this
   rw[List.getElem?_set_self hlt] at e
   injection e with e
   subst e
   exact⟨v,by rw[Array.getElem?_setIfInBounds_self_of_lt (by rw[R.1];exact hlt)],hv⟩
  ·rw[List.getElem?_set_ne hi] at e
   obtain⟨u,h1,h2⟩:=R.2 i b e
   exact⟨u,by rw[Array.getElem?_setIfInBounds_ne hi];exact h1,h2⟩
theorem put_defers (a:Act) (d:Option Tmp) (v:Value):(a.put d v).defers=a.defers:=by cases d<;>rfl
def LQ (K:List AV→AH→Prop) (X:AV→AH→Prop):AQ
 | .normal,s,h=>K s h
 | .pan p,_,h=>X p h
 |_,_,_=>False
def LV (P:Program) (T:Tbl) (ops:Array Oper) (l:List Oper) (sl:List AV) (h:AH) (K:List AV→AH→Prop) (X:AV→AH→Prop):Prop:=
 ∀(G0 G:Gh) (w:World) (a:Act) (ds:List Deferred),Gle G0 G→Sim T G h w→SlR G sl a.tmps→a.defers=ds→wpList P ops (Lift T (LQ K X) G0 ds) l a w
def AV.strip:AV→AV
 | .cnd _ a=>a
 |a=>a
def AV.okc:AV→Bool
 | .cnd g _=>g
 |_=>true
theorem VR.strip {G:Gh} {a:AV} {v:Value} (h:VR G a v) (hk:a.okc=true):VR G a.strip v:=by
 cases h with
 |cndT h=>exact h
 |cndF a=>simp[AV.okc] at hk
 |d h=>exact .d h
 |own h ht=>exact .own h ht
 |nils=>exact .nils
 |full h=>exact .full h
 |nn h=>exact .nn h
 |ptr=>exact .ptr ..
 |elt k rows i o b off val r hr hf hv=>exact .elt k rows i o b off val r hr hf hv
 |arr=>exact .arr ..
 |lar h h1=>exact .lar h h1
 |fn f cap vs hl h=>exact .fn f cap vs hl h
 |mp ht=>exact .mp ht
 |nilf=>exact .nilf
 |nilp=>exact .nilp
 |agg l vs hl h=>exact .agg l vs hl h
 |tup l vs hl h=>exact .tup l vs hl h
 |ifc t h=>exact .ifc t h
 |nili=>exact .nili
 |undef=>exact .undef
 |any v=>exact .any v
def gdA (ops:Array Oper) (sl:List AV) (j:Nat) (want:Bool):Option Bool:=
 match (ops[j]?).bind (·.dst) with
 |some d=>match sl.getD d .any with
  | .d (.bool b)=>some (b==want)
  | .cnd g (.d (.bool b))=>some (g&&(b==want))
  | .cnd false _=>some false
  | .undef=>some false
  |_=>none
 |none=>some false
def evs (T:Tbl) (sl:List AV) (x:Operand):AV:=(ev T sl x).strip
def okL (T:Tbl) (sl:List AV):List Operand→Bool
 |[]=>true
 |x::l=>(ev T sl x).okc&&okL T sl l
def opL:Op→List Operand
 | .move x| .assign x| .load _ x| .nilCheck x| .unOp _ _ x| .convert _ _ x| .makeInterface _ x| .fieldAddr _ x _| .field _ x _| .extract x _=>[x]
 | .binOp _ _ a v _| .indexAddr _ a v| .index _ a v=>[a,v]
 | .slice _ x l h m=>x::(l.toList++(h.toList++m.toList))
 | .call {callee:= .builtin .len,args:=⟨[x]⟩,.. } =>[x]
 |op=>op.operands.toList
theorem opL_mem {op:Op} {x:Operand} (h:x∈op.operands.toList):x∈opL op:=by
 unfold opL
 split<;>first
  |exact h
  |(simp[Op.operands,Call.operands] at h⊢;first|exact h|(rcases h with h|h|h|h<;>simp[h])|grind)
theorem okL_mem {T:Tbl} {sl:List AV} {x:Operand} :∀{l:List Operand},okL T sl l=true→x∈l→(ev T sl x).okc=true
 |y::l,h,hx=>by
  simp only[okL,Bool.and_eq_true] at h
  rcases List.mem_cons.1 hx with rfl|hx
  ·exact h.1
  ·exact okL_mem h.2 hx
def opG (P:Program) (op:Op) (T:Tbl) (sl:List AV) (h:AH):Option PV:=
 match op with
 | .pick c a b=>some (pickP (ev T sl c) (ev T sl a) (ev T sl b))
 |op=>match opP P op (evs T sl) h with
  |some r=>some (okL T sl (opL op)=true∧r.1,r.2)
  |none=>none
def zI (P:Program) (t:TypeId):Option (List AV):=
 match (P.info? t).bind (·.zero) with
 |some z=>if(z.cells.toList.map ofV).all AV.one=true then some (z.cells.toList.map ofV) else none
 |none=>none
inductive Eff where
 |obj (ob:Ob)
 |put (objs:List (Nat×Ob))
def stA (objs:List (Nat×Ob)) (b k i o:Nat) (cs:List AV):Option (List (Nat×Ob)):=
 match getO b objs with
 |some ob=>if ob.k=k∧o+cs.length≤k then(match ob.rows[i]? with
  |some (a::r)=>some (setO b ⟨ob.k,ob.c,ob.rows.set i ((a::r).take o++(cs++(a::r).drop (o+cs.length)))⟩ objs)
  |_=>none) else none
 |none=>none
def effP (P:Program) (op:Op) (ρ:Operand→AV) (h:AH):Option Eff:=
 match op with
 | .alloc t=>match zI P t with
  |some z=>some (.obj ⟨z.length,1,[z]⟩)
  |none=>none
 | .box _ x=>if(ρ x).plain=true then some (.obj ⟨(ρ x).cells.length,1,[(ρ x).cells]⟩) else none
 | .store t a v=>match ρ a,tyI P t with
  | .ptr b k i o,some (_,n)=>if(ρ v).plain=true∧(ρ v).cells.length=n then(match stA h.objs b k i o (ρ v).cells with
   |some objs=>some (.put objs)
   |none=>none) else none
  |_,_=>none
 |_=>none
def freshL (b:Nat):List (Nat×Ob)→Prop
 |[]=>True
 |p::r=>((p.1==b)=false∧(b==p.1)=false)∧freshL b r
def effK (cp:Bool) (o:Oper):Bool:=
 match o.guard with
 |some _=>false
 |none=>match o.op with
  | .alloc _| .box .. | .store .. | .panic _| .defer _| .go _| .makeMap .. | .mapUpdate .. | .makeSlice .. =>true
  | .call {callee:= .value _,.. } =>!cp
  | .buildSlice _ _ ps=>!cp&&!(!ps.isEmpty&&ps.all fun p=>match p.2 with| .const _=>true|_=>false)
  | .call {callee:= .builtin .len,.. } =>false
  | .call {callee:= .builtin .min,.. } =>false
  | .call _=>true
  |_=>false
def hiK (o:Oper):Bool:=
 match o.op with
 | .load .. | .lookup .. =>false
 |_=>true
def AYv (P:Program) (T:Tbl) (o:Oper) (ρ:Operand→AV) (h:AH) (v:AV):Prop:=
 ∀(G:Gh) (w:World) (a:Act),Sim T G h w→(∀x∈o.op.operands.toList,VR G (ρ x) (a.eval x))→∀(Kc:Act→World→Prop) (Q:Exit→Act→World→Prop),
  (∀G' u w',Gle G G'→Sim T G' h w'→VR G' v u→Kc (a.put o.dst u) w')→o.wp P a w Kc Q
def Yg (P:Program) (T:Tbl) (ops:Array Oper) (o:Oper) (v:AV) (sl:List AV) (h:AH):Prop:=
 match o.guard with
 |none=>AYv P T o (ev T sl) h v
 |some g=> ∃t v0,gdA ops sl g.1 g.2=some t∧v= .cnd t v0∧(t=true→AYv P T o (ev T sl) h v0)
def ESt (P:Program) (T:Tbl) (o:Oper) (sl:List AV) (h:AH) (N:AV→AH→Prop) (X:AV→AH→Prop):Prop:=
 o.guard=none∧∀(G:Gh) (w:World) (a:Act),Sim T G h w→(∀x∈o.op.operands.toList,VR G (ev T sl x) (a.eval x))→∀(Kc:Act→World→Prop) (Q:Exit→Act→World→Prop),
  (∀r h' G' u w',N r h'→Gle G G'→Sim T G' h' w'→VR G' r u→Kc (a.put o.dst u) w')→
  (∀p h' G' u w',X p h'→Gle G G'→Sim T G' h' w'→VR G' p u→Q (.panic [{v:=u,recovered:=false }]) a w')→o.wp P a w Kc Q
def DW (P:Program) (T:Tbl) (cp:Bool) (ops:Array Oper):List Oper→List AV→AH→(List AV→AH→Prop)→(AV→AH→Prop)→Prop
 |[],sl,h,K,X=>K sl h
 |o::rest,sl,h,K,X=>if effK cp o=true then ESt P T o sl h (fun r h'=>DW P T cp ops rest (putA o.dst r sl) h' K X) X
  else∃v,Yg P T ops o v sl h∧(hiK o=true→∀h',Yg P T ops o v sl h')∧DW P T cp ops rest (putA o.dst v sl) h K X
def lvc (P:Program) (T:Tbl) (cp:Bool) (ops:Array Oper):List Oper→List AV→AH→(List AV→AH→Prop)→(AV→AH→Prop)→Prop
 |[],sl,h,K,X=>K sl h
 | o::rest,sl,h,K,X=>match o.guard with
  | none=>match opP P o.op (ev T sl) h with
   |some r=>r.1∧lvc P T cp ops rest (putA o.dst r.2 sl) h K X
   |none=>match effP P o.op (ev T sl) h with
    |some (.obj ob)=> ∀b,freshL b h.objs→lvc P T cp ops rest (putA o.dst (.ptr b ob.k 0 0) sl) ⟨(b,ob)::h.objs,h.live⟩ K X
    |some (.put objs)=>lvc P T cp ops rest (putA o.dst .undef sl) ⟨objs,h.live⟩ K X
    |none=>DW P T cp ops (o::rest) sl h K X
  | some g=>match gdA ops sl g.1 g.2 with
   |some t=>match opG P o.op T sl h with
    |some r=>(t=true→r.1)∧lvc P T cp ops rest (putA o.dst (.cnd t r.2) sl) h K X
    |none=>DW P T cp ops (o::rest) sl h K X
   |none=>False
section
variable {P:Program} {T:Tbl} {G:Gh} {h:AH} {w:World} {sl:List AV} {ops:Array Oper} {rest:List Oper} {o:Oper} {K:List AV→AH→Prop} {X:AV→AH→Prop}
theorem fresh_new:∀{l:List (Nat×Ob)} {n:Nat},(∀p∈l,p.1<n)→freshL n l
 |[],_,_=>trivial
 |p::r,n,h=>by
  have:=h p (List.mem_cons_self ..)
  exact⟨⟨by simp;omega,by simp;omega⟩,fresh_new fun q hq=>h q (List.mem_cons_of_mem _ hq)⟩
theorem one_row {cs:List AV} {vs:List Value} (hc:CellsR G cs vs) (h1:∀a∈cs,a.one=true):∀(i:Nat) (r:List AV) (j:Nat) (a:AV),[cs][i]?=some r→r[j]?=some a→a.one=true∧∃v,vs.toArray[i*cs.length+j]?=some v∧VR G a v:=fun i r j a e1 e2=>by
 cases i with
 |succ i=>simp at e1
 |zero=>
  simp at e1
  subst e1
  refine⟨h1 a (List.mem_of_getElem? e2),?_⟩
  have hj:j<vs.length:=by rw[hc.1];exact(List.getElem?_eq_some_iff.1 e2).1
  exact⟨vs[j],by simp[hj],hc.2 j a _ e2 (List.getElem?_eq_getElem hj)⟩
theorem plain_one {a:AV} (h:a.plain=true):∀x∈a.cells,x.one=true:=by
 cases a<;>simp only[AV.plain,AV.cells] at h⊢ <;>first
  |exact List.all_eq_true.1 h
  |(intro x hx;rw[List.mem_singleton.1 hx];exact h)
theorem store_ok (S:Sim T G h w) {t b k i o n:Nat} {r:Bool} {a:AV} {v:Value} {objs:List (Nat×Ob)} (ht:tyI P t=some (r,n)) (hp:a.plain=true) (hn:a.cells.length=n) (hv:VR G a v)
  (e:stA h.objs b k i o a.cells=some objs):∃w',(Instr.storeAt t (.pointer (some ⟨b,i*k+o,none⟩)) v).run P w= .ok () w'∧Sim T G ⟨objs,h.live⟩ w':=by
 unfold stA at e
 split at e<;>try(cases e;done)
 rename_i ob hg
 split at e<;>try(cases e;done)
 rename_i hc
 obtain⟨rfl,hfit⟩:=hc
 split at e<;>try(cases e;done)
 rename_i a0 r0 hr
 generalize hr0:a0::r0=row at hr e
 injection e with e
 subst e
 have hO:=S.obj _ (getO_mem hg)
 have hfits:ob.rows.length≤ob.c:=hO.fits
 obtain⟨vs,ty,fz,hh,hs,hz,hm⟩:=hO.mem
 dsimp only at hs hm
 have hcells:=hv.cells hp
 have hi:i<ob.rows.length:=(List.getElem?_eq_some_iff.1 hr).1
 have hrow:row.length=ob.k:=(hO.lenk row (List.mem_of_getElem? hr)).resolve_right (by rw[←hr0];simp)
 have hik:i*ob.k+ob.k≤vs.size:=by
  rw[hs,←Nat.succ_mul]
  exact Nat.mul_le_mul_right _ (by omega)
 have hlen:v.cells.toList.length=n:=by rw[hcells.1,hn]
 have hrun:=run_store_av (P:=P) (w:=w) (o:=i*ob.k+o) ht (v:=v) rfl hlen (fun u hu=>by
  obtain⟨j,hj,rfl⟩:=List.getElem_of_mem hu
  have hj':j<a.cells.length:=by rw[←hcells.1];exact hj
  exact(hcells.2 j _ _ (List.getElem?_eq_getElem hj') (List.getElem?_eq_getElem hj)).one (plain_one hp _ (List.getElem_mem hj'))) hh hz (by omega)
 obtain⟨vs',h1,h2,h3⟩:=setCells_heap b v.cells.toList (i*ob.k+o) w vs ty fz hh
 have hnewlen:(row.take o++(a.cells++row.drop (o+a.cells.length))).length=ob.k:=by simp;omega
 refine⟨_,hrun,S.write hg (setCells_wrote b _ _ w) (fun o' u hu=>?_) ⟨hO.low,fun i' r' j hr' hj=>?_,by simpa using hO.rest,fun r' hr'=>?_,by simpa using hO.fits,hO.cmax,vs',ty,fz,h1,by rw[h2];exact hs,by rw[h2];exact hz,fun i' r' j a' e1 e2=>?_⟩⟩
 ·rw[cell_of_row _ _ _ vs' ty fz h1,cell_of_row _ _ _ vs ty fz hh]
  rcases Nat.lt_or_ge o' vs.size with hlt|hge
  ·rw[h3 o' hlt,if_neg]
   rintro⟨g1,g2⟩
   have:=hO.free i row (o'-i*ob.k) hr (by omega)
   rw[show i*ob.k+(o'-i*ob.k)=o' by omega,hu] at this
   cases this
  ·rw[Array.getElem?_eq_none (by omega),Array.getElem?_eq_none hge]
 ·dsimp only at hr'⊢
  by_cases hii:i=i'
  ·subst hii
   rw[List.getElem?_set_self hi] at hr'
   injection hr' with hr'
   exact hO.free i row j hr (by rw[←hr',hnewlen] at hj;omega)
  ·rw[List.getElem?_set_ne hii] at hr'
   exact hO.free i' r' j hr' hj
 ·rcases List.mem_or_eq_of_mem_set hr' with hr'|rfl
  ·exact hO.lenk r' hr'
  ·exact .inl hnewlen
 ·dsimp only at e1 e2⊢
  have hi':i'<ob.rows.length:=by
   have:=(List.getElem?_eq_some_iff.1 e1).1
   simpa using this
  have hlt:i'*ob.k+ob.k≤vs.size:=by
   rw[hs,←Nat.succ_mul]
   exact Nat.mul_le_mul_right _ (by omega)
  by_cases hii:i=i'
  ·subst hii
   rw[List.getElem?_set_self hi] at e1
   injection e1 with e1
   subst e1
   have hj:j<ob.k:=by rw[←hnewlen];exact(List.getElem?_eq_some_iff.1 e2).1
   rw[h3 _ (by omega)]
   rcases Nat.lt_or_ge j o with hjo|hjo
   ·rw[if_neg (by omega)]
    rw[List.getElem?_append_left (by simp;omega),List.getElem?_take_of_lt hjo] at e2
    exact hm i row j a' hr e2
   ·rw[List.getElem?_append_right (by simp;omega)] at e2
    have hto:(row.take o).length=o:=by simp;omega
    rw[hto] at e2
    rcases Nat.lt_or_ge (j-o) a.cells.length with hjn|hjn
    ·rw[if_pos (by omega)]
     rw[List.getElem?_append_left hjn] at e2
     have e3:v.cells.toList[j-o]?=some (v.cells.toList[j-o]'(by omega)):=List.getElem?_eq_getElem _
     refine⟨plain_one hp _ (List.mem_of_getElem? e2),_,?_,hcells.2 _ _ _ e2 e3⟩
     rw[show i*ob.k+j-(i*ob.k+o)=j-o by omega]
     exact e3
    ·rw[if_neg (by omega)]
     rw[List.getElem?_append_right hjn,List.getElem?_drop] at e2
     have:o+a.cells.length+(j-o-a.cells.length)=j:=by omega
     rw[this] at e2
     exact hm i row j a' hr e2
  ·rw[List.getElem?_set_ne hii] at e1
   have hj:j<ob.k:=by
    have hj0:=(List.getElem?_eq_some_iff.1 e2).1
    rcases hO.lenk r' (List.mem_of_getElem? e1) with hl|hl
    ·rw[←hl];exact hj0
    ·rw[hl] at hj0;simp at hj0
   rw[h3 _ (by omega),if_neg]
   ·exact hm i' r' j a' e1 e2
   ·rintro⟨g1,g2⟩
    have ho:o+n≤ob.k:=by omega
    rcases Nat.lt_or_ge i' i with hlt2|hge
    ·have:(i'+1)*ob.k≤i*ob.k:=Nat.mul_le_mul_right _ (by omega)
     rw[Nat.succ_mul] at this
     omega
    ·have:(i+1)*ob.k≤i'*ob.k:=Nat.mul_le_mul_right _ (by omega)
     rw[Nat.succ_mul] at this
     omega
theorem gdA_ok {a:Act} (R:SlR G sl a.tmps) {j:Nat} {want t:Bool} (e:gdA ops sl j want=some t) (hg:o.guard=some (j,want)):Region.wanted o (yielded ops a.tmps)=t:=by
 unfold Region.wanted
 rw[hg]
 dsimp only
 unfold yielded
 unfold gdA at e
 split at e
 ·rename_i d hd
  rw[hd]
  simp only[Option.bind_some,List.getD] at e⊢
  cases hs:sl[d]? with
  |none=>simp[hs] at e
  | some x=>
   obtain⟨v,h1,h2⟩:=R.2 d x hs
   rw[h1]
   rw[hs,Option.getD_some] at e
   split at e
   ·injection e with e
    subst e
    rw[h2.bool_inv]
    dsimp only
    cases want<;>rename_i b<;>cases b<;>rfl
   ·rename_i g b
    injection e with e
    subst e
    cases h2 with
    |cndT h2=>rw[h2.bool_inv];cases want<;>cases b<;>rfl
    |cndF=>cases want<;>rfl
   ·injection e with e
    subst e
    cases h2
    cases want<;>rfl
   ·injection e with e
    subst e
    cases h2
    cases want<;>rfl
   ·cases e
 ·rename_i hd
  injection e with e
  subst e
  rw[hd]
  cases want<;>rfl
theorem opP_hi {op:Op} {ρ:Operand→AV} {h h':AH} (hl:∀t a,op≠ .load t a):opP P op ρ h=opP P op ρ h':=by
 cases op<;>first|rfl|exact absurd rfl (hl _ _)|(unfold opP;split<;>first|rfl|(rename_i e;cases e))
theorem hiK_load {o:Oper} (h:hiK o=true):∀t a,o.op≠ .load t a:=fun t a e=>by
 unfold hiK at h
 rw[e] at h
 cases h
theorem AYv.of_opP {ρ:Operand→AV} {r:PV} (he:opP P o.op ρ h=some r) (hs:r.1):AYv P T o ρ h r.2:=by
 intro G w a S hv Kc Q hK
 obtain⟨G',v,w',hrun,hG',S',hv'⟩:=opP_ok he hs rfl S hv
 unfold Oper.wp
 rw[hrun]
 exact hK G' v w' hG' S' hv'
theorem DW.val {cp:Bool} {r:PV} (hg:o.guard=none) (he:opP P o.op (ev T sl) h=some r) (hs:r.1) (k:DW P T cp ops rest (putA o.dst r.2 sl) h K X):DW P T cp ops (o::rest) sl h K X:=by
 unfold DW
 by_cases hb:effK cp o=true
 ·rw[if_pos hb]
  exact⟨hg,fun G w a S hv Kc Q hK _=>AYv.of_opP he hs G w a S hv Kc Q fun G' u w' h1 h2 h3=>hK r.2 h G' u w' k h1 h2 h3⟩
 rw[if_neg hb]
 refine⟨r.2,?_,fun hh h'=>?_,k⟩
 ·unfold Yg;rw[hg];exact AYv.of_opP he hs
 ·unfold Yg;rw[hg];exact AYv.of_opP (h:=h') (by rw[←he];exact opP_hi (hiK_load hh)) hs
theorem AYv.of_opG {r:PV} (he:opG P o.op T sl h=some r) (hs:r.1):AYv P T o (ev T sl) h r.2:=by
 unfold opG at he
 split at he
 ·rename_i c x y ho
  injection he with he
  subst he
  exact AYv.of_opP (by rw[ho];rfl) hs
 ·split at he
  ·rename_i q hq
   injection he with he
   subst he
   intro G w a S hv Kc Q hK
   obtain⟨G',v,w',hrun,hG',S',hv'⟩:=opP_ok hq hs.2 rfl S (ec:=a.eval) (fun x hx=>(hv x hx).strip (okL_mem hs.1 (opL_mem hx)))
   unfold Oper.wp
   rw[hrun]
   exact hK G' v w' hG' S' hv'
  ·cases he
theorem opG_hi {op:Op} {h h':AH} (hl:∀t a,op≠ .load t a):opG P op T sl h=opG P op T sl h':=by
 unfold opG
 split
 ·rfl
 ·rw[opP_hi (h':=h') hl]
theorem DW.valG {cp:Bool} {r:PV} {g:Nat×Bool} {t:Bool} (hg:o.guard=some g) (ht:gdA ops sl g.1 g.2=some t) (he:opG P o.op T sl h=some r) (hs:t=true→r.1) (k:DW P T cp ops rest (putA o.dst (.cnd t r.2) sl) h K X):DW P T cp ops (o::rest) sl h K X:=by
 unfold DW
 rw[if_neg (by unfold effK;rw[hg];simp)]
 refine⟨.cnd t r.2,?_,fun hh h'=>?_,k⟩
 ·unfold Yg;rw[hg];exact⟨t,r.2,ht,rfl,fun e=>AYv.of_opG he (hs e)⟩
 ·unfold Yg;rw[hg];exact⟨t,r.2,ht,rfl,fun e=>AYv.of_opG (h:=h') (by rw[←he];exact opG_hi (hiK_load hh)) (hs e)⟩
theorem effP_eff {cp:Bool} {e:Eff} (hg:o.guard=none) (he:effP P o.op (ev T sl) h=some e):effK cp o=true:=by
 unfold effK
 rw[hg]
 dsimp only
 unfold effP at he
 split at he<;>first|(rename_i e;rw[e];done)|skip
 all_goals first|(cases he;done)|(rename_i e;rw[e])
theorem ESt.eff {e:Eff} {N:AV→AH→Prop} (hg:o.guard=none) (he:effP P o.op (ev T sl) h=some e)
  (k:match e with
   | .obj ob=> ∀b,freshL b h.objs→N (.ptr b ob.k 0 0) ⟨(b,ob)::h.objs,h.live⟩
   | .put objs=>N .undef ⟨objs,h.live⟩):ESt P T o sl h N X:=by
 refine⟨hg,fun G w a S hv Kc Q hK _=>?_⟩
 have newobj:∀(cs:List AV) (vs:List Value) (ty:TypeId),CellsR G cs vs→(∀x∈cs,x.one=true)→Sim T G ⟨(w.heap.size,⟨cs.length,1,[cs]⟩)::h.objs,h.live⟩ (w.alloc (.cells vs.toArray ty)):=fun cs vs ty hc h1=>
  S.alloc ⟨cs.length,1,[cs]⟩ vs.toArray ty (0,0) (by simp) (by simp) (by show 1≤maxLen;decide) (by simp[hc.1]) (fun o _=>by simp) (one_row hc h1)
 unfold effP at he
 split at he
 ·rename_i t ho
  split at he<;>try(cases he;done)
  rename_i z hz
  injection he with he
  subst he
  unfold zI at hz
  split at hz<;>try(cases hz;done)
  rename_i zv hzv
  split at hz<;>try(cases hz;done)
  rename_i hone
  injection hz with hz
  subst hz
  obtain⟨i,hi,hiz⟩:=Option.bind_eq_some_iff.1 hzv
  have S':=newobj (zv.cells.toList.map ofV) zv.cells.toList t (ofV_cells _) (List.all_eq_true.1 hone)
  have hrun:(execOp a.eval o).run P w= .ok (.value (.pointer (some ⟨w.heap.size,0,none⟩))) (w.alloc (.cells zv.cells t)):=by
   unfold execOp
   simp only[ho]
   simp[Instr.alloc,zeroValue,typeInfo,hi,hiz,newVar,newRow,newObj,Sem.run,program]
  unfold Oper.wp
  rw[hrun]
  have hptr:=VR.ptr (G:=G) w.heap.size (zv.cells.toList.map ofV).length 0 0
  simp only[Nat.zero_mul,Nat.add_zero] at hptr
  exact hK _ _ G _ _ (k w.heap.size (fresh_new S.fresh)) (Gle.refl G) (by simpa using S') hptr
 ·rename_i t x ho
  split at he<;>try(cases he;done)
  rename_i hp
  injection he with he
  subst he
  have hv:=hv x (by simp[ho,Op.operands])
  have hc:=hv.cells hp
  have S':=newobj _ _ t hc (plain_one hp)
  have hrun:(execOp a.eval o).run P w= .ok (.value (.pointer (some ⟨w.heap.size,0,none⟩))) (w.alloc (.cells (a.eval x).cells t)):=by
   unfold execOp
   simp only[ho]
   simp[Instr.box,newVar,newRow,newObj,Sem.run]
  unfold Oper.wp
  rw[hrun]
  have hptr:=VR.ptr (G:=G) w.heap.size (ev T sl x).cells.length 0 0
  simp only[Nat.zero_mul,Nat.add_zero] at hptr
  exact hK _ _ G _ _ (k w.heap.size (fresh_new S.fresh)) (Gle.refl G) (by simpa using S') hptr
 ·rename_i t ad v ho
  split at he<;>try(cases he;done)
  rename_i b kk i off r n hptr hty
  split at he<;>try(cases he;done)
  rename_i hc
  split at he<;>try(cases he;done)
  rename_i objs hst
  injection he with he
  subst he
  obtain⟨w',hrun,S'⟩:=store_ok S hty hc.1 hc.2 (hv v (by simp[ho,Op.operands])) hst
  have had:=hv ad (by simp[ho,Op.operands])
  rw[hptr] at had
  have had:a.eval ad= .pointer (some ⟨b,i*kk+off,none⟩):=by
   generalize a.eval ad=z at had
   cases had
   rfl
  have hrun':(execOp a.eval o).run P w= .ok .skip w':=by
   unfold execOp
   simp only[ho,had,Sem.run_bind,hrun,Result.andThen_ok,Sem.run_pure]
  unfold Oper.wp
  rw[hrun']
  exact hK _ _ G Go.undef w' k (Gle.refl G) S' .undef
 ·cases he
theorem lvc_ok {cp:Bool} :∀(l:List Oper) (sl:List AV) (h:AH),lvc P T cp ops l sl h K X→DW P T cp ops l sl h K X
 |[],sl,h,H=>H
 | o::rest,sl,h,H=>by
  unfold lvc at H
  split at H
  ·rename_i hg
   split at H
   ·rename_i r hr
    exact DW.val hg hr H.1 (lvc_ok rest _ _ H.2)
   ·split at H
    ·rename_i ob he
     unfold DW
     rw[if_pos (effP_eff hg he)]
     exact ESt.eff hg he fun b hb=>lvc_ok rest _ _ (H b hb)
    ·rename_i objs he
     unfold DW
     rw[if_pos (effP_eff hg he)]
     exact ESt.eff hg he (lvc_ok rest _ _ H)
    ·exact H
  ·rename_i g hg
   split at H
   ·rename_i t ht
    split at H
    ·rename_i r hr
     exact DW.valG hg ht hr H.1 (lvc_ok rest _ _ H.2)
    ·exact H
   ·exact H.elim
theorem Yg.run {v:AV} (hy:Yg P T ops o v sl h) {G:Gh} {w:World} {a:Act} (S:Sim T G h w) (R:SlR G sl a.tmps) {Kc:Act→World→Prop} {Q:Exit→Act→World→Prop}
  (hK:∀G' u w',Gle G G'→Sim T G' h w'→VR G' v u→Kc (a.put o.dst u) w'):if Region.wanted o (yielded ops a.tmps)=true then o.wp P a w Kc Q else Kc (a.put o.dst Go.undef) w:=by
 unfold Yg at hy
 split at hy
 ·rename_i hg
  rw[if_pos (by simp[Region.wanted,hg])]
  exact hy G w a S (fun x _=>ev_ok S R x) Kc Q hK
 ·rename_i g hg
  obtain⟨t,v0,ht,rfl,hv⟩:=hy
  rw[gdA_ok R ht hg]
  cases t with
  |true=>
   rw[if_pos rfl]
   exact hv rfl G w a S (fun x _=>ev_ok S R x) Kc Q fun G' u w' h1 h2 h3=>hK G' u w' h1 h2 (.cndT h3)
  |false=>
   rw[if_neg (by simp)]
   exact hK G _ w (Gle.refl G) S (.cndF _)
theorem DW.list {cp:Bool} :∀(l:List Oper) (sl:List AV) (h:AH),DW P T cp ops l sl h K X→LV P T ops l sl h K X
 |[],sl,h,H=>fun G0 G w a ds hG S R hd=>⟨hd,.normal,sl,h,G,H,trivial,hG,S,R⟩
 | o::rest,sl,h,H=>by
  intro G0 G w a ds hG S R hd
  unfold DW at H
  split at H
  ·obtain⟨hg,H⟩:=H
   refine wpList_plain hg fun K' hK'=>H G w a S (fun x _=>ev_ok S R x) K' _ (fun r h' G' u w' hr hG' S' hu=>?_) (fun p h' G' u w' hp hG' S' hu=>?_)
   ·exact hK' _ _ (DW.list rest _ _ hr G0 G' w' _ ds (hG.trans hG') S' ((R.mono hG').put hu o.dst) (by rw[put_defers];exact hd))
   ·exact⟨hd,.pan p,sl,h',G',hp,⟨u,rfl,hu⟩,hG.trans hG',S',R.mono hG'⟩
  ·obtain⟨v,hy,_,hr⟩:=H
   refine wpList_step fun K' hK'=>hy.run S R fun G' u w' hG' S' hu=>?_
   exact hK' _ _ (DW.list rest _ _ hr G0 G' w' _ ds (hG.trans hG') S' ((R.mono hG').put hu o.dst) (by rw[put_defers];exact hd))
theorem AWp.of_lift {c:Code} {Q:AQ} (H:∀(G:Gh) (w:World) (a:Act),Sim T G h w→SlR G sl a.tmps→c.wp P (Lift T (LQ (fun s h=>Q .normal s h) (fun p h=> ∀s,Q (.pan p) s h)) G a.defers) a w):AWp P T c Q sl h:=by
 intro G w a S R
 refine wp_mono (H G w a S R) ?_
 rintro e a' w' ⟨hd,x,s,h',G',hq,hx,hG,S',R'⟩
 cases x with
 |normal=>exact⟨hd,.normal,s,h',G',hq,hx,hG,S',R'⟩
 |pan p=>exact⟨hd,.pan p,s,h',G',hq s,hx,hG,S',R'⟩
 |exit i=>exact hq.elim
 |ret=>exact hq.elim
theorem AWp.reg {id:Nat} {l:List Oper} {Q:AQ} (H:lvc P T false l.toArray l sl h (fun s h=>Q .normal s h) (fun p h=> ∀s,Q (.pan p) s h)):AWp P T (.region id l.toArray false) Q sl h:=
 AWp.of_lift fun G w a S R=>wp_region_lit (DW.list l sl h (lvc_ok l sl h H) G G w a a.defers (Gle.refl G) S R rfl)
theorem AWp.rs {id:Nat} {l:List Oper} {y:Code} {Q:AQ} (H:∀K:List AV→AH→Prop,(∀s h,AWp P T y Q s h→K s h)→lvc P T false l.toArray l sl h K (fun p h=> ∀s,Q (.pan p) s h)):AWp P T (.seq (.region id l.toArray false) y) Q sl h:=
 AWp.seq fun K hK=>AWp.reg (H K hK)
structure PC (P:Program) (T:Tbl) (f:FuncId) (args:List AV) (r:AV):Prop where
 call:∀az w,(callFunc f az).run P w= .ok (.enter f az) w
 run:PCall P T f args r
structure AC (P:Program) (T:Tbl) (f:FuncId) (args:List AV) (h:AH) (R:AR→AH→Prop):Prop where
 call:∀az w,(callFunc f az).run P w= .ok (.enter f az) w
 run:ACalls P T f args h R
theorem run_call {c:Call} {fo:Operand} {f:FuncId} {cap:List AV} {ρ:Operand→AV} {a:Act} (ho:o.op= .call c) (hc:c.callee= .value fo) (hf:ρ fo= .fn f cap) (hv:∀x∈o.op.operands.toList,VR G (ρ x) (a.eval x))
  (hcall:∀az w,(callFunc f az).run P w= .ok (.enter f az) w):∃vs:Array Value,(execOp a.eval o).run P w= .ok (.enter f vs) w∧SlR G (c.args.toList.map ρ++cap) vs:=by
 have hv':=hv fo (by simp[ho,Op.operands,Call.operands,hc])
 rw[hf] at hv'
 generalize hz:a.eval fo=z at hv'
 cases hv' with
 | fn _ _ us hl hcap=>
  refine⟨c.args.map a.eval++us.toArray,?_,by simp[hl],fun i x e=>?_⟩
  ·unfold execOp
   simp only[ho,resolve,hc,hz,Deferred.ofValue]
   simp[invoke,hcall]
  ·rcases Nat.lt_or_ge i c.args.size with hi|hi
   ·rw[List.getElem?_append_left (by simpa using hi),List.getElem?_map] at e
    obtain⟨q,hq,rfl⟩:=Option.map_eq_some_iff.1 e
    refine⟨a.eval q,?_,hv q (by
     have:=List.mem_of_getElem? hq
     simp[ho,Op.operands,Call.operands,hc]
     exact .inr (by simpa using this))⟩
    rw[Array.getElem?_append_left (by simpa using hi),Array.getElem?_map]
    rw[Array.getElem?_toList] at hq
    rw[hq]
    rfl
   ·rw[List.getElem?_append_right (by simpa using hi)] at e
    simp only[List.length_map,Array.length_toList] at e
    have hlt:i-c.args.size<us.length:=by rw[hl];exact(List.getElem?_eq_some_iff.1 e).1
    refine⟨us[i-c.args.size],?_,hcap _ _ _ e (List.getElem?_eq_getElem hlt)⟩
    rw[Array.getElem?_append_right (by simpa using hi)]
    simp[hlt]
theorem ESt.ac {c:Call} {fo:Operand} {f:FuncId} {cap:List AV} {R:AR→AH→Prop} {N:AV→AH→Prop} (ho:o.op= .call c) (hg:o.guard=none) (hc:c.callee= .value fo) (hf:ev T sl fo= .fn f cap)
  (C:AC P T f (c.args.toList.map (ev T sl)++cap) h R)
  (k:∀x h',R x h'→match x with
   | .ret r=>N r h'
   | .pan p=>X p h'):ESt P T o sl h N X:=by
 refine⟨hg,fun G w a S hv Kc Q hK hX=>?_⟩
 obtain⟨vs,hrun,hvs⟩:=run_call ho hc hf (a:=a) hv C.call
 unfold Oper.wp
 rw[hrun]
 refine(C.run G w vs S hvs).mono ?_
 rintro e w' ⟨x,h',G',hR,hG',S',hx⟩
 have hk:=k x h' hR
 cases x with
 |ret r=>
  obtain⟨v,rfl,hv⟩:=hx
  exact hK r h' G' v w' hk hG' S' hv
 |pan p=>
  obtain⟨v,rfl,hv⟩:=hx
  exact hX p h' G' v w' hk hG' S' hv
theorem effK_call {c:Call} {fo:Operand} (ho:o.op= .call c) (hg:o.guard=none) (hc:c.callee= .value fo) (cp:Bool):effK cp o=!cp:=by
 unfold effK
 rw[hg,ho]
 obtain⟨ca,ar,at_⟩:=c
 dsimp only at hc
 subst hc
 rfl
theorem AYv.pc {c:Call} {fo:Operand} {f:FuncId} {cap args:List AV} {r:AV} {ρ:Operand→AV} (ho:o.op= .call c) (hc:c.callee= .value fo) (hf:ρ fo= .fn f cap)
  (C:PC P T f args r) (ha:LeL false (c.args.toList.map ρ++cap) args):AYv P T o ρ h r:=by
 intro G w a S hv Kc Q hK
 obtain⟨vs,hrun,hvs⟩:=run_call ho hc hf (a:=a) hv C.call
 unfold Oper.wp
 rw[hrun]
 refine((C.run.acalls (h:=h) ha) G w vs S hvs).mono ?_
 rintro e w' ⟨x,h',G',⟨rfl,rfl,_⟩,hG',S',v,rfl,hv⟩
 exact hK G' v w' hG' S' hv
theorem DW.pc {cp:Bool} {c:Call} {fo:Operand} {f:FuncId} {cap args:List AV} {r:AV} (ho:o.op= .call c) (hg:o.guard=none) (hc:c.callee= .value fo) (hf:ev T sl fo= .fn f cap)
  (C:PC P T f args r) (ha:LeL false (c.args.toList.map (ev T sl)++cap) args) (k:lvc P T cp ops rest (putA o.dst r sl) h K X):DW P T cp ops (o::rest) sl h K X:=by
 have hy:∀h,AYv P T o (ev T sl) h r:=fun h=>AYv.pc ho hc hf C ha
 unfold DW
 rw[effK_call ho hg hc cp]
 cases cp with
 |true=>
  rw[if_neg (by simp)]
  exact⟨r,by unfold Yg;rw[hg];exact hy h,fun _ h'=>by unfold Yg;rw[hg];exact hy h',lvc_ok rest _ _ k⟩
 |false=>
  rw[if_pos (by rfl)]
  exact⟨hg,fun G w a S hv Kc Q hK _=>hy h G w a S hv Kc Q fun G' u w' h1 h2 h3=>hK r h G' u w' (lvc_ok rest _ _ k) h1 h2 h3⟩
theorem DW.pcg {cp:Bool} {c:Call} {fo:Operand} {f:FuncId} {cap args:List AV} {r:AV} {g:Nat×Bool} {t:Bool} (ho:o.op= .call c) (hg:o.guard=some g) (ht:gdA ops sl g.1 g.2=some t) (hc:c.callee= .value fo) (hf:evs T sl fo= .fn f cap)
  (C:t=true→PC P T f args r) (hok:t=true→okL T sl (fo::c.args.toList)=true) (ha:LeL false (c.args.toList.map (evs T sl)++cap) args) (k:lvc P T cp ops rest (putA o.dst (.cnd t r) sl) h K X):DW P T cp ops (o::rest) sl h K X:=by
 have hy:t=true→∀h,AYv P T o (ev T sl) h r:=fun e h=>by
  intro G w a S hv Kc Q hK
  refine(AYv.pc (h:=h) (ρ:=evs T sl) ho hc hf (C e) ha) G w a S (fun x hx=>(hv x hx).strip (okL_mem (hok e) ?_)) Kc Q hK
  rw[ho] at hx
  simpa[Op.operands,Call.operands,hc] using hx
 unfold DW
 rw[if_neg (by unfold effK;rw[hg];simp)]
 exact⟨.cnd t r,by unfold Yg;rw[hg];exact⟨t,r,ht,rfl,fun e=>hy e h⟩,fun _ h'=>by unfold Yg;rw[hg];exact⟨t,r,ht,rfl,fun e=>hy e h'⟩,lvc_ok rest _ _ k⟩
end
end
end Go.Proofs.YtidldcfpmehpiaaGreatDoor
