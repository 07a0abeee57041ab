/- Texts that the law DeliverDelivers rests on, packed. -/
import Derived.Test.YtidldcfpmehpiaaGreatDoorGD
import Derived.Test.YtidldcfpmehpiaaGreatDoorDeliverDeliversK0
import Derived.Test.YtidldcfpmehpiaaGreatDoorShelfS
import Derived.Test.YtidldcfpmehpiaaGreatDoorGB
import Derived.Test.YtidldcfpmehpiaaGreatDoorGT
import Derived.Test.YtidldcfpmehpiaaGreatDoorGC
set_option linter.unusedSimpArgs false
set_option linter.unusedVariables false
set_option maxRecDepth 20000
set_option maxHeartbeats 4000000
namespace Go.Proofs.YtidldcfpmehpiaaGreatDoor
open _root_.Go.Proofs.Tryz _root_.Go.Proofs.YtidldcfpmehpiaaGreatDoor.Tryz
section
open Go.RowKit
open Go.ChangeShapes Go.WideShapes Go.ChangeAt
mutual
def Vy:AM->Nat
 | .mk _ _ _ n k _ _ l=>(n.map λs=>s.length+1).sum+(k.map λs=>s.length+1).sum+Kk l+5
def Kk:List AM->Nat
 |[]=>0
 |t::l=>Vy t+Kk l
end
theorem AcN (l:List AM):Kk l=(l.map Vy).sum:=by
 induction l with
 |nil=>rfl
 |cons t l ih=>rw[Kk,ih];rfl
mutual
def Rc:Ax->Nat
 | .mk _ x t a b=>(x.map λs=>s.length+1).sum+Vy t+DI a+DI b+5
def DI:List Ax->Nat
 |[]=>0
 |t::l=>Rc t+DI l
end
theorem Pw (l:List Ax):DI l=(l.map Rc).sum:=by
 induction l with
 |nil=>rfl
 |cons t l ih=>rw[DI,ih];rfl
theorem EC (l:List Gy):l.length<=(l.map λs=>s.length+1).sum:=by
 induction l with
 |nil=>simp
 |cons s l ih=>simp only[List.map_cons,List.sum_cons,List.length_cons];omega
theorem AcP (t:AM):5<=Vy t:=by cases t;rw[Vy];omega
theorem AbL (t:Ax):5<=Rc t:=by cases t;rw[Rc];omega
theorem Zh (l:List AM):5*l.length<=Kk l:=by
 induction l with
 |nil=>simp[Kk]
 |cons t l ih=>have:=AcP t;rw[Kk,List.length_cons];omega
theorem Mo (l:List Ax):5*l.length<=DI l:=by
 induction l with
 |nil=>simp[DI]
 |cons t l ih=>have:=AbL t;rw[DI,List.length_cons];omega
theorem AcO {x:AM} {l:List AM} (h:x∈l):Vy x<=Kk l:=by
 induction l with
 |nil=>simp at h
 |cons t l ih=>
  rw[Kk]
  rcases List.mem_cons.1 h with rfl|h
  ·omega
  ·have:=ih h;omega
theorem CQ {x:Ax} {l:List Ax} (h:x∈l):Rc x<=DI l:=by
 induction l with
 |nil=>simp at h
 |cons t l ih=>
  rw[DI]
  rcases List.mem_cons.1 h with rfl|h
  ·omega
  ·have:=ih h;omega
theorem AaN (t:AM):Vy t=(t.names.map λs=>s.length+1).sum+(t.keys.map λs=>s.length+1).sum+Kk t.kids+5:=by cases t;rw[Vy];rfl
theorem Mq (t:Ax):Rc t=(t.texts.map λs=>s.length+1).sum+Vy t.test+DI t.thn+DI t.els+5:=by cases t;rw[Rc];rfl
theorem AM.ok_of (t:AM) (h:Vy t<=1048576):t.Ok:=by
 induction t using AM.ind with
 |h t ih=>
  rw[AaN] at h
  have h1:=EC t.names
  have h2:=EC t.keys
  have h3:=Zh t.kids
  exact⟨by omega,by omega,by omega,λx hx=>ih x hx (by have:=AcO hx;omega)⟩
theorem Ax.ok_of (t:Ax) (h:Rc t<=1048576):t.Ok:=by
 induction t using Ax.ind with
 |h t ih ih2=>
  rw[Mq] at h
  have h1:=EC t.texts
  have h3:=Mo t.thn
  have h4:=Mo t.els
  exact⟨by omega,AM.ok_of _ ZO,by omega,by omega,λx hx=>ih x hx (by have:=CQ hx;omega),λx hx=>ih2 x hx (by have:=CQ hx;omega)⟩
theorem AfM (t:AM):(tT t).length+1<=6*Vy t:=by
 induction t using AM.ind with
 | h t ih=>
  have hk:(tK t.kids).length<=6*Kk t.kids:=by
   cases hh:t.kids with
   |nil=>simp[tK]
   |cons x l=>have:=ih x (by rw[hh];simp);rw[tK,Kk];omega
  have hl:∀l f,(∀x∈l,x∈t.kids)->(Qb l f).length<=6*Kk l:=λl=>by
   induction l with
   |nil=>intro f _;simp[Qb]
   |cons x l il=>
    intro f hm
    have h1:=ih x (hm x ZX)
    have h2:=il false λy hy=>hm y (by simp[hy])
    rw[Qb,Kk]
    simp only[List.length_cons,List.length_append]
    omega
  have hl:=hl t.kids true λx hx=>hx
  have h1:=EC t.names
  have h2:=EC t.keys
  have h4:=KU t.names
  have h5:=KU t.keys
  rw[HU,AaN]
  repeat' split
  all_goals simp only[List.length_cons,List.length_append,List.length_nil]
  all_goals omega
theorem AbJ (c:Ax):(F3 c).length+1<=6*Rc c:=by
 induction c using Ax.ind with
 | h c i1 i2=>
  have hl:∀l,(∀x∈l,(F3 x).length+1<=6*Rc x)->(Ee l).length<=6*DI l:=λl=>by
   induction l with
   |nil=>intro _;simp[Ee]
   |cons x l il=>
    intro hm
    have h1:=hm x ZX
    have h2:=il λy hy=>hm y (by simp[hy])
    rw[Ee,DI]
    simp only[List.length_cons,List.length_append]
    omega
  have ha:=hl c.thn i1
  have hb:=hl c.els i2
  have hel:(Uy c.els).length<=6*DI c.els+3:=by
   rcases Nat.eq_zero_or_pos c.els.length with h0|h0
   ·rw[Y4 c h0];simp
   ·cases he:BQ c with
    |true=>
     rw[U0 c he h0]
     have:=i2 _ (List.getElem_mem h0)
     have:=CQ (List.getElem_mem h0)
     simp only[List.length_cons]
     omega
    |false=>
     rw[Uz c he h0]
     simp only[List.length_cons,List.length_append,List.length_nil]
     omega
  have h1:=EC c.texts
  have h4:=KU c.texts
  have h5:=AfM c.test
  rw[IL,Mq]
  repeat' split
  all_goals simp only[List.length_cons,List.length_append,List.length_nil]
  all_goals omega
theorem Acr (l:List Ax):(Ee l).length<=6*DI l:=by
 induction l with
 |nil=>simp[Ee]
 |cons x l ih=>
  have:=AbJ x
  rw[Ee,DI]
  simp only[List.length_cons,List.length_append]
  omega
section
variable {H:Type} {enc:TypeId×Value->H} {W:World}
theorem Re (f:Nat):CX enc prog W (λl:List Gy=>[.slc 1 (l.map Aq)]) (λl=>(l.map λs=>s.length+1).sum+1) 31 f:=by
 cases f with
 |zero=>exact CX.zero
 |succ f=>exact CX.slc (CX.str underlying9) underlying31 (by kernel_rfl) (λ_=>rfl) ZD
set_option maxRecDepth 100000 in
theorem AbQ (f:Nat):CX enc prog W Ef Vy 34 f:=by
 induction f with
 |zero=>exact CX.zero
 | succ f ih=>
  have hk:CX enc prog W (λl:List AM=>[.slc 8 (l.map Ef)]) (λl=>(l.map Vy).sum+1) 32 f:=by
   cases f with
   |zero=>exact CX.zero
   |succ f=>exact CX.slc (ih.le ZO) underlying32 (by kernel_rfl) (λ_=>rfl) ZD
  have hi:CX enc prog W (λn:Int=>[.int .i64 n]) (λ_=>1) 3 f:=CX.int underlying3
  have hb:CX enc prog W (λn:Bool=>[.bool n]) (λ_=>1) 4 f:=CX.bool underlying4
  have hs:=Re (enc:=enc) (W:=W) f
  exact(CX.struct underlying34 (by kernel_rfl) (.cons (k:=1) hi (by kernel_rfl) rfl (.cons (k:=1) hi (by kernel_rfl) rfl (.cons (k:=1) hi (by kernel_rfl) rfl (.cons (k:=1) hs (by kernel_rfl) rfl (.cons (k:=1) hs (by kernel_rfl) rfl (.cons (k:=1) hb (by kernel_rfl) rfl (.cons (k:=1) hi (by kernel_rfl) rfl (.cons (k:=1) hk (by kernel_rfl) rfl .nil))))))))).map
    (λp=>AM.mk p.1 p.2.1 p.2.2.1 p.2.2.2.1 p.2.2.2.2.1 p.2.2.2.2.2.1 p.2.2.2.2.2.2.1 p.2.2.2.2.2.2.2.1) (λp=>by simp[Ef,Gn,AM.kind,AM.mat,AM.part,AM.names,AM.keys,AM.over,AM.limit,AM.kids]) (λp=>by rw[Vy,AcN];omega)
set_option maxRecDepth 100000 in
theorem AbN (f:Nat):CX enc prog W AW Rc 65 f:=by
 induction f with
 |zero=>exact CX.zero
 | succ f ih=>
  have hk:CX enc prog W (λl:List Ax=>[.slc 12 (l.map AW)]) (λl=>(l.map Rc).sum+1) 22 f:=by
   cases f with
   |zero=>exact CX.zero
   |succ f=>exact CX.slc (ih.le ZO) underlying22 (by kernel_rfl) (λ_=>rfl) ZD
  have hi:CX enc prog W (λn:Int=>[.int .i64 n]) (λ_=>1) 3 f:=CX.int underlying3
  have hs:=Re (enc:=enc) (W:=W) f
  exact(CX.struct underlying65 (by kernel_rfl) (.cons (k:=1) hi (by kernel_rfl) rfl (.cons (k:=1) hs (by kernel_rfl) rfl (.cons (k:=8) (AbQ f) (by kernel_rfl) rfl (.cons (k:=1) hk (by kernel_rfl) rfl (.cons (k:=1) hk (by kernel_rfl) rfl .nil)))))).map
    (λp=>Ax.mk p.1 p.2.1 p.2.2.1 p.2.2.2.1 p.2.2.2.2.1) (λp=>by simp[AW,D2,C1,Ax.kind,Ax.texts,Ax.test,Ax.thn,Ax.els]) (λp=>by rw[Rc,Pw,Pw];omega)
theorem Yw (f:Nat):CX enc prog W (λl:List Ax=>[.slc 12 (l.map AW)]) DI 22 f:=by
 cases f with
 |zero=>exact CX.zero
 |succ f=>exact(CX.slc (AbN f) underlying22 (by kernel_rfl) (λ_=>rfl) ZD).map id (λ_=>rfl) (λl=>by show DI l<=_;rw[Pw];omega)
theorem Wr {v:Value} {d:D} {F:Js} (h:Sv F [d] v.cells.toList) (hv:v.oneCell'=true):VD F d v:=by
 obtain⟨u,h1,h2⟩:=h.2 0 d rfl
 have:v.cells.toList=[v]:=by cases v<;>first|rfl|(simp[Value.oneCell'] at hv)
 rw[this] at h1
 injection h1 with h1
 rw[h1];exact h2
end
end
section
open Go.RowKit
def FG (w:World):Prop:=3<w.heap.size/\∃m:Int,w.cell? ⟨3,0,none⟩=some (.int .i64 m)
theorem FG.below {w w':World} (h:FG w) (hb:Below w.heap.size w w'):FG w':=by
 obtain⟨h1,m,h2⟩:=h
 exact⟨Nat.lt_of_lt_of_le h1 hb.size,m,(hb.cell (p:=⟨3,0,none⟩) h1).trans h2⟩
theorem FG.open_ {w:World} (h:w.ShapedOpen prog):FG w:=by
 obtain⟨m,hm⟩:∃m,w.cell? ⟨3,0,none⟩=some (.int .i64 m):=Go.Proofs.cell_of_shapedOpen_int (zero:= #[.int .i64 0]) (t:=3) h (of_decide_eq_true (by kernel_rfl)) (by kernel_rfl) rfl (by kernel_rfl) (by kernel_rfl) underlying3
 exact⟨World.block_lt_of_cell? w ⟨3,0,none⟩ hm,m,hm⟩
end
section
open Go.RowKit
theorem VZ {w:World} {g:Nat} {l:List ByteArray} {e:TypeId} {fr:Nat×Nat} (h:w.heap[g]?=some (.cells (l.map Value.string).toArray e fr)) (n:Nat) (hn:l.length=n) (hm:n<=maxLen):
  RF Xe w (· <w.heap.size) (.slice (some ⟨g,0,none⟩) n n) l:=by
 have e':l.flatMap Xe.enc=l.map Value.string:=by
  clear h hn
  induction l with
  |nil=>rfl
  |cons z r ih=>simp only[List.map_cons,List.flatMap_cons,ih];rfl
 refine⟨some ⟨g,0,none⟩,n,by simp[hn],by simp[hn],hm,by simp,?_,λ_=>⟨g,0,rfl,(Array.getElem?_eq_some_iff.1 h).1,λj u hu=>?_⟩⟩
 ·rw[e']
  simp[Xe]
 ·rw[e'] at hu
  rw[Nat.zero_add,cell_of_row _ _ _ _ e fr h]
  simpa using hu
theorem Wa (s:ByteArray) (w:World) (hs:s.size<4294967281) (h0:FG w):
  Calls prog 204 #[.string s,.string FQ] w λe w'=> ∃v',e= .returned v'/\RF Xe w' (· <w'.heap.size) v' (Jc s)/\Below w.heap.size w w':=by
 obtain⟨_,m,hm⟩:=h0
 refine(Tryz.strings_Split s FQ m w hs hm ZD).mono ?_
 rintro e w' ⟨rfl,rfl⟩
 refine⟨_,rfl,VZ (fr:=(0,0)) (heap_alloc_new w _) _ (TK s) ?_,(Below.refl _ _).alloc (Nat.le_refl _) _⟩
 have:=Pv s
 unfold maxLen
 omega
end
section
open Go.RowKit
theorem QK (c:UInt8) (w:World):Calls prog 205 #[.int .u8 c.toNat] w λe w'=>e= .returned (.bool (Do c))/\w=w':=by
  have hu:(c.toNat:Int)<256:=by have:=c.toNat_lt;omega
  have hcu:((c.toNat:Int).toNat.toUInt8)=c:=by simp
  have HI:=Lib.hid (λwx=>by have h:=Tryz.strings_IndexByte (mk FU) (c.toNat:Int) wx;rw[hcu] at h;exact h)
  clear hcu
  have hc:(c.toNat:Int)<48\/(48<=(c.toNat:Int)/\(c.toNat:Int)<=57)\/(58<=(c.toNat:Int)/\(c.toNat:Int)<65)\/(65<=(c.toNat:Int)/\(c.toNat:Int)<=90)\/(91<=(c.toNat:Int)/\(c.toNat:Int)<=96)\/(97<=(c.toNat:Int)/\(c.toNat:Int)<=122)\/122<(c.toNat:Int):=by omega
  rcases hc with h|⟨h,h'⟩|⟨h,h'⟩|⟨h,h'⟩|⟨h,h'⟩|⟨h,h'⟩|h
  all_goals first|have HB:=Lib.hid (NP (c:=c) ZO)|have HB:=Lib.hid (QE (c:=c) ZO)
  all_goals
    go_enter func205,ntmps205
    go_wp2_with (go_at_call 173;refine(HI.out _).mono ?_;rintro e w' ⟨rfl,rfl⟩)
    go_ret
    refine⟨?_,rfl⟩
    rw[HB.out]
    first
    |rfl
    | (have e1:decide ((c.toNat:Int)<=57)=false:=by(rw[decide_eq_false_iff_not];omega)
       first
       |(simp only[e1,Bool.false_or];rfl)
       | (have e2:decide ((c.toNat:Int)<=90)=false:=by(rw[decide_eq_false_iff_not];omega)
          first
          |(simp only[e1,e2,Bool.false_or,Bool.or_false];rfl)
          | (have e3:decide ((c.toNat:Int)<=122)=false:=by(rw[decide_eq_false_iff_not];omega)
             simp only[e1,e2,e3,Bool.false_or,Bool.or_false];rfl)))
theorem Rr {l:List UInt8} {k:Nat} (h:k<l.length):l.getD k 0=l[k]:=by simp[List.getD,List.getElem?_eq_getElem h]
theorem T3 (w:World) (k:Nat) (hk:k<19):(w.alloc (.cells #[.int .u8 33,.int .u8 35,.int .u8 36,.int .u8 37,.int .u8 38,.int .u8 39,.int .u8 42,.int .u8 43,.int .u8 45,.int .u8 47,.int .u8 61,.int .u8 63,.int .u8 94,.int .u8 95,.int .u8 123,.int .u8 124,.int .u8 125,.int .u8 126,.int .u8 96] 5)).cell? ⟨w.heap.size,k,none⟩=some (.int .u8 ((FU.getD k 0).toNat:Int)):=by
 rw[cell_of_row _ _ _ _ 5 (0,0) (heap_alloc_new w _)]
 have:∀k,k<19->(#[Value.int .u8 33,.int .u8 35,.int .u8 36,.int .u8 37,.int .u8 38,.int .u8 39,.int .u8 42,.int .u8 43,.int .u8 45,.int .u8 47,.int .u8 61,.int .u8 63,.int .u8 94,.int .u8 95,.int .u8 123,.int .u8 124,.int .u8 125,.int .u8 126,.int .u8 96]:Array Value)[k]?=some (.int .u8 ((FU.getD k 0).toNat:Int)):=by
  intro k hk
  obtain rfl|rfl|rfl|rfl|rfl|rfl|rfl|rfl|rfl|rfl|rfl|rfl|rfl|rfl|rfl|rfl|rfl|rfl|rfl:k=0\/k=1\/k=2\/k=3\/k=4\/k=5\/k=6\/k=7\/k=8\/k=9\/k=10\/k=11\/k=12\/k=13\/k=14\/k=15\/k=16\/k=17\/k=18:=by omega
  all_goals rfl
 exact this k hk
theorem J4 (c:UInt8) (w:World):Calls prog 223 #[.int .u8 c.toNat] w λe w'=>e= .returned (.bool (Do c))/\Below w.heap.size w w':=by
 have hu:(c.toNat:Int)<256:=by have:=c.toNat_lt;omega
 by_cases ha:(97<=(c.toNat:Int)/\(c.toNat:Int)<=122)\/(65<=(c.toNat:Int)/\(c.toNat:Int)<=90)\/(48<=(c.toNat:Int)/\(c.toNat:Int)<=57)
 ·have HB:=Lib.hid (NP (c:=c) ha)
  rcases ha with⟨h,h'⟩|⟨h,h'⟩|⟨h,h'⟩
  all_goals
   go_enter func223,ntmps223
   go_wp2_with (go_at_call 98;first|(refine(XF _ _ _ _ ?_ ?_).mono ?_;omega;omega;rintro e w' ⟨rfl,rfl⟩)|(refine(XE _ _ _ _ ?_).mono ?_;omega;rintro e w' ⟨rfl,rfl⟩))
   go_ret
   exact⟨by rw[HB.out];rfl,Below.refl _ _⟩
 ·have HB:=Lib.hid (QE (c:=c) ha)
  have HN1:(c.toNat:Int)<97\/122<(c.toNat:Int):=by omega
  have HN2:(c.toNat:Int)<65\/90<(c.toNat:Int):=by omega
  have HN3:(c.toNat:Int)<48\/57<(c.toNat:Int):=by omega
  have H1:=Lib.hid HN1
  have H2:=Lib.hid HN2
  have H3:=Lib.hid HN3
  clear HN1 HN2 HN3 ha
  have HM:=Lib.hid (T3 w)
  go_enter func223,ntmps223
  go_wp2_with (go_at_call 98;refine(XE _ _ _ _ ?_).mono ?_;(first|exact H1.out|exact H2.out|exact H3.out);rintro e w' ⟨rfl,rfl⟩)
  go_loop [4] (λi=> ∃k:Nat,k<=19/\i= .int .i64 k/\∀j,j<k->FU.getD j 0≠c) (λi=>19-(intOf i).toNat)
  case atStart=>exact⟨0,by omega,rfl,λj hj=>by omega⟩
  case round=>
   obtain⟨k,hk,rfl,hn⟩:=hrel
   have HN:=Lib.hid hn
   clear hn
   by_cases hlt:k<19
   ·have hc:=HM.out k hlt
    obtain⟨d,hd⟩:∃d,d=FU.getD k 0:=⟨_,rfl⟩
    rw[<-hd] at hc
    have HD:=Lib.hid hd
    clear hd
    have i0:(0:Int)<=k:=by omega
    have i1:(k:Int)<19:=by omega
    by_cases he:d=c
    ·subst he
     have HF:Hid (decide (0<=Lib.indexByte FU d)=true):=Lib.hid (by
      rw[decide_eq_true_eq,FT,HD.out]
      have hk':k<FU.length:=hlt
      rw[Rr hk']
      exact List.getElem_mem hk')
     go_wp2_with fail
     go_ret
     exact⟨by rw[HB.out,HF.out];rfl,(Below.refl _ _).alloc (Nat.le_refl _) _⟩
    ·have HE:=Lib.hid he
     have i2:((d.toNat:Int)==(c.toNat:Int))=false:=beq_false_of_ne λh=>he (UInt8.toNat_inj.1 ZO)
     clear he
     go_wp2_with fail
     go_round
     case rel=>
      refine⟨k+1,by omega,by go_num,λj hj=>?_⟩
      by_cases e:j=k
      ·subst e
       rw[<-HD.out]
       exact HE.out
      ·exact HN.out j ZO
     case measure=>simp[intOf];omega
   ·obtain rfl:k=19:=by omega
    have HF:Hid (decide (0<=Lib.indexByte FU c)=false):=Lib.hid (by
     rw[decide_eq_false_iff_not,FT]
     intro hm
     obtain⟨j,hj,e⟩:=List.mem_iff_getElem.1 hm
     refine HN.out j hj ?_
     rw[Rr hj,e])
    go_wp2_with fail
    go_ret
    exact⟨by rw[HB.out,HF.out];rfl,(Below.refl _ _).alloc (Nat.le_refl _) _⟩
end
section
open Go.RowKit
theorem Af1 {l:UInt8} (h:l≠46):(l.toNat:Int)≠46:=λe=>h (UInt8.toNat_inj.1 (by have:(46:UInt8).toNat=46:=rfl;omega))
theorem D7 (s:ByteArray) (w:World) (hs:s.size<=1048576) (h0:FG w):Calls prog 121 #[.string s] w λe w'=>e= .returned (.bool (Br s))/\Below w.heap.size w w':=by
 have HS:=Lib.hid (TJ s)
 have HZ:=Lib.hid (λx (hx:x∈Jc s)=>Kf FQ _ s x hx)
 have HC:=Lib.hid (λwx h=>Wa s wx ZO h)
 obtain⟨L,hL⟩:∃L,L=Jc s:=⟨_,rfl⟩
 rw[<-hL] at HS HC HZ
 have HL:=Lib.hid hL
 have H0:=Lib.hid h0
 clear hL h0
 go_enter func121,ntmps121
 go_wp2_with fail
 refine(HC.out _ H0.out).mono ?_
 rintro e w1 ⟨v,rfl,hr,hb⟩
 obtain⟨A,c,rfl,hr⟩:=hr.ex
 have hm:=hr.bound
 unfold maxLen at hm
 have H:=Lib.hid hr
 have HB:=Lib.hid hb
 clear hr hb
 go_wp2_with fail
 go_loop [9] (λi=> ∃k:Nat,k<=L.length/\i= .int .i64 k/\∀(j:Nat) x,j<k->L[j]?=some x->DX (bs x)=true) (λi=>L.length-(intOf i).toNat)
 case atStart=>exact⟨0,by omega,rfl,λj x hj=>by omega⟩
 case round=>
  obtain⟨k,hk,rfl,hg⟩:=hrel
  have HG:=Lib.hid hg
  clear hg
  by_cases hlt:k<L.length
  ·obtain⟨b,off,x,rfl,_,hx,hc⟩:=AaF H.out hlt
   have hxs:=HZ.out x (List.mem_of_getElem? hx)
   have HX:=Lib.hid hx
   have HBAD:Hid (DX (bs x)=false->Br s=false):=Lib.hid (λh=>by
    rw[<-HS.out,List.all_eq_false]
    exact⟨x,List.mem_of_getElem? HX.out,by simp[h]⟩)
   clear hx
   by_cases hz:x.size=0
   ·have HV:Hid (Br s=false):=Lib.hid (HBAD.out (by
     have:bs x=[]:=List.eq_nil_of_length_eq_zero (by rw[Cf];exact hz)
     rw[this];rfl))
    have hx0:x=ByteArray.empty:=by
     apply SY
     have:bs x=[]:=List.eq_nil_of_length_eq_zero (by rw[Cf];exact hz)
     rw[this];rfl
    subst hx0
    clear hz hxs
    go_wp2_with fail
    go_ret
    exact⟨by rw[HV.out];rfl,HB.out⟩
   ·have i1:x.toList.isEmpty=false:=by
     rw[ByteArray.toList_eq]
     cases he:x.data.toList with
     |nil=>exfalso;apply hz;rw[<-Cf];unfold bs;rw[he];rfl
     |cons a b=>rfl
    have HNE:Hid ((bs x).isEmpty=false):=Lib.hid (by rw[ByteArray.toList_eq] at i1;exact i1)
    have i2:¬x.toList=[]:=by intro h;rw[h] at i1;cases i1
    clear hz
    go_wp2_with fail
    go_loop [17] (λi=> ∃q:Nat,q<=x.size/\i= .int .i64 q/\∀(j:Nat) (hj:j<x.size),j<q->Do x[j]=true) (λi=>x.size-(intOf i).toNat)
    case atStart=>exact⟨0,by omega,rfl,λj x hj=>by omega⟩
    case round=>
     obtain⟨q,hq,rfl,hat⟩:=hrel
     have HA:=Lib.hid hat
     clear hat
     by_cases hlq:q<x.size
     ·have HAT:=Lib.hid (λwx=>QK x[q] wx)
      cases ha:Do x[q]
      ·rw[ha] at HAT
       have HV:Hid (Br s=false):=Lib.hid (HBAD.out (by
        unfold DX
        rw[HNE.out]
        have:(bs x).all Do=false:=by
         rw[List.all_eq_false]
         exact⟨x[q],List.mem_of_getElem? (EH x q hlq),by simp[ha]⟩
        rw[this];rfl))
       clear ha
       go_wp2_with (go_at_call 205;refine(HAT.out _).mono ?_;rintro e w' ⟨rfl,rfl⟩)
       go_ret
       exact⟨by rw[HV.out];rfl,HB.out⟩
      ·rw[ha] at HAT
       have HH:=Lib.hid ha
       clear ha
       go_wp2_with (go_at_call 205;refine(HAT.out _).mono ?_;rintro e w' ⟨rfl,rfl⟩)
       go_round
       case rel=>
        refine⟨q+1,by omega,by go_num,λj hj hjq=>?_⟩
        by_cases e:j=q
        ·subst e;exact HH.out
        ·exact HA.out j hj ZO
       case measure=>simp[intOf];omega
     ·obtain rfl:q=x.size:=by omega
      have HP:Hid (DX (bs x)=true):=Lib.hid (by
       unfold DX
       rw[HNE.out]
       have:(bs x).all Do=true:=by
        rw[List.all_eq_true]
        intro b hb
        obtain⟨j,hj,e⟩:=List.mem_iff_getElem.1 hb
        have hj':j<x.size:=by rw[<-Cf];exact hj
        have:=HA.out j hj' hj'
        rw[<-e]
        have e2:=EH x j hj'
        rw[List.getElem?_eq_getElem hj] at e2
        injection e2 with e2
       rw[this];rfl)
      go_wp2_with fail
      go_round
      case rel=>
       refine⟨k+1,by omega,by go_num,λj y hj hy=>?_⟩
       by_cases e:j=k
       ·subst e
        rw[HX.out] at hy
        injection hy with hy
        subst hy
        exact HP.out
       ·exact HG.out j y ZO hy
      case measure=>simp[intOf];omega
  ·obtain rfl:k=L.length:=by omega
   have HV:Hid (Br s=true):=Lib.hid (by
    rw[<-HS.out,List.all_eq_true]
    intro x hx
    obtain⟨j,hj,e⟩:=List.mem_iff_getElem.1 hx
    exact HG.out j x hj (by rw[List.getElem?_eq_getElem hj,e]))
   go_wp2_with fail
   go_ret
   exact⟨by rw[HV.out];rfl,HB.out⟩
theorem Y3 (s:ByteArray) (d:Bool) (k:Nat) (h:k<s.size):CI d ((bs s).drop k)=if s[k]=46 then !d&&CI true ((bs s).drop (k+1)) else Do s[k]&&CI false ((bs s).drop (k+1)):=by
 have hk:k<(bs s).length:=by rw[Cf];exact h
 have e:=EH s k h
 rw[List.getElem?_eq_getElem hk] at e
 injection e with e
 rw[List.drop_eq_getElem_cons hk,e]
 rfl
theorem Cx (s:ByteArray) (w:World) (hs:s.size<=maxLen):Calls prog 134 #[.string s] w λe w'=>e= .returned (.bool (Br s))/\Below w.heap.size w w':=by
 unfold maxLen at hs
 have hbl:=Lib.hid (Cf s)
 go_enter func134,ntmps134
 go_wp2_with fail
 go_loopw [3,4] (λv i wr=> ∃(k:Nat) (l:UInt8),k<=s.size/\i= .int .i64 k/\v= .int .u8 l.toNat/\Br s=CI (decide (l=46)) ((bs s).drop k)/\Below w.heap.size w wr) (λ_ i _=>s.size-(intOf i).toNat)
 case atStart=>exact⟨0,46,by omega,rfl,rfl,by rfl,Below.refl _ _⟩
 case round=>
  obtain⟨k,l,hk,rfl,rfl,hd,hb⟩:=hrel
  have HD:=Lib.hid hd
  have HB:=Lib.hid hb
  clear hd hb
  have hl:=l.toNat_lt
  by_cases hlt:k<s.size
  ·have HS:=Lib.hid (Y3 s (decide (l=46)) k hlt)
   by_cases he:s[k]=46
   ·have i1:((s[k].toNat:Int)==46)=true:=by rw[he];rfl
    by_cases hl46:l=46
    ·subst hl46
     have HV:Hid (Br s=false):=Lib.hid (by rw[HD.out,HS.out,if_pos he];rfl)
     clear he
     go_wp2_with fail
     go_ret
     exact⟨by rw[HV.out];rfl,HB.out⟩
    ·have HV:Hid (Br s=CI (decide (s[k]=46)) ((bs s).drop (k+1))):=Lib.hid (by rw[HD.out,HS.out,if_pos he,he];simp[hl46])
     have i2:((l.toNat:Int)==46)=false:=beq_false_of_ne (Af1 hl46)
     have i3:((s[k].toNat:Int) !=46)=false:=by rw[he];rfl
     have i4:(s[k].toNat:Int)=46:=by rw[he];rfl
     clear he hl46
     go_wp2_with fail
     go_roundw
     case rel=>exact⟨k+1,s[k],by omega,by go_num,by first|rfl|rw[i4],HV.out,HB.out⟩
     case measure=>simp[intOf];omega
   ·have i1:((s[k].toNat:Int)==46)=false:=beq_false_of_ne (Af1 he)
    have i3:((s[k].toNat:Int) !=46)=true:=by simp only[bne,i1];rfl
    have i4:¬(s[k].toNat:Int)=46:=by simpa using i1
    have HAT:=Lib.hid (λwx=>J4 s[k] wx)
    cases ha:Do s[k]
    ·rw[ha] at HAT
     have HV:Hid (Br s=false):=Lib.hid (by rw[HD.out,HS.out,if_neg he,ha];rfl)
     clear he ha
     go_wp2_with (go_at_call 223;refine(HAT.out _).mono ?_;rintro e w1 ⟨rfl,hb1⟩)
     go_ret
     exact⟨by rw[HV.out];rfl,HB.out.trans (hb1.mono HB.out.size)⟩
    ·rw[ha] at HAT
     have HV:Hid (Br s=CI (decide (s[k]=46)) ((bs s).drop (k+1))):=Lib.hid (by rw[HD.out,HS.out,if_neg he,ha];simp[he])
     clear he ha
     go_wp2_with (go_at_call 223;refine(HAT.out _).mono ?_;rintro e w1 ⟨rfl,hb1⟩)
     go_roundw
     case rel=>exact⟨k+1,s[k],by omega,by go_num,rfl,HV.out,HB.out.trans (hb1.mono HB.out.size)⟩
     case measure=>simp[intOf];omega
  ·obtain rfl:k=s.size:=by omega
   have HV:Hid (Br s=!decide (l=46)):=Lib.hid (by rw[HD.out,List.drop_eq_nil_of_le (by rw[hbl.out];omega)];rfl)
   by_cases hl46:l=46
   ·subst hl46
    go_wp2_with fail
    go_ret
    exact⟨by rw[HV.out];rfl,HB.out⟩
   ·have i2:((l.toNat:Int) !=46)=true:=by
     have:((l.toNat:Int)==46)=false:=beq_false_of_ne (Af1 hl46)
     simp only[bne,this];rfl
    have HW:Hid (Br s=true):=Lib.hid (by rw[HV.out];simp[hl46])
    clear hl46
    go_wp2_with fail
    go_ret
    exact⟨by rw[HW.out];rfl,HB.out⟩
end
section
open Go.RowKit
structure NG where
 l:ByteArray
 d:ByteArray
def NG.val (a:NG):Value:= .agg #[.string a.l,.string a.d]
def I8 (a:NG):Int:=if Br a.l=false\/Br a.d=false then 3 else if 99<a.l.size+a.d.size then 1 else 0
structure AiE (a:NG):Prop where
 hl:a.l.size<=1048576
 hd:a.d.size<=1048576
theorem Uf {a:NG} (h:Br a.l=false):I8 a=3:=if_pos (.inl h)
theorem Ue {a:NG} (h:Br a.d=false):I8 a=3:=if_pos (.inr h)
theorem NO {a:NG} (h1:Br a.l=true) (h2:Br a.d=true) (h:99<a.l.size+a.d.size):I8 a=1:=by unfold I8;rw[if_neg (by rw[h1,h2];decide),if_pos h]
theorem QA {a:NG} (h1:Br a.l=true) (h2:Br a.d=true) (h:¬99<a.l.size+a.d.size):I8 a=0:=by unfold I8;rw[if_neg (by rw[h1,h2];decide),if_neg h]
theorem Qg (a:NG) (w:World) (hz:a.l.size<=1048576/\a.d.size<=1048576) (h0:FG w):Calls prog 68 #[a.val] w λe w'=>e= .returned (.int .i64 (I8 a))/\Below w.heap.size w w':=by
 have m1:=hz.1
 have m2:=hz.2
 clear hz
 have H0:=Lib.hid h0
 clear h0
 have tok:True:=trivial
 cases h1:Br a.l
 ·have HF:=Lib.hid (Uf h1)
  have H1:=Lib.hid h1
  clear h1
  obtain⟨l,d⟩:=a
  unfold NG.val
  dsimp only at*
  go_enter func68,ntmps68
  go_wp2_with (first|(go_at_call 121;clear tok;refine(D7 l _ ?_ ?_).mono ?_;omega;exact FG.below H0.out (Below.alloc (Below.refl _ _) (Nat.le_refl _) _);rintro e w1 ⟨rfl,hb1⟩;rw[H1.out];obtain⟨k1a,k1b,k1c⟩:=DV hb1 (b:=w.heap.size) (by first|omega|(simp;done)|(simp;omega));have z2:=hb1.size;(try simp only[World.size_alloc,World.size_setCell] at z2)))
  go_ret
  refine⟨by rw[HF.out];rfl,?_⟩
  (repeat(first|with_reducible exact hb1|with_reducible refine Below.trans ?_ (Below.mono hb1 ?_)|with_reducible exact Below.refl _ _|with_reducible refine Below.setCell ?_ ?_ _|with_reducible refine Below.alloc ?_ ?_ _|with_reducible refine Below.drew ?_|with_reducible refine BY ?_ _))
  all_goals(first|omega|(simp;done)|(simp;omega)|(dsimp only[World.drew] at*;omega))
 cases h2:Br a.d
 ·have HF:=Lib.hid (Ue h2)
  have H1:=Lib.hid h1
  have H2:=Lib.hid h2
  clear h1 h2
  obtain⟨l,d⟩:=a
  unfold NG.val
  dsimp only at*
  go_enter func68,ntmps68
  go_wp2_with (first|(go_at_call 121;clear tok;refine(D7 l _ ?_ ?_).mono ?_;omega;exact FG.below H0.out (Below.alloc (Below.refl _ _) (Nat.le_refl _) _);rintro e w1 ⟨rfl,hb1⟩;rw[H1.out];obtain⟨k3a,k3b,k3c⟩:=DV hb1 (b:=w.heap.size) (by first|omega|(simp;done)|(simp;omega));have z4:=hb1.size;(try simp only[World.size_alloc,World.size_setCell] at z4))|(go_at_call 121;refine(D7 d _ ?_ ?_).mono ?_;omega;exact FG.below (FG.below H0.out (Below.alloc (Below.refl _ _) (Nat.le_refl _) _)) hb1;rintro e w2 ⟨rfl,hb2⟩;rw[H2.out];obtain⟨k5a,k5b,k5c⟩:=DV hb2 (b:=w.heap.size) (by first|omega|(simp;done)|(simp;omega));have z6:=hb2.size;(try simp only[World.size_alloc,World.size_setCell] at z6)))
  go_ret
  refine⟨by rw[HF.out];rfl,?_⟩
  (repeat(first|with_reducible exact hb2|with_reducible refine Below.trans ?_ (Below.mono hb2 ?_)|with_reducible exact hb1|with_reducible refine Below.trans ?_ (Below.mono hb1 ?_)|with_reducible exact Below.refl _ _|with_reducible refine Below.setCell ?_ ?_ _|with_reducible refine Below.alloc ?_ ?_ _|with_reducible refine Below.drew ?_|with_reducible refine BY ?_ _))
  all_goals(first|omega|(simp;done)|(simp;omega)|(dsimp only[World.drew] at*;omega))
 by_cases h3:99<a.l.size+a.d.size
 ·have HF:=Lib.hid (NO h1 h2 h3)
  have H1:=Lib.hid h1
  have H2:=Lib.hid h2
  clear h1 h2
  obtain⟨l,d⟩:=a
  unfold NG.val
  dsimp only at*
  have i1:(100:Int)<(l.size:Int)+1+d.size:=by omega
  go_enter func68,ntmps68
  go_wp2_with (first|(go_at_call 121;clear tok;refine(D7 l _ ?_ ?_).mono ?_;omega;exact FG.below H0.out (Below.alloc (Below.refl _ _) (Nat.le_refl _) _);rintro e w1 ⟨rfl,hb1⟩;rw[H1.out];obtain⟨k7a,k7b,k7c⟩:=DV hb1 (b:=w.heap.size) (by first|omega|(simp;done)|(simp;omega));have z8:=hb1.size;(try simp only[World.size_alloc,World.size_setCell] at z8))|(go_at_call 121;refine(D7 d _ ?_ ?_).mono ?_;omega;exact FG.below (FG.below H0.out (Below.alloc (Below.refl _ _) (Nat.le_refl _) _)) hb1;rintro e w2 ⟨rfl,hb2⟩;rw[H2.out];obtain⟨k9a,k9b,k9c⟩:=DV hb2 (b:=w.heap.size) (by first|omega|(simp;done)|(simp;omega));have z10:=hb2.size;(try simp only[World.size_alloc,World.size_setCell] at z10)))
  go_ret
  refine⟨by rw[HF.out];rfl,?_⟩
  (repeat(first|with_reducible exact hb2|with_reducible refine Below.trans ?_ (Below.mono hb2 ?_)|with_reducible exact hb1|with_reducible refine Below.trans ?_ (Below.mono hb1 ?_)|with_reducible exact Below.refl _ _|with_reducible refine Below.setCell ?_ ?_ _|with_reducible refine Below.alloc ?_ ?_ _|with_reducible refine Below.drew ?_|with_reducible refine BY ?_ _))
  all_goals(first|omega|(simp;done)|(simp;omega)|(dsimp only[World.drew] at*;omega))
 ·have HF:=Lib.hid (QA h1 h2 h3)
  have H1:=Lib.hid h1
  have H2:=Lib.hid h2
  clear h1 h2
  obtain⟨l,d⟩:=a
  unfold NG.val
  dsimp only at*
  have i1:¬((100:Int)<(l.size:Int)+1+d.size):=by omega
  clear h3
  go_enter func68,ntmps68
  go_wp2_with (first|(go_at_call 121;clear tok;refine(D7 l _ ?_ ?_).mono ?_;omega;exact FG.below H0.out (Below.alloc (Below.refl _ _) (Nat.le_refl _) _);rintro e w1 ⟨rfl,hb1⟩;rw[H1.out];obtain⟨k11a,k11b,k11c⟩:=DV hb1 (b:=w.heap.size) (by first|omega|(simp;done)|(simp;omega));have z12:=hb1.size;(try simp only[World.size_alloc,World.size_setCell] at z12))|(go_at_call 121;refine(D7 d _ ?_ ?_).mono ?_;omega;exact FG.below (FG.below H0.out (Below.alloc (Below.refl _ _) (Nat.le_refl _) _)) hb1;rintro e w2 ⟨rfl,hb2⟩;rw[H2.out];obtain⟨k13a,k13b,k13c⟩:=DV hb2 (b:=w.heap.size) (by first|omega|(simp;done)|(simp;omega));have z14:=hb2.size;(try simp only[World.size_alloc,World.size_setCell] at z14)))
  go_ret
  refine⟨by rw[HF.out];rfl,?_⟩
  (repeat(first|with_reducible exact hb2|with_reducible refine Below.trans ?_ (Below.mono hb2 ?_)|with_reducible exact hb1|with_reducible refine Below.trans ?_ (Below.mono hb1 ?_)|with_reducible exact Below.refl _ _|with_reducible refine Below.setCell ?_ ?_ _|with_reducible refine Below.alloc ?_ ?_ _|with_reducible refine Below.drew ?_|with_reducible refine BY ?_ _))
  all_goals(first|omega|(simp;done)|(simp;omega)|(dsimp only[World.drew] at*;omega))
theorem Nt (a:NG) (w:World) (hz:a.l.size<=4294967296/\a.d.size<=4294967296):Calls prog 74 #[a.val] w λe w'=>e= .returned (.int .i64 (I8 a))/\Below w.heap.size w w':=by
 have m1:=hz.1
 have m2:=hz.2
 clear hz
 have tok:True:=trivial
 cases h1:Br a.l
 ·have HF:=Lib.hid (Uf h1)
  have H1:=Lib.hid h1
  clear h1
  obtain⟨l,d⟩:=a
  unfold NG.val
  dsimp only at*
  go_enter func74,ntmps74
  go_wp2_with (first|(go_at_call 134;clear tok;refine(Cx l _ ?_).mono ?_;(unfold maxLen;omega);rintro e w1 ⟨rfl,hb1⟩;rw[H1.out];obtain⟨k15a,k15b,k15c⟩:=DV hb1 (b:=w.heap.size) (by first|omega|(simp;done)|(simp;omega));have z16:=hb1.size;(try simp only[World.size_alloc,World.size_setCell] at z16)))
  go_ret
  refine⟨by rw[HF.out];rfl,?_⟩
  (repeat(first|with_reducible exact hb1|with_reducible refine Below.trans ?_ (Below.mono hb1 ?_)|with_reducible exact Below.refl _ _|with_reducible refine Below.setCell ?_ ?_ _|with_reducible refine Below.alloc ?_ ?_ _|with_reducible refine Below.drew ?_|with_reducible refine BY ?_ _))
  all_goals(first|omega|(simp;done)|(simp;omega)|(dsimp only[World.drew] at*;omega))
 cases h2:Br a.d
 ·have HF:=Lib.hid (Ue h2)
  have H1:=Lib.hid h1
  have H2:=Lib.hid h2
  clear h1 h2
  obtain⟨l,d⟩:=a
  unfold NG.val
  dsimp only at*
  go_enter func74,ntmps74
  go_wp2_with (first|(go_at_call 134;clear tok;refine(Cx l _ ?_).mono ?_;(unfold maxLen;omega);rintro e w1 ⟨rfl,hb1⟩;rw[H1.out];obtain⟨k17a,k17b,k17c⟩:=DV hb1 (b:=w.heap.size) (by first|omega|(simp;done)|(simp;omega));have z18:=hb1.size;(try simp only[World.size_alloc,World.size_setCell] at z18))|(go_at_call 134;refine(Cx d _ ?_).mono ?_;(unfold maxLen;omega);rintro e w2 ⟨rfl,hb2⟩;rw[H2.out];obtain⟨k19a,k19b,k19c⟩:=DV hb2 (b:=w.heap.size) (by first|omega|(simp;done)|(simp;omega));have z20:=hb2.size;(try simp only[World.size_alloc,World.size_setCell] at z20)))
  go_ret
  refine⟨by rw[HF.out];rfl,?_⟩
  (repeat(first|with_reducible exact hb2|with_reducible refine Below.trans ?_ (Below.mono hb2 ?_)|with_reducible exact hb1|with_reducible refine Below.trans ?_ (Below.mono hb1 ?_)|with_reducible exact Below.refl _ _|with_reducible refine Below.setCell ?_ ?_ _|with_reducible refine Below.alloc ?_ ?_ _|with_reducible refine Below.drew ?_|with_reducible refine BY ?_ _))
  all_goals(first|omega|(simp;done)|(simp;omega)|(dsimp only[World.drew] at*;omega))
 by_cases h3:99<a.l.size+a.d.size
 ·have HF:=Lib.hid (NO h1 h2 h3)
  have H1:=Lib.hid h1
  have H2:=Lib.hid h2
  clear h1 h2
  obtain⟨l,d⟩:=a
  unfold NG.val
  dsimp only at*
  have i1:(99:Int)<(l.size:Int)+d.size:=by omega
  go_enter func74,ntmps74
  go_wp2_with (first|(go_at_call 134;clear tok;refine(Cx l _ ?_).mono ?_;(unfold maxLen;omega);rintro e w1 ⟨rfl,hb1⟩;rw[H1.out];obtain⟨k21a,k21b,k21c⟩:=DV hb1 (b:=w.heap.size) (by first|omega|(simp;done)|(simp;omega));have z22:=hb1.size;(try simp only[World.size_alloc,World.size_setCell] at z22))|(go_at_call 134;refine(Cx d _ ?_).mono ?_;(unfold maxLen;omega);rintro e w2 ⟨rfl,hb2⟩;rw[H2.out];obtain⟨k23a,k23b,k23c⟩:=DV hb2 (b:=w.heap.size) (by first|omega|(simp;done)|(simp;omega));have z24:=hb2.size;(try simp only[World.size_alloc,World.size_setCell] at z24)))
  go_ret
  refine⟨by rw[HF.out];rfl,?_⟩
  (repeat(first|with_reducible exact hb2|with_reducible refine Below.trans ?_ (Below.mono hb2 ?_)|with_reducible exact hb1|with_reducible refine Below.trans ?_ (Below.mono hb1 ?_)|with_reducible exact Below.refl _ _|with_reducible refine Below.setCell ?_ ?_ _|with_reducible refine Below.alloc ?_ ?_ _|with_reducible refine Below.drew ?_|with_reducible refine BY ?_ _))
  all_goals(first|omega|(simp;done)|(simp;omega)|(dsimp only[World.drew] at*;omega))
 ·have HF:=Lib.hid (QA h1 h2 h3)
  have H1:=Lib.hid h1
  have H2:=Lib.hid h2
  clear h1 h2
  obtain⟨l,d⟩:=a
  unfold NG.val
  dsimp only at*
  have i1:¬((99:Int)<(l.size:Int)+d.size):=by omega
  clear h3
  go_enter func74,ntmps74
  go_wp2_with (first|(go_at_call 134;clear tok;refine(Cx l _ ?_).mono ?_;(unfold maxLen;omega);rintro e w1 ⟨rfl,hb1⟩;rw[H1.out];obtain⟨k25a,k25b,k25c⟩:=DV hb1 (b:=w.heap.size) (by first|omega|(simp;done)|(simp;omega));have z26:=hb1.size;(try simp only[World.size_alloc,World.size_setCell] at z26))|(go_at_call 134;refine(Cx d _ ?_).mono ?_;(unfold maxLen;omega);rintro e w2 ⟨rfl,hb2⟩;rw[H2.out];obtain⟨k27a,k27b,k27c⟩:=DV hb2 (b:=w.heap.size) (by first|omega|(simp;done)|(simp;omega));have z28:=hb2.size;(try simp only[World.size_alloc,World.size_setCell] at z28)))
  go_ret
  refine⟨by rw[HF.out];rfl,?_⟩
  (repeat(first|with_reducible exact hb2|with_reducible refine Below.trans ?_ (Below.mono hb2 ?_)|with_reducible exact hb1|with_reducible refine Below.trans ?_ (Below.mono hb1 ?_)|with_reducible exact Below.refl _ _|with_reducible refine Below.setCell ?_ ?_ _|with_reducible refine Below.alloc ?_ ?_ _|with_reducible refine Below.drew ?_|with_reducible refine BY ?_ _))
  all_goals(first|omega|(simp;done)|(simp;omega)|(dsimp only[World.drew] at*;omega))
end
section
open Go.RowKit
def Bw (T:Ap):Prop:=∃m:Int,(T 3)[0]?=some (.int .i64 m)
theorem Bw.lib0 {T:Ap} (h:Bw T) {F:Js} {w:World} (hF:∀b o u,F b o=some u->w.cell? ⟨b,o,none⟩=some u) (hT:∀g j x,(T g)[j]?=some x->∃u,F g j=some u/\VD F x u):FG w:=by
 obtain⟨m,hm⟩:=h
 obtain⟨u,h1,h2⟩:=AaI hF hT hm
 obtain rfl:=h2.int_inv
 exact⟨World.block_lt_of_cell? w ⟨3,0,none⟩ h1,m,h1⟩
theorem AeH (T:Ap) (c:UInt8):PC prog T 205 [.d (.int .u8 c.toNat)] (.d (.bool (Do c))):=Hg call205 λF w vs hF hT R=>by
 obtain⟨v,rfl,hv⟩:=AcF R
 obtain rfl:=hv.int_inv
 refine(QK c w).mono ?_
 rintro e w' ⟨rfl,rfl⟩
 exact⟨_,rfl,Below.refl _ _,.bool _⟩
theorem ST (T:Ap) (c:UInt8):PC prog T 223 [.d (.int .u8 c.toNat)] (.d (.bool (Do c))):=Hg call223 λF w vs hF hT R=>by
 obtain⟨v,rfl,hv⟩:=AcF R
 obtain rfl:=hv.int_inv
 refine(J4 c w).mono ?_
 rintro e w' ⟨rfl,hb⟩
 exact⟨_,rfl,hb,.bool _⟩
theorem XV {G:Gh} {l d:Tx} {vs:Array Value} (R:Dz G [.agg [.d (.str l),.d (.str d)]] vs):∃a:NG,vs= #[a.val]/\a.l.data.toList=l/\a.d.data.toList=d:=by
 obtain⟨v,rfl,hv⟩:=AcF R
 obtain⟨us,rfl,hu⟩:=hv.agg_inv
 obtain⟨x,y,rfl,hx,hy⟩:=Ah6 hu
 obtain⟨p,rfl,h1,_⟩:=hx.str_inv
 obtain⟨q,rfl,h2,_⟩:=hy.str_inv
 exact⟨⟨p,q⟩,rfl,h1,h2⟩
theorem Ug {a:NG} {l d:Tx} (h1:a.l.data.toList=l) (h2:a.d.data.toList=d):I8 a=Cc l d:=by
 subst h1 h2
 simp only[I8,Cc,Br,bs,Bm]
 congr
theorem GP (T:Ap) (hL:Bw T) (l d:Tx) (h1:l.length<=1048576) (h2:d.length<=1048576):PC prog T 68 [.agg [.d (.str l),.d (.str d)]] (.d (.int .i64 (Cc l d))):=Hg call68 λF w vs hF hT R=>by
 obtain⟨a,rfl,e1,e2⟩:=XV R
 refine(Qg a w ⟨by rw[<-Bm,e1];exact h1,by rw[<-Bm,e2];exact h2⟩ (hL.lib0 hF hT)).mono ?_
 rintro e w' ⟨rfl,hb⟩
 exact⟨_,rfl,hb,by rw[Ug e1 e2];exact .int _ _⟩
theorem Jz (T:Ap) (l d:Tx) (h1:l.length<=4294967296) (h2:d.length<=4294967296):PC prog T 74 [.agg [.d (.str l),.d (.str d)]] (.d (.int .i64 (Cc l d))):=Hg call74 λF w vs hF hT R=>by
 obtain⟨a,rfl,e1,e2⟩:=XV R
 refine(Nt a w ⟨by rw[<-Bm,e1];exact h1,by rw[<-Bm,e2];exact h2⟩).mono ?_
 rintro e w' ⟨rfl,hb⟩
 exact⟨_,rfl,hb,by rw[Ug e1 e2];exact .int _ _⟩
theorem Lf (T:Ap) (l d:Tx) (h1:l.length<=1048576) (h2:d.length<=1048576):PC prog T 74 [.agg [.d (.str l),.d (.str d)]] (.d (.int .i64 (Cc l d))):=Jz T l d ZO ZO
end
section
open Go.RowKit
open Go.ChangeShapes Go.WideShapes Go.ChangeAt
open Go.ChangeMaps (open_string)
set_option maxRecDepth 20000
end
section
open Go.RowKit
open Go.ChangeShapes Go.WideShapes Go.ChangeAt
set_option maxRecDepth 20000
section
variable {H:Type} {enc:TypeId×Value->H} {W:World}
theorem Uw (f:Nat):CX enc prog W (λp:Tx×Tx=>[.str p.1,.str p.2]) (λp=>p.1.length+p.2.length) 36 f:=by
 cases f with
 |zero=>exact .zero
 |succ f=>
  have hs:CX enc prog W (λs:List UInt8=>[.str s]) (λs=>s.length+1) 9 f:=CX.str underlying9
  exact(CX.struct underlying36 (by kernel_rfl) (.cons (k:=1) hs (by kernel_rfl) rfl (.cons (k:=1) hs (by kernel_rfl) rfl .nil))).map
    (λ(p:Tx×(Tx×Unit))=>(p.1,p.2.1)) (λp=>rfl) (λp=>by dsimp only;omega)
theorem AbP (f:Nat):CX enc prog W (λp:(Tx×Tx)×(Tx×Tx)×Tx=>[.str p.1.1,.str p.1.2,.str p.2.1.1,.str p.2.1.2,.str p.2.2]) (λp=>p.1.1.length+p.1.2.length+p.2.1.1.length+p.2.1.2.length+p.2.2.length) 38 f:=by
 cases f with
 |zero=>exact .zero
 |succ f=>
  have hs:CX enc prog W (λs:List UInt8=>[.str s]) (λs=>s.length+1) 9 f:=CX.str underlying9
  exact(CX.struct underlying38 (by kernel_rfl) (.cons (k:=2) (Uw f) (by kernel_rfl) rfl (.cons (k:=2) (Uw f) (by kernel_rfl) rfl (.cons (k:=1) hs (by kernel_rfl) rfl .nil)))).map
    (λ(p:(Tx×Tx)×((Tx×Tx)×(Tx×Unit)))=>(p.1,p.2.1,p.2.2.1)) (λp=>rfl) (λp=>by dsimp only;omega)
end
end
section
open Go.RowKit
open Go.ChangeShapes Go.WideShapes Go.ChangeAt
def Xg:List (Nat×List D)->Ap
 |[],_=>[]
 |p::l,g=>if g=p.1 then p.2 else Xg l g
structure NM (W:World) (p:Nat×List D):Prop where
 ok:∀(j:Nat) (x:D),p.2[j]?=some x->∃u,Fv W p.1 j=some u/\VD (Fv W) x u
theorem Vu {W:World} :∀{l:List (Nat×List D)},(∀p∈l,NM W p)->∀g j x,(Xg l g)[j]?=some x->∃u,Fv W g j=some u/\VD (Fv W) x u
 |[],_,g,j,x,hx=>by simp[Xg] at hx
 | p::l,h,g,j,x,hx=>by
  unfold Xg at hx
  split at hx
  ·rename_i hg
   subst hg
   exact(h p (List.mem_cons_self ..)).ok j x hx
  ·exact Vu (λq hq=>h q (List.mem_cons_of_mem _ hq)) g j x hx
theorem NM.texts {W:World} {g:Nat} {zs:List (List UInt8)} (h:OY W g zs) (hz:zs.all (λz=>Nat.ble z.length 4096)=true):NM W (g,zs.map D.str):=⟨λj x hx=>by
 rw[List.getElem?_map] at hx
 obtain⟨z,hz1,rfl⟩:=Option.map_eq_some_iff.1 hx
 have:=List.all_eq_true.1 hz z (List.mem_of_getElem? hz1)
 have hb:=Nat.le_of_ble_eq_true this
 have hm:(4096:Nat)<=maxLen:=by decide
 exact⟨_,h j z hz1,Pa z ZO⟩⟩
theorem NM.int {W:World} {g:Nat} {m:Int} (h:W.cell? ⟨g,0,none⟩=some (.int .i64 m)):NM W (g,[.int .i64 m]):=⟨λj x hx=>by
 cases j with
 |zero=>simp at hx;subst hx;exact⟨_,h,.int _ _⟩
 |succ j=>simp at hx⟩
end
section
theorem Fz (c d:UInt8):((c.toNat:Int)=(d.toNat:Int))↔c=d:=⟨λh=>UInt8.toNat_inj.1 ZO,λh=>by rw[h]⟩
theorem Be {s:Tx} {j:Nat} (h:j<s.length):s.drop j=s.getD j 0::s.drop (j+1):=by
 rw[List.drop_eq_getElem_cons h]
 simp[List.getD,List.getElem?_eq_getElem h]
theorem Bz {s:Tx} {j:Nat} (h:s.length<=j):s.drop j=[]:=List.drop_eq_nil_of_le h
theorem AeJ {c:UInt8} (h:(c.toNat:Int)=32\/(c.toNat:Int)=9):D5 c=true:=by
 rcases h with h|h
 ·rw[(Fz c 32).1 h];rfl
 ·rw[(Fz c 9).1 h];rfl
theorem AeI {c:UInt8} (h:¬((c.toNat:Int)=32\/(c.toNat:Int)=9)):D5 c=false:=by
 cases e:D5 c with
 |false=>rfl
 |true=>
  exfalso
  simp only[D5,Bool.or_eq_true,beq_iff_eq] at e
  rcases e with rfl|rfl
  ·exact h (.inl rfl)
  ·exact h (.inr rfl)
theorem LM (c:UInt8):CV c=(Do c||decide ((c.toNat:Int)=46)):=by
 unfold CV
 congr 1
 rw[Bool.eq_iff_iff,beq_iff_eq,decide_eq_true_eq]
 exact(Fz c 46).symm
theorem AcE {s:Tx} {j:Nat} (h:j<s.length) (hb:D5 (s.getD j 0)=true):A5 (s.drop j)=A5 (s.drop (j+1)):=by rw[Be h,KS hb]
theorem AfG {s:Tx} {j:Nat} (h:j<s.length->D5 (s.getD j 0)=false):A5 (s.drop j)=s.drop j:=by
 rcases Nat.lt_or_ge j s.length with hj|hj
 ·rw[Be hj,Is (h hj)]
 ·rw[Bz hj];rfl
theorem Ke {s:Tx} {j:Nat} (h:j<s.length) (hb:CV (s.getD j 0)=true):B4 (s.drop j)=s.getD j 0::B4 (s.drop (j+1))/\BS (s.drop j)=BS (s.drop (j+1)):=by
 rw[Be h,Es hb]
 refine⟨rfl,?_⟩
 unfold BS;rw[List.dropWhile_cons,if_pos hb]
theorem Vh {s:Tx} {j:Nat} (h:j<s.length->CV (s.getD j 0)=false):B4 (s.drop j)=[]/\BS (s.drop j)=s.drop j:=by
 rcases Nat.lt_or_ge j s.length with hj|hj
 ·rw[Be hj,Ka (h hj),Ac1 (h hj)];exact⟨rfl,rfl⟩
 ·rw[Bz hj];exact⟨rfl,rfl⟩
theorem KV {s:Tx} {i j:Nat} (h:j<s.length) (hi:i<=j) (Z:Tx):(s.take j).drop i++s.getD j 0::Z=(s.take (j+1)).drop i++Z:=by
 have:s.take (j+1)=s.take j++[s.getD j 0]:=by
  rw[List.take_add_one];simp[List.getD,List.getElem?_eq_getElem h]
 rw[this,List.drop_append_of_le_length (by simp;omega)]
 simp
theorem F6 {s:Tx} {j n:Nat} (c:UInt8) (hc:c.toNat=n) (hn:0<n) (h:(((s.drop j).headD 0).toNat:Int)=(n:Int)):j<s.length/\s.drop j=c::s.drop (j+1):=by
 rcases Nat.lt_or_ge j s.length with hj|hj
 ·refine⟨hj,?_⟩
  rw[Be hj] at h⊢
  simp only[List.headD_cons] at h
  have:s.getD j 0=c:=UInt8.toNat_inj.1 ZO
  rw[this]
 ·rw[Bz hj] at h;simp at h;omega
theorem F7 {s:Tx} {j n:Nat} {c:UInt8} (hc:c.toNat=n) (h:¬(((s.drop j).headD 0).toNat:Int)=(n:Int)):(s.drop j).head?≠some c:=by
 intro e
 cases e2:s.drop j with
 |nil=>rw[e2] at e;simp at e
 |cons x r=>rw[e2] at e h;simp at e;subst e;simp at h;omega
theorem Vc {r:Tx} :Cs (34::r)=some r:=by cases r<;>simp[Cs]
theorem Vd {c:UInt8} {r:Tx} :Cs (92::c::r)=Cs r:=by simp[Cs]
theorem MU:Cs [92]=none:=by simp[Cs]
theorem Sb {c:UInt8} {r:Tx} (h1:c≠34) (h2:c≠92):Cs (c::r)=Cs r:=by cases r<;>simp[Cs,h1,h2]
def FW (b:Nat) (s:Tx) (i:Nat):Nat×Ob:=(b,⟨2,1,[[.d (.str s),.d (.int .i64 i)]]⟩)
attribute [go_sem] FW
def AbY:AV:= .ifc 25 (.d (.int .i64 3))
attribute [local go_sem] FW in
theorem Aa9 (T:Ap) (b:Nat) (s:Tx) (i:Nat) (F:Af) (L:List Nat) (hi:i<=s.length) (hs:s.length<=4096):AC prog T 220 [.ptr b 2 0 0] (⟨FW b s i::F,L⟩) (λx h=> ∃j,i<=j/\j<=s.length/\s.drop j=A5 (s.drop i)/\x= .ret (.tup [])/\h=⟨FW b s j::F,L⟩):=by
 refine⟨call220,Ao.enterS func220 rfl ntmps220 rfl λhb=>?_⟩
 simp only[go_sem,results220]
 refine Aa.block (Zl 1 0 (λn lc hc=> ∃(j:Nat),n=s.length-j/\Av lc []/\Av hc (⟨FW b s j::F,L⟩)/\(i<=j)/\(j<=s.length)/\(A5 (s.drop j)=A5 (s.drop i))) ⟨_,i,rfl,ZE,ZE,ZI,ZI,ZI⟩ ?_)
 rintro _ _ _ ⟨j,rfl,⟨rfl⟩,⟨rfl⟩,h1,h2,h3⟩
 refine Zy ?_
 refine Zs (Zd true [0,1,2,3,4,5,6,7,8,9,10,11,12,13,14,15,16,17,18,19,20,21,22,23,24,25,26,27,28,29,30,31,32,33] ?_)
 refine Zy ?_
 (repeat(with_reducible refine And.intro ZS ?_))
 refine Zm 17179869185 ?_
 refine Zc (λhc0=>?_) λhc0=>?_
 ·refine Zk ?_
  refine Aa.block (Zr (Ai (Ac ?_)))
  refine Ze 1 0 [] [] [b] [] (.e ⟨_,ZM,j+1,rfl,ZE,?_,?_,?_,?_⟩)
  · (try simp only[go_sem])<;>first|exact⟨rfl⟩|(constructor;simp[FW];done)
  · omega
  · omega
  · rw [<-AcE ZO (AeJ (by simpa using hc0.2))];exact h3
 refine Aa.exit (Ak (Ak (Bh ?_)))
 apply Cd [] [] [b] [] ZH
 · refine ⟨j,h1,h2,?_,rfl,?_⟩
   · rw [<-h3,AfG (λhj=>AeI (λhb=>?_))]
     rcases hc0 with hc0|hc0
     · omega
     · omega
   · simp only[go_sem]
 · simp only[Aj,Bj]
attribute [local go_sem] FW in
theorem IW (T:Ap) (b:Nat) (s:Tx) (i:Nat) (F:Af) (L:List Nat) (hi:i<=s.length) (hs:s.length<=4096):AC prog T 222 [.ptr b 2 0 0] (⟨FW b s i::F,L⟩) (λx h=>x= .ret (.d (.int .u8 ((s.drop i).headD 0).toNat))/\h=⟨FW b s i::F,L⟩):=by
 refine⟨call222,Ao.enterS func222 rfl ntmps222 rfl λhb=>?_⟩
 simp only[go_sem,results222]
 refine Zp 1 ?_
 refine Zs (Zd true [0,1,2,3,4,5,6,7,8,9] ?_)
 refine Zy ?_
 refine Zm 1025 ?_
 refine Zc (λhc0=>?_) λhc0=>?_
 ·refine Zp 2 (Aa.ret ?_)
  simp only[Am]
  apply Ah [] [] [b] [] ZH
  · refine ⟨rfl,?_⟩
    simp only[go_sem]
  · rw [Bz ZO];simp[Aj,Ay]
 refine Zk ?_
 refine Zd true [0,1,2,3,4,5,6,7,8,9] ?_
 refine Zy ?_
 (repeat(with_reducible refine And.intro ZS ?_))
 refine Zm 2 ?_
 refine Aa.ret ?_
 apply Ah [] [] [b] [] ZH
 · refine ⟨rfl,?_⟩
   simp only[go_sem]
 · rw [Be ZO];simp[Aj,Ay]
attribute [local go_sem] FW in
theorem Aa5 (T:Ap) (b:Nat) (s:Tx) (i:Nat) (F:Af) (L:List Nat) (hi:i<=s.length) (hs:s.length<=4096):AC prog T 264 [.ptr b 2 0 0] (⟨FW b s i::F,L⟩) (λx h=> ∃j,i<=j/\j<=s.length/\s.drop j=BS (s.drop i)/\x= .ret (.d (.str (B4 (s.drop i))))/\h=⟨FW b s j::F,L⟩):=by
 refine⟨call264,Ao.enterS func264 rfl ntmps264 rfl λhb=>?_⟩
 simp only[go_sem,results264]
 refine Zp 1 ?_
 refine Zp 3 ?_
 refine Zs (Aa.block (Zy ?_))
 refine Zl 3 0 (λn lc hc=> ∃(j:Nat),n=s.length-j/\Av lc []/\Av hc (⟨FW b s j::F,L⟩)/\(i<=j)/\(j<=s.length)/\(BS (s.drop j)=BS (s.drop i))/\((s.take j).drop i++B4 (s.drop j)=B4 (s.drop i))) ?_ ?_
 · refine ⟨_,i,rfl,ZE,ZE,?_,?_,?_,?_⟩
   all_goals(first|omega|rfl|(simp;done))
 rintro _ _ _ ⟨j,rfl,⟨rfl⟩,⟨rfl⟩,h1,h2,h3,h4⟩
 refine Zy ?_
 refine Zs (Zd true [0,1,2,3,4,5,6,7,8,9,10,11,12,13,14,15,16,17,18,19,20,21,22,23,24,25,26,27,28,29,30,31,32,33] ?_)
 refine Zy ?_
 (repeat(with_reducible refine And.intro ZS ?_))
 refine B7 rfl rfl rfl rfl rfl (λhg=>AeH T _) (λhg=>by(try simp only[go_sem])<;>first|exact hg|(exfalso;simp at hg;done)|(simpa using hg)|grind) rfl rfl ?_
 refine Zy ?_
 (repeat(with_reducible refine And.intro ZS ?_))
 refine Zm 34359738371 ?_
 refine Zc (λhc0=>?_) λhc0=>?_
 ·have hrb:∀h,CV (s.getD j 0)=true:=λ(h:(Do (s.getD j 0)=true\/((s.getD j 0).toNat:Int)=46))=>by rw[LM];simpa using h
  refine Zk ?_
  refine Aa.block (Zr (Ai (Ac ?_)))
  refine Ze 3 0 [] [] [b] [] (.e ⟨_,ZM,j+1,rfl,ZE,?_,?_,?_,?_,?_⟩)
  · (try simp only[go_sem])<;>first|exact⟨rfl⟩|(constructor;simp[FW];done)
  · omega
  · omega
  · rw [<-(Ke ZO (hrb hc0.2)).2];exact h3
  · rw [(Ke ZO (hrb hc0.2)).1,KV ZO h1] at h4;exact h4
 have he:=Vh (s:=s) (j:=j) (λhj=>by
   rw[LM]
   rcases hc0 with hc0|hc0
   · omega
   · simpa using hc0)
 refine Z4 ?_
 refine Zd true [0,1,2,3,4,5,6,7,8,9,10] ?_
 refine Zy ?_
 (repeat(with_reducible refine And.intro ZS ?_))
 refine Zm 2 ?_
 refine Aa.ret ?_
 apply Ah [] [] [b] [] ZH
 · refine ⟨j,h1,h2,?_,rfl,?_⟩
   · rw [<-h3,he.2]
   · simp only[go_sem]
 · rw [he.1,List.append_nil] at h4;rw[<-h4];simp[Aj,Ay]
theorem IV (T:Ap) (ok:Bool) (h:AH):AC prog T 221 [.d (.bool ok)] (h) (λx h'=>(ok=false/\x= .pan AbY/\h'=h)\/(ok=true/\x= .ret (.tup [])/\h'=h)):=by
 refine⟨call221,Ao.enterS func221 rfl ntmps221 rfl λhb=>?_⟩
 simp only[go_sem,results221]
 refine Zp 4 ?_
 refine Zc (λhc0=>?_) λhc0=>?_
 ·refine Zq λK_ k_=>?_
  refine Zy ?_
  refine DW.panic rfl rfl rfl ?_
  intro _
  refine FR [] [] [] [] ?_
  exact .inl ⟨by simpa using hc0,rfl,rfl⟩
 refine Aa.skip ?_
 apply Cd [] [] [] [] ZH
 · exact .inr ⟨by simpa using hc0,rfl,rfl⟩
 · simp only[Aj,Bj]
attribute [local go_sem] FW in
theorem Aau (T:Ap) (b:Nat) (s:Tx) (i:Nat) (F:Af) (L:List Nat) (hi:i<s.length) (hs:s.length<=4096):AC prog T 262 [.ptr b 2 0 0] (⟨FW b s i::F,L⟩) (λx h=>(Cs (s.drop (i+1))=none/\x= .pan AbY/\∃j,h=⟨FW b s j::F,L⟩)\/∃j,i<j/\j<=s.length/\Cs (s.drop (i+1))=some (s.drop j)/\x= .ret (.tup [])/\h=⟨FW b s j::F,L⟩):=by
 refine⟨call262,Ao.enterS func262 rfl ntmps262 rfl λhb=>?_⟩
 simp only[go_sem,results262]
 refine Zs (Zp 1 ?_)
 refine Aa.block (Zy ?_)
 refine Zl 1 0 (λn lc hc=> ∃(j:Nat),n=s.length-j/\Av lc []/\Av hc (⟨FW b s j::F,L⟩)/\(i<j)/\(j<=s.length)/\(Cs (s.drop j)=Cs (s.drop (i+1)))) ?_ ?_
 · refine ⟨_,i+1,rfl,ZE,?_,ZI,ZI,ZI⟩
   · (try simp only[go_sem])<;>first|exact⟨rfl⟩|(constructor;simp[FW];done)
 rintro _ _ _ ⟨j,rfl,⟨rfl⟩,⟨rfl⟩,h1,h2,h3⟩
 refine Zy ?_
 refine Zs (Zx (Zy ?_))
 refine ZA [b] [] (IW T b s j _ _ ZO hs) ?_
 rintro _ _ ⟨rfl,rfl⟩
 refine Zy ?_
 refine Zc (λhc0=>?_) λhc0=>?_
 ·have hn34:=F7 (c:=34) rfl hc0
  refine Zk ?_
  refine Zs (Aa.block (Zs (Zx (Zy ?_))))
  refine ZA [b] [] (IW T b s j _ _ ZO hs) ?_
  rintro _ _ ⟨rfl,rfl⟩
  refine Zy ?_
  refine Zm 65 ?_
  refine Zc (λhc1=>?_) λhc1=>?_
  ·obtain⟨hj,hd⟩:=F6 92 rfl ZD hc1
   have hst:Cs (s.drop (j+1+1))=Cs (s.drop j)\/s.length<=j+1:=by
     rcases Nat.lt_or_ge (j+1) s.length with h|h
     · left;rw[hd,Be h,Vd]
     · exact .inr h
   refine Z6 ?_
   refine Zm 1 ?_
   refine Zt false [0,1,2,3,4,5,6,7,8,9,10] λK_ k_=>?_
   refine Zy ?_
   refine ZA [] [] (IV T _ _) ?_
   rintro _ _ (⟨hm1,rfl,rfl⟩|⟨hm1,rfl,rfl⟩)
   ·intro _
    simp only[Am,Bo]
    refine FR [] [] [b] [] ?_
    simp only[decide_eq_false_iff_not,Int.not_lt] at hm1
    first|exact .inl ⟨by rw[<-h3,hd,Bz ZO];exact MU,rfl,j+1,by simp[go_sem]⟩|exact .inl ⟨by rw[<-h3,Bz ZO];rfl,rfl,j,by simp only[go_sem,FW]⟩
   simp only[decide_eq_true_eq] at hm1
   refine Zy ?_
   refine k_ _ _ (Ai (Ac ?_))
   refine Zm 1 ?_
   refine Z6 ?_
   refine Ze 1 0 [] [] [b] [] (.e ⟨_,ZM,j+1+1,rfl,ZE,?_,?_,?_,?_⟩)
   · (try simp only[go_sem])<;>first|exact⟨rfl⟩|(constructor;simp[FW];done)
   · omega
   · omega
   · rcases hst with e|e<;>first|omega|(rw[e];exact h3)
  have hn92:=F7 (c:=92) rfl hc1
  have hst:s.length<=j\/Cs (s.drop (j+1))=Cs (s.drop j):=by
    rcases Nat.lt_or_ge j s.length with h|h
    · right
      rw[Be h] at hn34 hn92⊢
      simp at hn34 hn92
      exact(Sb hn34 hn92).symm
    · exact .inl h
  refine Zk ?_
  refine Zt false [0,1,2,3,4,5,6,7,8,9,10] λK_ k_=>?_
  refine Zy ?_
  refine ZA [] [] (IV T _ _) ?_
  rintro _ _ (⟨hm2,rfl,rfl⟩|⟨hm2,rfl,rfl⟩)
  ·intro _
   simp only[Am,Bo]
   refine FR [] [] [b] [] ?_
   simp only[decide_eq_false_iff_not,Int.not_lt] at hm2
   first|exact .inl ⟨by rw[<-h3,hd,Bz ZO];exact MU,rfl,j+1,by simp[go_sem,FW]⟩|exact .inl ⟨by rw[<-h3,Bz ZO];rfl,rfl,j,by simp only[go_sem]⟩
  simp only[decide_eq_true_eq] at hm2
  refine Zy ?_
  refine k_ _ _ (Ai (Ac ?_))
  refine Zm 1 ?_
  refine Z6 ?_
  refine Ze 1 0 [] [] [b] [] (.e ⟨_,ZM,j+1,rfl,ZE,?_,?_,?_,?_⟩)
  · (try simp only[go_sem])<;>first|exact⟨rfl⟩|(constructor;simp[FW];done)
  · omega
  · omega
  · rcases hst with e|e<;>first|omega|(rw[e];exact h3)
 obtain⟨hj,hd⟩:=F6 34 rfl ZD hc0
 refine Z4 ?_
 refine Zr ?_
 apply Cd [] [] [b] [] ZH
 · refine .inr ⟨j+1,by omega,by omega,?_,rfl,?_⟩
   · rw [<-h3,hd,Vc]
   · simp only[go_sem];simp
 · simp only[Aj,Bj]
end
section
theorem Ab9 {l:Tx} {s:Tx} {j:Nat} (hd:s.drop j=64::s.drop (j+1)) (h:Cc l (B4 (s.drop (j+1)))=0):C4 l (s.drop j)=some ((l,B4 (s.drop (j+1))),BS (s.drop (j+1))):=by
 rw[hd,C4,if_pos ⟨rfl,h⟩]
theorem Um {l:Tx} {s:Tx} {j:Nat} (h:(s.drop j).head?=some 64->Cc l (B4 (s.drop (j+1)))≠0):C4 l (s.drop j)=none:=by
 rcases Nat.lt_or_ge j s.length with hj|hj
 ·rw[Be hj] at h⊢
  rw[C4,if_neg]
  rintro⟨h1,h2⟩
  exact h (by rw[h1];rfl) h2
 ·rw[Bz hj];rfl
theorem PY (s:Tx) (j:Nat):(B4 (s.drop j)).length<=s.length:=by
 have:=(List.takeWhile_sublist (l:=s.drop j) CV).length_le
 unfold B4
 simp at this⊢
 omega
theorem AgY {a:Ad} {s:Tx} {j:Nat} (h:(s.drop j).head?≠some 62):Xu (some (a,s.drop j))=none:=by
 cases e:s.drop j with
 |nil=>rfl
 |cons c r=>rw[e] at h;simp at h;simp[Xu,h]
theorem Afl {a:Ad} {r:Tx} :Xu (some (a,62::r))=some (a,r):=by simp[Xu]
theorem Wh {s:Tx} {j j1 j2:Nat} {first:Bool} (hsk:s.drop j1=A5 (s.drop j)) (h1:(s.drop j1).head?≠some 34) (h2:(s.drop j1).head?≠some 60) (hr:s.drop j2=BS (s.drop j1)) (hf:first=true) (h:(s.drop j2).head?=some 64):B5 first (s.drop j)=C4 (B4 (s.drop j1)) (s.drop j2):=by
 rw[EO (by rw[<-hsk];exact h1) (by rw[<-hsk];exact h2),<-hsk,<-hr,if_pos ⟨hf,h⟩]
theorem Wj {s:Tx} {j j1 j2:Nat} {first:Bool} (hsk:s.drop j1=A5 (s.drop j)) (h1:(s.drop j1).head?≠some 34) (h2:(s.drop j1).head?≠some 60) (hr:s.drop j2=BS (s.drop j1)) (h:¬(first=true/\(s.drop j2).head?=some 64)):B5 first (s.drop j)=if B4 (s.drop j1)=[] then none else B5 false (s.drop j2):=by
 rw[EO (by rw[<-hsk];exact h1) (by rw[<-hsk];exact h2),<-hsk,<-hr,if_neg h]
theorem AfD {s:Tx} {j1 j2:Nat} (hr:s.drop j2=BS (s.drop j1)) (h:B4 (s.drop j1)≠[]) (hj:j2<=s.length):j1<j2:=by
 have:=IX _ h
 rw[<-hr] at this
 simp at this
 omega
theorem Bc (n:Nat):(n:Int)+1=((n+1:Nat):Int):=rfl
attribute [local go_sem] FW Bc in
theorem Vb (T:Ap) (hL:Bw T) (b:Nat) (s:Tx) (i:Nat) (F:Af) (L:List Nat) (hi:i<=s.length) (hs:s.length<=4096) (l:Tx) (hl:l.length<=4096):AC prog T 263 [.ptr b 2 0 0,.d (.str l)] (⟨FW b s i::F,L⟩) (λx h=>(C4 l (s.drop i)=none/\x= .pan AbY/\∃j,h=⟨FW b s j::F,L⟩)\/∃j a,i<=j/\j<=s.length/\C4 l (s.drop i)=some (a,s.drop j)/\x= .ret (.agg [.d (.str a.1),.d (.str a.2)])/\h=⟨FW b s j::F,L⟩):=by
 refine⟨call263,Ao.enterS func263 rfl ntmps263 rfl λhb=>?_⟩
 simp only[go_sem,results263]
 refine Zx (Zy ?_)
 intro b4
 first|intro fb4|have fb4:=True.intro
 try simp only[Ab,FW] at fb4
 refine Zx (Zy ?_)
 refine ZA [b] [] (IW T b s i _ _ ZO hs) ?_
 rintro _ _ ⟨rfl,rfl⟩
 refine Zy ?_
 refine ZA [] [] (IV T _ _) ?_
 rintro _ _ (⟨hm1,rfl,rfl⟩|⟨hm1,rfl,rfl⟩)
 ·intro _
  refine FR [b4] [] [b] [] ?_
  simp only[decide_eq_false_iff_not] at hm1
  exact .inl ⟨Um (λh=>absurd h (F7 (c:=64) rfl hm1)),rfl,i,by simp only[go_sem,fb4]⟩
 simp only[decide_eq_true_eq] at hm1
 obtain⟨hj,hd⟩:=F6 64 rfl ZD hm1
 refine Zy ?_
 refine Zm 7 ?_
 refine Zp 7 ?_
 refine Zx (Zy ?_)
 refine ZA [b] [] (Aa5 T b s (i+1) _ _ ZO hs) ?_
 rintro _ _ ⟨I2,hI2a,hI2b,hI2c,rfl,rfl⟩
 refine Zy ?_
 intro b5
 first|intro fb5|have fb5:=True.intro
 try simp only[Ab,FW] at fb5
 refine Zm 12 ?_
 refine Zx ?_
 simp only[go_sem,fb5]
 refine Aw rfl rfl rfl rfl (GP T hL _ _ ZO (by have:=PY s (i+1);omega)) rfl rfl ?_
 refine Zy ?_
 refine ZA [] [] (IV T _ _) ?_
 rintro _ _ (⟨hm3,rfl,rfl⟩|⟨hm3,rfl,rfl⟩)
 ·intro _
  refine FR [b4,b5] [] [b] [] ?_
  simp only[decide_eq_false_iff_not] at hm3
  exact .inl ⟨Um (λ_ h=>hm3 h),rfl,I2,by simp only[go_sem,fb4,fb5]⟩
 simp only[decide_eq_true_eq] at hm3
 have hA:=hm3
 refine Zy ?_
 refine Zm 3 ?_
 refine Zp 1 (Aa.ret ?_)
 apply Ah [b4,b5] [] [b] [] (by(try simp only[go_sem,fb4,fb5]);rfl)
 · refine .inr ⟨I2,(l,B4 (s.drop (i+1))),by omega,by omega,?_,rfl,?_⟩
   · rw [hI2c];exact Ab9 hd hA
   · simp only[go_sem,fb4,fb5]
 · simp only[Aj,Bj,Ay,and_self]
attribute [local go_sem] FW Bc in
theorem Wk (T:Ap) (hL:Bw T) (b:Nat) (s:Tx) (i:Nat) (F:Af) (L:List Nat) (hi:i<=s.length) (hs:s.length<=4096):AC prog T 219 [.ptr b 2 0 0] (⟨FW b s i::F,L⟩) (λx h=>(B5 true (s.drop i)=none/\x= .pan AbY/\∃j,h=⟨FW b s j::F,L⟩)\/∃j a,i<=j/\j<=s.length/\B5 true (s.drop i)=some (a,s.drop j)/\x= .ret (.agg [.d (.str a.1),.d (.str a.2)])/\h=⟨FW b s j::F,L⟩):=by
 refine⟨call219,Ao.enterS func219 rfl ntmps219 rfl λhb=>?_⟩
 simp only[go_sem,results219]
 refine Zx (Zy ?_)
 intro b2
 first|intro fb2|have fb2:=True.intro
 try simp only[Ab,FW] at fb2
 refine Zp 7 ?_
 refine Aa.block (Zy ?_)
 refine Zl 3 4 (λn lc hc=> ∃(j w:Nat),n=s.length-j/\Av lc [(3,.d (.int .i64 w))]/\Av hc (⟨[(b2,⟨2,1,[[.d (.str []),.d (.str [])]]⟩),FW b s j]++F,L⟩)/\(i<=j)/\(j<=s.length)/\(w<=j)/\(B5 (decide (w=0)) (s.drop j)=B5 true (s.drop i))) ?_ ?_
 · refine ⟨_,i,0,rfl,ZE,ZE,?_,?_,?_,?_⟩
   all_goals(first|omega|rfl)
 rintro _ _ _ ⟨j,w,rfl,⟨rfl⟩,⟨rfl⟩,h1,h2,h3,h4⟩
 refine Zy ?_
 refine Zs (Aa.block (Zx (Zy ?_)))
 refine ZA [b] [] (Aa9 T b s j _ _ ZO hs) ?_
 rintro _ _ ⟨I1,hI1a,hI1b,hI1c,rfl,rfl⟩
 refine Zy ?_
 have hsk:=hI1c
 refine Zx (Zy ?_)
 refine ZA [b] [] (IW T b s I1 _ _ ZO hs) ?_
 rintro _ _ ⟨rfl,rfl⟩
 refine Zy ?_
 refine Aa.block (Zp 199 ?_)
 refine Zc (λhc0=>?_) λhc0=>?_
 ·obtain⟨hj,hd⟩:=F6 34 rfl ZD hc0
  have hq:=λfirst=>J0 (first:=first) (s:=s.drop j) (r:=s.drop (I1+1)) (by rw[<-hsk,hd])
  refine Zq λK_ k_=>?_
  refine Zy ?_
  refine ZA [b] [] (Aau T b s I1 _ _ ZO hs) ?_
  rintro _ _ (⟨hI2q,rfl,yI2,rfl⟩|⟨I2,hI2a,hI2b,hI2q,rfl,rfl⟩)
  ·intro _
   simp only[Am,Bo]
   refine FR [b2] [] [b] [] ?_
   exact .inl ⟨by rw[<-h4,hq,hI2q],rfl,yI2,by simp only[go_sem,fb2]⟩
  have hst:B5 (decide (w=0)) (s.drop j)=B5 false (s.drop I2):=by rw[hq,hI2q]
  refine Zy ?_
  refine k_ _ _ (Ai (Ai (Ac ?_)))
  refine Zm 7 ?_
  refine Z6 ?_
  refine Ze 3 4 [] [] [b2,b] [] (.e ⟨_,ZM,I2,w+1,rfl,ZE,ZE,?_,?_,?_,?_⟩)
  · omega
  · omega
  · omega
  · rw [show decide (w+1=0)=false by simp,<-h4];exact hst.symm
 have hn34:=F7 (c:=34) rfl hc0
 refine Zp 39 ?_
 refine Zc (λhc1=>?_) λhc1=>?_
 ·obtain⟨hj,hd⟩:=F6 60 rfl ZD hc1
  have hq:=λfirst=>J1 (first:=first) (s:=s.drop j) (r:=s.drop (I1+1)) (by rw[<-hsk,hd])
  refine Zp 3 ?_
  refine Zx (Zy ?_)
  refine ZA [b] [] (Aa5 T b s (I1+1) _ _ ZO hs) ?_
  rintro _ _ ⟨I3,hI3a,hI3b,hI3c,rfl,rfl⟩
  refine Zy ?_
  refine AI [b] [] rfl rfl rfl rfl (by(try simp only[go_sem,fb2]);rfl) rfl (Vb T hL b s I3 _ _ ZO hs _ (by have:=PY s (I1+1);omega)) ?_
  rintro _ _ (⟨hI4q,rfl,yI4,rfl⟩|⟨I4,aI4,hI4a,hI4b,hI4q,rfl,rfl⟩)
  ·intro _
   simp only[Am,Bo]
   refine FR [b2] [] [b] [] ?_
   exact .inl ⟨by rw[<-h4,hq,<-hI3c,hI4q];rfl,rfl,yI4,by simp only[go_sem,fb2]⟩
  have hbq:=hI4q
  rw[hI3c] at hbq
  refine Zy ?_
  intro b4
  first|intro fb4|have fb4:=True.intro
  try simp only[Ab,FW] at fb4
  refine Zm 7 ?_
  refine Zx (Zy ?_)
  refine ZA [b] [] (IW T b s I4 _ _ ZO hs) ?_
  rintro _ _ ⟨rfl,rfl⟩
  refine Zy ?_
  refine AI [] [] rfl rfl rfl rfl ZH rfl (IV T _ _) ?_
  rintro _ _ (⟨hm5,rfl,rfl⟩|⟨hm5,rfl,rfl⟩)
  ·intro _
   simp only[Am,Bo]
   refine FR [b2,b4] [] [b] [] ?_
   simp only[decide_eq_false_iff_not] at hm5
   exact .inl ⟨by rw[<-h4,hq,hbq,AgY (F7 (c:=62) rfl hm5)],rfl,I4,by simp only[go_sem,fb2,fb4]⟩
  simp only[decide_eq_true_eq] at hm5
  obtain⟨hj2,hd2⟩:=F6 62 rfl ZD hm5
  refine Zy ?_
  refine Zm 7 ?_
  refine Zp 6 ?_
  refine Zp 1 (Aa.ret ?_)
  simp only[Am,Bo]
  apply Ah [b2,b4] [] [b] [] (by(try simp only[go_sem,fb2,fb4]);rfl)
  · refine .inr ⟨I4+1,aI4,by omega,by omega,?_,rfl,?_⟩
    · rw [<-h4,hq,hbq,hd2,Afl]
    · simp only[go_sem,fb2,fb4]
  · simp only[Aj,Bj,Ay,and_self]
 have hn60:=F7 (c:=60) rfl hc1
 refine Zx (Zy ?_)
 refine ZA [b] [] (Aa5 T b s I1 _ _ ZO hs) ?_
 rintro _ _ ⟨I6,hI6a,hI6b,hI6c,rfl,rfl⟩
 refine Zy ?_
 have hrn:=hI6c
 refine Zs (Zx (Zy ?_))
 refine ZA [b] [] (IW T b s I6 _ _ ZO hs) ?_
 rintro _ _ ⟨rfl,rfl⟩
 refine Zy ?_
 refine Zm 4111 ?_
 refine Zc (λhc2=>?_) λhc2=>?_
 ·obtain⟨hj2,hd2⟩:=F6 64 rfl ZD hc2.1
  have hst:=Wh (first:=decide (w=0)) hsk hn34 hn60 hrn (by simpa using hc2.2) (by rw[hd2];rfl)
  refine Zx (Zy ?_)
  refine AI [b] [] rfl rfl rfl rfl (by(try simp only[go_sem,fb2]);rfl) rfl (Vb T hL b s I6 _ _ ZO hs _ (by have:=PY s I1;omega)) ?_
  rintro _ _ (⟨hI7q,rfl,yI7,rfl⟩|⟨I7,aI7,hI7a,hI7b,hI7q,rfl,rfl⟩)
  ·intro _
   simp only[Am,Bo]
   refine FR [b2] [] [b] [] ?_
   exact .inl ⟨by rw[<-h4,hst,hI7q],rfl,yI7,by simp only[go_sem,fb2]⟩
  simp only[go_sem,fb2]
  refine Zm 2 ?_
  refine Aa.ret ?_
  simp only[Am,Bo]
  apply Ah [b2] [] [b] [] (by(try simp only[go_sem,fb2]);rfl)
  · refine .inr ⟨I7,aI7,by omega,by omega,?_,rfl,?_⟩
    · rw [<-h4,hst,hI7q]
    · simp only[go_sem,fb2]
  · simp only[Aj,Bj,Ay,and_self]
 have hst0:=Wj (first:=decide (w=0)) hsk hn34 hn60 hrn (λh=>by
   rcases hc2 with hc2|hc2
   · exact F7 (c:=64) rfl (by simpa using hc2) h.2
   · have:=h.1;simp at this;omega)
 refine Zk ?_
 refine Zq λK_ k_=>?_
 refine Zy ?_
 refine ZA [] [] (IV T _ _) ?_
 rintro _ _ (⟨hm8,rfl,rfl⟩|⟨hm8,rfl,rfl⟩)
 ·intro _
  simp only[Am,Bo]
  refine FR [b2] [] [b] [] ?_
  simp only[decide_eq_true_eq,Bool.not_eq_false'] at hm8
  exact .inl ⟨by rw[<-h4,hst0,if_pos hm8],rfl,I6,by simp only[go_sem,fb2]⟩
 simp only[decide_eq_false_iff_not,Bool.not_eq_true'] at hm8
 have hlt:=AfD hrn hm8 ZO
 have hst:=hst0.trans (if_neg hm8)
 refine Zy ?_
 refine k_ _ _ (Ai (Ai (Ac ?_)))
 refine Zm 7 ?_
 refine Z6 ?_
 refine Ze 3 4 [] [] [b2,b] [] (.e ⟨_,ZM,I6,w+1,rfl,ZE,ZE,?_,?_,?_,?_⟩)
 · omega
 · omega
 · omega
 · rw [show decide (w+1=0)=false by simp,<-h4];exact hst.symm
end
section
structure BN where
 kind:Int
 box:Tx
 uid:Int
 flags:Int
 dest:Tx
 text:Tx
def C7 (x:BN):List AV:=[.d (.int .i64 x.kind),.d (.str x.box),.d (.int .i64 x.uid),.d (.int .i64 x.flags),.d (.str x.dest),.d (.str x.text)]
def D8 (x:BN):List D:=[.int .i64 x.kind,.str x.box,.int .i64 x.uid,.int .i64 x.flags,.str x.dest,.str x.text]
attribute [go_sem] C7
def N8 (c:UInt8):Bool:=decide (33<=(c.toNat:Int))&&decide ((c.toNat:Int)<=126)
def CT (s:Tx):Int:=if s.length<1\/12<s.length then 1 else if s.all N8=true then 0 else 3
@[go_sem] theorem AiT (c:UInt8):IntKind.i64.wrap (c.toNat:Int)=c.toNat:=E8 (by have:=c.toNat_lt;simp only[inR];omega)
theorem UP {s:Tx} (h:s.length<1\/12<s.length):CT s=1:=if_pos h
theorem UQ {s:Tx} (h:¬(s.length<1\/12<s.length)) {i:Nat} (hi:i<s.length) (hc:N8 (s.getD i 0)=false):CT s=3:=by
 unfold CT
 rw[if_neg h,if_neg]
 intro ha
 have:=List.all_eq_true.1 ha (s.getD i 0) (by simp[List.getD,hi])
 rw[hc] at this;cases this
theorem QD {s:Tx} {i:Nat} (hi:i<s.length) (hc:N8 (s.getD i 0)=true) (h:(s.drop i).all N8=true->s.all N8=true):(s.drop (i+1)).all N8=true->s.all N8=true:=λh2=>h (by rw[Be hi,List.all_cons,hc,h2];rfl)
theorem O3 {s:Tx} (h:¬(s.length<1\/12<s.length)) {i:Nat} (hi:s.length<=i) (ha:(s.drop i).all N8=true->s.all N8=true):CT s=0:=by
 unfold CT
 rw[if_neg h,if_pos (ha (by rw[Bz hi];rfl))]
theorem LT (T:Ap) (n lo hi:Int):PC prog T 98 [.d (.int .i64 n),.d (.int .i64 lo),.d (.int .i64 hi)] (.d (.bool (decide (lo<=n)&&decide (n<=hi)))):=by
 refine⟨call98,Ar.enterS func98 rfl ntmps98 rfl λhb=>?_⟩
 simp only[go_sem,results98]
 refine Zp 7 ?_
 refine Zp 8 (Aa.ret ?_)
 simp only[go_sem]
 try simp[Aj,Ay]
attribute [local go_sem] Bc in
theorem OW (T:Ap) (s:Tx) (hb0:s.length<=9223372036854775807):PC prog T 148 [.d (.str s)] (.d (.int .i64 (CT s))):=by
 refine⟨call148,Ar.enterS func148 rfl ntmps148 rfl λhb=>?_⟩
 simp only[go_sem,results148]
 refine Zp 1 ?_
 refine Zs (Zp 257 ?_)
 refine Zc (λhc0=>?_) λhc0=>?_
 ·refine Zp 2 (Aa.ret ?_)
  refine Zy ?_
  rw[UP ZO];try simp[Aj,Ay]
 refine Zk ?_
 refine Zs (Zp 25 ?_)
 refine Aa.block (Zy ?_)
 refine Zl 3 4 (λn lc hc=> ∃(i:Nat),n=s.length-i/\Av lc [(14,.d (.int .i64 i))]/\Av hc (⟨[],[]⟩)/\(i<=s.length)/\((s.drop i).all N8=true->s.all N8=true)) ?_ ?_
 · refine ⟨_,0,rfl,ZE,ZE,?_,?_⟩
   all_goals(first|omega|(simp;done))
 rintro _ _ _ ⟨i,rfl,⟨rfl⟩,⟨rfl⟩,h1,h2⟩
 refine Zy ?_
 refine Zp 15 ?_
 refine Zs (Zc (λhc1=>?_) λhc1=>?_)
 ·have hlt:i<s.length:=by omega
  refine Zk ?_
  refine Zs (Aa.block (Zp 15 ?_))
  refine Zp 8205 ?_
  refine Zc (λhc2=>?_) λhc2=>?_
  ·have hcc:N8 (s.getD i 0)=false:=by
     unfold N8
     simp only[Bool.and_eq_false_iff,decide_eq_false_iff_not]
     omega
   refine Zp 2 (Aa.ret ?_)
   refine Zy ?_
   rw[UQ ZO hlt hcc];try simp[Aj,Ay]
  have hcc:N8 (s.getD i 0)=true:=by
    unfold N8
    simp only[Bool.and_eq_true,decide_eq_true_eq]
    omega
  refine Z5 ?_
  refine Z6 ?_
  refine Zf 3 4 (.e ⟨_,ZM,i+1,rfl,ZE,ZE,?_,?_⟩)
  · omega
  · exact QD ZO hcc h2
 refine Z4 ?_
 refine Zm 0 ?_
 refine Zp 1 (Aa.ret ?_)
 refine Zy ?_
 rw[O3 ZO ZO h2];try simp[Aj,Ay]
attribute [local go_sem] Bc in
theorem Ib (T:Ap) (s:Tx) (hb0:s.length<=9223372036854775807):PC prog T 96 [.d (.str s)] (.d (.int .i64 (CT s))):=by
 refine⟨call96,Ar.enterS func96 rfl ntmps96 rfl λhb=>?_⟩
 simp only[go_sem,results96]
 refine Zp 1 ?_
 refine Zs (Zx (Zy ?_))
 refine ZP (LT T _ _ _) ?_
 refine Zy ?_
 refine Zc (λhc0=>?_) λhc0=>?_
 ·refine Zp 2 (Aa.ret ?_)
  refine Zy ?_
  rw[UP ZO];try simp[Aj,Ay]
 refine Zk ?_
 refine Zm 1 ?_
 refine Zs (Zp 3 ?_)
 refine Aa.block (Zy ?_)
 refine Zl 1 2 (λn lc hc=> ∃(i:Nat),n=s.length-i/\Av lc [(3,.d (.int .i64 i))]/\Av hc (⟨[],[]⟩)/\(i<=s.length)/\((s.drop i).all N8=true->s.all N8=true)) ?_ ?_
 · refine ⟨_,0,rfl,ZE,ZE,?_,?_⟩
   all_goals(first|omega|(simp;done))
 rintro _ _ _ ⟨i,rfl,⟨rfl⟩,⟨rfl⟩,h1,h2⟩
 refine Zy ?_
 refine Zs (Zp 35 ?_)
 refine Zc (λhc1=>?_) λhc1=>?_
 ·have hlt:i<s.length:=by omega
  refine Zk ?_
  refine Zs (Aa.block (Zx (Z3 ?_)))
  refine ZP (LT T _ _ _) ?_
  refine Zy ?_
  refine Zm 259 ?_
  refine Zc (λhc2=>?_) λhc2=>?_
  ·have hcc:N8 (s.getD i 0)=false:=by
     unfold N8
     simp only[Bool.and_eq_false_iff,decide_eq_false_iff_not]
     omega
   refine Zp 2 (Aa.ret ?_)
   refine Zy ?_
   rw[UQ ZO hlt hcc];try simp[Aj,Ay]
  have hcc:N8 (s.getD i 0)=true:=by
    unfold N8
    simp only[Bool.and_eq_true,decide_eq_true_eq]
    omega
  refine Z5 ?_
  refine Z6 ?_
  refine Zf 1 2 (.e ⟨_,ZM,i+1,rfl,ZE,ZE,?_,?_⟩)
  · omega
  · exact QD ZO hcc h2
 refine Z4 ?_
 refine Zp 2 (Aa.ret ?_)
 refine Zy ?_
 rw[O3 ZO ZO h2];try simp[Aj,Ay]
end
section
def Uo (b:Bt):List D:=[.str b.text,.bool b.run,.bool b.quo,.bool b.apart]
def Fh (l:List Bt):List (List D):=l.map Uo
@[go_sem] theorem AgC (l:List Bt):(Fh l).length=l.length:=by simp[Fh]
theorem Dd (l:List Bt) (i:Nat) (d:List D) (h:i<l.length):(Fh l).getD i d=Uo (l[i]'h):=Al Uo _ _ _ h
theorem Wp (l:List Bt) (i:Nat) (h:l.length<=i):(Fh l).getD i []=[]:=by simp[Fh,List.getD,h]
def Yj:Option (List Bt)->AV
 |some l=> .tup [.d (.slc 4 (Fh l)),.d (.bool true)]
 |none=> .tup [.any,.d (.bool false)]
theorem AdW {s:Tx} {i:Nat} (h:i<s.length):(s.take (i+1)).drop i=[s.getD i 0]:=by
 have:=KV h (Nat.le_refl i) []
 simp only[List.append_nil] at this
 rw[<-this]
 simp
theorem AcA {s:Tx} {i e:Nat} (h1:(s.take e).drop i++B4 (s.drop e)=B4 (s.drop i)) (h2:B4 (s.drop e)=[]) (h3:i<e) (h4:e<=s.length):B4 (s.drop i)≠[]:=by
 rw[h2,List.append_nil] at h1
 rw[<-h1]
 intro e1
 have:=congrArg List.length e1
 simp at this
 omega
theorem Aa6 {s:Tx} {i e:Nat} (h1:(s.take e).drop i++B4 (s.drop e)=B4 (s.drop i)) (h2:B4 (s.drop e)=[]) (h3:e<=i) (h4:i<s.length):CV (s.getD i 0)=false:=by
 have h5:(s.take e).drop i=[]:=List.drop_eq_nil_of_le (by simp;omega)
 rw[h2,h5,List.nil_append,Be h4] at h1
 cases e1:CV (s.getD i 0) with
 |false=>rfl
 |true=>rw[Es e1] at h1;cases h1
theorem AbD (T:Ap) (c:UInt8):PC prog T 136 [.d (.int .u8 c.toNat)] (.d (.bool (D5 c))):=by
 refine⟨call136,Ar.enterS func136 rfl ntmps136 rfl λhb=>?_⟩
 simp only[go_sem,results136]
 refine Zp 1 ?_
 refine Zp 2 (Aa.ret ?_)
 refine Zy ?_
 have e:D5 c=(decide ((c.toNat:Int)=32)||decide ((c.toNat:Int)=9)):=by
   unfold D5
   congr 1<;>rw[Bool.eq_iff_iff,beq_iff_eq,decide_eq_true_eq]
   · exact (Fz c 32).symm
   · exact (Fz c 9).symm
 rw[e]
attribute [local go_sem] Bc in
theorem QM (T:Ap) (s:Tx) (hs:s.length<=4294967296):PC prog T 146 [.d (.str s)] (Yj (Az false s)):=by
 refine⟨call146,Ar.enterS func146 rfl ntmps146 rfl λhb=>?_⟩
 simp only[go_sem,results146]
 refine Zp 1 ?_
 refine Zp 3 ?_
 refine Zy ?_
 refine Bs 4 4 rfl rfl ZD λt0 ft0=>?_
 try simp only[Ae] at ft0
 refine Zy ?_
 refine Zp 7 ?_
 refine Zs (Zp 15 ?_)
 refine Aa.block (Zy ?_)
 refine Zl 1 14 (λn lc hc=> ∃(i v:Nat) (ap:Bool) (Y:List Bt),n=s.length-i/\Av lc [(4,.own v 4 (Fh Y)),(5,.d (.bool ap)),(6,.d (.int .i64 i))]/\Av hc (⟨[],[v]⟩)/\(i<=s.length)/\(Y.length<=i)/\((Az ap (s.drop i)).map (Y++ ·)=Az false s)) ?_ ?_
 · refine ⟨_,0,t0,false,[],rfl,?_,ZE,?_,?_,?_⟩
   · (try simp only[go_sem])<;>first|exact⟨rfl⟩|(constructor;simp[Fh];done)
   all_goals(first|omega|(simp;done)|(cases Az false s<;>rfl))
 rintro _ _ _ ⟨i,v,ap,Y,rfl,⟨rfl⟩,⟨rfl⟩,h1,h2,h3⟩
 refine Zy ?_
 refine Zs (Zp 143 ?_)
 refine Zc (λhc0=>?_) λhc0=>?_
 ·have hlt:i<s.length:=by omega
  have hd:=Be hlt
  refine Zk ?_
  refine Aa.block (Zs (Zx (Z3 ?_)))
  refine ZP (AbD T _) ?_
  refine Zy ?_
  refine Zm 271 ?_
  refine Zc (λhc1=>?_) λhc1=>?_
  ·have hst:Az ap (s.drop i)=Az true (s.drop (i+1)):=by rw[hd,Ek hc1]
   refine Zp 15 ?_
   refine Zp 15 (Aa.exit (Ak (Bh (Ac ?_))))
   refine Ze 1 14 [] [] [] [v] (.e ⟨_,ZM,(i+1),v,true,Y,rfl,?_,ZE,?_,?_,?_⟩)
   · (try simp only[go_sem])<;>first|exact⟨rfl⟩|(constructor;first|(simp[Fh,Uo,AdW hlt];done)|(simp[Fh,Uo];done))
   · omega
   · first|omega|(simp;omega)
   · first|(rw[<-h3,hst];done)|(rw[<-h3,hst];cases Az true (s.drop (i+1))<;>simp)
  refine Zk ?_
  refine Zp 31 ?_
  refine Zs (Aa.block (Zy ?_))
  refine Zl 15 16 (λn lc hc=> ∃(e:Nat),n=s.length-e/\Av lc [(7,.d (.int .i64 e))]/\Av hc (⟨[],[v]⟩)/\(i<=e)/\(e<=s.length)/\(BS (s.drop e)=BS (s.drop i))/\((s.take e).drop i++B4 (s.drop e)=B4 (s.drop i))) ?_ ?_
  · refine ⟨_,i,rfl,ZE,ZE,?_,?_,?_,?_⟩
    all_goals(first|omega|rfl|(simp;done))
  rintro _ _ _ ⟨e,rfl,⟨rfl⟩,⟨rfl⟩,g1,g2,g3,g4⟩
  refine Zy ?_
  refine Zs (Zx (Zy ?_))
  (repeat(with_reducible refine And.intro ZS ?_))
  refine B7 rfl rfl rfl rfl rfl (λhg=>ST T _) (λhg=>by(try simp only[go_sem])<;>first|exact hg|(exfalso;simp at hg;done)|(simpa using hg)|grind) rfl rfl ?_
  refine Zy ?_
  (repeat(with_reducible refine And.intro ZS ?_))
  refine Zm 1048607 ?_
  refine Zc (λhc2=>?_) λhc2=>?_
  ·have hrb:∀h,CV (s.getD e 0)=true:=λ(h:(Do (s.getD e 0)=true\/((s.getD e 0).toNat:Int)=46))=>by rw[LM];simpa using h
   refine Zk ?_
   refine Aa.block (Zr (Ai (Ac ?_)))
   refine Zf 15 16 (.e ⟨_,ZM,e+1,rfl,ZE,ZE,?_,?_,?_,?_⟩)
   · omega
   · omega
   · rw [<-(Ke ZO (hrb hc2.2)).2];exact g3
   · rw [(Ke ZO (hrb hc2.2)).1,KV ZO g1] at g4;exact g4
  have he:=Vh (s:=s) (j:=e) (λhj=>by
    rw[LM]
    rcases hc2 with hc2|hc2
    · omega
    · simpa using hc2)
  refine Z4 ?_
  refine Zs (Zp 287 ?_)
  refine Zc (λhc3=>?_) λhc3=>?_
  ·have hrne:=AcA g4 he.1 ZO g2
   have hru:B4 (s.drop i)=(s.take e).drop i:=by rw[<-g4,he.1,List.append_nil]
   have hst:Az ap (s.drop i)=(Az false (s.drop e)).map (⟨(s.take e).drop i,true,false,ap⟩:: ·):=by rw[Gf hrne,hru,<-g3,he.2]
   refine Zx (Zy ?_)
   (repeat(with_reducible refine And.intro ZS ?_))
   refine BF rfl rfl rfl rfl (show BL prog 215=some (221,4,24) by simp only[go_sem]) rfl rfl (by simp only[go_sem]) ZJ (by(try simp only[go_sem]);omega) (by(try simp only[go_sem]);omega) λt1 ft1=>?_
   try simp only[Ae] at ft1
   refine Zy ?_
   refine Zm 19 ?_
   refine Zp 15 ?_
   refine Zp 15 (Aa.exit (Ak (Bh (Ac ?_))))
   refine Ze 1 14 [] [] [] [t1] (.e ⟨_,ZM,e,t1,false,(Y++[⟨(s.take e).drop i,true,false,ap⟩]),rfl,?_,ZE,?_,?_,?_⟩)
   · (try simp only[go_sem])<;>first|exact⟨rfl⟩|(constructor;first|(simp[Fh,Uo];done)|(simp[Fh,Uo];done))
   · omega
   · first|omega|(simp;omega)
   · first|(rw[<-h3,hst];done)|(rw[<-h3,hst];cases Az false (s.drop e)<;>simp)
  have hru:=Aa6 g4 he.1 ZO hlt
  refine Zk ?_
  refine Zs (Zp 527 ?_)
  refine Zc (λhc4=>?_) λhc4=>?_
  ·have hne:s.getD i 0≠34:=λh=>hc4 (by rw[h];rfl)
   have hst:Az ap (s.drop i)=(Az false (s.drop (i+1))).map (⟨[s.getD i 0],false,false,ap⟩:: ·):=by rw[hd,Ck hc1 hru hne]
   refine Zx (Zy ?_)
   (repeat(with_reducible refine And.intro ZS ?_))
   refine BF rfl rfl rfl rfl (show BL prog 215=some (221,4,24) by simp only[go_sem]) rfl rfl (by simp only[go_sem]) ZJ (by(try simp only[go_sem]);omega) (by(try simp only[go_sem]);omega) λt2 ft2=>?_
   try simp only[Ae] at ft2
   refine Zy ?_
   refine Zm 11 ?_
   refine Zp 15 ?_
   refine Zp 15 (Aa.exit (Ak (Bh (Ac ?_))))
   refine Ze 1 14 [] [] [] [t2] (.e ⟨_,ZM,(i+1),t2,false,(Y++[⟨[s.getD i 0],false,false,ap⟩]),rfl,?_,ZE,?_,?_,?_⟩)
   · (try simp only[go_sem])<;>first|exact⟨rfl⟩|(constructor;first|(simp[Fh,Uo,AdW hlt];done)|(simp[Fh,Uo];done))
   · omega
   · first|omega|(simp;omega)
   · first|(rw[<-h3,hst];done)|(rw[<-h3,hst];cases Az false (s.drop (i+1))<;>simp)
  have h34:s.getD i 0=34:=(Fz _ 34).1 hc4
  rw[h34] at hd
  refine Zk ?_
  refine Zp 23 ?_
  refine Zs (Aa.block (Zy ?_))
  refine Zl 7 8 (λn lc hc=> ∃(e:Nat),n=s.length+2-e/\Av lc [(7,.d (.int .i64 e))]/\Av hc (⟨[],[v]⟩)/\(i+1<=e)/\(Cs (s.drop e)=Cs (s.drop (i+1)))) ⟨_,(i+1),rfl,ZE,ZE,ZI,ZI⟩ ?_
  rintro _ _ _ ⟨e,rfl,⟨rfl⟩,⟨rfl⟩,k1,k2⟩
  refine Zy ?_
  refine Zs (Zp 8207 ?_)
  refine Zc (λhc5=>?_) λhc5=>?_
  ·have hel:e<s.length:=by omega
   have hed:=Be hel
   have hn34:s.getD e 0≠34:=λh=>hc5.2 (by rw[h];rfl)
   refine Zk ?_
   refine Aa.block (Zs (Zp 271 ?_))
   refine Zc (λhc6=>?_) λhc6=>?_
   ·have h92:s.getD e 0=92:=(Fz _ 92).1 hc6
    have hsq:Cs (s.drop e)=Cs (s.drop (e+1+1)):=by
      rw[hed,h92]
      rcases Nat.lt_or_ge (e+1) s.length with h|h
      · rw [Be h,Vd]
      · rw [Bz h,Bz ZO];exact MU
    refine Z6 ?_
    refine Zr (Ai (Ac ?_))
    refine Zf 7 8 (.e ⟨_,ZM,(e+1+1),rfl,ZE,ZE,?_,?_⟩)
    · omega
    · rw [<-k2];exact hsq.symm
   have hsq:Cs (s.drop e)=Cs (s.drop (e+1)):=by rw[hed];exact Sb hn34 (λh=>hc6 (by rw[h];rfl))
   refine Zk ?_
   refine Zr (Ai (Ac ?_))
   refine Zf 7 8 (.e ⟨_,ZM,(e+1),rfl,ZE,ZE,?_,?_⟩)
   · omega
   · rw [<-k2];exact hsq.symm
  refine Z4 ?_
  refine Zs (Zp 271 ?_)
  refine Zc (λhc7=>?_) λhc7=>?_
  ·have hq:Cs (s.drop (i+1))=none:=by rw[<-k2,Bz ZO];rfl
   refine Zp 6 (Aa.ret ?_)
   refine Zy ?_
   have hn:Az false s=none:=by rw[<-h3,hd,El hq];rfl
   rw[hn];simp[Yj,Aj,Bj,Ay]
  have hel:e<s.length:=by omega
  have h34e:s.getD e 0=34:=(Fz _ 34).1 (by
    rcases hc5 with hc5|hc5
    · omega
    · exact hc5)
  have hq:Cs (s.drop (i+1))=some (s.drop (e+1)):=by rw[<-k2,Be hel,h34e,Vc]
  have hst:Az ap (s.drop i)=(Az false (s.drop (e+1))).map (⟨[],false,true,ap⟩:: ·):=by rw[hd,Em hq]
  refine Zk ?_
  refine Zx (Zy ?_)
  refine ZW λt3 ft3=>?_
  try simp only[Ae] at ft3
  refine Zy ?_
  refine Zm 11 ?_
  refine Zp 15 ?_
  refine Zr (Ai (Ac ?_))
  refine Ze 1 14 [] [] [] [t3] (.e ⟨_,ZM,(e+1),t3,false,(Y++[⟨[],false,true,ap⟩]),rfl,?_,ZE,?_,?_,?_⟩)
  · (try simp only[go_sem])<;>first|exact⟨rfl⟩|(constructor;first|(simp[Fh,Uo];done)|(simp[Fh,Uo];done))
  · omega
  · first|omega|(simp;omega)
  · first|(rw[<-h3,hst];done)|(rw[<-h3,hst];cases Az false (s.drop (e+1))<;>simp)
 refine Z4 ?_
 refine Zm 2 ?_
 refine Zp 3 (Aa.ret ?_)
 refine Zy ?_
 have hn:Az false s=some Y:=by rw[<-h3,Bz ZO,Dt];simp
 rw[hn];simp[Yj,Aj,Bj,Ay]
theorem Afm (n:Nat):(n:Int)+2=((n+2:Nat):Int):=rfl
theorem Afn (n:Nat):(n:Int)+3=((n+3:Nat):Int):=rfl
theorem Afo (n:Nat):(n:Int)+4=((n+4:Nat):Int):=rfl
theorem Afp (n:Nat):(n:Int)+5=((n+5:Nat):Int):=rfl
def Ja:Option (Ad×List Bt)->AV
 |some (a,_)=> .tup [.agg [.d (.str a.1),.d (.str a.2)],.d (.int .i64 3)]
 |none=> .tup [.agg [.d (.str []),.d (.str [])],.d (.int .i64 0)]
theorem Hz {l:List Bt} {i:Nat} (h:i+2<l.length):BT (l.drop i)=if l[i].run=true/\l[i+1].text=[64]/\l[i+2].run=true/\l[i+1].apart=false/\l[i+2].apart=false/\Cc l[i].text l[i+2].text=0 then some ((l[i].text,l[i+2].text),l.drop (i+3)) else none:=by
 rw[List.drop_eq_getElem_cons (by omega:i<l.length),List.drop_eq_getElem_cons (by omega:i+1<l.length),List.drop_eq_getElem_cons (by omega:i+1+1<l.length)]
 rfl
theorem KN {l:List Bt} {i:Nat} (h:l.length<=i+2):BT (l.drop i)=none:=by
 cases e:BT (l.drop i) with
 |none=>rfl
 |some x=>obtain⟨a,t⟩:=x;have:=GL e;simp at this;omega
def Jv (l:List Bt):Prop:=∀x∈l,x.text.length<=4294967296
theorem Jv.at {l:List Bt} (h:Jv l) {i:Nat} (hi:i<l.length):(l[i]'hi).text.length<=4294967296:=h _ (List.getElem_mem hi)
attribute [local go_sem] Bc Afm decide_false decide_true Bool.false_or Bool.true_or Bool.not_true Bool.not_false Bool.false_eq_true Bool.true_eq_false and_true true_and Uo in
theorem O9 (T:Ap) (hL:Bw T) (l:List Bt) (i:Nat) (hs:Jv l) (hi:i<=4294967296) (hl:l.length<=4294967296):PC prog T 230 [.d (.slc 4 (Fh l)),.d (.int .i64 i)] (Ja (BT (l.drop i))):=by
 refine⟨call230,Ar.enterS func230 rfl ntmps230 rfl λhb=>?_⟩
 simp only[go_sem,results230]
 refine Zx (Zy ?_)
 intro b4
 first|intro fb4|have fb4:=True.intro
 try simp only[Ab] at fb4
 refine Zs ?_
 rcases Nat.lt_or_ge (i+2) l.length with hlt|hlt
 ·have hge:((l.length:Int)<=((i+2:Nat):Int))=False:=by simp;omega
  have e0:=Dd l i [] ZO
  have e1:=Dd l (i+1) [] ZO
  have e2:=Dd l (i+2) [] ZO
  have zf1:=λd0_=>Dd l i d0_ ZO
  have zf2:=λd0_=>Dd l (i+1) d0_ ZO
  have zf3:=λd0_=>Dd l (i+2) d0_ ZO
  refine Zp 1125899906842631 ?_
  refine Zc (λhc0=>?_) λhc0=>?_
  ·refine Zp 12 (Aa.ret ?_)
   refine Zy ?_
   first|(rw[KN hlt];simp[Ja,Aj,Bj,Ay];done)|(rw[Hz hlt,if_neg (λh=>by simp[h] at hc0)];simp[Ja,Aj,Bj,Ay])
  refine Zk ?_
  refine Kn true (.seg 0 (.seg 1 (.seg 2 (.seg 3 (.seg 5 (.seg 6 (.seg 7 (.seg 8 (.seg 9 (.many (.alt 4 (.many (.alt 10 (.seg 11 (.seg 12 (.seg 13 (.done)))) (.alt 12 (.seg 10 (.seg 11 (.seg 13 (.done)))) (.nil)))) (.alt 10 (.many (.alt 4 (.seg 11 (.seg 12 (.seg 13 (.done)))) (.alt 12 (.seg 4 (.seg 11 (.seg 13 (.done)))) (.nil)))) (.alt 12 (.seg 4 (.seg 10 (.seg 11 (.seg 13 (.done))))) (.nil)))))))))))))) rfl (by kernel_rfl) λK_ hK_=>?_
  simp only[go_sem,zf1,zf3]
  (repeat(with_reducible refine And.intro ZS ?_))
  intro b6
  first|intro fb6|have fb6:=True.intro
  try simp only[Ab] at fb6
  refine hK_ _ _ ?_
  refine Zm 12 ?_
  refine Zs (Zx ?_)
  simp only[go_sem,fb6]
  refine ZP (Jz T _ _ (by have:=hs.at (i:=i) ZO;omega) (by have:=hs.at (i:=i+2) ZO;omega)) ?_
  refine Zy ?_
  refine Zc (λhc1=>?_) λhc1=>?_
  ·refine Zp 3 (Aa.ret ?_)
   simp only[go_sem,fb6]
   rw[Hz hlt,if_neg (λh=>hc1 h.2.2.2.2.2)];simp[Ja,Aj,Bj,Ay]
  refine Zk ?_
  refine Zp 3 (Aa.ret ?_)
  simp only[go_sem,fb6]
  rw[Hz hlt,if_pos ⟨hc0.1.1.1.1,hc0.1.1.1.2,hc0.1.1.2,hc0.1.2,hc0.2,hc1⟩];simp[Ja,Aj,Bj,Ay]
 have hge:((l.length:Int)<=((i+2:Nat):Int))=True:=by simp;omega
 refine Zp 1125899906842631 ?_
 refine Zc (λhc0=>?_) λhc0=>?_
 ·refine Zp 12 (Aa.ret ?_)
  refine Zy ?_
  first|(rw[KN hlt];simp[Ja,Aj,Bj,Ay];done)|(rw[Hz hlt,if_neg (λh=>by simp[h] at hc0)];simp[Ja,Aj,Bj,Ay])
 exact absurd hc0 (by first|(simp;done)|omega|(simp[*];done))
end
section
def J2 (n:Nat):Option (Ad×List Bt)->AV
 |some (a,t)=> .tup [.agg [.d (.str a.1),.d (.str a.2)],.d (.int .i64 (n-t.length:Int))]
 |none=> .tup [.agg [.d (.str []),.d (.str [])],.d (.int .i64 (-1))]
theorem JW {l:List Bt} {i:Nat} {a:Ad} {t:List Bt} (h:BT (l.drop i)=some (a,t)):t=l.drop (i+3)/\i+3<=l.length:=by
 have h1:=GL h
 simp at h1
 refine⟨?_,by omega⟩
 rcases Nat.lt_or_ge (i+2) l.length with h2|h2
 ·rw[Hz h2] at h
  split at h
  ·injection h with h;injection h with _ h;exact h.symm
  ·cases h
 ·rw[KN h2] at h;cases h
theorem JU (T:Ap) (hL:Bw T) (l:List Bt) (i:Nat) (hs:Jv l) (hi:i<=4294967296) (hl:l.length<=4294967296) (hp:BT (l.drop i)=none):PC prog T 230 [.d (.slc 4 (Fh l)),.d (.int .i64 i)] (.tup [.agg [.d (.str []),.d (.str [])],.d (.int .i64 0)]):=by
 have:=O9 T hL l i hs hi hl
 rw[hp] at this;exact this
theorem JV (T:Ap) (hL:Bw T) (l:List Bt) (i:Nat) (hs:Jv l) (hi:i<=4294967296) (hl:l.length<=4294967296) (a:Ad) (t:List Bt) (hp:BT (l.drop i)=some (a,t)):PC prog T 230 [.d (.slc 4 (Fh l)),.d (.int .i64 i)] (.tup [.agg [.d (.str a.1),.d (.str a.2)],.d (.int .i64 3)]):=by
 have:=O9 T hL l i hs hi hl
 rw[hp] at this;exact this
theorem Tf {l:List Bt} {k:Nat} (h:k<l.length) (hw:C0 l[k]=true):(l.drop k).dropWhile C0=(l.drop (k+1)).dropWhile C0:=by
 rw[List.drop_eq_getElem_cons h,List.dropWhile_cons,if_pos hw]
theorem NZ {l:List Bt} {k:Nat} (h:∀hk:k<l.length,C0 l[k]=false):(l.drop k).dropWhile C0=l.drop k:=by
 rcases Nat.lt_or_ge k l.length with hk|hk
 ·rw[List.drop_eq_getElem_cons hk,List.dropWhile_cons,if_neg (by rw[h hk];decide)]
 ·rw[List.drop_eq_nil_of_le hk];rfl
theorem Pi {l:List Bt} {k:Nat} (h:l.length<=k):EE (l.drop k)=none:=by rw[List.drop_eq_nil_of_le h];rfl
theorem SP {l:List Bt} {k:Nat} (h:k<l.length) (hx:l[k].text≠[60]):EE (l.drop k)=none:=by
 rw[List.drop_eq_getElem_cons h];simp[EE,hx]
theorem Pj {l:List Bt} {k:Nat} (h:k<l.length) (hp:BT (l.drop (k+1))=none):EE (l.drop k)=none:=by
 rw[List.drop_eq_getElem_cons h];simp[EE,hp]
theorem Lh {l:List Bt} {k:Nat} (h:k<l.length) (hx:l[k].text=[60]) {a:Ad} {t:List Bt} (hp:BT (l.drop (k+1))=some (a,t)) (h1:k+1<l.length):EE (l.drop k)=if h4:k+4<l.length then(if l[k+1].apart=false/\l[k+4].text=[62]/\l[k+4].apart=false then some (a,l.drop (k+5)) else none) else none:=by
 obtain⟨ht,hle⟩:=JW hp
 have hh:(l.drop (k+1)).head?.map Bt.apart=some l[k+1].apart:=by rw[List.drop_eq_getElem_cons h1];rfl
 rw[List.drop_eq_getElem_cons h]
 simp only[EE,hx,if_true,hp,hh,Option.some.injEq]
 subst ht
 rcases Nat.lt_or_ge (k+4) l.length with h4|h4
 ·rw[dif_pos h4,List.drop_eq_getElem_cons (show k+1+3<l.length by omega)]
 ·rw[dif_neg ZO,List.drop_eq_nil_of_le ZO]
theorem Ma {l:List Bt} {x:Ad×List Bt} (h:BT l=some x):Da l=some x:=by unfold Da;rw[h]
theorem D4 {l:List Bt} (h:BT l=none):Da l=EE (l.dropWhile C0):=by unfold Da;rw[h]
theorem b30:((3:Int)=0)=False:=by simp
theorem b00:((0:Int)=0)=True:=by simp
theorem b03:((0:Int)<3)=True:=by simp
theorem Aip:((0:Int)<0)=False:=by simp
theorem Aiz {a b:Nat} (h:b<=a):((a:Int)<(b:Int))=False:=by simp;omega
theorem Ai0 {a b:Nat} (h:a<b):((a:Int)<(b:Int))=True:=by simp;omega
theorem Ahe {a b:Nat} (h:b<a):((a:Int)<=(b:Int))=False:=by simp;omega
theorem Ahf {a b:Nat} (h:a<=b):((a:Int)<=(b:Int))=True:=by simp;omega
attribute [local go_sem] Bc Afn Afo Afp decide_false decide_true Bool.false_or Bool.true_or Bool.false_and Bool.true_and Bool.not_true Bool.not_false Bool.false_eq_true Bool.true_eq_false and_true true_and b30 b00 b03 Aip Uo List.drop_nil List.take_nil List.map_nil List.headD_nil in
theorem Lg (T:Ap) (hL:Bw T) (l:List Bt) (i:Nat) (hs:Jv l) (hi:i<=4294967296) (hl:l.length<=4294967296):PC prog T 147 [.d (.slc 4 (Fh l)),.d (.int .i64 i)] (J2 l.length (Da (l.drop i))):=by
 refine⟨call147,Ar.enterS func147 rfl ntmps147 rfl λhb=>?_⟩
 simp only[go_sem,results147]
 refine Zx (Zy ?_)
 intro b4
 first|intro fb4|have fb4:=True.intro
 try simp only[Ab] at fb4
 rcases hp:BT (l.drop i) with _|x
 ·refine Zx (Zy ?_)
  refine ZP (JU T hL l i hs hi hl hp) ?_
  refine Zy ?_
  intro b6
  first|intro fb6|have fb6:=True.intro
  try simp only[Ab] at fb6
  refine Zm 55 ?_
  refine Zs (Zp 79 ?_)
  refine Zc (λhc0=>?_) λhc0=>?_
  ·exact absurd hc0 (by first|(simp;done)|omega|(simp[*];done))
  refine Zk ?_
  refine Zs (Aa.block (Zn 15 ?_))
  refine Zl 13 2 (λn lc hc=> ∃(k:Nat),n=l.length-k/\Av lc [(1,.d (.int .i64 k))]/\Av hc (⟨[(b6,⟨2,1,[[.d (.str []),.d (.str [])]]⟩),(b4,⟨2,1,[[.d (.str []),.d (.str [])]]⟩)],[]⟩)/\(i<=k)/\(k<=4294967296)/\((l.drop k).dropWhile C0=(l.drop i).dropWhile C0)) ?_ ?_
  · refine ⟨_,i,rfl,ZE,ZE,?_,?_,?_⟩
    all_goals(first|omega|rfl)
  rintro _ _ _ ⟨k,rfl,⟨rfl⟩,⟨rfl⟩,h1,h2,h3⟩
  refine Zy ?_
  refine Zs ?_
  rcases Nat.lt_or_ge k l.length with hlt|hlt
  ·have zf1:=λd0_=>Dd l k d0_ hlt
   have zf2:=Ai0 hlt
   have zf3:=Ahe hlt
   refine Zp 2097167 ?_
   refine Zc (λhc1=>?_) λhc1=>?_
   ·refine Zk ?_
    refine Aa.block (Zr (Ai (Ac ?_)))
    refine Ze 13 2 [] [] [b6,b4] [] (.e ⟨_,ZM,k+1,rfl,ZE,ZE,?_,?_,?_⟩)
    · omega
    · omega
    · rw [<-Tf hlt (by simpa[C0] using hc1)];exact h3
   have hdw:(l.drop i).dropWhile C0=l.drop k:=by
     rw[<-h3]
     exact NZ (λhk=>by first|(exfalso;omega)|(unfold C0;simpa using hc1))
   refine Z4 ?_
   refine Zs (Zp 65551 ?_)
   refine Zc (λhc2=>?_) λhc2=>?_
   ·refine Zp 12 (Aa.ret ?_)
    simp only[go_sem,fb6]
    rw[D4 hp,hdw];first|rw[Pi hlt]|rw[SP hlt (by simpa using hc2)]
    simp[J2,Aj,Bj,Ay]
   refine Zk ?_
   rcases hp2:BT (l.drop (k+1)) with _|x
   ·refine Z1 31 (JU T hL l (k+1) hs ZO hl hp2) ?_
    refine Zs (Zp 274877906958 ?_)
    refine Zc (λhc3=>?_) λhc3=>?_
    ·refine Zp 6 (Aa.ret ?_)
     simp only[go_sem,fb6]
     have h60:l[k].text=[60]:=by simpa using hc2
     rw[D4 hp,hdw]
     first
     |rw[Pj hlt hp2]
     |rw[Lh hlt h60 hp2 ZO,dif_neg ZO]
     |rw[Lh hlt h60 hp2 ZO,dif_pos hlt4,if_neg (λh=>by simp[h] at hc3)]
     simp[J2,Aj,Bj,Ay]
    exact absurd hc3 (by first|(simp;done)|omega|(simp[*];done))
   obtain⟨a,t⟩:=x
   obtain⟨rfl,hle⟩:=JW hp2
   refine Zx (Zy ?_)
   (repeat(with_reducible refine And.intro ZS ?_))
   refine Aw rfl rfl rfl rfl (JV T hL l (k+1) hs ZO hl a _ hp2) rfl rfl ?_
   simp only[go_sem,fb6]
   refine Zm 31 ?_
   refine Zs ?_
   rcases Nat.lt_or_ge (k+4) l.length with hlt4|hlt4
   ·have zf4:=λd0_=>Dd l (k+1) d0_ ZO
    have zf5:=λd0_=>Dd l (k+4) d0_ hlt4
    have zf6:=Ahe hlt4
    refine Zp 274877906958 ?_
    refine Zc (λhc3=>?_) λhc3=>?_
    ·refine Zp 6 (Aa.ret ?_)
     simp only[go_sem,fb6]
     have h60:l[k].text=[60]:=by simpa using hc2
     rw[D4 hp,hdw]
     first
     |rw[Pj hlt hp2]
     |rw[Lh hlt h60 hp2 ZO,dif_neg ZO]
     |rw[Lh hlt h60 hp2 ZO,dif_pos hlt4,if_neg (λh=>by simp[h] at hc3)]
     simp[J2,Aj,Bj,Ay]
    refine Zk ?_
    refine Zp 6 (Aa.ret ?_)
    simp only[go_sem,fb6]
    have h60:l[k].text=[60]:=by simpa using hc2
    rw[D4 hp,hdw,Lh hlt h60 hp2 ZO,dif_pos hlt4,if_pos ⟨hc3.1.1,hc3.1.2,hc3.2⟩]
    simp[J2,Aj,Bj,Ay]
    omega
   have zf7:=λd0_=>Dd l (k+1) d0_ ZO
   have zf8:=Ahf hlt4
   refine Zp 274877906958 ?_
   refine Zc (λhc3=>?_) λhc3=>?_
   ·refine Zp 6 (Aa.ret ?_)
    simp only[go_sem,fb6]
    have h60:l[k].text=[60]:=by simpa using hc2
    rw[D4 hp,hdw]
    first
    |rw[Pj hlt hp2]
    |rw[Lh hlt h60 hp2 ZO,dif_neg ZO]
    |rw[Lh hlt h60 hp2 ZO,dif_pos hlt4,if_neg (λh=>by simp[h] at hc3)]
    simp[J2,Aj,Bj,Ay]
   exact absurd hc3 (by first|(simp;done)|omega|(simp[*];done))
  have zf9:=Aiz hlt
  have zf10:=Ahf hlt
  have zf11:=Wp l k hlt
  refine Zp 2097167 ?_
  refine Zc (λhc1=>?_) λhc1=>?_
  ·exact absurd hc1 (by first|(simp;done)|omega|(simp[*];done))
  have hdw:(l.drop i).dropWhile C0=l.drop k:=by
    rw[<-h3]
    exact NZ (λhk=>by first|(exfalso;omega)|(unfold C0;simpa using hc1))
  refine Z4 ?_
  refine Zs (Zp 65551 ?_)
  refine Zc (λhc2=>?_) λhc2=>?_
  ·refine Zp 12 (Aa.ret ?_)
   simp only[go_sem,fb6]
   rw[D4 hp,hdw];first|rw[Pi hlt]|rw[SP hlt (by simpa using hc2)]
   simp[J2,Aj,Bj,Ay]
  exact absurd hc2 (by first|(simp;done)|omega|(simp[*];done))
 obtain⟨a,t⟩:=x
 obtain⟨rfl,hle⟩:=JW hp
 refine Zx (Zy ?_)
 refine ZP (JV T hL l i hs hi hl a _ hp) ?_
 refine Zy ?_
 intro b6
 first|intro fb6|have fb6:=True.intro
 try simp only[Ab] at fb6
 refine Zm 55 ?_
 refine Zs (Zp 79 ?_)
 refine Zc (λhc0=>?_) λhc0=>?_
 ·refine Zp 12 (Aa.ret ?_)
  simp only[go_sem,fb6]
  rw[Ma hp];simp[J2,Aj,Bj,Ay];omega
 exact absurd hc0 (by first|(simp;done)|omega|(simp[*];done))
end
section
theorem Te (l:List Bt) (i:Nat):∃k,i<=k/\(l.drop i).dropWhile C0=l.drop k:=by
 obtain⟨t,ht⟩:=List.dropWhile_suffix (l:=l.drop i) C0
 refine⟨i+t.length,by omega,?_⟩
 have h2:List.drop t.length (t++List.dropWhile C0 (l.drop i))=List.dropWhile C0 (l.drop i):=by simp
 rw[ht,List.drop_drop] at h2
 exact h2.symm
theorem Agy {l:List Bt} {k:Nat} {a:Ad} {t:List Bt} (h:EE (l.drop k)=some (a,t)):t=l.drop (k+5)/\k+5<=l.length:=by
 rcases Nat.lt_or_ge k l.length with hk|hk
 ·by_cases hx:l[k].text=[60]
  ·cases hp:BT (l.drop (k+1)) with
   |none=>rw[Pj hk hp] at h;cases h
   | some x=>
    obtain⟨a',t'⟩:=x
    obtain⟨_,hle⟩:=JW hp
    rw[Lh hk hx hp ZO] at h
    split at h
    ·split at h
     ·injection h with h;injection h with _ h;exact⟨h.symm,by omega⟩
     ·cases h
    ·cases h
  ·rw[SP hk hx] at h;cases h
 ·rw[Pi hk] at h;cases h
theorem Aex {l:List Bt} {i:Nat} {a:Ad} {t:List Bt} (h:Da (l.drop i)=some (a,t)):∃e,i<e/\e<=l.length/\t=l.drop e:=by
 cases hp:BT (l.drop i) with
 |some x=>
  rw[Ma hp] at h
  injection h with h;subst h
  obtain⟨h1,h2⟩:=JW hp
  exact⟨i+3,by omega,h2,h1⟩
 |none=>
  rw[D4 hp] at h
  obtain⟨k,hk,e⟩:=Te l i
  rw[e] at h
  obtain⟨h1,h2⟩:=Agy h
  exact⟨k+5,by omega,h2,h1⟩
theorem Mb (T:Ap) (hL:Bw T) (l:List Bt) (i:Nat) (hs:Jv l) (hi:i<=4294967296) (hl:l.length<=4294967296) (hp:Da (l.drop i)=none):PC prog T 147 [.d (.slc 4 (Fh l)),.d (.int .i64 i)] (.tup [.agg [.d (.str []),.d (.str [])],.d (.int .i64 (-1))]):=by
 have:=Lg T hL l i hs hi hl
 rw[hp] at this;exact this
theorem Mc (T:Ap) (hL:Bw T) (l:List Bt) (i e:Nat) (hs:Jv l) (hi:i<=4294967296) (hl:l.length<=4294967296) (a:Ad) (he:e<=l.length) (hp:Da (l.drop i)=some (a,l.drop e)):PC prog T 147 [.d (.slc 4 (Fh l)),.d (.int .i64 i)] (.tup [.agg [.d (.str a.1),.d (.str a.2)],.d (.int .i64 e)]):=by
 have:=Lg T hL l i hs hi hl
 rw[hp] at this
 simp only[J2,List.length_drop] at this
 rw[show((l.length:Int)-((l.length-e:Nat):Int))=e by omega] at this
 exact this
theorem AbC (n:Nat):∀(s:Tx) (ap:Bool) (l:List Bt),s.length<=n->Az ap s=some l->l.length<=s.length/\∀x∈l,x.text.length<=s.length:=by
 induction n with
 |zero=>
  intro s ap l hs h
  have:s=[]:=List.eq_nil_of_length_eq_zero ZO
  subst this
  rw[Dt] at h;injection h with h;subst h;simp
 | succ n ih=>
  intro s ap l hs h
  cases s with
  |nil=>rw[Dt] at h;injection h with h;subst h;simp
  | cons c r=>
   simp only[List.length_cons] at hs⊢
   have fin:∀(q:Tx) (x:Bt) (l':List Bt),q.length<=r.length->x.text.length<=r.length+1->Az false q=some l'->x::l'=l->l.length<=r.length+1/\∀x∈l,x.text.length<=r.length+1:=by
    intro q x l' hq hx h1 h2
    obtain⟨i1,i2⟩:=ih q false l' ZO h1
    subst h2
    refine⟨by simp;omega,λy hy=>?_⟩
    rcases List.mem_cons.1 hy with rfl|hy
    ·exact hx
    ·have:=i2 y hy;omega
   cases e:D5 c with
   |true=>
    rw[Ek e] at h
    obtain⟨i1,i2⟩:=ih r true l ZO h
    exact⟨by omega,λx hx=>by have:=i2 x hx;omega⟩
   | false=>
    cases e2:CV c with
    |true=>
     rw[Fe e2] at h
     obtain⟨l',h1,h2⟩:=Option.map_eq_some_iff.1 h
     have h3:=IX (c::r) (by rw[Es e2];simp)
     have h4:=(List.takeWhile_sublist (l:=c::r) CV).length_le
     simp only[List.length_cons] at h3 h4
     exact fin _ _ l' ZO h4 h1 h2
    | false=>
     by_cases e3:c=34
     ·subst e3
      cases e4:Cs r with
      |none=>rw[El e4] at h;cases h
      |some q=>
       rw[Em e4] at h
       obtain⟨l',h1,h2⟩:=Option.map_eq_some_iff.1 h
       have:=H4 _ _ e4
       exact fin q _ l' ZO ZX h1 h2
     ·rw[Ck e e2 e3] at h
      obtain⟨l',h1,h2⟩:=Option.map_eq_some_iff.1 h
      exact fin r _ l' ZO ZX h1 h2
theorem SW {s:Tx} {l:List Bt} (h:Az false s=some l) (hs:s.length<=4294967296):l.length<=4294967296/\Jv l:=by
 obtain⟨h1,h2⟩:=AbC s.length s false l (Nat.le_refl _) h
 exact⟨by omega,λx hx=>by have:=h2 x hx;omega⟩
theorem QN (T:Ap) (s:Tx) (hs:s.length<=4294967296) (h:Az false s=none):PC prog T 146 [.d (.str s)] (.tup [.any,.d (.bool false)]):=by
 have:=QM T s hs
 rw[h] at this;exact this
theorem QO (T:Ap) (s:Tx) (hs:s.length<=4294967296) (l:List Bt) (h:Az false s=some l):PC prog T 146 [.d (.str s)] (.tup [.d (.slc 4 (Fh l)),.d (.bool true)]):=by
 have:=QM T s hs
 rw[h] at this;exact this
def Xp (a:Ad):List D:=[.str a.1,.str a.2]
def Ds (l:List Ad):List (List D):=l.map Xp
@[go_sem] theorem Hi (l:List Ad):(Ds l).length=l.length:=by simp[Ds]
def Ou:Option (List Ad)->AV
 |some l=> .tup [.d (.slc 2 (Ds l)),.d (.bool true)]
 |none=> .tup [.d (.slc 2 []),.d (.bool false)]
theorem Ahp:(((-1:Int)<0))=True:=by simp
attribute [local go_sem] Bc Xp Ahp Uo in
theorem MB (T:Ap) (hL:Bw T) (s:Tx) (hs:s.length<=4294967296):PC prog T 82 [.d (.str s)] (Ou (B6 s)):=by
 refine⟨call82,Ar.enterS func82 rfl ntmps82 rfl λhb=>?_⟩
 simp only[go_sem,results82]
 refine Zp 1 ?_
 rcases hb0:Az false s with _|l
 ·refine Z1 6 (QN T s hs hb0) ?_
  refine Zs (Zp 9 ?_)
  refine Zc (λhc0=>?_) λhc0=>?_
  ·refine Zp 3 (Aa.ret ?_)
   refine Zy ?_
   have hn:B6 s=none:=by have:=Ov s.length s false (Nat.le_refl _);rw[hb0] at this;exact this.symm
   rw[hn];simp[Ou,Aj,Bj,Ay]
  exact absurd hc0 (by first|(simp;done)|omega|(simp[*];done))
 obtain⟨hl,hsh⟩:=SW hb0 hs
 have hLS:listB l=B6 s:=by have:=Ov s.length s false (Nat.le_refl _);rw[hb0] at this;exact this
 refine Z1 6 (QO T s hs l hb0) ?_
 refine Zs (Zp 9 ?_)
 refine Zc (λhc0=>?_) λhc0=>?_
 ·exact absurd hc0 (by first|(simp;done)|omega|(simp[*];done))
 refine Zk ?_
 refine Zp 3 ?_
 refine Zy ?_
 refine Bs 6 2 rfl rfl ZD λt0 ft0=>?_
 try simp only[Ae] at ft0
 refine Zy ?_
 refine Zp 7 ?_
 refine Aa.block (Zy ?_)
 refine Zl 1 6 (λn lc hc=> ∃(k v:Nat) (Y:List Ad),n=l.length-k/\Av lc [(6,.own v 2 (Ds Y)),(7,.d (.int .i64 k))]/\Av hc (⟨[],[v]⟩)/\(k<=l.length)/\(Y.length<=k)/\((listB (l.drop k)).map (Y++ ·)=listB l)) ?_ ?_
 · refine ⟨_,0,t0,[],rfl,?_,ZE,?_,?_,?_⟩
   · (try simp only[go_sem])<;>first|exact⟨rfl⟩|(constructor;simp[Ds];done)
   all_goals(first|omega|(simp;done)|(cases listB l<;>rfl))
 rintro _ _ _ ⟨k,v,Y,rfl,⟨rfl⟩,⟨rfl⟩,h1,h2,h3⟩
 refine Zy ?_
 refine Aa.block ?_
 rcases hp:Da (l.drop k) with _|x
 ·refine Zx (Zy ?_)
  refine ZP (Mb T hL l k hsh ZO hl hp) ?_
  refine Zy ?_
  intro b8
  first|intro fb8|have fb8:=True.intro
  try simp only[Ab] at fb8
  refine Zm 27 ?_
  refine Zs (Zp 47 ?_)
  refine Zc (λhc1=>?_) λhc1=>?_
  ·refine Zp 3 (Aa.ret ?_)
   refine Zy ?_
   first|(exfalso;omega)|(rw[(by rw[<-hLS,<-h3,GC hp];rfl:B6 s=none)];simp[Ou,Aj,Bj,Ay])
  exact absurd hc1 (by first|(simp;done)|omega|(simp[*];done))
 obtain⟨a,t⟩:=x
 obtain⟨e,he1,he2,rfl⟩:=Aex hp
 refine Zx (Zy ?_)
 refine ZP (Mc T hL l k e hsh ZO hl a he2 hp) ?_
 refine Zy ?_
 intro b8
 first|intro fb8|have fb8:=True.intro
 try simp only[Ab] at fb8
 refine Zm 27 ?_
 refine Zs (Zp 47 ?_)
 refine Zc (λhc1=>?_) λhc1=>?_
 ·refine Zp 3 (Aa.ret ?_)
  refine Zy ?_
  first|(exfalso;omega)|(rw[(by rw[<-hLS,<-h3,GC hp];rfl:B6 s=none)];simp[Ou,Aj,Bj,Ay])
 refine Zk ?_
 refine Zx (Zy ?_)
 refine ZW λt1 ft1=>?_
 try simp only[Ae] at ft1
 refine Zy ?_
 refine Zm 11 ?_
 refine Zs (Zp 71 ?_)
 refine Zc (λhc2=>?_) λhc2=>?_
 ·have hst:listB (l.drop k)=some [a]:=by
    have h0:l.drop e=[]:=List.drop_eq_nil_of_le ZO
    rw[h0] at hp
    exact Ot hp
  refine Zp 3 (Aa.ret ?_)
  refine Zy ?_
  have hn:B6 s=some (Y++[a]):=by rw[<-hLS,<-h3,hst];rfl
  rw[hn];simp[Ou,Ds,Xp,Aj,Bj,Ay]
 have hel:e<l.length:=by omega
 rw[List.drop_eq_getElem_cons hel] at hp
 have zf1:=λd0_=>Dd l e d0_ hel
 refine Zk ?_
 refine Zs (Zp 519 ?_)
 refine Zc (λhc3=>?_) λhc3=>?_
 ·have hst:listB (l.drop k)=none:=by rw[GB hp,if_neg (by simpa using hc3)]
  refine Zp 3 (Aa.ret ?_)
  refine Zy ?_
  have hn:B6 s=none:=by rw[<-hLS,<-h3,hst];rfl
  rw[hn];simp[Ou,Aj,Bj,Ay]
 have hst:listB (l.drop k)=(listB (l.drop (e+1))).map (a:: ·):=by rw[GB hp,if_pos (by simpa using hc3)]
 refine Zk ?_
 refine Zr (Ai (Ac ?_))
 refine Ze 1 6 [b8] [] [] [t1] (.e ⟨_,ZM,(e+1),t1,(Y++[a]),rfl,?_,ZE,?_,?_,?_⟩)
 · (try simp only[go_sem])<;>first|exact⟨rfl⟩|(constructor;simp[Ds,Xp];done)
 · omega
 · simp;omega
 · rw [<-h3,hst];cases listB (l.drop (e+1))<;>simp
end
section
def Gd (r:List Ad×Int):AV:= .tup [.d (.slc 2 (Ds r.1)),.d (.int .i64 r.2)]
theorem M9 (T:Ap) (b2 b3:Nat) (h:AH):CZ prog T 218 [.ptr b2 1 0 0,.ptr b3 1 0 0] h none (λh'=>h'=h):=by
 refine CZ.enter (t0:=3) (t1:=2) call218 func218 rfl ntmps218 results218 rfl rfl rfl rfl rfl rfl rfl rfl trivial ?_
 simp only[go_sem,Option.getD]
 refine A6 λK1 hK1=>?_
 refine Zy ?_
 refine hK1 _ _ ?_
 refine Aa.cond _ rfl (λhc=>?_) (λhc=>?_)
 ·exact absurd hc ZX
 ·exact Aa.skip rfl
theorem MA (T:Ap) (b2 b3:Nat) (x:AV) (y e:Int) (F:Af) (L:List Nat) (h23:(b2==b3)=false):CZ prog T 218 [.ptr b2 1 0 0,.ptr b3 1 0 0] ⟨(b2,⟨1,1,[[x]]⟩)::(b3,⟨1,1,[[.d (.int .i64 y)]]⟩)::F,L⟩ (some (.ifc 25 (.d (.int .i64 e)))) (λh'=>h'=⟨(b2,⟨1,1,[[.nils]]⟩)::(b3,⟨1,1,[[.d (.int .i64 e)]]⟩)::F,L⟩):=by
 refine CZ.enter (t0:=3) (t1:=2) call218 func218 rfl ntmps218 results218 rfl rfl rfl rfl rfl rfl rfl rfl trivial ?_
 simp only[go_sem,Option.getD]
 refine A6 λK1 hK1=>?_
 refine Zy ?_
 refine hK1 _ _ ?_
 refine Aa.cond _ rfl (λhc=>?_) (λhc=>?_)
 ·refine Aea true [0,1,2,3] rfl (by kernel_rfl) λK2 hK2=>?_
  simp only[go_sem,Pm,h23]
  refine hK2 _ _ ?_
  rfl
 ·exact absurd hc ZX
theorem KG {s:Tx} {j j1 j2:Nat} {a:Ad} (hq:B5 true (s.drop j)=some (a,s.drop j1)) (hsk:s.drop j2=A5 (s.drop j1)):B6 (s.drop j)=match s.drop j2 with|[]=>some [a]|c::q=>if c=44 then(B6 q).map (a:: ·) else none:=by
 rw[IT hq,<-hsk]
 rfl
theorem Acq {s:Tx} {j j1 j2:Nat} {a:Ad} (hq:B5 true (s.drop j)=some (a,s.drop j1)) (hsk:s.drop j2=A5 (s.drop j1)) (h1:j2<s.length) (h:(s.drop j2).head?≠some 44):B6 (s.drop j)=none:=by
 rw[KG hq hsk,Be h1]
 rw[Be h1] at h
 simp at h
 simp[h]
theorem WM {s:Tx} {j j1 j2:Nat} {a:Ad} (hq:B5 true (s.drop j)=some (a,s.drop j1)) (hsk:s.drop j2=A5 (s.drop j1)) (hd:s.drop j2=44::s.drop (j2+1)):B6 (s.drop j)=(B6 (s.drop (j2+1))).map (a:: ·):=by
 rw[KG hq hsk,hd];simp
theorem Z0 {s:Tx} {j j1 j2:Nat} {a:Ad} (hq:B5 true (s.drop j)=some (a,s.drop j1)) (hsk:s.drop j2=A5 (s.drop j1)) (h1:s.length<=j2):B6 (s.drop j)=some [a]:=by
 rw[KG hq hsk,Bz h1]
theorem JM {s:Tx} (h:¬2000<s.length) (hn:B6 s=none):Ba s=([],3):=by rw[Ba,if_neg h,hn]
theorem IS {s:Tx} {l:List Ad} (h:¬2000<s.length) (hn:B6 s=some l) (hl:20<l.length):Ba s=([],5):=by rw[Ba,if_neg h,hn];exact if_pos hl
theorem MD {s:Tx} {l:List Ad} (h:¬2000<s.length) (hn:B6 s=some l) (hl:¬20<l.length):Ba s=(l,0):=by rw[Ba,if_neg h,hn];exact if_neg hl
attribute [local go_sem] FW Bc in
theorem Aeh (T:Ap) (hL:Bw T) (s:Tx):AC prog T 133 [.d (.str s)] (⟨[],[]⟩) (λx _=>x= .ret (Gd (Ba s))):=by
 refine⟨call133,Nq func133 rfl ntmps133 rfl λhb=>?_⟩
 simp only[go_sem,results133]
 refine OP.seq λK1 hK1=>?_
 refine Zq λK_ k_=>?_
 refine Zy ?_
 intro b2
 first|intro fb2|have fb2:=True.intro
 try simp only[Ab,FW] at fb2
 intro b3
 first|intro fb3|have fb3:=True.intro
 try simp only[Ab,FW] at fb3
 refine k_ _ _ (Ac ?_)
 refine hK1 _ _ ?_
 refine OP.seq λK2 hK2=>?_
 refine Zp 39 ?_
 refine Zc (λhc0=>?_) λhc0=>?_
 ·refine Zp 6 (Aa.ret ?_)
  simp only[Am]
  simp only[AbW]
  apply Ah [b2,b3] [] [] [] (by(try simp only[go_sem,fb3]);rfl)
  · rfl
  · rw [Ba,if_pos ZO];simp[Gd,Ds,Aj,Bj,Ay]
 have hs:s.length<=4096:=by omega
 refine Zk ?_
 refine hK2 _ _ ?_
 refine OP.defer rfl rfl rfl (by rw[Dn];decide) rfl rfl ?_
 refine Zy ?_
 refine Zx (Zy ?_)
 intro b4
 first|intro fb4|have fb4:=True.intro
 try simp only[Ab,FW] at fb4
 refine Zn 14 ?_
 refine CC b2 0 0 2 (by(try simp only[go_sem,fb3,fb4]);rfl) rfl rfl ZD λt0 ft0=>?_
 try simp only[Ae] at ft0
 simp only[go_sem,fb3,fb4]
 refine Zs (Aa.block (Zl 7 0 (λn lc hc=> ∃(j v:Nat) (Y:List Ad),n=s.length-j/\Av lc []/\Av hc (⟨[FW b4 s j,(b3,⟨1,1,[[.d (.int .i64 0)]]⟩),(b2,⟨1,1,[[.own v 2 (Ds Y)]]⟩)],[v]⟩)/\(j<=s.length)/\(Y.length<=j)/\((B6 (s.drop j)).map (Y++ ·)=B6 s)) ?_ ?_))
 · refine ⟨_,0,t0,[],rfl,ZE,?_,?_,?_,?_⟩
   · (try simp only[go_sem])<;>first|exact⟨rfl⟩|(constructor;simp[FW,Ds];done)
   all_goals(first|omega|(simp;done)|(cases B6 s<;>rfl))
 rintro _ _ _ ⟨j,v,Y,rfl,⟨rfl⟩,⟨rfl⟩,h1,h2,h3⟩
 refine Zy ?_
 refine Aa.block (ON [(2,.ptr b2 1 0 0),(3,.ptr b3 1 0 0)] (OQ rfl rfl rfl rfl) rfl [1] 0 [2,3] [4,5] rfl (by kernel_rfl) rfl λK_ hK_=>?_)
 simp only[go_sem,fb3,fb4]
 try with_reducible refine Exists.intro _ (And.intro (by first|rfl|(simp only[go_sem,fb2,fb3,fb4,ft0];first|rfl|exact⟨by omega,rfl⟩)) ?_)
 refine ZA [b4] [] (Wk T hL b4 s j _ _ ZO hs) ?_
 rintro _ _ (⟨hI3q,rfl,yI3,rfl⟩|⟨I3,a4,hI3a,hI3b,hq,rfl,rfl⟩)
 ·intro _ hag
  refine Y5 [b4] [] [b2,b3] [] ?_
  simp only[go_sem,fb3,fb4]
  refine(MA T b2 b3 _ _ _ _ _ (by simp only[fb3])).mono ?_
  rintro _ rfl
  refine LE [] [] [] [] (by(try simp only[go_sem,fb3,hag.one,hag.tl.one]);rfl) rfl ?_
  rw[JM ZO (by rw[<-h3,Fo hI3q];rfl)]
  simp[Gd,Ds,Aj,Bj,Ay]
 simp only[go_sem,fb3,fb4]
 try with_reducible refine And.intro (by first|rfl|(simp only[go_sem,fb2,fb3,fb4,ft0];first|done|rfl|exact⟨by omega,rfl⟩)) ?_
 refine AN _ _ _ ?_
 simp only[go_sem,fb3,fb4]
 try with_reducible refine And.intro (by first|rfl|(simp only[go_sem,fb2,fb3,fb4,ft0];first|done|rfl|exact⟨by omega,rfl⟩)) ?_
 refine ZW λt1 ft1=>?_
 try simp only[Ae] at ft1
 simp only[go_sem,fb3,fb4]
 refine hK_ _ _ ?_
 refine Zm 7 ?_
 refine TT [(2,.ptr b2 1 0 0),(3,.ptr b3 1 0 0)] (OQ rfl rfl rfl rfl) rfl λK_ hK_=>?_
 refine Zy ?_
 refine ZA [b4] [] (Aa9 T b4 s I3 _ _ ZO hs) ?_
 rintro _ _ ⟨I5,hI5a,hI5b,hI5c,rfl,rfl⟩
 refine Zy ?_
 have hsk:=hI5c
 refine hK_ _ _ ?_
 refine Zs (Zd true [0,1,2,3,4,5,6,7,8,9] ?_)
 simp only[go_sem,fb4]
 refine Zm 16391 ?_
 refine Zc (λhc1=>?_) λhc1=>?_
 ·have hS:B6 s=some (Y++[a4]):=by rw[<-h3,Z0 hq hsk ZO];rfl
  refine Aa.exit (Ak (EG ZD (Ak (Bh (Ac ?_)))))
  refine Zs (Zp 67 ?_)
  refine Zc (λhc2=>?_) λhc2=>?_
  ·refine Zp 3 (Aa.ret ?_)
   simp only[Am]
   refine Y6 [b4] [] [b2,b3] [] ?_
   simp only[go_sem,fb3,fb4]
   refine(M9 T b2 b3 _).mono ?_
   rintro _ rfl
   refine LE [] [] [] [] (by(try simp only[go_sem,fb3]);rfl) rfl ?_
   rw[IS ZO hS (by simp[Ds] at hc2⊢;omega)]
   simp[Gd,Ds,Aj,Bj,Ay]
  refine Zk ?_
  refine Zp 3 (Aa.ret ?_)
  refine Y6 [b4] [] [b2,b3] [] ?_
  simp only[go_sem,fb3,fb4]
  refine(M9 T b2 b3 _).mono ?_
  rintro _ rfl
  refine LE [] [] [] [] (by(try simp only[go_sem,fb3]);rfl) rfl ?_
  rw[MD ZO hS (by simp[Ds] at hc2⊢;omega)]
  simp[Gd,Ds,Xp,Aj,Bj,Ay]
 have hne:I5<s.length:=by omega
 refine Zk ?_
 refine TT [(2,.ptr b2 1 0 0),(3,.ptr b3 1 0 0)] (OQ rfl rfl rfl rfl) rfl λK_ hK_=>?_
 refine Zy ?_
 refine ZA [b4] [] (IW T b4 s I5 _ _ ZO hs) ?_
 rintro _ _ ⟨rfl,rfl⟩
 refine Zy ?_
 refine ZA [] [] (IV T _ _) ?_
 rintro _ _ (⟨hm6,rfl,rfl⟩|⟨hm6,rfl,rfl⟩)
 ·intro _ hag
  refine Y5 [b4] [] [b2,b3] [] ?_
  simp only[decide_eq_false_iff_not] at hm6
  simp only[go_sem,fb3,fb4]
  refine(MA T b2 b3 _ _ _ _ _ (by simp only[fb3])).mono ?_
  rintro _ rfl
  refine LE [] [] [] [] (by(try simp only[go_sem,fb3,hag.one,hag.tl.one]);rfl) rfl ?_
  rw[JM ZO (by rw[<-h3,Acq hq hsk hne (F7 (c:=44) rfl hm6)];rfl)]
  simp[Gd,Ds,Aj,Bj,Ay]
 simp only[decide_eq_true_eq] at hm6
 obtain⟨_,hd⟩:=F6 44 rfl ZD hm6
 refine Zy ?_
 refine hK_ _ _ ?_
 refine Zm 7 ?_
 refine Zr (Ai (Ac ?_))
 refine Ze 7 0 [] [] [b4,b3,b2] [t1] (.e ⟨_,ZM,(I5+1),t1,(Y++[a4]),rfl,ZE,?_,?_,?_,?_⟩)
 · (try simp only[go_sem,fb3,fb4])<;>first|exact⟨rfl⟩|(constructor;simp[Ds,Xp];done)
 · omega
 · simp;omega
 · rw [<-h3,WM hq hsk hd];cases B6 (s.drop (I5+1))<;>simp
end
section
theorem QB (l:List Ad) (i:Nat) (d:List D) (h:i<l.length):(Ds l).getD i d=Xp (l[i]'h):=Al Xp _ _ _ h
theorem Hx (T:Ap) (hL:Bw T) (s:Tx) (hs:s.length<=4294967296) (h:B6 s=none):PC prog T 82 [.d (.str s)] (.tup [.d (.slc 2 []),.d (.bool false)]):=by
 have:=MB T hL s hs
 rw[h] at this;exact this
theorem Hy (T:Ap) (hL:Bw T) (s:Tx) (hs:s.length<=4294967296) (l:List Ad) (h:B6 s=some l):PC prog T 82 [.d (.str s)] (.tup [.d (.slc 2 (Ds l)),.d (.bool true)]):=by
 have:=MB T hL s hs
 rw[h] at this;exact this
theorem OU (T:Ap) (hL:Bw T) (s:Tx):PC prog T 133 [.d (.str s)] (Gd (Ba s)):=PC.of_ac (Aeh T hL s) (by simp[Gd,Aj,Bj,Ay])
theorem KE (s:Tx):(Ba s).1.length<=4096:=by
 unfold Ba
 split
 ·simp
 ·split
  ·simp
  ·split
   ·simp
   ·rename_i l h;simp;omega
end
section
def onD (p:Prop) [Decidable p] (t:Tx):Tx:=if p then t else []
def onI (p:Prop) [Decidable p] (n:Int):Int:=if p then n else 0
def BN.cl (x:BN):BN:=⟨x.kind,onD (x.kind≠6) x.box,onI (x.kind=3\/x.kind=5) x.uid,onI (x.kind=2\/x.kind=3) x.flags,onD (x.kind=5\/x.kind=6) x.dest,onD (x.kind=2\/x.kind=6) x.text⟩
def F5 (x:BN):Bool:=((((decide (x.kind=6)&&!decide (x.box=[]))||((!decide (x.kind=6)&&!decide (x.kind=5))&&!decide (x.dest=[])))||((!decide (x.kind=6)&&!decide (x.kind=2))&&!decide (x.text=[])))||((!decide (x.kind=5)&&!decide (x.kind=3))&&!decide (x.uid=0)))||((!decide (x.kind=2)&&!decide (x.kind=3))&&!decide (x.flags=0))
def eqE (x y:BN):Bool:=decide (x.kind=y.kind)&&(decide (x.box=y.box)&&(decide (x.uid=y.uid)&&(decide (x.flags=y.flags)&&(decide (x.dest=y.dest)&&decide (x.text=y.text)))))
theorem Af2 {p:Prop} [Decidable p] {t:Tx} :(t=onD p t)↔(p\/t=[]):=by
 unfold onD;split<;>simp[*]
theorem Af3 {p:Prop} [Decidable p] {t:Int} :(t=onI p t)↔(p\/t=0):=by
 unfold onI;split<;>simp[*]
theorem U6 (x:BN) (h:1<=x.kind/\x.kind<=6):eqE x x.cl=!F5 x:=by
 rw[Bool.eq_iff_iff]
 simp only[eqE,BN.cl,Bool.and_eq_true,decide_eq_true_eq,Af2,Af3,Bool.not_eq_true',F5,Bool.or_eq_false_iff,Bool.and_eq_false_iff,decide_eq_false_iff_not,Bool.not_eq_false']
 have hk:x.kind=1\/x.kind=2\/x.kind=3\/x.kind=4\/x.kind=5\/x.kind=6:=by omega
 rcases hk with e|e|e|e|e|e<;>simp[e]<;>grind
def IC (t:Tx):Int:=if 100<t.length then 3 else match B6 t with|some [_]=>0|_=>3
def En (x:BN):Int:=
 if¬(1<=x.kind/\x.kind<=6) then 2
 else if F5 x=true then 3
 else if x.flags<0\/31<x.flags\/x.uid<0\/1048576<x.uid then 6
 else if 2000<x.text.length then 1
 else if x.kind=6 then IC x.dest
 else if CT x.box≠0 then CT x.box
 else if x.kind=5 then CT x.dest else 0
theorem YC {x:BN} (h:¬(1<=x.kind/\x.kind<=6)):En x=2:=if_pos h
theorem YD {x:BN} (h:1<=x.kind/\x.kind<=6) (h2:F5 x=true):En x=3:=by unfold En;rw[if_neg ZO,if_pos h2]
theorem YE {x:BN} (h:1<=x.kind/\x.kind<=6) (h2:F5 x=false) (h3:x.flags<0\/31<x.flags\/x.uid<0\/1048576<x.uid):En x=6:=by unfold En;rw[if_neg ZO,if_neg (by simp[h2]),if_pos h3]
theorem CE {x:BN} (h:1<=x.kind/\x.kind<=6) (h2:F5 x=false) (h3:¬(x.flags<0\/31<x.flags\/x.uid<0\/1048576<x.uid)):En x=if 2000<x.text.length then 1 else if x.kind=6 then IC x.dest else if CT x.box≠0 then CT x.box else if x.kind=5 then CT x.dest else 0:=by unfold En;rw[if_neg ZO,if_neg (by simp[h2]),if_neg h3]
theorem NX {t:Tx} (h:100<t.length):IC t=3:=if_pos h
theorem G8 {t:Tx} {l:List Ad} (h:¬100<t.length) (h2:B6 t=some l):IC t=if l.length=1 then 0 else 3:=by
 unfold IC
 rw[if_neg h,h2]
 match l with
 |[]=>rfl
 |[a]=>rfl
 |a::c::l=>simp
theorem IN {t:Tx} (h:¬100<t.length) (h2:B6 t=none):IC t=3:=by
 unfold IC
 rw[if_neg h,h2]
theorem Ux {t:Tx} (h:¬100<t.length):IC t=if(Ba t).2=0/\(Ba t).1.length=1 then 0 else 3:=by
 cases h2:B6 t with
 |none=>rw[IN h h2,JM ZO h2];simp
 |some l=>
  rw[G8 h h2]
  by_cases hl:20<l.length
  ·rw[IS ZO h2 hl,if_neg ZO];simp
  ·rw[MD ZO h2 hl];simp
theorem AbS {t:Tx} (h:(¬(Ba t).2=0\/¬((Ba t).1.length:Int)=1)\/100<(t.length:Int)):IC t=3:=by
 by_cases hb:100<t.length
 ·exact NX hb
 ·rw[Ux hb,if_neg]
  rintro⟨h1,h2⟩
  rcases h with(h|h)|h
  ·exact h h1
  ·exact h ZO
  ·exact hb ZO
theorem AbR {t:Tx} (h:((Ba t).2=0/\((Ba t).1.length:Int)=1)/\(t.length:Int)<=100):IC t=0:=by
 rw[Ux ZO,if_pos ⟨h.1.1,by omega⟩]
theorem Afi {x:BN} (hk:1<=x.kind/\x.kind<=6) (h:¬(x.kind=x.cl.kind/\x.box=x.cl.box/\x.uid=x.cl.uid/\x.flags=x.cl.flags/\x.dest=x.cl.dest/\x.text=x.cl.text)):F5 x=true:=by
 have:=U6 x hk
 cases e:F5 x with
 |true=>rfl
 |false=>
  rw[e] at this
  simp only[eqE,Bool.and_eq_true,decide_eq_true_eq,Bool.not_false] at this
  exact absurd this h
theorem Afh {x:BN} (hk:1<=x.kind/\x.kind<=6) (h:x.kind=x.cl.kind/\x.box=x.cl.box/\x.uid=x.cl.uid/\x.flags=x.cl.flags/\x.dest=x.cl.dest/\x.text=x.cl.text):F5 x=false:=by
 have:=U6 x hk
 cases e:F5 x with
 |false=>rfl
 |true=>
  rw[e] at this
  obtain⟨h1,h2,h3,h4,h5,h6⟩:=h
  simp[eqE,<-h1,<-h2,<-h3,<-h4,<-h5,<-h6] at this
attribute [local go_sem] Bc Gd in
theorem Aee (T:Ap) (hL:Bw T) (x:BN) (sb:x.box.length<=9223372036854775807) (sd:x.dest.length<=9223372036854775807) (st:x.text.length<=9223372036854775807):PC prog T 88 [.agg (C7 x)] (.d (.int .i64 (En x))):=by
 refine⟨call88,Ar.enterS func88 rfl ntmps88 rfl λhb=>?_⟩
 simp only[go_sem,results88]
 refine Zx (Zy ?_)
 intro b1
 first|intro fb1|have fb1:=True.intro
 try simp only[Ab] at fb1
 refine Zx (Zy ?_)
 intro b3 fb3
 try simp only[Ab] at fb3
 refine Zm 10 ?_
 refine Zs (Zp 11 ?_)
 refine Zy ?_
 refine Zi 3 (λlc hc=>Av lc []/\Av hc (⟨[(b3,⟨6,1,[C7 x.cl]⟩),(b1,⟨6,1,[C7 x]⟩)],[]⟩)/\(1<=x.kind/\x.kind<=6)) ?_ ?_
 ·refine Aa.block (Zs (Zp 15 ?_))
  refine Zy ?_
  apply Za (z:=(_||_)) 7 12
  ·refine Aa.cond _ rfl (λhc0=>?_) λhc0=>?_
   rotate_left
   ·refine Z6 ?_
    refine Zf 7 8 (.e ⟨BD (ES hc0 rfl),⟨rfl⟩⟩)
   refine Aa.skip (Ac ?_)
   refine Zf 7 8 (.e ⟨BD (Hc hc0),⟨rfl⟩⟩)
  refine Zy ?_
  refine Zc (λhc1=>?_) λhc1=>?_
  ·have e3:¬x.kind=6/\¬x.kind=5/\¬x.kind=3/\¬x.kind=2:=by omega
   refine Zr (Ai (Ac ?_))
   refine Ze 3 0 [] [] [b3,b1] [] (.e ⟨ZG,?_,ZG2⟩)
   · (try simp only[go_sem,fb3])<;>first|exact⟨rfl⟩|(constructor;simp[BN.cl,onD,onI, *];done)
  refine Zp 23 ?_
  refine Zc (λhc2=>?_) λhc2=>?_
  ·refine DL true (.seg 0 (.seg 1 (.seg 2 (.seg 4 (.seg 6 (.many (.alt 3 (.many (.alt 5 (.seg 7 (.seg 8 (.seg 9 (.seg 10 (.seg 11 (.done)))))) (.alt 7 (.seg 8 (.many (.alt 5 (.seg 9 (.seg 10 (.seg 11 (.done)))) (.alt 9 (.seg 5 (.seg 10 (.seg 11 (.done)))) (.nil))))) (.nil)))) (.alt 5 (.many (.alt 3 (.seg 7 (.seg 8 (.seg 9 (.seg 10 (.seg 11 (.done)))))) (.alt 7 (.seg 3 (.seg 8 (.seg 9 (.seg 10 (.seg 11 (.done)))))) (.nil)))) (.alt 7 (.seg 3 (.seg 8 (.many (.alt 5 (.seg 9 (.seg 10 (.seg 11 (.done)))) (.alt 9 (.seg 5 (.seg 10 (.seg 11 (.done)))) (.nil)))))) (.nil)))))))))) rfl (by kernel_rfl) λK_ hK_=>?_
   simp only[go_sem,fb3]
   refine hK_ _ _ ?_
   refine Ai (Ac ?_)
   refine Ze 3 0 [] [] [b3,b1] [] (.e ⟨ZG,?_,ZG2⟩)
   · (try simp only[go_sem,fb3])<;>first|exact⟨rfl⟩|(constructor;simp[BN.cl,onD,onI, *];done)
  refine Zp 23 ?_
  refine Zc (λhc3=>?_) λhc3=>?_
  ·refine DL true (.seg 0 (.seg 1 (.seg 2 (.seg 4 (.seg 6 (.many (.alt 3 (.many (.alt 5 (.seg 7 (.seg 8 (.seg 9 (.seg 10 (.seg 11 (.done)))))) (.alt 7 (.seg 8 (.many (.alt 5 (.seg 9 (.seg 10 (.seg 11 (.done)))) (.alt 9 (.seg 5 (.seg 10 (.seg 11 (.done)))) (.nil))))) (.nil)))) (.alt 5 (.many (.alt 3 (.seg 7 (.seg 8 (.seg 9 (.seg 10 (.seg 11 (.done)))))) (.alt 7 (.seg 3 (.seg 8 (.seg 9 (.seg 10 (.seg 11 (.done)))))) (.nil)))) (.alt 7 (.seg 3 (.seg 8 (.many (.alt 5 (.seg 9 (.seg 10 (.seg 11 (.done)))) (.alt 9 (.seg 5 (.seg 10 (.seg 11 (.done)))) (.nil)))))) (.nil)))))))))) rfl (by kernel_rfl) λK_ hK_=>?_
   simp only[go_sem,fb3]
   refine hK_ _ _ ?_
   refine Ai (Ac ?_)
   refine Ze 3 0 [] [] [b3,b1] [] (.e ⟨ZG,?_,ZG2⟩)
   · (try simp only[go_sem,fb3])<;>first|exact⟨rfl⟩|(constructor;simp[BN.cl,onD,onI, *];done)
  refine Zp 23 ?_
  refine Zc (λhc4=>?_) λhc4=>?_
  ·refine DL true (.seg 0 (.seg 1 (.seg 2 (.seg 4 (.seg 6 (.many (.alt 3 (.many (.alt 5 (.seg 7 (.seg 8 (.seg 9 (.seg 10 (.seg 11 (.done)))))) (.alt 7 (.seg 8 (.many (.alt 5 (.seg 9 (.seg 10 (.seg 11 (.done)))) (.alt 9 (.seg 5 (.seg 10 (.seg 11 (.done)))) (.nil))))) (.nil)))) (.alt 5 (.many (.alt 3 (.seg 7 (.seg 8 (.seg 9 (.seg 10 (.seg 11 (.done)))))) (.alt 7 (.seg 3 (.seg 8 (.seg 9 (.seg 10 (.seg 11 (.done)))))) (.nil)))) (.alt 7 (.seg 3 (.seg 8 (.many (.alt 5 (.seg 9 (.seg 10 (.seg 11 (.done)))) (.alt 9 (.seg 5 (.seg 10 (.seg 11 (.done)))) (.nil)))))) (.nil)))))))))) rfl (by kernel_rfl) λK_ hK_=>?_
   simp only[go_sem,fb3]
   refine hK_ _ _ ?_
   refine Ai (Ac ?_)
   refine Ze 3 0 [] [] [b3,b1] [] (.e ⟨ZG,?_,ZG2⟩)
   · (try simp only[go_sem,fb3])<;>first|exact⟨rfl⟩|(constructor;simp[BN.cl,onD,onI, *];done)
  refine Zp 19 ?_
  refine Zc (λhc5=>?_) λhc5=>?_
  ·refine DL true (.seg 0 (.seg 1 (.seg 2 (.seg 4 (.many (.alt 3 (.seg 5 (.seg 6 (.seg 7 (.done)))) (.alt 5 (.seg 3 (.seg 6 (.seg 7 (.done)))) (.nil)))))))) rfl (by kernel_rfl) λK_ hK_=>?_
   simp only[go_sem,fb3]
   refine hK_ _ _ ?_
   refine Ai (Ac ?_)
   refine Ze 3 0 [] [] [b3,b1] [] (.e ⟨ZG,?_,ZG2⟩)
   · (try simp only[go_sem,fb3])<;>first|exact⟨rfl⟩|(constructor;simp[BN.cl,onD,onI, *];done)
  refine Zp 2 (Aa.ret ?_)
  refine Zy ?_
  rw[YC ZO]
 rintro _ _ ⟨⟨rfl⟩,⟨rfl⟩,hk⟩
 refine Zy ?_
 refine Zs (Zp 17 ?_)
 refine Zc (λhc6=>?_) λhc6=>?_
 ·have hf:=Afi hk (λhh=>by simp[hh] at hc6)
  refine Zp 2 (Aa.ret ?_)
  refine Zy ?_
  rw[YD hk hf]
 have hf:=Afh hk (by simpa[and_assoc] using hc6)
 clear hc6
 refine Zk ?_
 refine Zs (Zp 524289 ?_)
 refine Zc (λhc7=>?_) λhc7=>?_
 ·refine Zp 2 (Aa.ret ?_)
  refine Zy ?_
  rw[YE hk hf ZO]
 refine Zk ?_
 refine Zs (Zp 33 ?_)
 refine Zc (λhc8=>?_) λhc8=>?_
 ·refine Zp 2 (Aa.ret ?_)
  refine Zy ?_
  rw[CE hk hf ZO,if_pos ZO]
 refine Zk ?_
 refine Zs (Zp 17 ?_)
 refine Zc (λhc9=>?_) λhc9=>?_
 ·refine Zx ?_
  simp only[go_sem,fb3]
  refine ZP (OU T hL _) ?_
  refine Zy ?_
  refine Zm 7 ?_
  refine Zs (Zp 32768 ?_)
  refine Zc (λhc10=>?_) λhc10=>?_
  ·refine Zp 1 (Aa.ret ?_)
   refine Zy ?_
   rw[CE hk hf ZO,if_neg ZO,if_pos hc9,AbS hc10]
  refine Zk ?_
  refine Zp 1 (Aa.ret ?_)
  refine Zy ?_
  rw[CE hk hf ZO,if_neg ZO,if_pos hc9,AbR hc10]
 refine Zk ?_
 refine Zs (Zx ?_)
 simp only[go_sem,fb3]
 refine Aw rfl rfl rfl rfl (OW T _ (by first|exact sb|exact sd)) rfl rfl ?_
 refine Zy ?_
 refine Zm 3 ?_
 refine Zp 11 ?_
 refine Zc (λhc11=>?_) λhc11=>?_
 ·refine Zp 2 (Aa.ret ?_)
  refine Zy ?_
  rw[CE hk hf ZO,if_neg ZO,if_neg hc9,if_pos hc11]
 refine Zk ?_
 refine Zs (Zp 33 ?_)
 refine Zc (λhc12=>?_) λhc12=>?_
 ·refine Zx ?_
  simp only[go_sem,fb3]
  refine Aw rfl rfl rfl rfl (OW T _ (by first|exact sb|exact sd)) rfl rfl ?_
  refine Zy ?_
  refine Zm 2 ?_
  refine Aa.ret ?_
  simp only[go_sem]
  rw[CE hk hf ZO,if_neg ZO,if_neg hc9,if_neg (by simpa using hc11),if_pos hc12]
 refine Zk ?_
 refine Zp 2 (Aa.ret ?_)
 refine Zy ?_
 rw[CE hk hf ZO,if_neg ZO,if_neg hc9,if_neg (by simpa using hc11),if_neg hc12]
attribute [local go_sem] Bc Gd in
theorem OS (T:Ap) (hL:Bw T) (x:BN) (sb:x.box.length<=9223372036854775807) (sd:x.dest.length<=9223372036854775807) (st:x.text.length<=9223372036854775807):PC prog T 99 [.agg (C7 x)] (.d (.int .i64 (En x))):=by
 refine⟨call99,Ar.enterS func99 rfl ntmps99 rfl λhb=>?_⟩
 simp only[go_sem,results99]
 refine Zx (Zy ?_)
 intro b1
 first|intro fb1|have fb1:=True.intro
 try simp only[Ab] at fb1
 refine Zs (Zx (Zy ?_))
 refine ZP (LT T _ _ _) ?_
 refine Zy ?_
 refine Zm 66 ?_
 refine Zc (λhc0=>?_) λhc0=>?_
 ·refine Zp 2 (Aa.ret ?_)
  refine Zy ?_
  rw[YC ZO]
 have hk:1<=x.kind/\x.kind<=6:=by omega
 refine Zk ?_
 refine Zp 3 ?_
 refine Zp 7 ?_
 refine Zp 15 ?_
 refine Zp 31 ?_
 refine Zs (Zp 4611686018427387911 ?_)
 refine Zc (λhc1=>?_) λhc1=>?_
 ·have hf:F5 x=true:=by unfold F5;simpa using hc1
  refine Zp 2 (Aa.ret ?_)
  refine Zy ?_
  rw[YD hk hf]
 have hf:F5 x=false:=by
   simp only[F5,decide_eq_true_eq,decide_eq_false_iff_not,Bool.not_eq_false',Bool.and_eq_false_iff,Bool.or_eq_false_iff]
   exact hc1
 refine Zk ?_
 refine Zs (Zx (Zy ?_))
 refine ZP (LT T _ _ _) ?_
 refine Zy ?_
 refine ZQ (λhg=>LT T _ _ _) ?_
 refine Zy ?_
 (repeat(with_reducible refine And.intro ZS ?_))
 refine Zm 8199 ?_
 refine Zc (λhc2=>?_) λhc2=>?_
 ·refine Zp 2 (Aa.ret ?_)
  refine Zy ?_
  rw[YE hk hf ZO]
 refine Zk ?_
 refine Zs (Zp 135 ?_)
 refine Zc (λhc3=>?_) λhc3=>?_
 ·refine Zp 2 (Aa.ret ?_)
  refine Zy ?_
  rw[CE hk hf ZO,if_pos ZO]
 refine Zk ?_
 refine Zs (Zp 21 ?_)
 refine Zc (λhc4=>?_) λhc4=>?_
 ·refine Zs (Zp 65 ?_)
  refine Zc (λhc5=>?_) λhc5=>?_
  ·refine Zp 2 (Aa.ret ?_)
   refine Zy ?_
   rw[CE hk hf ZO,if_neg ZO,if_pos hc4,NX ZO]
  refine Zk ?_
  rcases hp:B6 x.dest with _|l
  ·refine Zx (Zy ?_)
   refine ZP (Hx T hL _ ZO hp) ?_
   refine Zy ?_
   refine Zm 6 ?_
   refine Zs (Zp 256 ?_)
   refine Zc (λhc6=>?_) λhc6=>?_
   ·refine Zp 1 (Aa.ret ?_)
    refine Zy ?_
    first|rw[CE hk hf ZO,if_neg ZO,if_pos hc4,IN ZO hp]|rw[CE hk hf ZO,if_neg ZO,if_pos hc4,G8 ZO hp,if_neg (by simp at hc6;omega)]
   exact absurd hc6 (by first|(simp;done)|omega|(simp[*];done))
  refine Zx (Zy ?_)
  refine ZP (Hy T hL _ ZO l hp) ?_
  refine Zy ?_
  refine Zm 6 ?_
  refine Zs (Zp 256 ?_)
  refine Zc (λhc6=>?_) λhc6=>?_
  ·refine Zp 1 (Aa.ret ?_)
   refine Zy ?_
   first|rw[CE hk hf ZO,if_neg ZO,if_pos hc4,IN ZO hp]|rw[CE hk hf ZO,if_neg ZO,if_pos hc4,G8 ZO hp,if_neg (by simp at hc6;omega)]
  refine Zk ?_
  refine Zp 1 (Aa.ret ?_)
  refine Zy ?_
  rw[CE hk hf ZO,if_neg ZO,if_pos hc4,G8 ZO hp,if_pos (by simp at hc6;omega)]
 refine Zk ?_
 refine Zx (Zy ?_)
 refine Aw rfl rfl rfl rfl (Ib T _ (by first|exact sb|exact sd)) rfl rfl ?_
 refine Zy ?_
 refine Zm 7 ?_
 refine Zs (Zp 133 ?_)
 refine Zc (λhc7=>?_) λhc7=>?_
 ·refine Zq λK_ k_=>?_
  refine Zy ?_
  refine Aw rfl rfl rfl rfl (Ib T _ (by first|exact sb|exact sd)) rfl rfl ?_
  refine Zy ?_
  refine k_ _ _ (Ac ?_)
  refine Zm 2 ?_
  refine Zp 1 (Aa.ret ?_)
  refine Zy ?_
  first
  |rw[CE hk hf ZO,if_neg ZO,if_neg hc4,if_neg (by simp[hc7.1]),if_pos hc7.2]
  | (by_cases hn:CT x.box=0
     · rw [CE hk hf ZO,if_neg ZO,if_neg hc4,if_neg (by simp[hn]),if_neg ZO,hn]
     · rw [CE hk hf ZO,if_neg ZO,if_neg hc4,if_pos hn])
 refine Zk ?_
 refine Zp 2 (Aa.ret ?_)
 refine Zy ?_
 first
 |rw[CE hk hf ZO,if_neg ZO,if_neg hc4,if_neg (by simp[hc7.1]),if_pos hc7.2]
 | (by_cases hn:CT x.box=0
    · rw [CE hk hf ZO,if_neg ZO,if_neg hc4,if_neg (by simp[hn]),if_neg ZO,hn]
    · rw [CE hk hf ZO,if_neg ZO,if_neg hc4,if_pos hn])
end
section
structure Fy (x:BN):Prop where
 box:x.box.length<=9223372036854775807
 dest:x.dest.length<=9223372036854775807
 text:x.text.length<=9223372036854775807
theorem XC (T:Ap) (hL:Bw T) {x:BN} (ok:Fy x):PC prog T 88 [.agg (C7 x)] (.d (.int .i64 (En x))):=Aee T hL x ok.box ok.dest ok.text
theorem Jq (T:Ap) (hL:Bw T) {x:BN} (ok:Fy x):PC prog T 99 [.agg (C7 x)] (.d (.int .i64 (En x))):=OS T hL x ok.box ok.dest ok.text
def At (l:List BN):List (List D):=l.map D8
@[go_sem] theorem Gk (l:List BN):(At l).length=l.length:=by simp[At]
theorem DG (l:List BN) (i:Nat) (d:List D) (h:i<l.length):(At l).getD i d=D8 (l[i]'h):=Al D8 _ _ _ h
theorem WB (T:Ap) (l:List BN) (hz:l.length*72<=140737488355328):PC prog T 43 [.d (.slc 6 (At l))] (.d (.slc 6 (At l))):=by
 refine⟨call43,Ar.enterS func43 rfl ntmps43 rfl λhb=>?_⟩
 simp only[go_sem,results43]
 refine Zp 1 ?_
 refine Zx ?_
 try simp only[go_sem]
 (repeat(with_reducible refine And.intro ZS ?_))
 refine Ko rfl rfl rfl rfl (show BL prog 52=some (110,6,72) by simp only[go_sem]) rfl rfl ZJ (by(try simp only[go_sem]);omega) (by(try simp only[go_sem]);omega) λt1 ft1=>?_
 try simp only[Ae] at ft1
 try simp only[go_sem,ft1]
 (repeat(with_reducible refine And.intro ZS ?_))
 refine Aa.ret ?_
 try simp only[go_sem,ft1]
 try simp[Aj,Ay]
end
section
open Go.RowKit
open Go.ChangeShapes Go.WideShapes Go.ChangeAt
open Go.ChangeMaps (open_string)
set_option maxRecDepth 20000
section
variable {H:Type} {enc:TypeId×Value->H} {W:World}
def Adu (x:BN):Nat:=x.box.length+x.dest.length+x.text.length
theorem AbO (f:Nat):CX enc prog W D8 Adu 110 f:=by
 cases f with
 |zero=>exact .zero
 |succ f=>
  have hi:CX enc prog W (λn:Int=>[.int .i64 n]) (λ_=>1) 3 f:=CX.int underlying3
  have hs:CX enc prog W (λs:List UInt8=>[.str s]) (λs=>s.length+1) 9 f:=CX.str underlying9
  exact(CX.struct underlying110 (by kernel_rfl) (.cons (k:=1) hi (by kernel_rfl) rfl (.cons (k:=1) hs (by kernel_rfl) rfl (.cons (k:=1) hi (by kernel_rfl) rfl (.cons (k:=1) hi (by kernel_rfl) rfl (.cons (k:=1) hs (by kernel_rfl) rfl (.cons (k:=1) hs (by kernel_rfl) rfl .nil))))))).map
    (λ(p:Int×(Tx×(Int×(Int×(Tx×(Tx×Unit))))))=>BN.mk p.1 p.2.1 p.2.2.1 p.2.2.2.1 p.2.2.2.2.1 p.2.2.2.2.2.1) (λp=>rfl) (λp=>by simp only[Adu];omega)
end
end
section
open Go.RowKit
open Go.ChangeShapes Go.WideShapes Go.ChangeAt
set_option maxRecDepth 20000
section
variable {H:Type} {enc:TypeId×Value->H} {W:World}
theorem Yx (f:Nat):Cu enc prog W (λl:List BN=>[.slc 6 (l.map D8)]) (RL λ_ _=>True) 52 f:=by
 cases f with
 |zero=>exact Cu.zero
 |succ f=>exact Cu.slc (Cu.any (AbO f)) underlying52 (by kernel_rfl) (λ_=>rfl) ZD
theorem AbX {F:Js} {l:List BN} {v:Value} (h:VD F (.slc 6 (At l)) v):∀x∈l,Fy x:=λx hx=>by
 obtain⟨_,_,h3⟩:=h.bnd.slc_inv
 have hm:D8 x∈At l:=List.mem_map.2 ⟨x,hx,rfl⟩
 have hb:maxLen<=9223372036854775807:=by decide
 exact⟨Nat.le_trans (h3 _ hm (.str x.box) (by simp[D8])).str_inv hb,Nat.le_trans (h3 _ hm (.str x.dest) (by simp[D8])).str_inv hb,Nat.le_trans (h3 _ hm (.str x.text) (by simp[D8])).str_inv hb⟩
end
end
section
structure B2 where
 uid:Int
 flags:Int
 text:Tx
structure AL where
 name:Tx
 next:Int
 mails:List B2
structure St where
 boxes:List AL
 spool:List BN
def CJ (m:B2):List D:=[.int .i64 m.uid,.int .i64 m.flags,.str m.text]
def A4 (l:List B2):List (List D):=l.map CJ
def EQ (b:AL):List D:=[.str b.name,.int .i64 b.next,.slc 3 (A4 b.mails)]
def Nu (b:AL):List AV:=[.d (.str b.name),.d (.int .i64 b.next),.d (.slc 3 (A4 b.mails))]
def A3 (l:List AL):List (List D):=l.map EQ
def An (s:St):List AV:=[.d (.slc 3 (A3 s.boxes)),.d (.slc 6 (At s.spool))]
attribute [go_sem] Nu An
@[go_sem] theorem AA (l:List B2):(A4 l).length=l.length:=by simp[A4]
theorem CG (l:List B2) (i:Nat) (d:List D) (h:i<l.length):(A4 l).getD i d=CJ (l[i]'h):=Al CJ _ _ _ h
@[go_sem] theorem AeK (l:List AL):(A3 l).length=l.length:=by simp[A3]
theorem BG (l:List AL) (i:Nat) (d:List D) (h:i<l.length):(A3 l).getD i d=EQ (l[i]'h):=Al EQ _ _ _ h
theorem Lk (l:List AL) (i:Nat):(A3 l).take i=A3 (l.take i):=by simp[A3]
def Cw:List B2->Nat
 |[]=>0
 |m::r=>m.text.length+Cw r
def B3:List AL->Nat
 |[]=>0
 |b::r=>Cw b.mails+B3 r
theorem Gg {l:List B2} {k:Nat} (h:k<l.length):Cw (l.drop k)=(l[k]'h).text.length+Cw (l.drop (k+1)):=by rw[List.drop_eq_getElem_cons h];rfl
theorem Fi {l:List B2} {k:Nat} (h:l.length<=k):Cw (l.drop k)=0:=by rw[List.drop_eq_nil_of_le h];rfl
theorem Hn {l:List AL} {k:Nat} (h:k<l.length):B3 (l.drop k)=Cw (l[k]'h).mails+B3 (l.drop (k+1)):=by rw[List.drop_eq_getElem_cons h];rfl
theorem IJ {l:List AL} {k:Nat} (h:l.length<=k):B3 (l.drop k)=0:=by rw[List.drop_eq_nil_of_le h];rfl
def Bu:List AL->Tx->Int
 |[],_=> -1
 |b::r,t=>if b.name=t then 0 else if Bu r t<0 then -1 else Bu r t+1
theorem JG:∀(l:List AL) (t:Tx),-1<=Bu l t
 |[],_=>by simp[Bu]
 |b::r,t=>by have:=JG r t;unfold Bu;split;omega;split<;>omega
def GT (l:List AL) (t:Tx) (k:Nat):Prop:=Bu l t=if Bu (l.drop k) t<0 then -1 else Bu (l.drop k) t+k
theorem P3 (l:List AL) (t:Tx):GT l t 0:=by
 have:=JG l t
 unfold GT;rw[List.drop_zero];split<;>omega
theorem P5 {l:List AL} {t:Tx} {k:Nat} (h:k<l.length) (hR:GT l t k) (he:(l[k]'h).name=t):Bu l t=k:=by
 unfold GT at hR
 rw[List.drop_eq_getElem_cons h,Bu,if_pos he] at hR
 rw[hR];simp
theorem P4 {l:List AL} {t:Tx} {k:Nat} (h:k<l.length) (hR:GT l t k) (he:¬(l[k]'h).name=t):GT l t (k+1):=by
 unfold GT at hR⊢
 rw[List.drop_eq_getElem_cons h,Bu,if_neg he] at hR
 have:=JG (l.drop (k+1)) t
 rw[hR]
 split<;>split<;>omega
theorem K0 {l:List AL} {t:Tx} {k:Nat} (h:l.length<=k) (hR:GT l t k):Bu l t= -1:=by
 unfold GT at hR
 rw[List.drop_eq_nil_of_le h] at hR
 simpa[Bu] using hR
def O1 (nx:Int):Int->List B2->Bool
 |_,[]=>true
 |last,m::r=>(decide (last<m.uid)&&decide (m.uid<nx)&&decide (0<=m.flags)&&decide (m.flags<=31)&&decide (m.text.length<=2000))&&O1 nx m.uid r
theorem Afz {nx la:Int} {l:List B2} {k:Nat} (h:k<l.length) (hc:¬(la<(l[k]'h).uid/\(l[k]'h).uid<nx/\0<=(l[k]'h).flags/\(l[k]'h).flags<=31/\(l[k]'h).text.length<=2000)):O1 nx la (l.drop k)=false:=by
 rw[List.drop_eq_getElem_cons h,O1,Bool.and_eq_false_iff]
 refine .inl ?_
 simp only[Bool.and_eq_false_iff,decide_eq_false_iff_not]
 omega
theorem Af0 {nx la:Int} {l:List B2} {k:Nat} (h:k<l.length) (hc:la<(l[k]'h).uid/\(l[k]'h).uid<nx/\0<=(l[k]'h).flags/\(l[k]'h).flags<=31/\(l[k]'h).text.length<=2000):O1 nx la (l.drop k)=O1 nx (l[k]'h).uid (l.drop (k+1)):=by
 rw[List.drop_eq_getElem_cons h,O1]
 simp[hc]
theorem Aac {nx la:Int} {l:List B2} {k:Nat} (h:l.length<=k):O1 nx la (l.drop k)=true:=by rw[List.drop_eq_nil_of_le h];rfl
def Fg (b:AL):Bool:=if CT b.name≠0\/b.next<1\/1048577<b.next\/30<b.mails.length then false else O1 b.next 0 b.mails
theorem Un {b:AL} (h:CT b.name≠0\/b.next<1\/1048577<b.next\/30<b.mails.length):Fg b=false:=if_pos h
theorem L8 {b:AL} (h:¬(CT b.name≠0\/b.next<1\/1048577<b.next\/30<b.mails.length)):Fg b=O1 b.next 0 b.mails:=if_neg h
def Ll:List AL->List AL->Bool
 |_,[]=>true
 |pre,b::r=>(Fg b&&decide (Bu pre b.name<0))&&Ll (pre++[b]) r
theorem CH {α:Type} {l:List α} {k:Nat} (h:k<l.length):l.take (k+1)=l.take k++[l[k]'h]:=by rw[List.take_add_one];simp[List.getElem?_eq_getElem h]
theorem AbG {l:List AL} {k:Nat} (h:k<l.length) (hc:Fg (l[k]'h)=false\/0<=Bu (l.take k) (l[k]'h).name):Ll (l.take k) (l.drop k)=false:=by
 rw[List.drop_eq_getElem_cons h,Ll,Bool.and_eq_false_iff]
 refine .inl ?_
 rw[Bool.and_eq_false_iff,decide_eq_false_iff_not]
 rcases hc with hc|hc
 ·exact .inl hc
 ·exact .inr ZO
theorem AgF {l:List AL} {k:Nat} (h:k<l.length) (hc:Fg (l[k]'h)=true) (hd:Bu (l.take k) (l[k]'h).name<0):Ll (l.take k) (l.drop k)=Ll (l.take (k+1)) (l.drop (k+1)):=by
 rw[List.drop_eq_getElem_cons h,Ll,hc,CH h]
 simp[hd]
theorem Ym {l:List AL} {k:Nat} (h:l.length<=k):Ll (l.take k) (l.drop k)=true:=by rw[List.drop_eq_nil_of_le h];rfl
def Sy:List BN->Bool
 |[]=>true
 |x::r=>(decide (x.kind=6)&&decide (En x=0))&&Sy r
theorem Ah8 {l:List BN} {k:Nat} (h:k<l.length) (hc:¬((l[k]'h).kind=6/\En (l[k]'h)=0)):Sy (l.drop k)=false:=by
 rw[List.drop_eq_getElem_cons h,Sy,Bool.and_eq_false_iff]
 refine .inl ?_
 simp only[Bool.and_eq_false_iff,decide_eq_false_iff_not]
 omega
theorem Ah9 {l:List BN} {k:Nat} (h:k<l.length) (hc:(l[k]'h).kind=6/\En (l[k]'h)=0):Sy (l.drop k)=Sy (l.drop (k+1)):=by
 rw[List.drop_eq_getElem_cons h,Sy];simp[hc]
theorem AaB {l:List BN} {k:Nat} (h:l.length<=k):Sy (l.drop k)=true:=by rw[List.drop_eq_nil_of_le h];rfl
def Ft (s:St):Int:=if 5<s.boxes.length\/20<s.spool.length then 11 else if Ll [] s.boxes=false then 11 else if Sy s.spool=false then 11 else if 6000<B3 s.boxes then 11 else 0
theorem AdQ {s:St} (h:5<s.boxes.length\/20<s.spool.length):Ft s=11:=if_pos h
theorem Vo {s:St} (h:Ll [] s.boxes=false):Ft s=11:=by unfold Ft;simp[h]
theorem AdR {s:St} (h:Sy s.spool=false):Ft s=11:=by unfold Ft;simp[h]
theorem AdS {s:St} (h:6000<B3 s.boxes):Ft s=11:=by unfold Ft;simp[h]
theorem AdU {s:St} (h0:¬(5<s.boxes.length\/20<s.spool.length)) (h1:Ll [] s.boxes=true) (h2:Sy s.spool=true) (h3:B3 s.boxes<=6000):Ft s=0:=by
 unfold Ft;rw[if_neg h0,if_neg (by simp[h1]),if_neg (by simp[h2]),if_neg ZO]
theorem RO {nx:Int} :∀(l:List B2) (la:Int),O1 nx la l=true->Cw l<=2000*l.length
 |[],_,_=>by simp[Cw]
 | m::r,la,h=>by
  rw[O1,Bool.and_eq_true] at h
  have h2:=RO r _ h.2
  have h1:m.text.length<=2000:=by
   have:=h.1
   simp only[Bool.and_eq_true,decide_eq_true_eq] at this
   exact this.2
  simp only[Cw,List.length_cons]
  omega
theorem QQ {b:AL} (h:Fg b=true):Cw b.mails<=60000:=by
 unfold Fg at h
 split at h
 ·cases h
 ·have:=RO _ _ h
  omega
theorem QU:∀(l pre:List AL),Ll pre l=true->B3 l<=60000*l.length
 |[],_,_=>by simp[B3]
 |b::r,pre,h=>by
  rw[Ll,Bool.and_eq_true,Bool.and_eq_true] at h
  have h1:=QQ h.1.1
  have h2:=QU r _ h.2
  simp only[B3,List.length_cons]
  omega
theorem KT {s:St} (h0:¬(5<s.boxes.length\/20<s.spool.length)) (h1:Ll [] s.boxes=true):B3 s.boxes<=300000:=by
 have:=QU _ _ h1
 omega
structure StB (s:St):Prop where
 bx:s.boxes.length<=1000
 ml:∀b∈s.boxes,b.mails.length<=1000
 by_:B3 s.boxes<=1000000
theorem Wo {b:AL} (h:Fg b=true):b.mails.length<=30:=by
 unfold Fg at h
 split at h
 ·cases h
 ·omega
theorem Yn:∀(l pre:List AL),Ll pre l=true->∀b∈l,b.mails.length<=30
 |[],_,_,b,h=>by cases h
 |x::r,pre,h,b,hb=>by
  rw[Ll,Bool.and_eq_true,Bool.and_eq_true] at h
  rcases List.mem_cons.1 hb with rfl|hb
  ·exact Wo h.1.1
  ·exact Yn r _ h.2 b hb
theorem AdT {s:St} (h0:¬(5<s.boxes.length\/20<s.spool.length)) (h1:Ll [] s.boxes=true):StB s:=⟨by omega,λb hb=>Nat.le_trans (Yn _ _ h1 b hb) ZD,Nat.le_trans (KT h0 h1) ZD⟩
structure LY (s:St):Prop where
 nm:∀b∈s.boxes,b.name.length<=9223372036854775807
 sp:∀x∈s.spool,Fy x
attribute [local go_sem] Bc CJ in
theorem AgB (T:Ap) (b:AL) (hn:b.name.length<=9223372036854775807):PC prog T 86 [.agg (Nu b)] (.d (.bool (Fg b))):=by
 refine⟨call86,Ar.enterS func86 rfl ntmps86 rfl λhb=>?_⟩
 simp only[go_sem,results86]
 refine Zx (Zy ?_)
 intro b1
 first|intro fb1|have fb1:=True.intro
 try simp only[Ab] at fb1
 refine Zs (Zx (Zy ?_))
 refine ZP (OW T _ hn) ?_
 refine Zy ?_
 (repeat(with_reducible refine And.intro ZS ?_))
 refine Zm 4194306 ?_
 refine Zc (λhc0=>?_) λhc0=>?_
 ·refine Zp 2 (Aa.ret ?_)
  refine Zy ?_
  rw[Un ZO]
 have h0:¬(CT b.name≠0\/b.next<1\/1048577<b.next\/30<b.mails.length):=by omega
 refine Zk ?_
 refine Zp 3 ?_
 refine Zs (Zp 59 ?_)
 refine Aa.block (Zy ?_)
 refine Zl 13 18 (λn lc hc=> ∃(k:Nat) (la:Int),n=b.mails.length-k/\Av lc [(3,.d (.int .i64 la)),(29,.d (.int .i64 k))]/\Av hc (⟨[(b1,⟨3,1,[Nu b]⟩)],[]⟩)/\(k<=b.mails.length)/\(O1 b.next la (b.mails.drop k)=O1 b.next 0 b.mails)) ?_ ?_
 · refine ⟨_,0,0,rfl,ZE,ZE,?_,?_⟩
   all_goals(first|omega|rfl)
 rintro _ _ _ ⟨k,la,rfl,⟨rfl⟩,⟨rfl⟩,h1,h2⟩
 refine Zy ?_
 refine Zp 63 ?_
 refine Zs (Zc (λhc1=>?_) λhc1=>?_)
 ·have hlt:k<b.mails.length:=by omega
  have zf1:=λd0_=>CG b.mails k d0_ hlt
  refine Zk ?_
  refine Zs (Aa.block (Zx (Z3 ?_)))
  intro b5 fb5
  try simp only[Ab] at fb5
  refine Zs (Zp 34359738429 ?_)
  refine Zc (λhc2=>?_) λhc2=>?_
  ·refine Zp 2 (Aa.ret ?_)
   refine Zy ?_
   rw[L8 h0,<-h2,Afz hlt ZO]
  refine Zk ?_
  refine Zr (Ai (Ac ?_))
  refine Zm 59 ?_
  refine Z6 ?_
  refine Ze 13 18 [b5] [] [b1] [] (.e ⟨_,ZM,k+1,(b.mails[k]'hlt).uid,rfl,ZE,ZE,?_,?_⟩)
  · omega
  · rw [<-Af0 (nx:=b.next) (la:=la) hlt ZO];exact h2
 refine Z4 ?_
 refine Zm 0 ?_
 refine Zp 1 (Aa.ret ?_)
 refine Zy ?_
 rw[L8 h0,<-h2,Aac ZO]
attribute [local go_sem] Bc EQ CJ in
theorem AfF (T:Ap) (s:St) (sb:StB s):PC prog T 89 [.agg (An s)] (.d (.int .i64 (B3 s.boxes:Nat))):=by
 refine⟨call89,Ar.enterS func89 rfl ntmps89 rfl λhb=>?_⟩
 obtain⟨sb1,sb2,sb3⟩:=sb
 simp only[go_sem,results89]
 refine Zx (Zy ?_)
 intro b1
 first|intro fb1|have fb1:=True.intro
 try simp only[Ab] at fb1
 refine Zp 10 ?_
 refine Zs (Zp 58 ?_)
 refine Aa.block (Zy ?_)
 refine Zl 6 9 (λn lc hc=> ∃(k a:Nat),n=s.boxes.length-k/\Av lc [(3,.d (.int .i64 (a:Nat))),(11,.d (.int .i64 k))]/\Av hc (⟨[(b1,⟨2,1,[An s]⟩)],[]⟩)/\(k<=s.boxes.length)/\(a+B3 (s.boxes.drop k)=B3 s.boxes)) ?_ ?_
 · refine ⟨_,0,0,rfl,ZE,ZE,?_,?_⟩
   all_goals(first|omega|(simp;done))
 rintro _ _ _ ⟨k,a,rfl,⟨rfl⟩,⟨rfl⟩,h1,h2⟩
 refine Zy ?_
 refine Zp 31 ?_
 refine Zs (Zc (λhc0=>?_) λhc0=>?_)
 ·have hlt:k<s.boxes.length:=by omega
  have hb:=Hn hlt
  have hm3:=sb2 _ (List.getElem_mem hlt)
  have zf1:=λd0_=>BG s.boxes k d0_ hlt
  refine Zk ?_
  refine Zs (Aa.block (Zx (Z3 ?_)))
  intro b5 fb5
  try simp only[Ab] at fb5
  refine Zp 3613 ?_
  refine Aa.block (Zy ?_)
  refine Zl 62 65 (λn lc hc=> ∃(j c:Nat),n=(s.boxes[k]'hlt).mails.length-j/\Av lc [(3,.d (.int .i64 (c:Nat))),(18,.d (.int .i64 j))]/\Av hc (⟨[(b5,⟨3,1,[Nu (s.boxes[k]'hlt)]⟩),(b1,⟨2,1,[An s]⟩)],[]⟩)/\(j<=(s.boxes[k]'hlt).mails.length)/\(c+Cw ((s.boxes[k]'hlt).mails.drop j)=a+Cw (s.boxes[k]'hlt).mails)) ?_ ?_
  · refine ⟨_,0,a,rfl,ZE,ZE,?_,?_⟩
    all_goals(first|omega|(simp;done))
  rintro _ _ _ ⟨j,c,rfl,⟨rfl⟩,⟨rfl⟩,g1,g2⟩
  refine Zy ?_
  refine Zp 255 ?_
  refine Zs (Zc (λhc1=>?_) λhc1=>?_)
  ·have hlj:j<(s.boxes[k]'hlt).mails.length:=by omega
   have hm:=Gg hlj
   have zf2:=λd0_=>CG (s.boxes[k]'hlt).mails j d0_ hlj
   refine Zk ?_
   refine Zs (Aa.block (Zx (Z3 ?_)))
   intro b7 fb7
   try simp only[Ab] at fb7
   refine Zr (Ai (Ac ?_))
   refine Zm 253 ?_
   refine Z6 ?_
   refine Ze 62 65 [b7] [] [b5,b1] [] (.e ⟨_,ZM,j+1,(c+(((s.boxes[k]'hlt).mails)[j]'hlj).text.length),rfl,ZE,ZE,?_,?_⟩)
   all_goals first|omega|(rw[Gg hlj] at g2;omega)
  have hm:=Fi (l:=(s.boxes[k]'hlt).mails) (k:=j) ZO
  refine Aa.exit (Ak (Ak (Bh (Ai (Ac ?_)))))
  refine Zm 15 ?_
  refine Z6 ?_
  refine Ze 6 9 [b5] [] [b1] [] (.e ⟨_,ZM,k+1,c,rfl,ZE,ZE,?_,?_⟩)
  all_goals first|omega|(rw[Hn hlt,Fi ZO] at*;omega)
 refine Z4 ?_
 refine Zm 1 ?_
 refine Zp 1 (Aa.ret ?_)
 refine Zy ?_
 have hb:=IJ (l:=s.boxes) (k:=k) ZO
 have hk:a=B3 s.boxes:=by omega
 rw[hk]
attribute [local go_sem] Bc in
theorem Aca (T:Ap) (x:AL) (t:Tx) (b:Nat) (F:Af) (L:List Nat):AC prog T 150 [.agg (Nu x),.ptr b 1 0 0] (⟨(b,⟨1,1,[[.d (.str t)]]⟩)::F,L⟩) (λr h=>r= .ret (.d (.bool (decide (x.name=t))))/\h=⟨(b,⟨1,1,[[.d (.str t)]]⟩)::F,L⟩):=by
 refine⟨call150,Ao.enterS func150 rfl ntmps150 rfl λhb=>?_⟩
 simp only[go_sem,results150]
 refine Zx (Zy ?_)
 intro b2 fb2
 try simp only[Ab] at fb2
 refine Zp 8 (Aa.ret ?_)
 apply Ah [b2] [] [] [] ZH
 · exact ⟨rfl,by simp[go_sem]⟩
 · simp [Aj,Ay]
attribute [local go_sem] Bc EQ in
theorem S7 (T:Ap) (l:List AL) (t:Tx) (b:Nat) (F:Af) (L:List Nat) (hl:l.length<=1000):AC prog T 149 [.d (.slc 3 (A3 l)),.fn 150 [.ptr b 1 0 0]] (⟨(b,⟨1,1,[[.d (.str t)]]⟩)::F,L⟩) (λr h=>r= .ret (.d (.int .i64 (Bu l t)))/\h=⟨(b,⟨1,1,[[.d (.str t)]]⟩)::F,L⟩):=by
 refine⟨call149,Ao.enterS func149 rfl ntmps149 rfl λhb=>?_⟩
 simp only[go_sem,results149]
 refine Zp 3 ?_
 refine Zs (Zp 27 ?_)
 refine Aa.block (Zy ?_)
 refine Zl 7 8 (λn lc hc=> ∃(k:Nat),n=l.length-k/\Av lc [(8,.d (.int .i64 k))]/\Av hc (⟨(b,⟨1,1,[[.d (.str t)]]⟩)::F,L⟩)/\(k<=l.length)/\(GT l t k)) ?_ ?_
 · refine ⟨_,0,rfl,ZE,ZE,?_,?_⟩
   all_goals(first|omega|exact P3 _ _)
 rintro _ _ _ ⟨k,rfl,⟨rfl⟩,⟨rfl⟩,h1,h2⟩
 refine Zy ?_
 refine Zp 31 ?_
 refine Zs (Zc (λhc0=>?_) λhc0=>?_)
 ·have hlt:k<l.length:=by omega
  have zf1:=λd0_=>BG l k d0_ hlt
  refine Zk ?_
  refine Zs (Aa.block (Zp 31 ?_))
  refine Zx (Z3 ?_)
  refine ZA [b] [] (Aca T (l[k]'hlt) t b _ _) ?_
  rintro _ _ ⟨rfl,rfl⟩
  refine Zy ?_
  refine Zm 1055 ?_
  refine Zc (λhc1=>?_) λhc1=>?_
  ·refine Zp 4 (Aa.ret ?_)
   simp only[Am,Bo]
   apply Ah [] [] [] [] ZH
   · exact ⟨rfl,rfl⟩
   · rw [P5 hlt h2 hc1];simp[Aj,Ay]
  refine Z5 ?_
  refine Z6 ?_
  refine Ze 11 16 [] [] [b] [] (.e ⟨_,ZM,k+1,rfl,ZE,ZE,?_,?_⟩)
  · omega
  · exact P4 hlt h2 hc1
 refine Z4 ?_
 refine Zm 0 ?_
 refine Zp 1 (Aa.ret ?_)
 apply Ah [] [] [] [] ZH
 · exact ⟨rfl,rfl⟩
 · rw [K0 ZO h2];simp[Aj,Ay]
attribute [local go_sem] Array.isEmpty_empty in
theorem Afb (T:Ap) (l:List AL) (t:Tx) (hl:l.length<=1000):PC prog T 87 [.d (.slc 3 (A3 l)),.d (.str t)] (.d (.int .i64 (Bu l t))):=by
 refine⟨call87,Ar.enterS func87 rfl ntmps87 rfl λhb=>?_⟩
 simp only[go_sem,results87]
 refine Zx ?_
 simp only[go_sem,if_true]
 intro b3
 first|intro fb3|have fb3:=True.intro
 try simp only[Ab] at fb3
 refine Zx ?_
 simp only[go_sem,if_true]
 refine ZA [b3] [] (S7 T l t b3 _ _ hl) ?_
 rintro _ _ ⟨rfl,rfl⟩
 simp only[go_sem,if_true]
 refine Zm 8 ?_
 refine Aa.ret ?_
 simp only[go_sem,if_true]
 all_goals done
end
section
attribute [local go_sem] Bc EQ D8 C7 Lk in
theorem NL (T:Ap) (hL:Bw T) (s:St) (ok:LY s):PC prog T 44 [.agg (An s)] (.d (.int .i64 (Ft s))):=by
 refine⟨call44,Ar.enterS func44 rfl ntmps44 rfl λhb=>?_⟩
 simp only[go_sem,results44]
 refine Zx (Zy ?_)
 intro b1
 first|intro fb1|have fb1:=True.intro
 try simp only[Ab] at fb1
 refine Zs (Zp 4098 ?_)
 refine Zc (λhc0=>?_) λhc0=>?_
 ·refine Zp 2 (Aa.ret ?_)
  refine Zy ?_
  rw[AdQ ZO]
 have h0:¬(5<s.boxes.length\/20<s.spool.length):=by omega
 refine Zk ?_
 refine Zs (Zp 57 ?_)
 refine Aa.block (Zy ?_)
 refine Zl 7 8 (λn lc hc=> ∃(k:Nat),n=s.boxes.length-k/\Av lc [(20,.d (.int .i64 k))]/\Av hc (⟨[(b1,⟨2,1,[An s]⟩)],[]⟩)/\(k<=s.boxes.length)/\(Ll (s.boxes.take k) (s.boxes.drop k)=Ll [] s.boxes)) ?_ ?_
 · refine ⟨_,0,rfl,ZE,ZE,?_,?_⟩
   all_goals(first|omega|rfl)
 rintro _ _ _ ⟨k,rfl,⟨rfl⟩,⟨rfl⟩,h1,h2⟩
 refine Zy ?_
 refine Zp 31 ?_
 refine Zs (Zc (λhc1=>?_) λhc1=>?_)
 ·have hlt:k<s.boxes.length:=by omega
  have zf1:=λd0_=>BG s.boxes k d0_ hlt
  refine Zk ?_
  refine Zs (Aa.block (Zx (Z3 ?_)))
  intro b4 fb4
  try simp only[Ab] at fb4
  refine Zm 63 ?_
  refine Zd true [0,1,2,3,4,5,6,7,8,9,10,11,12] ?_
  simp only[go_sem,fb4]
  refine ZP (AgB T _ (ok.nm _ (List.getElem_mem hlt))) ?_
  simp only[go_sem,fb4]
  (repeat(with_reducible refine And.intro ZS ?_))
  refine B7 rfl rfl rfl rfl rfl (λhg=>Afb T _ _ (by simp only[List.length_take];omega)) (λhg=>by(try simp only[go_sem])<;>first|exact hg|(exfalso;simp at hg;done)|(simpa using hg)|grind) rfl rfl ?_
  refine Zy ?_
  (repeat(with_reducible refine And.intro ZS ?_))
  refine Zm 262201 ?_
  refine Zc (λhc2=>?_) λhc2=>?_
  ·refine Zp 2 (Aa.ret ?_)
   refine Zy ?_
   rw[Vo (by rw[<-h2];exact AbG hlt (by rcases hc2 with h|h<;>first|exact .inl h|exact .inr ZO))]
  refine Z5 ?_
  refine Z6 ?_
  refine Ze 7 8 [b4] [] [b1] [] (.e ⟨_,ZM,k+1,rfl,ZE,ZE,?_,?_⟩)
  · omega
  · rw [<-AgF hlt hc2.1 ZO];exact h2
 have hbx:Ll [] s.boxes=true:=by rw[<-h2];exact Ym ZO
 have hsm:=KT h0 hbx
 refine Z4 ?_
 refine Zm 1 ?_
 refine Zs (Zp 29 ?_)
 refine Aa.block (Zy ?_)
 refine Zl 7 8 (λn lc hc=> ∃(k:Nat),n=s.spool.length-k/\Av lc [(42,.d (.int .i64 k))]/\Av hc (⟨[(b1,⟨2,1,[An s]⟩)],[]⟩)/\(k<=s.spool.length)/\(Sy (s.spool.drop k)=Sy s.spool)) ?_ ?_
 · refine ⟨_,0,rfl,ZE,ZE,?_,?_⟩
   all_goals(first|omega|rfl)
 rintro _ _ _ ⟨k,rfl,⟨rfl⟩,⟨rfl⟩,g1,g2⟩
 refine Zy ?_
 refine Zp 31 ?_
 refine Zs (Zc (λhc3=>?_) λhc3=>?_)
 ·have hlt:k<s.spool.length:=by omega
  have zf2:=λd0_=>DG s.spool k d0_ hlt
  refine Zk ?_
  refine Zs (Aa.block (Zx (Z3 ?_)))
  intro b6 fb6
  try simp only[Ab] at fb6
  refine Zx ?_
  simp only[go_sem,fb6]
  refine ZQ (λhg=>XC T hL (ok.sp _ (List.getElem_mem hlt))) ?_
  refine Zy ?_
  (repeat(with_reducible refine And.intro ZS ?_))
  refine Zm 32797 ?_
  refine Zc (λhc4=>?_) λhc4=>?_
  ·refine Zp 2 (Aa.ret ?_)
   refine Zy ?_
   rw[AdR (by rw[<-g2];exact Ah8 hlt ZO)]
  refine Z5 ?_
  refine Z6 ?_
  refine Ze 7 8 [b6] [] [b1] [] (.e ⟨_,ZM,k+1,rfl,ZE,ZE,?_,?_⟩)
  · omega
  · rw [<-Ah9 hlt hc4];exact g2
 have hsp:Sy s.spool=true:=by rw[<-g2];exact AaB ZO
 refine Z4 ?_
 refine Zm 1 ?_
 refine Zs (Z1 8 (AfF T s (AdT h0 hbx)) ?_)
 refine Zc (λhc5=>?_) λhc5=>?_
 ·refine Zp 1 (Aa.ret ?_)
  refine Zy ?_
  rw[AdS ZO]
 refine Zk ?_
 refine Zp 1 (Aa.ret ?_)
 refine Zy ?_
 rw[AdU h0 hbx hsp ZO]
attribute [local go_sem] Bc EQ in
theorem L7 (T:Ap) (l:List AL) (t:Tx) (hl:l.length<=1000):PC prog T 97 [.d (.slc 3 (A3 l)),.d (.str t)] (.d (.int .i64 (Bu l t))):=by
 refine⟨call97,Ar.enterS func97 rfl ntmps97 rfl λhb=>?_⟩
 simp only[go_sem,results97]
 refine Zp 3 ?_
 refine Zs (Zp 7 ?_)
 refine Aa.block (Zy ?_)
 refine Zl 3 4 (λn lc hc=> ∃(k:Nat),n=l.length-k/\Av lc [(5,.d (.int .i64 k))]/\Av hc (⟨[],[]⟩)/\(k<=l.length)/\(GT l t k)) ?_ ?_
 · refine ⟨_,0,rfl,ZE,ZE,?_,?_⟩
   all_goals(first|omega|exact P3 _ _)
 rintro _ _ _ ⟨k,rfl,⟨rfl⟩,⟨rfl⟩,h1,h2⟩
 refine Zy ?_
 refine Zs (Zp 71 ?_)
 refine Zc (λhc0=>?_) λhc0=>?_
 ·have hlt:k<l.length:=by omega
  have zf1:=λd0_=>BG l k d0_ hlt
  refine Zk ?_
  refine Zs (Aa.block (Zp 1031 ?_))
  refine Zc (λhc1=>?_) λhc1=>?_
  ·refine Zp 4 (Aa.ret ?_)
   refine Zy ?_
   rw[P5 hlt h2 hc1]
  refine Z5 ?_
  refine Z6 ?_
  refine Zf 3 4 (.e ⟨_,ZM,k+1,rfl,ZE,ZE,?_,?_⟩)
  · omega
  · exact P4 hlt h2 hc1
 refine Z4 ?_
 refine Zm 0 ?_
 refine Zp 1 (Aa.ret ?_)
 refine Zy ?_
 rw[K0 ZO h2]
attribute [local go_sem] Bc EQ CJ in
theorem NH (T:Ap) (s:St) (sb:StB s):PC prog T 100 [.agg (An s)] (.d (.int .i64 (B3 s.boxes:Nat))):=by
 refine⟨call100,Ar.enterS func100 rfl ntmps100 rfl λhb=>?_⟩
 obtain⟨sb1,sb2,sb3⟩:=sb
 simp only[go_sem,results100]
 refine Zx (Zy ?_)
 intro b1
 first|intro fb1|have fb1:=True.intro
 try simp only[Ab] at fb1
 refine Zp 10 ?_
 refine Zs (Zp 7 ?_)
 refine Aa.block (Zy ?_)
 refine Zl 1 6 (λn lc hc=> ∃(k a:Nat),n=s.boxes.length-k/\Av lc [(3,.d (.int .i64 (a:Nat))),(4,.d (.int .i64 k))]/\Av hc (⟨[(b1,⟨2,1,[An s]⟩)],[]⟩)/\(k<=s.boxes.length)/\(a+B3 (s.boxes.drop k)=B3 s.boxes)) ?_ ?_
 · refine ⟨_,0,0,rfl,ZE,ZE,?_,?_⟩
   all_goals(first|omega|(simp;done))
 rintro _ _ _ ⟨k,a,rfl,⟨rfl⟩,⟨rfl⟩,h1,h2⟩
 refine Zy ?_
 refine Zs (Zp 135 ?_)
 refine Zc (λhc0=>?_) λhc0=>?_
 ·have hlt:k<s.boxes.length:=by omega
  have hb:=Hn hlt
  have hm3:=sb2 _ (List.getElem_mem hlt)
  have zf1:=λd0_=>BG s.boxes k d0_ hlt
  refine Zk ?_
  refine Zs (Aa.block (Zp 15 ?_))
  refine Aa.block (Zy ?_)
  refine Zl 5 10 (λn lc hc=> ∃(j c:Nat),n=(s.boxes[k]'hlt).mails.length-j/\Av lc [(3,.d (.int .i64 (c:Nat))),(5,.d (.int .i64 j))]/\Av hc (⟨[(b1,⟨2,1,[An s]⟩)],[]⟩)/\(j<=(s.boxes[k]'hlt).mails.length)/\(c+Cw ((s.boxes[k]'hlt).mails.drop j)=a+Cw (s.boxes[k]'hlt).mails)) ?_ ?_
  · refine ⟨_,0,a,rfl,ZE,ZE,?_,?_⟩
    all_goals(first|omega|(simp;done))
  rintro _ _ _ ⟨j,c,rfl,⟨rfl⟩,⟨rfl⟩,g1,g2⟩
  refine Zy ?_
  refine Zs (Zp 4111 ?_)
  refine Zc (λhc1=>?_) λhc1=>?_
  ·have hlj:j<(s.boxes[k]'hlt).mails.length:=by omega
   have hm:=Gg hlj
   have zf2:=λd0_=>CG (s.boxes[k]'hlt).mails j d0_ hlj
   refine Zk ?_
   refine Zs (Aa.block (Zr (Ai (Ac ?_))))
   refine Zm 15 ?_
   refine Z6 ?_
   refine Ze 5 10 [] [] [b1] [] (.e ⟨_,ZM,j+1,(c+(((s.boxes[k]'hlt).mails)[j]'hlj).text.length),rfl,ZE,ZE,?_,?_⟩)
   all_goals first|omega|(rw[Gg hlj] at g2;omega)
  have hm:=Fi (l:=(s.boxes[k]'hlt).mails) (k:=j) ZO
  refine Aa.exit (Ak (Ak (Bh (Ai (Ac ?_)))))
  refine Z6 ?_
  refine Ze 1 6 [] [] [b1] [] (.e ⟨_,ZM,k+1,c,rfl,ZE,ZE,?_,?_⟩)
  all_goals first|omega|(rw[Hn hlt,Fi ZO] at*;omega)
 refine Z4 ?_
 refine Zp 2 (Aa.ret ?_)
 refine Zy ?_
 have hb:=IJ (l:=s.boxes) (k:=k) ZO
 have hk:a=B3 s.boxes:=by omega
 rw[hk]
theorem AdC {b:AL} (h0:¬(CT b.name≠0\/b.next<1\/1048577<b.next\/30<b.mails.length)) (h:O1 b.next 0 b.mails=false):Fg b=false:=by rw[L8 h0];exact h
theorem gtF {j:Nat} (h:j=0):((0:Int)<(j:Int))=False:=by simp[h]
theorem gtT {j:Nat} (h:0<j):((0:Int)<(j:Int))=True:=by simp[h]
theorem Ai8 {j:Nat} (h:0<j):(j:Int)-1=((j-1:Nat):Int):=by omega
attribute [local go_sem] Bc EQ D8 C7 CJ Lk decide_false Bool.and_false Bool.false_and Bool.false_eq_true true_and in
theorem Jw (T:Ap) (hL:Bw T) (s:St) (ok:LY s):PC prog T 48 [.agg (An s)] (.d (.int .i64 (Ft s))):=by
 refine⟨call48,Ar.enterS func48 rfl ntmps48 rfl λhb=>?_⟩
 simp only[go_sem,results48]
 refine Zx (Zy ?_)
 intro b1
 first|intro fb1|have fb1:=True.intro
 try simp only[Ab] at fb1
 refine Zs (Zp 4098 ?_)
 refine Zc (λhc0=>?_) λhc0=>?_
 ·refine Zp 2 (Aa.ret ?_)
  refine Zy ?_
  rw[AdQ ZO]
 have h0:¬(5<s.boxes.length\/20<s.spool.length):=by omega
 refine Zk ?_
 refine Zs (Zp 3 ?_)
 refine Aa.block (Zy ?_)
 refine Zl 1 2 (λn lc hc=> ∃(k:Nat),n=s.boxes.length-k/\Av lc [(3,.d (.int .i64 k))]/\Av hc (⟨[(b1,⟨2,1,[An s]⟩)],[]⟩)/\(k<=s.boxes.length)/\(Ll (s.boxes.take k) (s.boxes.drop k)=Ll [] s.boxes)) ?_ ?_
 · refine ⟨_,0,rfl,ZE,ZE,?_,?_⟩
   all_goals(first|omega|rfl)
 rintro _ _ _ ⟨k,rfl,⟨rfl⟩,⟨rfl⟩,h1,h2⟩
 refine Zy ?_
 refine Zs (Zp 67 ?_)
 refine Zc (λhc1=>?_) λhc1=>?_
 ·have hlt:k<s.boxes.length:=by omega
  have zf1:=λd0_=>BG s.boxes k d0_ hlt
  refine Zk ?_
  refine Zs (Aa.block (Zx (Z3 ?_)))
  intro b4 fb4
  try simp only[Ab] at fb4
  refine Zm 7 ?_
  refine Zs (Zd true [0,1,2,3,4,5,6,7,8,9,10,11,12,13,14,15,16,17,18,19,20,21,22,23,24,25] ?_)
  simp only[go_sem,fb4]
  refine ZP (Ib T _ (ok.nm _ (List.getElem_mem hlt))) ?_
  simp only[go_sem,fb4]
  (repeat(with_reducible refine And.intro ZS ?_))
  refine B7 rfl rfl rfl rfl rfl (λhg=>L7 T _ _ (by simp only[List.length_take];omega)) (λhg=>by(try simp only[go_sem])<;>first|exact hg|(exfalso;simp at hg;done)|(simpa using hg)|grind) rfl rfl ?_
  simp only[go_sem,fb4]
  (repeat(with_reducible refine And.intro ZS ?_))
  refine B7 rfl rfl rfl rfl rfl (λhg=>LT T _ _ _) (λhg=>by(try simp only[go_sem])<;>first|exact hg|(exfalso;simp at hg;done)|(simpa using hg)|grind) rfl rfl ?_
  simp only[go_sem,fb4]
  (repeat(with_reducible refine And.intro ZS ?_))
  refine Zm 268435463 ?_
  refine Zc (λhc2=>?_) λhc2=>?_
  ·refine Zp 2 (Aa.ret ?_)
   refine Zy ?_
   rw[Vo (by rw[<-h2];refine AbG hlt ?_;by_cases hq:0<=Bu (s.boxes.take k) (s.boxes[k]'hlt).name;exact .inr hq;exact .inl (Un ZO))]
  have hk0:¬(CT (s.boxes[k]'hlt).name≠0\/(s.boxes[k]'hlt).next<1\/1048577<(s.boxes[k]'hlt).next\/30<(s.boxes[k]'hlt).mails.length):=by omega
  have hkf:Bu (s.boxes.take k) (s.boxes[k]'hlt).name<0:=by omega
  refine Zk ?_
  refine Zp 15 ?_
  refine Aa.block (Zy ?_)
  refine Zl 7 8 (λn lc hc=> ∃(j:Nat) (la:Int),n=(s.boxes[k]'hlt).mails.length-j/\Av lc [(5,.d (.int .i64 j))]/\Av hc (⟨[(b4,⟨3,1,[Nu (s.boxes[k]'hlt)]⟩),(b1,⟨2,1,[An s]⟩)],[]⟩)/\(j<=(s.boxes[k]'hlt).mails.length)/\(O1 (s.boxes[k]'hlt).next la ((s.boxes[k]'hlt).mails.drop j)=O1 (s.boxes[k]'hlt).next 0 (s.boxes[k]'hlt).mails)/\(0<=la)/\(j=0->la=0)/\(∀i (h:i<(s.boxes[k]'hlt).mails.length),j=i+1->la=((s.boxes[k]'hlt).mails[i]'h).uid)) ?_ ?_
  · refine ⟨_,0,0,rfl,ZE,ZE,?_,?_,?_,?_,?_⟩
    all_goals(first|omega|rfl|(intro i h e;omega)|(intro _;rfl))
  rintro _ _ _ ⟨j,la,rfl,⟨rfl⟩,⟨rfl⟩,g1,g2,g3,g4,g5⟩
  refine Zy ?_
  refine Zs (Zp 271 ?_)
  refine Zc (λhc3=>?_) λhc3=>?_
  ·have hlj:j<(s.boxes[k]'hlt).mails.length:=by omega
   have zf2:=λd0_=>CG (s.boxes[k]'hlt).mails j d0_ hlj
   refine Zk ?_
   refine Zs (Aa.block (Zx (Z3 ?_)))
   intro b6 fb6
   try simp only[Ab] at fb6
   refine Zm 31 ?_
   rcases Nat.eq_zero_or_pos j with hj0|hj0
   ·have hla:=g4 hj0
    have zf3:=gtF hj0
    refine Zd true [0,1,2,3,4,5,6,7,8,9,10,11,12,13,14,15,16,17,18,19,20,21,22,23,24,25,26,27,28,29,30,31,32,33,34] ?_
    simp only[go_sem,fb4,fb6]
    (repeat(with_reducible refine And.intro ZS ?_))
    refine Aw rfl rfl rfl rfl (LT T _ _ _) rfl rfl ?_
    simp only[go_sem,fb4,fb6,zf3,false_implies]
    (repeat(with_reducible refine And.intro ZS ?_))
    refine B7 rfl rfl rfl rfl rfl (λhg=>LT T _ _ _) (λhg=>by(try simp only[go_sem])<;>first|exact hg|(exfalso;simp at hg;done)|(simpa using hg)|grind) rfl rfl ?_
    simp only[go_sem,fb6]
    (repeat(with_reducible refine And.intro ZS ?_))
    refine Zm 549755813903 ?_
    refine Zc (λhc4=>?_) λhc4=>?_
    ·refine Zp 2 (Aa.ret ?_)
     refine Zy ?_
     rw[Vo (by rw[<-h2];refine AbG hlt (.inl (AdC hk0 ?_));rw[<-g2];exact Afz hlj ZO)]
    refine Z5 ?_
    refine Z6 ?_
    refine Ze 7 8 [b6] [] [b4,b1] [] (.e ⟨_,ZM,j+1,((s.boxes[k]'hlt).mails[j]'hlj).uid,rfl,ZE,ZE,?_,?_,?_,?_,?_⟩)
    all_goals first|omega|(rw[<-Af0 (la:=la) hlj ZO];exact g2)|(intro i h e;obtain rfl:i=j:=ZO;rfl)
   have hla:=g5 (j-1) ZO ZO
   have zf4:=gtT hj0
   have zf5:=Ai8 hj0
   have zf6:=λd0_=>CG (s.boxes[k]'hlt).mails (j-1) d0_ ZO
   refine Zd true [0,1,2,3,4,5,6,7,8,9,10,11,12,13,14,15,16,17,18,19,20,21,22,23,24,25,26,27,28,29,30,31,32,33,34] ?_
   simp only[go_sem,fb4,fb6]
   (repeat(with_reducible refine And.intro ZS ?_))
   refine Aw rfl rfl rfl rfl (LT T _ _ _) rfl rfl ?_
   simp only[go_sem,fb4,fb6,zf4,zf5,zf6]
   (repeat(with_reducible refine And.intro ZS ?_))
   refine B7 rfl rfl rfl rfl rfl (λhg=>LT T _ _ _) (λhg=>by(try simp only[go_sem])<;>first|exact hg|(exfalso;simp at hg;done)|(simpa using hg)|grind) rfl rfl ?_
   simp only[go_sem,fb6]
   (repeat(with_reducible refine And.intro ZS ?_))
   refine Zm 549755813903 ?_
   refine Zc (λhc4=>?_) λhc4=>?_
   ·simp only[true_and] at hc4
    refine Zp 2 (Aa.ret ?_)
    refine Zy ?_
    rw[Vo (by rw[<-h2];refine AbG hlt (.inl (AdC hk0 ?_));rw[<-g2];exact Afz hlj ZO)]
   simp only[not_true_eq_false,false_or] at hc4
   refine Z5 ?_
   refine Z6 ?_
   refine Ze 7 8 [b6] [] [b4,b1] [] (.e ⟨_,ZM,j+1,((s.boxes[k]'hlt).mails[j]'hlj).uid,rfl,ZE,ZE,?_,?_,?_,?_,?_⟩)
   all_goals first|omega|(rw[<-Af0 (la:=la) hlj ZO];exact g2)|(intro i h e;obtain rfl:i=j:=ZO;rfl)
  refine Aa.exit (Ak (Ak (Bh (Ai (Ac ?_)))))
  refine Z6 ?_
  refine Ze 1 2 [b4] [] [b1] [] (.e ⟨_,ZM,k+1,rfl,ZE,ZE,?_,?_⟩)
  · omega
  · rw [<-AgF hlt (by rw[L8 hk0,<-g2,Aac ZO]) ZO];exact h2
 have hbx:Ll [] s.boxes=true:=by rw[<-h2];exact Ym ZO
 have hsm:=KT h0 hbx
 refine Z4 ?_
 refine Zs (Zp 5 ?_)
 refine Aa.block (Zy ?_)
 refine Zl 1 2 (λn lc hc=> ∃(k:Nat),n=s.spool.length-k/\Av lc [(7,.d (.int .i64 k))]/\Av hc (⟨[(b1,⟨2,1,[An s]⟩)],[]⟩)/\(k<=s.spool.length)/\(Sy (s.spool.drop k)=Sy s.spool)) ?_ ?_
 · refine ⟨_,0,rfl,ZE,ZE,?_,?_⟩
   all_goals(first|omega|rfl)
 rintro _ _ _ ⟨k,rfl,⟨rfl⟩,⟨rfl⟩,g1,g2⟩
 refine Zy ?_
 refine Zs (Zp 67 ?_)
 refine Zc (λhc5=>?_) λhc5=>?_
 ·have hlt:k<s.spool.length:=by omega
  have zf7:=λd0_=>DG s.spool k d0_ hlt
  refine Zk ?_
  refine Zs (Aa.block (Zx (Z3 ?_)))
  refine ZQ (λhg=>Jq T hL (ok.sp _ (List.getElem_mem hlt))) ?_
  refine Zy ?_
  (repeat(with_reducible refine And.intro ZS ?_))
  refine Zm 262147 ?_
  refine Zc (λhc6=>?_) λhc6=>?_
  ·refine Zp 2 (Aa.ret ?_)
   refine Zy ?_
   rw[AdR (by rw[<-g2];exact Ah8 hlt ZO)]
  refine Z5 ?_
  refine Z6 ?_
  refine Ze 1 2 [] [] [b1] [] (.e ⟨_,ZM,k+1,rfl,ZE,ZE,?_,?_⟩)
  · omega
  · rw [<-Ah9 hlt hc6];exact g2
 have hsp:Sy s.spool=true:=by rw[<-g2];exact AaB ZO
 refine Z4 ?_
 refine Zs (Z1 32 (NH T s (AdT h0 hbx)) ?_)
 refine Zc (λhc7=>?_) λhc7=>?_
 ·refine Zp 1 (Aa.ret ?_)
  refine Zy ?_
  rw[AdS ZO]
 refine Zk ?_
 refine Zp 1 (Aa.ret ?_)
 refine Zy ?_
 rw[AdU h0 hbx hsp ZO]
structure Ael (s:St):Prop where
 bx:s.boxes.length*48<=140737488355328
 ml:∀b∈s.boxes,b.mails.length*32<=140737488355328
 sp:s.spool.length*72<=140737488355328
theorem SX (l:List AL) (x:AL):A3 l++[EQ x]=A3 (l++[x]):=by simp[A3]
theorem QS {l:List AL} {k:Nat} (h:k<l.length):A3 (l.take k)++[EQ (l[k]'h)]=A3 (l.take (k+1)):=by rw[SX,CH h]
attribute [local go_sem] Bc EQ in
theorem AaD (T:Ap) (s:St) (sm:Ael s):PC prog T 20 [.agg (An s)] (.agg (An s)):=by
 refine⟨call20,Ar.enterS func20 rfl ntmps20 rfl λhb=>?_⟩
 obtain⟨sm1,sm2,sm3⟩:=sm
 simp only[go_sem,results20]
 refine Zx (Zy ?_)
 intro b1
 first|intro fb1|have fb1:=True.intro
 try simp only[Ab] at fb1
 intro b2
 first|intro fb2|have fb2:=True.intro
 try simp only[Ab] at fb2
 refine Zx (Zy ?_)
 intro b3 fb3
 try simp only[Ab] at fb3
 refine CC b3 0 0 3 (by(try simp only[go_sem,fb3])<;>rfl) rfl rfl ZD λt0 ft0=>?_
 try simp only[Ae] at ft0
 simp only[go_sem,fb3]
 refine Zs (Zp 30 ?_)
 refine Aa.block (Zy ?_)
 refine Zl 7 8 (λn lc hc=> ∃(k v:Nat),n=s.boxes.length-k/\Av lc [(4,.d (.int .i64 k))]/\Av hc (⟨[(b3,⟨2,1,[[.own v 3 (A3 (s.boxes.take k)),.nils]]⟩),(b2,⟨2,1,[[.nils,.nils]]⟩),(b1,⟨2,1,[An s]⟩)],[v]⟩)/\(k<=s.boxes.length)) ?_ ?_
 · refine ⟨_,0,t0,rfl,ZE,?_,ZI⟩
   · (try simp only[go_sem])<;>first|exact⟨rfl⟩|(constructor;rfl)
 rintro _ _ _ ⟨k,v,rfl,⟨rfl⟩,⟨rfl⟩,h1⟩
 refine Zy ?_
 refine Zs (Zp 271 ?_)
 refine Zc (λhc0=>?_) λhc0=>?_
 ·have hlt:k<s.boxes.length:=by omega
  have hml:=sm2 _ (List.getElem_mem hlt)
  have zf1:=λd0_=>BG s.boxes k d0_ hlt
  refine Zk ?_
  refine Zs (Aa.block (Zx (Z3 ?_)))
  intro b5 fb5
  try simp only[Ab] at fb5
  refine Zm 31 ?_
  refine Zx ?_
  simp only[go_sem,fb5]
  refine Ko rfl rfl rfl rfl (show BL prog 92=some (112,3,32) by simp only[go_sem]) rfl rfl ZJ (by(try simp only[go_sem]);omega) (by(try simp only[go_sem]);omega) λt1 ft1=>?_
  try simp only[Ae] at ft1
  simp only[go_sem,fb5]
  refine Zn 31 ?_
  refine TU [(b5,⟨3,1,[Nu (s.boxes[k]'hlt)]⟩),(b3,⟨2,1,[[.own v 3 (A3 (s.boxes.take k)),.nils]]⟩),(b2,⟨2,1,[[.nils,.nils]]⟩),(b1,⟨2,1,[An s]⟩)] (by simp[Cy,Cv,Aj,Bj,Ay,AV.one,Nu,An]) ?_
  refine Zq λK_ k_=>?_
  simp only[go_sem,fb3,fb5]
  refine ZW λt2 ft2=>?_
  try simp only[Ae] at ft2
  simp only[go_sem, *]
  refine k_ _ _ (Ai (Ac ?_))
  refine Zm 15 ?_
  refine Z6 ?_
  refine Ze 7 8 [b5] [t1] [b3,b2,b1] [t2] (.e ⟨_,ZM,k+1,t2,rfl,ZE,?_,ZN⟩)
  · (try simp only[go_sem,fb2,fb3,fb5,ft2])<;>first|exact⟨rfl⟩|(constructor;rw[<-QS hlt];rfl)
 have hk:k=s.boxes.length:=by omega
 subst hk
 rw[List.take_length]
 refine Z4 ?_
 refine Zx ?_
 simp only[go_sem,fb2,fb3]
 refine ZP (WB T _ sm3) ?_
 simp only[go_sem,fb3]
 refine Zm 6 ?_
 refine Zp 1 (Aa.ret ?_)
 simp only[go_sem,fb2,fb3]
 try simp[Aj,Bj,Ay]
end
section
open Go.RowKit
open Go.ChangeShapes Go.WideShapes Go.ChangeAt
set_option maxRecDepth 20000
section
variable {H:Type} {enc:TypeId×Value->H} {W:World}
theorem Yy (f:Nat):CX enc prog W CJ (λm:B2=>m.text.length) 112 f:=by
 cases f with
 |zero=>exact .zero
 |succ f=>
  have hi:CX enc prog W (λn:Int=>[.int .i64 n]) (λ_=>1) 3 f:=CX.int underlying3
  have hs:CX enc prog W (λs:List UInt8=>[.str s]) (λs=>s.length+1) 9 f:=CX.str underlying9
  exact(CX.struct underlying112 (by kernel_rfl) (.cons (k:=1) hi (by kernel_rfl) rfl (.cons (k:=1) hi (by kernel_rfl) rfl (.cons (k:=1) hs (by kernel_rfl) rfl .nil)))).map
    (λ(p:Int×(Int×(Tx×Unit)))=>B2.mk p.1 p.2.1 p.2.2.1) (λp=>rfl) (λp=>by dsimp only;omega)
theorem Wv (f:Nat):Cu enc prog W (λl:List B2=>[.slc 3 (l.map CJ)]) (RL λ_ _=>True) 92 f:=by
 cases f with
 |zero=>exact Cu.zero
 |succ f=>exact Cu.slc (Cu.any (Yy f)) underlying92 (by kernel_rfl) (λ_=>rfl) ZD
def RBx (b:AL) (d:DataW H):Prop:=∃ds z,d= .agg ds/\ds[2]?=some z/\RL (λ_ _=>True) b.mails z
theorem AbM (f:Nat):Cu enc prog W EQ RBx 94 f:=by
 cases f with
 |zero=>exact Cu.zero
 |succ f=>
  have hi:Cu enc prog W (λn:Int=>[.int .i64 n]) (λ_ _=>True) 3 f:=Cu.any (CX.int underlying3)
  have hs:Cu enc prog W (λs:List UInt8=>[.str s]) (λ_ _=>True) 9 f:=Cu.any (CX.str underlying9)
  exact(Cu.struct underlying94 (by kernel_rfl) (.cons (k:=1) hs (by kernel_rfl) rfl (.cons (k:=1) hi (by kernel_rfl) rfl (.cons (k:=1) (Wv f) (by kernel_rfl) rfl .nil)))).map
    (λ(p:Tx×(Int×(List B2×Unit)))=>AL.mk p.1 p.2.1 p.2.2.1) (λp=>rfl) (λp d h=>by
     obtain⟨ds,rfl,h⟩:=h
     match ds,h with
     |[],h=>exact h.elim
     |[_],h=>exact h.2.elim
     |[_,_],h=>exact h.2.2.elim
     |x::y::z::ds,h=>exact⟨_,z,rfl,rfl,h.2.2.1⟩)
theorem Wu (f:Nat):Cu enc prog W (λl:List AL=>[.slc 3 (l.map EQ)]) (RL RBx) 51 f:=by
 cases f with
 |zero=>exact Cu.zero
 |succ f=>exact Cu.slc (AbM f) underlying51 (by kernel_rfl) (λ_=>rfl) ZD
def RSt (s:St) (d:DataW H):Prop:=∃ds z1 z2,d= .agg ds/\ds[0]?=some z1/\ds[1]?=some z2/\RL RBx s.boxes z1/\RL (λ_ _=>True) s.spool z2
theorem AeR (f:Nat):Cu enc prog W (λs:St=>[.slc 3 (A3 s.boxes),.slc 6 (At s.spool)]) RSt 54 f:=by
 cases f with
 |zero=>exact Cu.zero
 |succ f=>
  exact(Cu.struct underlying54 (by kernel_rfl) (.cons (k:=1) (Wu f) (by kernel_rfl) rfl (.cons (k:=1) (Yx f) (by kernel_rfl) rfl .nil))).map
    (λ(p:List AL×(List BN×Unit))=>St.mk p.1 p.2.1) (λp=>rfl) (λp d h=>by
     obtain⟨ds,rfl,h⟩:=h
     match ds,h with
     |[],h=>exact h.elim
     |[_],h=>exact h.2.elim
     |x::z::ds,h=>exact⟨_,x,z,rfl,rfl,rfl,h.1,h.2.1⟩)
theorem AhC {F:Js} {s:St} {v:Value} (h1:∃v,VD F (.slc 3 (A3 s.boxes)) v) (h2:∃v,VD F (.slc 6 (At s.spool)) v):LY s:=by
 obtain⟨v1,h1⟩:=h1
 obtain⟨v2,h2⟩:=h2
 refine⟨λb hb=>?_,AbX h2⟩
 obtain⟨_,_,h3⟩:=h1.bnd.slc_inv
 have hm:EQ b∈A3 s.boxes:=List.mem_map.2 ⟨b,hb,rfl⟩
 exact Nat.le_trans (h3 _ hm (.str b.name) (by simp[EQ])).str_inv ZD
theorem AfC {α:Type} {R:α->DataW H->Prop} {l:List α} {z:DataW H} (h:RL R l z) {x:α} (hx:x∈l):∃elems spare y,z= .slice elems spare/\y∈elems/\R x y:=by
 cases h with
 |nil=>cases hx
 |slice _ elems spare hl h=>
  obtain⟨i,hi,rfl⟩:=List.getElem_of_mem hx
  have hi':i<elems.length:=by omega
  exact⟨elems,spare,elems[i],rfl,List.getElem_mem hi',h i _ _ (List.getElem?_eq_getElem hi) (List.getElem?_eq_getElem hi')⟩
end
end
section
def Bf:List (List UInt8):=[[92,83,101,101,110],[92,65,110,115,119,101,114,101,100],[92,70,108,97,103,103,101,100],[92,68,101,108,101,116,101,100],[92,68,114,97,102,116]]
def Ln:List (List UInt8)->Int
 |[]=>0
 |s::l=>if s∈Bf then Ln l else 7
theorem Ad1 {l:List (List UInt8)} {k:Nat} (h:k<l.length) (hc:¬l[k]∈Bf):Ln (l.drop k)=7:=by rw[List.drop_eq_getElem_cons h,Ln,if_neg hc]
theorem Ad0 {l:List (List UInt8)} {k:Nat} (h:k<l.length) (hc:l[k]∈Bf):Ln (l.drop k)=Ln (l.drop (k+1)):=by rw[List.drop_eq_getElem_cons h,Ln,if_pos hc]
theorem Adz {l:List (List UInt8)} {k:Nat} (h:l.length<=k):Ln (l.drop k)=0:=by rw[List.drop_eq_nil_of_le h];rfl
theorem ZC (l:List (List UInt8)):(l.map D.str).map (λx=>[x])=l.map Aq:=by rw[List.map_map];rfl
theorem Ts {α:Type} [DecidableEq α]:∀(l:List α) (t:α),Ih l t<l.length
 |[],_=>by simp[Ih]
 |x::r,t=>by have:=Ts r t;unfold Ih;rw[List.length_cons];split;omega;split<;>omega
theorem AdN:∀j:Nat,j<5->1<=(2:Int)^j/\(2:Int)^j<=16:=by decide
attribute [local go_sem] Bi Aq in
theorem YZ (T:Ap) (hF:T 2=Bf.map D.str) (l:List (List UInt8)) (hl:l.length<=1048576):PC prog T 143 [.d (.slc 1 (l.map Aq))] (.tup [.any,.d (.int .i64 (Ln l))]):=by
 refine⟨call143,Ar.enterS func143 rfl ntmps143 rfl λhb=>?_⟩
 simp only[go_sem,results143]
 refine Zp 1 ?_
 refine Zp 3 ?_
 refine Zs (Zp 30 ?_)
 refine Aa.block (Zy ?_)
 refine Zl 6 9 (λn lc hc=> ∃(k:Nat) (fv:Int),n=l.length-k/\Av lc [(4,.d (.int .i64 fv)),(10,.d (.int .i64 (k:Nat)))]/\Av hc (⟨[],[]⟩)/\(k<=l.length)/\(Ln l=Ln (l.drop k))) ?_ ?_
 · refine ⟨_,0,0,rfl,ZE,ZE,?_,?_⟩
   all_goals(first|omega|rfl)
 rintro _ _ _ ⟨k,fv,rfl,⟨rfl⟩,⟨rfl⟩,h1,h2⟩
 refine Zy ?_
 refine Zp 31 ?_
 refine Zs (Zc (λhc0=>?_) λhc0=>?_)
 ·have hlt:k<l.length:=by omega
  have hki:(k:Int)<(l.length:Int):=by omega
  have zf1:=λd0_=>Al Aq l k d0_ hlt
  refine Zk ?_
  refine Zs (Aa.block (Zp 31 ?_))
  refine Gz 0 λK_ hK_=>?_
  simp only[List.take_zero,List.drop_zero]
  refine Zy ?_
  refine SB ?_
  refine DW.sliceG (n:=5) (e:=9) rfl rfl rfl (by first|rfl|kernel_rfl) (by first|rfl|kernel_rfl) (by rw[hF];rfl) ZD ZD ?_
  refine DW.nil ?_
  rw[hF,ZC]
  refine LV.lvc ?_
  refine Zy ?_
  refine ZP (LU T Bf _ ZD) ?_
  refine Zy ?_
  refine hK_ _ _ ?_
  refine Zm 61 ?_
  refine Zs (Zp 95 ?_)
  refine Zc (λhc1=>?_) λhc1=>?_
  ·have hm:¬l[k]∈Bf:=λh9=>by have:=(Ii Bf (l[k])).2 h9;omega
   refine Zp 3 (Aa.ret ?_)
   refine Zy ?_
   rw[h2,Ad1 hlt hm];try simp[Aj,Bj,Ay]
  have h0:0<=Ih Bf (l[k]):=by omega
  have hm:l[k]∈Bf:=(Ii Bf (l[k])).1 h0
  have hix:Ih Bf (l[k])<5:=Ts Bf (l[k])
  obtain⟨pw,hpw,hp1,hp2⟩:∃pw:Int,(1:Int)*2^min (Ih Bf (l[k])).toNat 64=pw/\1<=pw/\pw<=16:=by
    have h5:=AdN (Ih Bf (l[k])).toNat ZO
    rw[show min (Ih Bf (l[k])).toNat 64=(Ih Bf (l[k])).toNat by omega,Int.one_mul]
    exact⟨_,rfl,h5.1,h5.2⟩
  refine Zk ?_
  refine Zr (Ai (Ac ?_))
  refine Zm 29 ?_
  refine Z6 ?_
  refine Zf 6 9 (.e ⟨_,ZM,k+1,(IntKind.i64.wrap (BitVec.ofInt 64 fv|||BitVec.ofInt 64 pw).toNat),rfl,ZE,ZE,?_,?_⟩)
  · omega
  · rw [h2,Ad0 hlt hm]
 refine Z4 ?_
 refine Zm 1 ?_
 refine Zp 3 (Aa.ret ?_)
 refine Zy ?_
 rw[h2,Adz ZO];try simp[Aj,Bj,Ay]
end
section
def P7 (s:List UInt8):Int:=if s=[92,83,101,101,110] then 1 else if s=[92,65,110,115,119,101,114,101,100] then 2 else if s=[92,70,108,97,103,103,101,100] then 4 else if s=[92,68,101,108,101,116,101,100] then 8 else if s=[92,68,114,97,102,116] then 16 else 0
theorem Oe (s:List UInt8):P7 s=0↔¬s∈Bf:=by
 unfold P7 Bf
 simp only[List.mem_cons,List.not_mem_nil,or_false]
 repeat' split
 all_goals(constructor<;>intro h<;>first|omega|(simp_all;done)|rfl)
theorem Rl:∀{l:List (List UInt8)} {k:Nat} (h:k<l.length),¬l[k]∈Bf->Ln l=7
 |s::l,0,h,hc=>by
  have hc':¬s∈Bf:=by simpa using hc
  unfold Ln;rw[if_neg hc']
 |s::l,k+1,h,hc=>by
  unfold Ln
  split
  ·exact Rl (l:=l) (k:=k) (by simpa using h) (by simpa using hc)
  ·rfl
theorem Ady:∀{l:List (List UInt8)},(∀s∈l,s∈Bf)->Ln l=0
 |[],_=>rfl
 |s::l,h=>by unfold Ln;rw[if_pos (h s (List.mem_cons_self ..))];exact Ady λx hx=>h x (List.mem_cons_of_mem _ hx)
def LS (l:List (List UInt8)) (k:Nat):Prop:=∀(j:Nat) (h:j<l.length),j<k->l[j]∈Bf
theorem LS.s {l:List (List UInt8)} {k:Nat} (h:k<l.length) (H:LS l k) (hc:l[k]∈Bf):LS l (k+1):=λj hj hk=>by
 rcases Nat.lt_or_ge j k with h9|h9
 ·exact H j hj h9
 ·obtain rfl:j=k:=by omega
  exact hc
theorem LS.e {l:List (List UInt8)} {k:Nat} (H:LS l k) (h:l.length<=k):Ln l=0:=Ady λs hs=>by
 obtain⟨i,h8,h7⟩:=List.mem_iff_getElem.1 hs
 exact h7▸H i h8 ZO
theorem EV (T:Ap) (s:List UInt8):PC prog T 145 [.d (.str s)] (.d (.int .i64 (P7 s))):=by
 refine⟨call145,Ar.enterS func145 rfl ntmps145 rfl λhb=>?_⟩
 simp only[go_sem,results145]
 refine Zp 1 ?_
 refine Zs (Zp 2 ?_)
 refine Aa.block (Zp 3 ?_)
 refine Zc (λhc0=>?_) λhc0=>?_
 ·refine Zp 1 (Aa.ret ?_)
  refine Zy ?_
  simp[P7, *]
 refine Zp 5 ?_
 refine Zc (λhc1=>?_) λhc1=>?_
 ·refine Zp 1 (Aa.ret ?_)
  refine Zy ?_
  simp[P7, *]
 refine Zp 5 ?_
 refine Zc (λhc2=>?_) λhc2=>?_
 ·refine Zp 1 (Aa.ret ?_)
  refine Zy ?_
  simp[P7, *]
 refine Zp 5 ?_
 refine Zc (λhc3=>?_) λhc3=>?_
 ·refine Zp 1 (Aa.ret ?_)
  refine Zy ?_
  simp[P7, *]
 refine Zp 4 ?_
 refine Zc (λhc4=>?_) λhc4=>?_
 ·refine Zp 1 (Aa.ret ?_)
  refine Zy ?_
  simp[P7, *]
 refine Z5 ?_
 refine Zp 1 (Aa.ret ?_)
 refine Zy ?_
 simp[P7, *]
attribute [local go_sem] Bi Aq in
theorem Tt (T:Ap) (l:List (List UInt8)) (hl:l.length<=1048576):PC prog T 80 [.d (.slc 1 (l.map Aq))] (.tup [.any,.d (.int .i64 (Ln l))]):=by
 refine⟨call80,Ar.enterS func80 rfl ntmps80 rfl λhb=>?_⟩
 simp only[go_sem,results80]
 refine Zp 1 ?_
 refine Zp 3 ?_
 refine Zs (Zp 7 ?_)
 refine Aa.block (Zy ?_)
 refine Zl 1 6 (λn lc hc=> ∃(bt fv:Int),n=(64-bt).toNat/\Av lc [(4,.d (.int .i64 fv)),(5,.d (.int .i64 bt))]/\Av hc (⟨[],[]⟩)/\(1<=bt)/\(bt<=32)/\(0<=fv)/\(fv<bt)) ?_ ?_
 · refine ⟨_,1,0,rfl,ZE,ZE,?_,?_,?_,?_⟩
   all_goals(omega)
 rintro _ _ _ ⟨bt,fv,rfl,⟨rfl⟩,⟨rfl⟩,g1,g2,g3,g4⟩
 refine Zy ?_
 refine Zs (Zp 23 ?_)
 refine Zc (λhc0=>?_) λhc0=>?_
 ·refine Zk ?_
  refine Zs (Aa.block (Zp 15 ?_))
  refine Aa.block (Zy ?_)
  refine Zl 5 10 (λn lc hc=> ∃(k:Nat) (f2:Int),n=l.length-k/\Av lc [(4,.d (.int .i64 f2)),(6,.d (.int .i64 (k:Nat)))]/\Av hc (⟨[],[]⟩)/\(k<=l.length)/\(f2=fv)) ?_ ?_
  · refine ⟨_,0,fv,rfl,ZE,ZE,?_,?_⟩
    all_goals(first|omega|rfl)
  rintro _ _ _ ⟨k,f2,rfl,⟨rfl⟩,⟨rfl⟩,h1,h3⟩
  refine Zy ?_
  refine Zs (Zp 143 ?_)
  refine Zc (λhc1=>?_) λhc1=>?_
  ·have hlt:k<l.length:=by omega
   have hki:(k:Int)<(l.length:Int):=by omega
   have zf1:=λd0_=>Al Aq l k d0_ hlt
   refine Zk ?_
   refine Zs (Aa.block (Zs (Zx ?_)))
   simp only[go_sem,zf1,hki]
   refine ZP (EV T _) ?_
   refine Zy ?_
   refine Zm 1039 ?_
   refine Zc (λhc2=>?_) λhc2=>?_
   ·have hm:=(Oe (l[k])).1 hc2
    refine Zp 6 (Aa.ret ?_)
    refine Zy ?_
    rw[Rl hlt hm];try simp[Aj,Bj,Ay]
   refine Zk ?_
   refine Zx ?_
   simp only[go_sem,zf1,hki]
   refine ZP (EV T _) ?_
   refine Zy ?_
   refine Zm 2063 ?_
   refine Zc (λhc3=>?_) λhc3=>?_
   ·refine Zp 7 (Aa.exit (EG ZD (Ak (Ak (Bh (Ai (Ac ?_)))))))
    refine Z6 ?_
    refine Zf 1 6 (.e ⟨_,?_,(bt*2),(f2+bt),rfl,ZE,ZE,?_,?_,?_,?_⟩)
    · first|omega|(simp;omega)|(omega)
    · omega
    · omega
    · omega
    · omega
   refine Z5 ?_
   refine Z6 ?_
   refine Zf 5 10 (.e ⟨_,ZM,k+1,f2,rfl,ZE,ZE,?_,?_⟩)
   · omega
   · exact h3
  refine Aa.exit (Ak (Ak (Bh (Ai (Ac ?_)))))
  refine Z6 ?_
  refine Zf 1 6 (.e ⟨_,?_,(bt*2),f2,rfl,ZE,ZE,?_,?_,?_,?_⟩)
  · first|omega|(simp;omega)|(omega)
  · omega
  · omega
  · omega
  · omega
 refine Z4 ?_
 refine Zs (Zp 11 ?_)
 refine Aa.block (Zy ?_)
 refine Zl 3 4 (λn lc hc=> ∃(k:Nat),n=l.length-k/\Av lc [(7,.d (.int .i64 (k:Nat)))]/\Av hc (⟨[],[]⟩)/\(k<=l.length)/\(LS l k)) ?_ ?_
 · refine ⟨_,0,rfl,ZE,ZE,?_,?_⟩
   all_goals(first|omega|exact λj h h9=>absurd h9 ZO)
 rintro _ _ _ ⟨k,rfl,⟨rfl⟩,⟨rfl⟩,h1,h2⟩
 refine Zy ?_
 refine Zs (Zp 71 ?_)
 refine Zc (λhc4=>?_) λhc4=>?_
 ·have hlt:k<l.length:=by omega
  have hki:(k:Int)<(l.length:Int):=by omega
  have zf2:=λd0_=>Al Aq l k d0_ hlt
  refine Zk ?_
  refine Zs (Aa.block (Zx ?_))
  simp only[go_sem,zf2,hki]
  refine ZP (EV T _) ?_
  refine Zy ?_
  refine Zm 519 ?_
  refine Zc (λhc5=>?_) λhc5=>?_
  ·have hm:=(Oe (l[k])).1 hc5
   refine Zp 6 (Aa.ret ?_)
   refine Zy ?_
   rw[Rl hlt hm];try simp[Aj,Bj,Ay]
  have hm:l[k]∈Bf:=Decidable.byContradiction λh9=>hc5 ((Oe (l[k])).2 h9)
  refine Z5 ?_
  refine Z6 ?_
  refine Zf 3 4 (.e ⟨_,ZM,k+1,rfl,ZE,ZE,?_,?_⟩)
  · omega
  · exact h2.s hlt hm
 refine Z4 ?_
 refine Zp 6 (Aa.ret ?_)
 refine Zy ?_
 rw[h2.e ZO];try simp[Aj,Bj,Ay]
end
section
def FI (v:Int) (l:List (List UInt8)):Bool:=l.any λs=>decide (P7 s=v)
def p2:Nat->Int
 |0=>1
 |n+1=>p2 n*2
def Xt (l:List (List UInt8)):Nat->Int
 |0=>0
 |j+1=>Xt l j+(if FI (p2 j) l=true then p2 j else 0)
def flN (l:List (List UInt8)):Int:=Xt l 5
def Sw (l:List (List UInt8)):Int×Int:=if Ln l=0 then(flN l,0) else(0,Ln l)
theorem YL {l:List (List UInt8)} (h:Ln l=7):Sw l=(0,7):=by simp[Sw,h]
theorem Ad2 {l:List (List UInt8)} (h:Ln l=0):Sw l=(flN l,0):=by simp[Sw,h]
def Xs (a b c d e:Bool):Int:=(if a=true then 1 else 0)+(if b=true then 2 else 0)+(if c=true then 4 else 0)+(if d=true then 8 else 0)+(if e=true then 16 else 0)
def Q0 (x:Int):Prop:=∃a b c d e,x=Xs a b c d e
theorem Th (l:List (List UInt8)):flN l=Xs (FI 1 l) (FI 2 l) (FI 4 l) (FI 8 l) (FI 16 l):=by
 simp[flN,Xt,p2,Xs]
 try rfl
theorem Afe (l:List (List UInt8)):Q0 (flN l):=⟨_,_,_,_,_,Th l⟩
theorem My (l:List (List UInt8)):Q0 (Sw l).1:=by
 unfold Sw
 split
 ·exact Afe l
 ·exact⟨false,false,false,false,false,rfl⟩
theorem XZ {l:List (List UInt8)} {k:Nat} (h:k<l.length) (v:Int):FI v (l.take (k+1))=(FI v (l.take k)||decide (P7 l[k]=v)):=by
 rw[FI,List.take_succ_eq_append_getElem h,List.any_append]
 simp[FI]
theorem AfB {s:List UInt8} (h:s∈Bf):(1:Int)*2^min (Ih Bf s).toNat 64=P7 s:=by
 simp only[Bf,List.mem_cons,List.not_mem_nil,or_false] at h
 rcases h with rfl|rfl|rfl|rfl|rfl<;>rfl
theorem Afc {s:List UInt8} (h:s∈Bf):P7 s=1\/P7 s=2\/P7 s=4\/P7 s=8\/P7 s=16:=by
 simp only[Bf,List.mem_cons,List.not_mem_nil,or_false] at h
 rcases h with rfl|rfl|rfl|rfl|rfl<;>decide
def orF (x y:Int):Int:=IntKind.i64.wrap (BitVec.ofInt 64 x|||BitVec.ofInt 64 y).toNat
theorem Ah0 (a b c d e:Bool) (v:Int) (h:v=1\/v=2\/v=4\/v=8\/v=16):orF (Xs a b c d e) v=Xs (a||decide (v=1)) (b||decide (v=2)) (c||decide (v=4)) (d||decide (v=8)) (e||decide (v=16)):=by
 rcases h with rfl|rfl|rfl|rfl|rfl<;>cases a<;>cases b<;>cases c<;>cases d<;>cases e<;>rfl
theorem AgS {l:List (List UInt8)} {k:Nat} {pw:Int} (h:k<l.length) (hm:l[k]∈Bf) (hp:(1:Int)*2^min (Ih Bf (l[k])).toNat 64=pw):IntKind.i64.wrap (BitVec.ofInt 64 (flN (l.take k))|||BitVec.ofInt 64 pw).toNat=flN (l.take (k+1)):=by
 rw[AfB hm] at hp
 subst hp
 have:=Ah0 (FI 1 (l.take k)) (FI 2 (l.take k)) (FI 4 (l.take k)) (FI 8 (l.take k)) (FI 16 (l.take k)) _ (Afc hm)
 rw[Th,Th]
 simp only[XZ h]
 exact this
theorem AdI {j:Nat} (h:j<=5) (hc:p2 j<=16):j<5:=by
 rcases Nat.lt_or_ge j 5 with h9|h9
 ·exact h9
 ·obtain rfl:j=5:=by omega
  exact absurd hc ZD
theorem AdH {j:Nat} (h:j<=5) (hc:16<p2 j):j=5:=by
 match j,h,hc with
 |0,_,hc=>exact absurd hc ZD
 |1,_,hc=>exact absurd hc ZD
 |2,_,hc=>exact absurd hc ZD
 |3,_,hc=>exact absurd hc ZD
 |4,_,hc=>exact absurd hc ZD
 |5,_,_=>rfl
theorem AgX {l:List (List UInt8)} {j:Nat} (h:FI (p2 j) l=true):Xt l j+p2 j=Xt l (j+1):=by rw[Xt,if_pos h]
theorem AgW {l:List (List UInt8)} {j:Nat} (h:FI (p2 j) l=false):Xt l j=Xt l (j+1):=by rw[Xt,if_neg (by rw[h];decide)];omega
theorem AeC {l:List (List UInt8)} {k:Nat} {v:Int} (h:k<l.length) (hc:P7 l[k]=v):FI v l=true:=List.any_eq_true.2 ⟨_,List.getElem_mem h,by simp[hc]⟩
theorem AeB {l:List (List UInt8)} {k:Nat} {v:Int} (h:k<l.length) (hc:¬P7 l[k]=v) (h2:FI v (l.take k)=false):FI v (l.take (k+1))=false:=by rw[XZ h,h2];simp[hc]
attribute [local go_sem] Bi Aq in
theorem U5 (T:Ap) (hF:T 2=Bf.map D.str) (l:List (List UInt8)) (hl:l.length<=1048576):PC prog T 143 [.d (.slc 1 (l.map Aq))] (.tup [.d (.int .i64 ((Sw l).1)),.d (.int .i64 ((Sw l).2))]):=by
 refine⟨call143,Ar.enterS func143 rfl ntmps143 rfl λhb=>?_⟩
 simp only[go_sem,results143]
 refine Zp 1 ?_
 refine Zp 3 ?_
 refine Zs (Zp 30 ?_)
 refine Aa.block (Zy ?_)
 refine Zl 6 9 (λn lc hc=> ∃(k:Nat),n=l.length-k/\Av lc [(4,.d (.int .i64 (flN (l.take k)))),(10,.d (.int .i64 (k:Nat)))]/\Av hc (⟨[],[]⟩)/\(k<=l.length)/\(Ln l=Ln (l.drop k))) ?_ ?_
 · refine ⟨_,0,rfl,ZE,ZE,?_,?_⟩
   all_goals(first|omega|rfl)
 rintro _ _ _ ⟨k,rfl,⟨rfl⟩,⟨rfl⟩,h1,h2⟩
 refine Zy ?_
 refine Zp 31 ?_
 refine Zs (Zc (λhc0=>?_) λhc0=>?_)
 ·have hlt:k<l.length:=by omega
  have hki:(k:Int)<(l.length:Int):=by omega
  have zf1:=λd0_=>Al Aq l k d0_ hlt
  refine Zk ?_
  refine Zs (Aa.block (Zp 31 ?_))
  refine Gz 0 λK_ hK_=>?_
  simp only[List.take_zero,List.drop_zero]
  refine Zy ?_
  refine SB ?_
  refine DW.sliceG (n:=5) (e:=9) rfl rfl rfl (by first|rfl|kernel_rfl) (by first|rfl|kernel_rfl) (by rw[hF];rfl) ZD ZD ?_
  refine DW.nil ?_
  rw[hF,ZC]
  refine LV.lvc ?_
  refine Zy ?_
  refine ZP (LU T Bf _ ZD) ?_
  refine Zy ?_
  refine hK_ _ _ ?_
  refine Zm 61 ?_
  refine Zs (Zp 95 ?_)
  refine Zc (λhc1=>?_) λhc1=>?_
  ·have hm:¬l[k]∈Bf:=λh9=>by have:=(Ii Bf (l[k])).2 h9;omega
   refine Zp 3 (Aa.ret ?_)
   refine Zy ?_
   rw[YL (h2.trans (Ad1 hlt hm))];try simp[]
  have h0:0<=Ih Bf (l[k]):=by omega
  have hm:l[k]∈Bf:=(Ii Bf (l[k])).1 h0
  have hix:Ih Bf (l[k])<5:=Ts Bf (l[k])
  obtain⟨pw,hpw,hp1,hp2⟩:∃pw:Int,(1:Int)*2^min (Ih Bf (l[k])).toNat 64=pw/\1<=pw/\pw<=16:=by
    have h5:=AdN (Ih Bf (l[k])).toNat ZO
    rw[show min (Ih Bf (l[k])).toNat 64=(Ih Bf (l[k])).toNat by omega,Int.one_mul]
    exact⟨_,rfl,h5.1,h5.2⟩
  refine Zk ?_
  refine Zr (Ai (Ac ?_))
  refine Zm 29 ?_
  refine Z6 ?_
  refine Zf 6 9 (.e ⟨_,ZM,k+1,rfl,?_,ZE,?_,?_⟩)
  · (try simp only[go_sem])<;>first|exact⟨rfl⟩|(constructor;rw[<-AgS hlt hm hpw];try rfl)
  · omega
  · rw [h2,Ad0 hlt hm]
 have htk:l.take k=l:=List.take_of_length_le ZO
 rw[htk]
 refine Z4 ?_
 refine Zm 1 ?_
 refine Zp 3 (Aa.ret ?_)
 refine Zy ?_
 rw[Ad2 (h2.trans (Adz ZO))];try simp[]
attribute [local go_sem] Bi Aq in
theorem WE (T:Ap) (l:List (List UInt8)) (hl:l.length<=1048576):PC prog T 80 [.d (.slc 1 (l.map Aq))] (.tup [.d (.int .i64 ((Sw l).1)),.d (.int .i64 ((Sw l).2))]):=by
 refine⟨call80,Ar.enterS func80 rfl ntmps80 rfl λhb=>?_⟩
 simp only[go_sem,results80]
 refine Zp 1 ?_
 refine Zp 3 ?_
 refine Zs (Zp 7 ?_)
 refine Aa.block (Zy ?_)
 refine Zl 1 6 (λn lc hc=> ∃(bt fv:Int) (j:Nat),n=(64-bt).toNat/\Av lc [(4,.d (.int .i64 fv)),(5,.d (.int .i64 bt))]/\Av hc (⟨[],[]⟩)/\(1<=bt)/\(bt<=32)/\(0<=fv)/\(fv<bt)/\(j<=5)/\(p2 j=bt)/\(Xt l j=fv)) ?_ ?_
 · refine ⟨_,1,0,0,rfl,ZE,ZE,?_,?_,?_,?_,?_,?_,?_⟩
   all_goals(first|omega|rfl)
 rintro _ _ _ ⟨bt,fv,j,rfl,⟨rfl⟩,⟨rfl⟩,g1,g2,g3,g4,g5,g6,g7⟩
 refine Zy ?_
 refine Zs (Zp 23 ?_)
 refine Zc (λhc0=>?_) λhc0=>?_
 ·have hj:=AdI g5 ZO
  refine Zk ?_
  refine Zs (Aa.block (Zp 15 ?_))
  refine Aa.block (Zy ?_)
  refine Zl 5 10 (λn lc hc=> ∃(k:Nat) (f2:Int),n=l.length-k/\Av lc [(4,.d (.int .i64 f2)),(6,.d (.int .i64 (k:Nat)))]/\Av hc (⟨[],[]⟩)/\(k<=l.length)/\(f2=fv)/\(FI bt (l.take k)=false)) ?_ ?_
  · refine ⟨_,0,fv,rfl,ZE,ZE,?_,?_,?_⟩
    all_goals(first|omega|rfl)
  rintro _ _ _ ⟨k,f2,rfl,⟨rfl⟩,⟨rfl⟩,h1,h3,h4⟩
  refine Zy ?_
  refine Zs (Zp 143 ?_)
  refine Zc (λhc1=>?_) λhc1=>?_
  ·have hlt:k<l.length:=by omega
   have hki:(k:Int)<(l.length:Int):=by omega
   have zf1:=λd0_=>Al Aq l k d0_ hlt
   refine Zk ?_
   refine Zs (Aa.block (Zs (Zx ?_)))
   simp only[go_sem,zf1,hki]
   refine ZP (EV T _) ?_
   refine Zy ?_
   refine Zm 1039 ?_
   refine Zc (λhc2=>?_) λhc2=>?_
   ·have hm:=(Oe (l[k])).1 hc2
    refine Zp 6 (Aa.ret ?_)
    refine Zy ?_
    rw[YL (Rl hlt hm)];try simp[]
   refine Zk ?_
   refine Zx ?_
   simp only[go_sem,zf1,hki]
   refine ZP (EV T _) ?_
   refine Zy ?_
   refine Zm 2063 ?_
   refine Zc (λhc3=>?_) λhc3=>?_
   ·have hFV:Xt l (j+1)=f2+bt:=by rw[h3,<-g7,<-AgX (by rw[g6];exact AeC hlt hc3),g6]
    refine Zp 7 (Aa.exit (EG ZD (Ak (Ak (Bh (Ai (Ac ?_)))))))
    refine Z6 ?_
    refine Zf 1 6 (.e ⟨_,?_,(bt*2),(f2+bt),(j+1),rfl,ZE,ZE,?_,?_,?_,?_,?_,?_,?_⟩)
    · first|omega|(simp;omega)|(omega)
    all_goals first|omega|(rw[p2,g6];done)|exact hFV|skip
   refine Z5 ?_
   refine Z6 ?_
   refine Zf 5 10 (.e ⟨_,ZM,k+1,f2,rfl,ZE,ZE,?_,?_,?_⟩)
   · omega
   · exact h3
   · exact AeB hlt (by first|exact hc3|omega) h4
  have htk:l.take k=l:=List.take_of_length_le ZO
  rw[htk] at h4
  have hFV:Xt l (j+1)=f2:=by rw[h3,<-g7];exact(AgW (by rw[g6];exact h4)).symm
  refine Aa.exit (Ak (Ak (Bh (Ai (Ac ?_)))))
  refine Z6 ?_
  refine Zf 1 6 (.e ⟨_,?_,(bt*2),f2,(j+1),rfl,ZE,ZE,?_,?_,?_,?_,?_,?_,?_⟩)
  · first|omega|(simp;omega)|(omega)
  all_goals first|omega|(rw[p2,g6];done)|exact hFV|skip
 have hj:=AdH g5 ZO
 subst hj
 refine Z4 ?_
 refine Zs (Zp 11 ?_)
 refine Aa.block (Zy ?_)
 refine Zl 3 4 (λn lc hc=> ∃(k:Nat),n=l.length-k/\Av lc [(7,.d (.int .i64 (k:Nat)))]/\Av hc (⟨[],[]⟩)/\(k<=l.length)/\(LS l k)) ?_ ?_
 · refine ⟨_,0,rfl,ZE,ZE,?_,?_⟩
   all_goals(first|omega|exact λj h h9=>absurd h9 ZO)
 rintro _ _ _ ⟨k,rfl,⟨rfl⟩,⟨rfl⟩,h1,h2⟩
 refine Zy ?_
 refine Zs (Zp 71 ?_)
 refine Zc (λhc4=>?_) λhc4=>?_
 ·have hlt:k<l.length:=by omega
  have hki:(k:Int)<(l.length:Int):=by omega
  have zf2:=λd0_=>Al Aq l k d0_ hlt
  refine Zk ?_
  refine Zs (Aa.block (Zx ?_))
  simp only[go_sem,zf2,hki]
  refine ZP (EV T _) ?_
  refine Zy ?_
  refine Zm 519 ?_
  refine Zc (λhc5=>?_) λhc5=>?_
  ·have hm:=(Oe (l[k])).1 hc5
   refine Zp 6 (Aa.ret ?_)
   refine Zy ?_
   rw[YL (Rl hlt hm)];try simp[]
  have hm:l[k]∈Bf:=Decidable.byContradiction λh9=>hc5 ((Oe (l[k])).2 h9)
  refine Z5 ?_
  refine Z6 ?_
  refine Zf 3 4 (.e ⟨_,ZM,k+1,rfl,ZE,ZE,?_,?_⟩)
  · omega
  · exact h2.s hlt hm
 refine Z4 ?_
 refine Zp 6 (Aa.ret ?_)
 refine Zy ?_
 rw[Ad2 (h2.e ZO),flN,g7];try simp[]
def jnJ (x y:Int):Nat->Int
 |0=>0
 |j+1=>jnJ x y j+(if(x.tdiv (p2 j)).tmod 2=1\/(y.tdiv (p2 j)).tmod 2=1 then p2 j else 0)
set_option maxRecDepth 100000 in
theorem Aft:∀a b c d e a' b' c' d' e':Bool,jnJ (Xs a b c d e) (Xs a' b' c' d' e') 5=orF (Xs a' b' c' d' e') (Xs a b c d e):=by decide+kernel
theorem Ahn {x y:Int} (hx:Q0 x) (hy:Q0 y):jnJ x y 5=orF y x:=by
 obtain⟨a,b,c,d,e,rfl⟩:=hx
 obtain⟨a',b',c',d',e',rfl⟩:=hy
 exact Aft ..
set_option maxRecDepth 100000 in
theorem Af6:∀a b c d e a' b' c' d' e':Bool,orF (Xs a' b' c' d' e') (Xs a b c d e)=Xs (a||a') (b||b') (c||c') (d||d') (e||e'):=by decide+kernel
theorem AdG {x y:Int} (hx:Q0 x) (hy:Q0 y):Q0 (orF y x):=by
 obtain⟨a,b,c,d,e,rfl⟩:=hx
 obtain⟨a',b',c',d',e',rfl⟩:=hy
 exact⟨_,_,_,_,_,Af6 ..⟩
theorem Ad5 {x:Int} (h:Q0 x):0<=x/\x<=31:=by
 obtain⟨a,b,c,d,e,rfl⟩:=h
 cases a<;>cases b<;>cases c<;>cases d<;>cases e<;>decide
theorem Ad7 {x y bt:Int} {j:Nat} (e:p2 j=bt) (h:(x.tdiv bt).tmod 2=1\/(y.tdiv bt).tmod 2=1):jnJ x y (j+1)=jnJ x y j+bt:=by rw[jnJ,e,if_pos h]
theorem Ad6 {x y bt:Int} {j:Nat} (e:p2 j=bt) (h:¬((x.tdiv bt).tmod 2=1\/(y.tdiv bt).tmod 2=1)):jnJ x y (j+1)=jnJ x y j:=by rw[jnJ,e,if_neg h];omega
theorem AhI {x bt:Int} (h0:0<=x) (h1:1<=bt) (h2:x<=31):(-9223372036854775808<=x.tdiv bt)/\x.tdiv bt<=9223372036854775807:=by
 rw[Int.tdiv_eq_ediv_of_nonneg h0]
 have:=Int.ediv_nonneg h0 (show 0<=bt by omega)
 have:=Int.ediv_le_self bt h0
 omega
attribute [local go_sem] Bi true_and and_true in
theorem Afu (T:Ap) (x y:Int) (hx:Q0 x) (hy:Q0 y):PC prog T 81 [.d (.int .i64 x),.d (.int .i64 y)] (.d (.int .i64 (orF y x))):=by
 refine⟨call81,Ar.enterS func81 rfl ntmps81 rfl λhb=>?_⟩
 have hxb:=Ad5 hx
 have hyb:=Ad5 hy
 simp only[go_sem,results81]
 refine Zp 3 ?_
 refine Zp 7 ?_
 refine Zs (Zp 15 ?_)
 refine Aa.block (Zy ?_)
 refine Zl 3 12 (λn lc hc=> ∃(bt fv:Int) (j:Nat),n=(64-bt).toNat/\Av lc [(5,.d (.int .i64 fv)),(6,.d (.int .i64 bt))]/\Av hc (⟨[],[]⟩)/\(1<=bt)/\(bt<=32)/\(0<=fv)/\(fv<bt)/\(j<=5)/\(p2 j=bt)/\(jnJ x y j=fv)) ?_ ?_
 · refine ⟨_,1,0,0,rfl,ZE,ZE,?_,?_,?_,?_,?_,?_,?_⟩
   all_goals(first|omega|rfl)
 rintro _ _ _ ⟨bt,fv,j,rfl,⟨rfl⟩,⟨rfl⟩,g1,g2,g3,g4,g5,g6,g7⟩
 refine Zy ?_
 refine Zs (Zp 47 ?_)
 refine Zc (λhc0=>?_) λhc0=>?_
 ·have hj:=AdI g5 ZO
  have hb0:bt≠0:=by omega
  obtain⟨hd1,hd2⟩:=AhI hxb.1 g1 hxb.2
  obtain⟨hd3,hd4⟩:=AhI hyb.1 g1 hyb.2
  have zf1:=(by decide:(2:Int)≠0)
  refine Zk ?_
  refine Zs (Aa.block (Zp 65551 ?_))
  refine Zc (λhc1=>?_) λhc1=>?_
  ·refine Zr (Ai (Ac ?_))
   refine Zm 15 ?_
   refine Z6 ?_
   refine Zf 3 12 (.e ⟨_,?_,(bt*2),(fv+bt),(j+1),rfl,ZE,ZE,?_,?_,?_,?_,?_,?_,?_⟩)
   · first|omega|(simp;omega)|(omega)
   all_goals first|omega|(rw[p2,g6];done)|(rw[Ad7 g6 hc1,g7];done)|(rw[Ad6 g6 ZO,g7];done)
  refine Z5 ?_
  refine Z6 ?_
  refine Zf 3 12 (.e ⟨_,?_,(bt*2),fv,(j+1),rfl,ZE,ZE,?_,?_,?_,?_,?_,?_,?_⟩)
  · first|omega|(simp;omega)|(omega)
  all_goals first|omega|(rw[p2,g6];done)|(rw[Ad7 g6 hc1,g7];done)|(rw[Ad6 g6 ZO,g7];done)
 have hj:=AdH g5 ZO
 subst hj
 refine Z4 ?_
 refine Zm 4 ?_
 refine Zp 1 (Aa.ret ?_)
 refine Zy ?_
 rw[<-Ahn hx hy,g7];try simp[Aj,Ay]
end
section
structure Eb where
 k:Int
 t:List UInt8
 f:Int
def Qi (a:Eb):List D:=[.int .i64 a.k,.str a.t,.int .i64 a.f]
def Q8 (a:Eb):List AV:=[.d (.int .i64 a.k),.d (.str a.t),.d (.int .i64 a.f)]
def By (l:List Eb):List (List D):=l.map Qi
@[go_sem] theorem Bn (l:List Eb):(By l).length=l.length:=by simp[By]
theorem XP (X:List Eb):∀r∈As (By X),r.length=3:=λr hr=>by
 obtain⟨q,hq,rfl⟩:=List.mem_map.1 hr
 obtain⟨o,_,rfl⟩:=List.mem_map.1 hq
 simp[Qi]
theorem Aeo {Y:List Eb} {p:Nat} (h:p<Y.length):(As (By Y))[p]?=some [.d (.int .i64 Y[p].k),.d (.str Y[p].t),.d (.int .i64 Y[p].f)]:=by simp[As,By,Qi,h]
structure Co where
 a:List Eb
 fl:Int
 ak:Bool
 ft:Int
def FP (w bb cc:Nat) (c:Co) (F:Af):Af:=(w,⟨4,1,[[mA bb 3 cc c.a.length,.d (.int .i64 c.fl),.d (.bool c.ak),.d (.int .i64 c.ft)]]⟩)::mO bb 3 cc (As (By c.a)) F
theorem IB (A:Af) (w bb cc:Nat) (X:Co) (F:Af):(A++FP w bb cc X F).Perm (FP w bb cc X (A++F)):=by
 unfold FP mO
 split
 ·exact List.perm_middle
 ·refine List.perm_middle.trans (List.Perm.cons _ ?_)
  exact List.perm_middle
theorem G7 (A:Af) (w bb cc:Nat) (X:Co) (F:Af):(FP w bb cc X (A++F)).Perm (A++FP w bb cc X F):=(IB A w bb cc X F).symm
def JK (k:Int):Bool:=decide (k=3\/k=5\/k=6)
def D6 (a x:Eb):Bool:=decide (a.k=7/\(x.k=7\/JK x.k=true)\/JK a.k=true/\x.k=7)
def Gv (a x:Eb):Bool:=decide (x.k=a.k/\x.t=a.t)
def DN (c:Co) (a:Eb):Co×Bool:=
 if c.a.any (D6 a)=true then(⟨c.a,c.fl,true,9⟩,false)
 else if c.a.any (Gv a)=true then(⟨c.a,c.fl,true,c.ft⟩,true)
 else if c.a.length=6 then(⟨c.a,c.fl,true,5⟩,false)
 else(⟨c.a++[a],c.fl,true,c.ft⟩,true)
theorem SE {c:Co} {a:Eb} (h:c.a.any (D6 a)=true):DN c a=(⟨c.a,c.fl,true,9⟩,false):=if_pos h
theorem SF {c:Co} {a:Eb} (h:c.a.any (D6 a)=false) (h2:c.a.any (Gv a)=true):DN c a=(⟨c.a,c.fl,true,c.ft⟩,true):=by rw[DN,if_neg (by rw[h];decide),if_pos h2]
theorem SG {c:Co} {a:Eb} (h:c.a.any (D6 a)=false) (h2:c.a.any (Gv a)=false) (h3:c.a.length=6):DN c a=(⟨c.a,c.fl,true,5⟩,false):=by rw[DN,if_neg (by rw[h];decide),if_neg (by rw[h2];decide),if_pos h3]
theorem Pd {c:Co} {a:Eb} (h:c.a.any (D6 a)=false) (h2:c.a.any (Gv a)=false) (h3:¬c.a.length=6):DN c a=(⟨c.a++[a],c.fl,true,c.ft⟩,true):=by rw[DN,if_neg (by rw[h];decide),if_neg (by rw[h2];decide),if_neg h3]
attribute [local go_sem] Bi in
theorem Agp (T:Ap) (f:FuncId) (cap:List AV) (g:Eb->Bool) (bb cc:Nat) (X:List Eb) (F:Af) (L:List Nat) (hl:X.length<=1000000) (hg:∀y∈X,AC prog T f (.agg (Q8 y)::cap) ⟨(bb,⟨3,cc,As (By X)⟩)::F,L⟩ (λr h=>r= .ret (.d (.bool (g y)))/\h=⟨(bb,⟨3,cc,As (By X)⟩)::F,L⟩)):AC prog T 265 [.arr bb 3 X.length cc,.fn f cap] (⟨(bb,⟨3,cc,As (By X)⟩)::F,L⟩) (λr h=> ∃i:Int,r= .ret (.d (.int .i64 i))/\decide (0<=i)=X.any g/\h=⟨(bb,⟨3,cc,As (By X)⟩)::F,L⟩):=by
 refine⟨call265,Ao.enterS func265 rfl ntmps265 rfl λhb=>?_⟩
 simp only[go_sem,results265]
 refine Zp 3 ?_
 refine Zs (Zp 27 ?_)
 refine Aa.block (Zy ?_)
 refine Zl 7 8 (λn lc hc=> ∃(k:Nat),n=X.length-k/\Av lc [(8,.d (.int .i64 (k:Nat)))]/\Av hc (⟨(bb,⟨3,cc,As (By X)⟩)::F,L⟩)/\(k<=X.length)/\((X.take k).any g=false)) ?_ ?_
 · refine ⟨_,0,rfl,ZE,ZE,?_,?_⟩
   all_goals(first|omega|rfl|simp)
 rintro _ _ _ ⟨k,rfl,⟨rfl⟩,⟨rfl⟩,h1,h2⟩
 refine Zy ?_
 refine Zp 31 ?_
 refine Zs (Zc (λhc0=>?_) λhc0=>?_)
 ·have hlt:k<X.length:=by omega
  have hki:(k:Int)<(X.length:Int):=by omega
  have hrow:=Aeo hlt
  refine Zk ?_
  refine Zs (Aa.block (Zp 31 ?_))
  refine Zx ?_
  simp only[go_sem,hrow,hki]
  refine ZA [bb] [] (hg _ (List.getElem_mem hlt)) ?_
  rintro _ _ ⟨rfl,rfl⟩
  refine Zy ?_
  refine Zm 1055 ?_
  refine Zc (λhc1=>?_) λhc1=>?_
  ·refine Zp 4 (Aa.ret ?_)
   simp only[Am,Bo]
   apply Ah [] [] [bb] [] ZH
   · exact ⟨(k:Int),rfl,by rw[List.any_eq_true.2 ⟨_,List.getElem_mem hlt,hc1⟩];simp,ZR⟩
   · simp [Aj,Ay]
  refine Z5 ?_
  refine Z6 ?_
  refine Ze 11 16 [] [] [bb] [] (.e ⟨_,ZM,k+1,rfl,ZE,ZE,?_,?_⟩)
  · omega
  · rw [List.take_succ_eq_append_getElem hlt,List.any_append,h2];simpa using hc1
 have htk:X.take k=X:=List.take_of_length_le ZO
 rw[htk] at h2
 refine Z4 ?_
 refine Zm 0 ?_
 refine Zp 1 (Aa.ret ?_)
 apply Ah [] [] [bb] [] ZH
 · exact ⟨-1,rfl,by rw[h2];rfl,ZR⟩
 · simp [Aj,Ay]
theorem AcT (T:Ap) (f:FuncId) (cap:List AV) (g:Eb->Bool) (bb cc:Nat) (X:List Eb) (F:Af) (L:List Nat) (hl:X.length<=1000000) (hg:∀y∈X,AC prog T f (.agg (Q8 y)::cap) ⟨(bb,⟨3,cc,As (By X)⟩)::F,L⟩ (λr h=>r= .ret (.d (.bool (g y)))/\h=⟨(bb,⟨3,cc,As (By X)⟩)::F,L⟩)):AC prog T 229 [.arr bb 3 X.length cc,.fn f cap] (⟨(bb,⟨3,cc,As (By X)⟩)::F,L⟩) (λr h=>r= .ret (.d (.bool (X.any g)))/\h=⟨(bb,⟨3,cc,As (By X)⟩)::F,L⟩):=by
 refine⟨call229,Ao.enterS func229 rfl ntmps229 rfl λhb=>?_⟩
 simp only[go_sem,results229]
 refine Zp 3 ?_
 refine Zx (Zy ?_)
 refine ZA [bb] [] (Agp T f cap g bb cc X F L hl hg) ?_
 rintro _ _ ⟨Q1,rfl,hQ1,rfl⟩
 refine Zy ?_
 refine Zm 4 ?_
 refine Aa.ret ?_
 apply Ah [] [] [bb] [] ZH
 · exact ⟨by rw[<-hQ1],by first|rfl|(simp only[go_sem,];done)⟩
 · simp [Aj,Ay,hQ1]
attribute [local go_sem] Bi in
theorem Agq (T:Ap) (f:FuncId) (cap:List AV) (F:Af) (L:List Nat):AC prog T 265 [.full 3 [],.fn f cap] (⟨F,L⟩) (λr h=>r= .ret (.d (.int .i64 (-1)))/\h=⟨F,L⟩):=by
 refine⟨call265,Ao.enterS func265 rfl ntmps265 rfl λhb=>?_⟩
 simp only[go_sem,results265]
 refine Zp 3 ?_
 refine Zs (Zp 27 ?_)
 refine Aa.block (Zy ?_)
 refine Zl 7 8 (λn lc hc=> ∃(k:Nat),n=1-k/\Av lc [(8,.d (.int .i64 (k:Nat)))]/\Av hc (⟨F,L⟩)/\(k=0)) ?_ ?_
 · refine ⟨_,0,rfl,ZE,ZE,?_⟩
   all_goals(rfl)
 rintro _ _ _ ⟨k,rfl,⟨rfl⟩,⟨rfl⟩,h1⟩
 refine Zy ?_
 refine Zp 31 ?_
 refine Zs (Zc (λhc0=>?_) λhc0=>?_)
 ·exfalso;omega
 refine Z4 ?_
 refine Zm 0 ?_
 refine Zp 1 (Aa.ret ?_)
 apply Ah [] [] [] [] ZH
 · exact ⟨rfl,ZR⟩
 · simp [Aj,Ay]
theorem AcU (T:Ap) (f:FuncId) (cap:List AV) (F:Af) (L:List Nat):AC prog T 229 [.full 3 [],.fn f cap] (⟨F,L⟩) (λr h=>r= .ret (.d (.bool false))/\h=⟨F,L⟩):=by
 refine⟨call229,Ao.enterS func229 rfl ntmps229 rfl λhb=>?_⟩
 simp only[go_sem,results229]
 refine Zp 3 ?_
 refine Zx (Zy ?_)
 refine ZA [] [] (Agq T f cap F L) ?_
 rintro _ _ ⟨rfl,rfl⟩
 refine Zy ?_
 refine Zm 4 ?_
 refine Aa.ret ?_
 apply Ah [] [] [] [] ZH
 · exact ⟨rfl,ZR⟩
 · simp [Aj,Ay]
theorem YR (T:Ap) (k:Int):PC prog T 227 [.d (.int .i64 k)] (.d (.bool (JK k))):=by
 refine⟨call227,Ar.enterS func227 rfl ntmps227 rfl λhb=>?_⟩
 simp only[go_sem,results227]
 refine Zp 1 ?_
 refine Zp 2 (Aa.ret ?_)
 refine Zy ?_
 simp[JK,Bool.or_assoc]
theorem AaA (T:Ap) (k:Int):PC prog T 84 [.d (.int .i64 k)] (.d (.bool (!JK k))):=by
 refine⟨call84,Ar.enterS func84 rfl ntmps84 rfl λhb=>?_⟩
 simp only[go_sem,results84]
 refine Zp 1 ?_
 refine Zp 2 (Aa.ret ?_)
 refine Zy ?_
 simp[JK,Bool.and_assoc]
attribute [local go_sem] Q8 in
theorem AbI (T:Ap) (a x:Eb) (bb b3:Nat) (O:Ob) (F:Af) (L:List Nat):AC prog T 226 [.agg (Q8 x),.ptr b3 3 0 0] (⟨(bb,O)::(b3,⟨3,1,[Q8 a]⟩)::F,L⟩) (λr h=>r= .ret (.d (.bool (D6 a x)))/\h=⟨(bb,O)::(b3,⟨3,1,[Q8 a]⟩)::F,L⟩):=by
 refine⟨call226,Ao.enterS func226 rfl ntmps226 rfl λhb=>?_⟩
 simp only[go_sem,results226]
 refine Aa.nd λhnd=>?_
 have hq:=UR hnd
 clear hnd
 have zf1:=AY hq
 have zf2:=AZ hq
 refine Zx (Zy ?_)
 intro b5 fb5
 try simp only[Ab] at fb5
 refine Zx ?_
 simp only[go_sem,zf1,fb5]
 refine ZQ (λhg=>YR T _) ?_
 simp only[go_sem,zf1,fb5]
 (repeat(with_reducible refine And.intro ZS ?_))
 refine B7 rfl rfl rfl rfl rfl (λhg=>YR T _) (λhg=>by(try simp only[go_sem])<;>first|exact hg|(exfalso;simp at hg;done)|(simpa using hg)|grind) rfl rfl ?_
 simp only[go_sem,fb5]
 (repeat(with_reducible refine And.intro ZS ?_))
 refine Zm 8 ?_
 refine Aa.ret ?_
 apply Ah [b5] [] [bb,b3] [] ZH
 · exact ⟨rfl,ZR⟩
 · simp [Aj,Ay,D6,JK]
attribute [local go_sem] Q8 in
theorem AfE (T:Ap) (a x:Eb) (bb b3:Nat) (O:Ob) (F:Af) (L:List Nat):AC prog T 228 [.agg (Q8 x),.ptr b3 3 0 0] (⟨(bb,O)::(b3,⟨3,1,[Q8 a]⟩)::F,L⟩) (λr h=>r= .ret (.d (.bool (Gv a x)))/\h=⟨(bb,O)::(b3,⟨3,1,[Q8 a]⟩)::F,L⟩):=by
 refine⟨call228,Ao.enterS func228 rfl ntmps228 rfl λhb=>?_⟩
 simp only[go_sem,results228]
 refine Aa.nd λhnd=>?_
 have hq:=UR hnd
 clear hnd
 have zf1:=AY hq
 have zf2:=AZ hq
 refine Zx (Zy ?_)
 intro b5 fb5
 try simp only[Ab] at fb5
 refine Zp 8 (Aa.ret ?_)
 apply Ah [b5] [] [bb,b3] [] ZH
 · exact ⟨rfl,ZR⟩
 · simp [Aj,Ay,Gv]
end
section
attribute [local go_sem] Q8 Array.isEmpty_empty in
theorem Q9 (T:Ap) (w bb cc:Nat) (c:Co) (F:Af) (L:List Nat) (hX:cc=0->c.a=[]) (hlX:c.a.length<=1000000) (a:Eb):AC prog T 144 [.ptr w 4 0 0,.agg (Q8 a)] (⟨FP w bb cc c F,L⟩) (λx h=> ∃b2 c2,(c2=0->(DN c a).1.a=[])/\x= .ret (.d (.bool (DN c a).2))/\h=⟨FP w b2 c2 (DN c a).1 F,L⟩):=by
 refine⟨call144,Ao.enterS func144 rfl ntmps144 rfl λhb=>?_⟩
 obtain⟨X,fl,ak,ft⟩:=c
 dsimp only at hX hlX
 simp only[go_sem,results144]
 rcases Nat.eq_zero_or_pos cc with hz|hz
 ·obtain rfl:=hX hz
  subst hz
  have e:DN ⟨[],fl,ak,ft⟩ a=(⟨[]++[a],fl,true,ft⟩,true):=Pd rfl rfl ZX
  simp only[FP,CF,D9,List.length_nil]
  refine Zx ?_
  simp only[go_sem,if_true]
  intro b3 fb3
  try simp only[Ab] at fb3
  refine Zp 5 ?_
  refine Zp 7 ?_
  refine Zp 15 ?_
  refine Zs (Aa.block (Zx ?_))
  simp only[go_sem,if_true,fb3]
  refine ZA [] [] (AcU T _ _ _ _) ?_
  rintro _ _ ⟨rfl,rfl⟩
  simp only[go_sem,if_true]
  refine Zm 27 ?_
  refine Zc (λhc0=>?_) λhc0=>?_
  ·first|omega|exact absurd hc0 ZX|(simp at hc0)
  refine Zx ?_
  simp only[go_sem,if_true,fb3]
  refine ZA [] [] (AcU T _ _ _ _) ?_
  rintro _ _ ⟨rfl,rfl⟩
  simp only[go_sem,if_true]
  refine Zm 19 ?_
  refine Zc (λhc1=>?_) λhc1=>?_
  ·first|omega|exact absurd hc1 ZX|(simp at hc1)
  refine Zp 11 ?_
  refine Zc (λhc2=>?_) λhc2=>?_
  ·first|omega|exact absurd hc2 ZX|(simp at hc2)
  refine Z5 ?_
  refine Zd true [0,1,2,3,4,5,6,7,8,9,10,11,12] ?_
  simp only[go_sem,if_true,fb3]
  refine Di (b0:=0) (c0:=0) (rows:=[]) rfl rfl rfl rfl (λ_=>rfl) rfl (show BL prog 44=some (103,3,32) by simp only[go_sem]) rfl rfl ZX rfl (by first|decide|(simp;done)|omega) (by(try simp only[go_sem,List.length_cons,List.length_nil])<;>first|omega|(simp;omega)) (by(try simp only[go_sem,List.length_cons,List.length_nil])<;>first|omega|(simp;omega)) λbm1 cm1 hcm1 fbm1=>?_
  try simp only[Ab] at fbm1
  simp only[go_sem, *]
  refine Zm 0 ?_
  refine Zp 1 (Aa.ret ?_)
  apply Ah [b3] [] [w] [] ZH
  · exact ⟨bm1,cm1,λh9=>by omega,rfl,by simp only[e,AG hcm1,Bk hcm1];(simp[go_sem,fbm1])<;>simp[As,By,Qi]⟩
  · simp [Aj,Ay,e]
 simp only[FP,AG hz,Bk hz]
 refine Aa.nd λhnd=>?_
 have hq:=UR hnd
 clear hnd
 have zf1:=AY hq
 have zf2:=AZ hq
 refine Zx ?_
 simp only[go_sem,if_true]
 intro b3 fb3
 try simp only[Ab] at fb3
 refine Zp 5 ?_
 refine Zp 7 ?_
 refine Zp 15 ?_
 refine Zs (Aa.block (Zx ?_))
 simp only[go_sem, *]
 have hC:=AcT T _ _ (D6 a) bb cc X ((b3,⟨3,1,[Q8 a]⟩)::(w,⟨4,1,[[.arr bb 3 X.length cc,.d (.int .i64 fl),.d (.bool true),.d (.int .i64 ft)]]⟩)::F) L hlX λy hy=>AbI T a y bb b3 ⟨3,cc,As (By X)⟩ ((w,⟨4,1,[[.arr bb 3 X.length cc,.d (.int .i64 fl),.d (.bool true),.d (.int .i64 ft)]]⟩)::F) L
 refine ZA [bb] [] (hC) ?_
 rintro _ _ ⟨rfl,rfl⟩
 simp only[go_sem,if_true]
 refine Zm 27 ?_
 refine Zc (λhc0=>?_) λhc0=>?_
 ·have e:DN ⟨X,fl,ak,ft⟩ a=(⟨X,fl,true,9⟩,false):=SE hc0
  refine Zp 0 ?_
  refine Zp 1 (Aa.ret ?_)
  simp only[Am,Bo]
  apply Ah [b3] [] [w] [] ZH
  · exact ⟨bb,cc,λh9=>by omega,rfl,by simp only[e,AG hz,Bk hz];first|rfl|(simp only[go_sem,if_true,zf2,fb3];done)|(simp only[go_sem,if_true,zf1,zf2,fb3];rfl)⟩
  · simp [Aj,Ay,e]
 have h0:X.any (D6 a)=false:=by simpa using hc0
 refine Zx ?_
 simp only[go_sem, *]
 have hC:=AcT T _ _ (Gv a) bb cc X ((b3,⟨3,1,[Q8 a]⟩)::(w,⟨4,1,[[.arr bb 3 X.length cc,.d (.int .i64 fl),.d (.bool true),.d (.int .i64 ft)]]⟩)::F) L hlX λy hy=>AfE T a y bb b3 ⟨3,cc,As (By X)⟩ ((w,⟨4,1,[[.arr bb 3 X.length cc,.d (.int .i64 fl),.d (.bool true),.d (.int .i64 ft)]]⟩)::F) L
 refine ZA [bb] [] (hC) ?_
 rintro _ _ ⟨rfl,rfl⟩
 simp only[go_sem,if_true]
 refine Zm 19 ?_
 refine Zc (λhc1=>?_) λhc1=>?_
 ·have e:DN ⟨X,fl,ak,ft⟩ a=(⟨X,fl,true,ft⟩,true):=SF h0 hc1
  refine Zp 4 (Aa.ret ?_)
  simp only[Am,Bo]
  apply Ah [b3] [] [w] [] ZH
  · exact ⟨bb,cc,λh9=>by omega,rfl,by simp only[e,AG hz,Bk hz];first|rfl|(simp only[go_sem,if_true,zf2,fb3];done)|(simp only[go_sem,if_true,zf1,zf2,fb3];rfl)⟩
  · simp [Aj,Ay,e]
 have h1:X.any (Gv a)=false:=by simpa using hc1
 refine Zp 11 ?_
 refine Zc (λhc2=>?_) λhc2=>?_
 ·have e:DN ⟨X,fl,ak,ft⟩ a=(⟨X,fl,true,5⟩,false):=SG h0 h1 (show X.length=6 by omega)
  refine Zp 0 ?_
  refine Zp 1 (Aa.ret ?_)
  simp only[Am,Bo]
  apply Ah [b3] [] [w] [] ZH
  · exact ⟨bb,cc,λh9=>by omega,rfl,by simp only[e,AG hz,Bk hz];first|rfl|(simp only[go_sem,if_true,zf2,fb3];done)|(simp only[go_sem,if_true,zf1,zf2,fb3];rfl)⟩
  · simp [Aj,Ay,e]
 have e:DN ⟨X,fl,ak,ft⟩ a=(⟨X++[a],fl,true,ft⟩,true):=Pd h0 h1 (show¬X.length=6 by omega)
 refine Z5 ?_
 refine Zd true [0,1,2,3,4,5,6,7,8,9,10,11,12] ?_
 simp only[go_sem, *]
 refine Di (b0:=bb) (c0:=cc) (rows:=As (By X)) rfl rfl (Eq.trans (b:= .arr bb 3 X.length cc) rfl (by rw[AG hz,AB,Bn])) (by rw[Bk hz]) (λh=>absurd h ZO) rfl (show BL prog 44=some (103,3,32) by simp only[go_sem]) rfl rfl (XP _) rfl (by first|decide|(simp;done)|omega) (by(try simp only[go_sem,AB,Bn,List.length_cons,List.length_nil])<;>first|omega|(simp;omega)) (by(try simp only[go_sem,AB,Bn,List.length_cons,List.length_nil])<;>first|omega|(simp;omega)) λbm2 cm2 hcm2 fbm2=>?_
 try simp only[Ab] at fbm2
 simp only[go_sem, *]
 refine Zm 0 ?_
 refine Zp 1 (Aa.ret ?_)
 apply Ah [b3] [] [w] [] ZH
 · exact ⟨bm2,cm2,λh9=>by omega,rfl,by simp only[e,AG hcm2,Bk hcm2];(simp[go_sem,fbm2])<;>simp[As,By,Qi]⟩
 · simp [Aj,Ay,e]
end
section
def Ed (c:UInt8):Bool:=decide ((c.toNat:Int)=32)||decide ((c.toNat:Int)=9)
def N7 (c:UInt8):Bool:=(decide (33<=(c.toNat:Int))&&decide ((c.toNat:Int)<=126))&&!decide ((c.toNat:Int)=58)
def T7 (s:Tx):Bool:=decide (0<(s.length:Int))&&s.all N7
theorem AdE {s:Tx} {i:Nat} (hi:i<s.length) (hc:N7 (s.getD i 0)=false):T7 s=false:=by
 unfold T7
 rw[Bool.and_eq_false_iff]
 refine .inr ?_
 rw[Bool.eq_false_iff]
 intro ha
 have:=List.all_eq_true.1 ha (s.getD i 0) (by simp[List.getD,hi])
 rw[hc] at this;cases this
theorem US {s:Tx} {i:Nat} (hi:s.length<=i) (ha:(s.drop i).all N7=true->s.all N7=true):T7 s=decide (0<(s.length:Int)):=by
 unfold T7
 rw[ha (by rw[Bz hi];rfl),Bool.and_true]
theorem RV {s:Tx} {i:Nat} (hi:i<s.length) (hc:N7 (s.getD i 0)=true) (h:(s.drop i).all N7=true->s.all N7=true):(s.drop (i+1)).all N7=true->s.all N7=true:=λh2=>h (by rw[Be hi,List.all_cons,hc,h2];rfl)
def CK:Tx->Tx
 |[]=>[]
 |c::r=>if Ed c=true then CK r else c::r
def Ci:Tx->Tx
 |[]=>[]
 |c::r=>match Ci r with
  |[]=>if Ed c=true then [] else [c]
  |x::y=>c::x::y
def EK (s:Tx):Tx:=CK (Ci s)
theorem Fu (c:UInt8) (r:Tx):Ci (c::r)=if Ci r=[] then(if Ed c=true then [] else [c]) else c::Ci r:=by
 rw[Ci]
 cases Ci r<;>simp
theorem La:∀s:Tx,Ci (CK s)=EK s
 |[]=>rfl
 | c::r=>by
  have ih:=La r
  unfold EK at ih⊢
  by_cases hc:Ed c=true
  ·rw[CK,if_pos hc,ih,Fu]
   by_cases hr:Ci r=[]
   ·rw[if_pos hr,if_pos hc,hr]
   ·rw[if_neg hr,CK,if_pos hc]
  ·rw[CK,if_neg hc,Fu]
   by_cases hr:Ci r=[]
   ·rw[if_pos hr,if_neg hc,CK,if_neg hc]
   ·rw[if_neg hr,CK,if_neg hc]
theorem Nn {s:Tx} (h:0<s.length) (hc:Ed (s.getD 0 0)=true):CK (s.drop 1)=CK s:=by
 cases s with
 |nil=>simp at h
 |cons c r=>
  have hc:Ed c=true:=hc
  rw[show(c::r).drop 1=r from rfl,CK,if_pos hc]
theorem GO {s:Tx} (h:0<s.length->Ed (s.getD 0 0)=false):CK s=s:=by
 cases s with
 |nil=>rfl
 |cons c r=>
  have hc:Ed c=false:=h ZX
  rw[CK,if_neg (by simp[hc])]
theorem Jd:∀(s:Tx) (c:UInt8),Ci (s++[c])=if Ed c=true then Ci s else s++[c]
 |[],c=>by simp[Ci]
 |x::s,c=>by
  rw[List.cons_append,Fu,Jd s c]
  by_cases hc:Ed c=true
  ·rw[if_pos hc,if_pos hc,Fu]
  ·rw[if_neg hc,if_neg hc,if_neg ZX]
theorem Ng {s:Tx} (h:0<s.length):s=s.take (s.length-1)++[s.getD (s.length-1) 0]:=by
 have h1:s.take (s.length-1+1)=s.take (s.length-1)++[s.getD (s.length-1) 0]:=by
  rw[List.take_add_one];simp[List.getD,List.getElem?_eq_getElem (show s.length-1<s.length by omega)]
 rw[show s.length-1+1=s.length by omega,List.take_length] at h1
 exact h1
theorem Je {s:Tx} (h:0<s.length) (hc:Ed (s.getD (s.length-1) 0)=true):Ci (s.take (s.length-1))=Ci s:=by
 have h1:Ci s=Ci (s.take (s.length-1)++[s.getD (s.length-1) 0]):=congrArg Ci (Ng h)
 rw[h1,Jd,if_pos hc]
theorem Eu {s:Tx} (h:0<s.length->Ed (s.getD (s.length-1) 0)=false):Ci s=s:=by
 rcases Nat.eq_zero_or_pos s.length with h0|h0
 ·rw[List.eq_nil_of_length_eq_zero h0];rfl
 ·have h1:Ci s=Ci (s.take (s.length-1)++[s.getD (s.length-1) 0]):=congrArg Ci (Ng h0)
  rw[h1,Jd,if_neg (by rw[h h0];exact Bool.false_ne_true),<-Ng h0]
theorem OH:∀s:Tx,(CK s).length<=s.length
 |[]=>Nat.le_refl _
 |c::r=>by
  rw[CK]
  have:=OH r
  split
  ·simp;omega
  ·simp
theorem KZ:∀s:Tx,(Ci s).length<=s.length
 |[]=>Nat.le_refl _
 |c::r=>by
  rw[Fu]
  have:=KZ r
  split
  ·split<;>simp
  ·simp;omega
theorem Xj (s:Tx):(EK s).length<=s.length:=Nat.le_trans (OH _) (KZ s)
def Wy (s:Tx) (i:Nat):Int:=if Lib.index (s.drop i) [13,10]<0 then -1 else Lib.index (s.drop i) [13,10]+i
def Xr (s:Tx) (i:Nat):Int:=if Lib.index (s.drop i) [58]<0 then -1 else Lib.index (s.drop i) [58]+i
theorem AfT {c:UInt8} {n:Nat} (h:n<256):(UInt8.ofNat n=c)↔((c.toNat:Int)=n):=by
 constructor
 ·rintro rfl;rw[UInt8.toNat_ofNat'];omega
 ·intro e
  apply UInt8.toNat_inj.1
  rw[UInt8.toNat_ofNat'];omega
theorem AdL {a c:UInt8} {r:Tx} :List.isPrefixOf [13,10] (a::c::r)=true↔((a.toNat:Int)=13/\(c.toNat:Int)=10):=by
 simp only[List.isPrefixOf,Bool.and_true,Bool.and_eq_true,beq_iff_eq]
 have h1:((13:UInt8)=a)↔((a.toNat:Int)=13):=AfT (n:=13) ZD
 have h2:((10:UInt8)=c)↔((c.toNat:Int)=10):=AfT (n:=10) ZD
 rw[h1,h2]
theorem AdM {a:UInt8} {r:Tx} :List.isPrefixOf [58] (a::r)=true↔((a.toNat:Int)=58):=by
 simp only[List.isPrefixOf,Bool.and_true,beq_iff_eq]
 exact AfT (n:=58) ZD
theorem Fm (a:UInt8) (r sub:Tx):Lib.index (a::r) sub=if sub.isPrefixOf (a::r)=true then 0 else if Lib.index r sub<0 then -1 else Lib.index r sub+1:=by
 rw[Lib.index]
 by_cases h:sub.isPrefixOf (a::r)=true
 ·rw[if_pos h,if_pos h]
 ·rw[if_neg h,if_neg h]
  have:=Lib.index_ge r sub
  by_cases h2:Lib.index r sub= -1
  ·rw[h2];rfl
  ·rw[if_neg (by simpa using h2),if_neg ZO]
theorem Sr {s:Tx} {i:Nat} (h:i+1<s.length):s.drop i=s.getD i 0::s.getD (i+1) 0::s.drop (i+2):=by
 rw[Be ZO,Be (j:=i+1) h]
theorem AeU {s:Tx} {i:Nat} (h:i+1<s.length) (h1:((s.getD i 0).toNat:Int)=13) (h2:((s.getD (i+1) 0).toNat:Int)=10):Wy s i=i:=by
 unfold Wy
 rw[Sr h,Fm,if_pos (AdL.2 ⟨h1,h2⟩)]
 simp
theorem AbT {s:Tx} {i:Nat} (h:i+1<s.length) (hn:¬(((s.getD i 0).toNat:Int)=13/\((s.getD (i+1) 0).toNat:Int)=10)):Wy s (i+1)=Wy s i:=by
 unfold Wy
 rw[Sr h,Fm,if_neg (λe=>hn (AdL.1 e)),<-Be (j:=i+1) h]
 have:=Lib.index_ge (s.drop (i+1)) [13,10]
 split<;>split<;>omega
theorem AeT {s:Tx} {i:Nat} (h:s.length<=i+1):Wy s i= -1:=by
 unfold Wy
 have:Lib.index (s.drop i) [13,10]<0:=by
  rcases Nat.lt_or_ge i s.length with h2|h2
  ·rw[Be h2,Bz (j:=i+1) ZO,Fm]
   simp[List.isPrefixOf,Lib.index]
  ·rw[Bz h2];simp[Lib.index]
 rw[if_pos this]
theorem AeO {s:Tx} {i:Nat} (h:i<s.length) (h1:((s.getD i 0).toNat:Int)=58):Xr s i=i:=by
 unfold Xr
 rw[Be h,Fm,if_pos (AdM.2 h1)]
 simp
theorem AbK {s:Tx} {i:Nat} (h:i<s.length) (hn:¬((s.getD i 0).toNat:Int)=58):Xr s (i+1)=Xr s i:=by
 unfold Xr
 rw[Be h,Fm,if_neg (λe=>hn (AdM.1 e))]
 have:=Lib.index_ge (s.drop (i+1)) [58]
 split<;>split<;>omega
theorem AeN {s:Tx} {i:Nat} (h:s.length<=i):Xr s i= -1:=by
 unfold Xr
 rw[Bz h];simp[Lib.index]
attribute [local go_sem] Bc in
theorem LH (T:Ap) (s:Tx) (hb0:s.length<=9223372036854775807):PC prog T 124 [.d (.str s)] (.d (.bool (T7 s))):=by
 refine⟨call124,Ar.enterS func124 rfl ntmps124 rfl λhb=>?_⟩
 simp only[go_sem,results124]
 refine Zp 1 ?_
 refine Zs (Zp 13 ?_)
 refine Aa.block (Zy ?_)
 refine Zl 3 4 (λn lc hc=> ∃(i:Nat),n=s.length-i/\Av lc [(6,.d (.int .i64 i))]/\Av hc (⟨[],[]⟩)/\(i<=s.length)/\((s.drop i).all N7=true->s.all N7=true)) ?_ ?_
 · refine ⟨_,0,rfl,ZE,ZE,?_,?_⟩
   all_goals(first|omega|(simp;done))
 rintro _ _ _ ⟨i,rfl,⟨rfl⟩,⟨rfl⟩,h1,h2⟩
 refine Zy ?_
 refine Zp 15 ?_
 refine Zs (Zc (λhc0=>?_) λhc0=>?_)
 ·have hlt:i<s.length:=by omega
  refine Zk ?_
  refine Zs (Aa.block (Zp 15 ?_))
  refine Zp 524301 ?_
  refine Zc (λhc1=>?_) λhc1=>?_
  ·have hcc:N7 (s.getD i 0)=false:=by
     unfold N7
     simp only[Bool.and_eq_false_iff,decide_eq_false_iff_not,Bool.not_eq_false',decide_eq_true_eq]
     omega
   refine Zp 2 (Aa.ret ?_)
   refine Zy ?_
   rw[AdE hlt hcc]
  have hcc:N7 (s.getD i 0)=true:=by
    unfold N7
    simp only[Bool.and_eq_true,decide_eq_true_eq,Bool.not_eq_true',decide_eq_false_iff_not]
    omega
  refine Z5 ?_
  refine Z6 ?_
  refine Zf 3 4 (.e ⟨_,ZM,i+1,rfl,ZE,ZE,?_,?_⟩)
  · omega
  · exact RV hlt hcc h2
 refine Z4 ?_
 refine Zp 2 (Aa.ret ?_)
 refine Zy ?_
 rw[US ZO h2]
attribute [local go_sem] Bc in
theorem Il (T:Ap) (s:Tx) (hb0:s.length<=9223372036854775807):PC prog T 138 [.d (.str s)] (.d (.bool (T7 s))):=by
 refine⟨call138,Ar.enterS func138 rfl ntmps138 rfl λhb=>?_⟩
 simp only[go_sem,results138]
 refine Zp 1 ?_
 refine Zs (Zp 9 ?_)
 refine Zc (λhc0=>?_) λhc0=>?_
 ·refine Zp 2 (Aa.ret ?_)
  refine Zy ?_
  have h0:s=[]:=List.eq_nil_of_length_eq_zero ZO
  subst h0
  simp[T7]
 have hp:0<s.length:=by omega
 refine Zk ?_
 refine Zs (Zp 3 ?_)
 refine Aa.block (Zy ?_)
 refine Zl 1 2 (λn lc hc=> ∃(i:Nat),n=s.length-i/\Av lc [(3,.d (.int .i64 i))]/\Av hc (⟨[],[]⟩)/\(i<=s.length)/\((s.drop i).all N7=true->s.all N7=true)) ?_ ?_
 · refine ⟨_,0,rfl,ZE,ZE,?_,?_⟩
   all_goals(first|omega|(simp;done))
 rintro _ _ _ ⟨i,rfl,⟨rfl⟩,⟨rfl⟩,h1,h2⟩
 refine Zy ?_
 refine Zs (Zp 35 ?_)
 refine Zc (λhc1=>?_) λhc1=>?_
 ·have hlt:i<s.length:=by omega
  refine Zk ?_
  refine Zs (Aa.block (Zx (Z3 ?_)))
  refine ZP (LT T _ _ _) ?_
  refine Zy ?_
  (repeat(with_reducible refine And.intro ZS ?_))
  refine Zm 16387 ?_
  refine Zc (λhc2=>?_) λhc2=>?_
  ·have hcc:N7 (s.getD i 0)=false:=by
     unfold N7
     simp only[Bool.and_eq_false_iff,decide_eq_false_iff_not,Bool.not_eq_false',decide_eq_true_eq]
     omega
   refine Zp 2 (Aa.ret ?_)
   refine Zy ?_
   rw[AdE hlt hcc]
  have hcc:N7 (s.getD i 0)=true:=by
    unfold N7
    simp only[Bool.and_eq_true,decide_eq_true_eq,Bool.not_eq_true',decide_eq_false_iff_not]
    omega
  refine Z5 ?_
  refine Z6 ?_
  refine Zf 1 2 (.e ⟨_,ZM,i+1,rfl,ZE,ZE,?_,?_⟩)
  · omega
  · exact RV hlt hcc h2
 refine Z4 ?_
 refine Zp 2 (Aa.ret ?_)
 refine Zy ?_
 rw[US ZO h2];simp[];omega
theorem E9 (T:Ap) (c:UInt8):PC prog T 136 [.d (.int .u8 (c.toNat:Int))] (.d (.bool (Ed c))):=by
 refine⟨call136,Ar.enterS func136 rfl ntmps136 rfl λhb=>?_⟩
 simp only[go_sem,results136]
 refine Zp 1 ?_
 refine Zp 2 (Aa.ret ?_)
 refine Zy ?_
 try simp[Ed]
theorem MM {n:Nat} (h:0<n):((n:Nat):Int)-1=((n-1:Nat):Int):=by omega
theorem Afk {n:Nat} (h:0<n):((0:Int)<(n:Int))=True:=by simp[h]
theorem Afj {n:Nat} (h:n=0):((0:Int)<(n:Int))=False:=by simp[h]
theorem T5 (n:Nat):((n:Nat):Int).toNat=n:=rfl
attribute [local go_sem] Bc T5 List.take_length decide_false Bool.false_eq_true true_and in
theorem Xk (T:Ap) (s:Tx) (hs:s.length<=2000000):PC prog T 139 [.d (.str s)] (.d (.str (EK s))):=by
 refine⟨call139,Ar.enterS func139 rfl ntmps139 rfl λhb=>?_⟩
 simp only[go_sem,results139]
 refine Zp 1 ?_
 refine Zs (Aa.block (Zy ?_))
 refine Zl 0 1 (λn lc hc=> ∃(q:Tx),n=q.length/\Av lc [(0,.d (.str q))]/\Av hc (⟨[],[]⟩)/\(CK q=CK s)/\(q.length<=s.length)) ?_ ?_
 · refine ⟨_,s,rfl,ZE,ZE,?_,?_⟩
   all_goals(first|rfl|omega)
 rintro _ _ _ ⟨q,rfl,⟨rfl⟩,⟨rfl⟩,h1,h2⟩
 refine Zy ?_
 refine Zs ?_
 rcases Nat.eq_zero_or_pos q.length with hz|hz
 ·have zf1:=Afj hz
  refine Zx ?_
  simp only[go_sem,zf1]
  (repeat(with_reducible refine And.intro ZS ?_))
  refine B7 rfl rfl rfl rfl rfl (λhg=>E9 T _) (λhg=>by(try simp only[go_sem])<;>first|exact hg|(exfalso;simp at hg;done)|(simpa using hg)|grind) rfl rfl ?_
  refine Zy ?_
  refine Zm 257 ?_
  refine Zc (λhc0=>?_) λhc0=>?_
  ·exact absurd hc0 (by first|(simp;done)|omega|(simp[*];done))
  have hq:CK s=q:=by rw[<-h1];exact GO (λhp=>by first|omega|simpa using hc0)
  refine Z4 ?_
  refine Zs (Aa.block (Zn 1 ?_))
  refine Zl 0 1 (λn lc hc=> ∃(q2:Tx),n=q2.length/\Av lc [(0,.d (.str q2))]/\Av hc (⟨[],[]⟩)/\(Ci q2=EK s)/\(q2.length<=s.length)) ?_ ?_
  · refine ⟨_,q,rfl,ZE,ZE,?_,?_⟩
    all_goals(first|(rw[<-La,hq];done)|omega)
  rintro _ _ _ ⟨q2,rfl,⟨rfl⟩,⟨rfl⟩,g1,g2⟩
  refine Zy ?_
  refine Zs ?_
  rcases Nat.eq_zero_or_pos q2.length with hz2|hz2
  ·have zf2:=Afj hz2
   refine Zx ?_
   simp only[go_sem,zf2,false_implies]
   refine ZQ (λhg=>E9 T _) ?_
   simp only[go_sem,false_implies]
   refine Zm 2049 ?_
   refine Zc (λhc1=>?_) λhc1=>?_
   ·exact absurd hc1 (by first|(simp;done)|omega|(simp[*];done))
   have hq2:EK s=q2:=by rw[<-g1];exact Eu (λhp=>by first|omega|simpa using hc1)
   refine Z4 ?_
   refine Zp 2 (Aa.ret ?_)
   refine Zy ?_
   rw[hq2]
  have zf3:=Afk hz2
  have zf4:=MM hz2
  refine Zx ?_
  simp only[go_sem,zf3,zf4]
  (repeat(with_reducible refine And.intro ZS ?_))
  refine B7 rfl rfl rfl rfl rfl (λhg=>E9 T _) (λhg=>by(try simp only[go_sem])<;>first|exact hg|(exfalso;simp at hg;done)|(simpa using hg)|grind) rfl rfl ?_
  refine Zy ?_
  refine Zm 2049 ?_
  refine Zc (λhc1=>?_) λhc1=>?_
  ·refine Zk ?_
   refine Aa.block (Zr (Ai (Ac ?_)))
   refine Zf 0 1 (.e ⟨_,?_,(q2.take (q2.length-1)),rfl,ZE,ZE,?_,?_⟩)
   · first|omega|(simp;omega)|(simp;omega)
   · rw [Je hz2 (by simpa using hc1)];exact g1
   · simp;omega
  have hq2:EK s=q2:=by rw[<-g1];exact Eu (λhp=>by first|omega|simpa using hc1)
  refine Z4 ?_
  refine Zp 2 (Aa.ret ?_)
  refine Zy ?_
  rw[hq2]
 have zf5:=Afk hz
 have zf6:=MM hz
 refine Zx ?_
 simp only[go_sem,zf5]
 (repeat(with_reducible refine And.intro ZS ?_))
 refine B7 rfl rfl rfl rfl rfl (λhg=>E9 T _) (λhg=>by(try simp only[go_sem])<;>first|exact hg|(exfalso;simp at hg;done)|(simpa using hg)|grind) rfl rfl ?_
 refine Zy ?_
 refine Zm 257 ?_
 refine Zc (λhc0=>?_) λhc0=>?_
 ·refine Zk ?_
  refine Aa.block (Zr (Ai (Ac ?_)))
  refine Zf 0 1 (.e ⟨_,?_,(q.drop 1),rfl,?_,ZE,?_,?_⟩)
  · first|omega|(simp;omega)|(simp;omega)
  · (try simp only[go_sem])<;>first|exact⟨rfl⟩|(constructor;simp;done)
  · rw [Nn hz (by simpa using hc0)];exact h1
  · simp;omega
 have hq:CK s=q:=by rw[<-h1];exact GO (λhp=>by first|omega|simpa using hc0)
 refine Z4 ?_
 refine Zs (Aa.block (Zn 1 ?_))
 refine Zl 0 1 (λn lc hc=> ∃(q2:Tx),n=q2.length/\Av lc [(0,.d (.str q2))]/\Av hc (⟨[],[]⟩)/\(Ci q2=EK s)/\(q2.length<=s.length)) ?_ ?_
 · refine ⟨_,q,rfl,ZE,ZE,?_,?_⟩
   all_goals(first|(rw[<-La,hq];done)|omega)
 rintro _ _ _ ⟨q2,rfl,⟨rfl⟩,⟨rfl⟩,g1,g2⟩
 refine Zy ?_
 refine Zs ?_
 rcases Nat.eq_zero_or_pos q2.length with hz2|hz2
 ·have zf7:=Afj hz2
  refine Zx ?_
  simp only[go_sem,zf7,false_implies]
  refine ZQ (λhg=>E9 T _) ?_
  simp only[go_sem,false_implies]
  refine Zm 2049 ?_
  refine Zc (λhc1=>?_) λhc1=>?_
  ·exact absurd hc1 (by first|(simp;done)|omega|(simp[*];done))
  have hq2:EK s=q2:=by rw[<-g1];exact Eu (λhp=>by first|omega|simpa using hc1)
  refine Z4 ?_
  refine Zp 2 (Aa.ret ?_)
  refine Zy ?_
  rw[hq2]
 have zf8:=Afk hz2
 have zf9:=MM hz2
 refine Zx ?_
 simp only[go_sem,zf8,zf9]
 (repeat(with_reducible refine And.intro ZS ?_))
 refine B7 rfl rfl rfl rfl rfl (λhg=>E9 T _) (λhg=>by(try simp only[go_sem])<;>first|exact hg|(exfalso;simp at hg;done)|(simpa using hg)|grind) rfl rfl ?_
 refine Zy ?_
 refine Zm 2049 ?_
 refine Zc (λhc1=>?_) λhc1=>?_
 ·refine Zk ?_
  refine Aa.block (Zr (Ai (Ac ?_)))
  refine Zf 0 1 (.e ⟨_,?_,(q2.take (q2.length-1)),rfl,ZE,ZE,?_,?_⟩)
  · first|omega|(simp;omega)|(simp;omega)
  · rw [Je hz2 (by simpa using hc1)];exact g1
  · simp;omega
 have hq2:EK s=q2:=by rw[<-g1];exact Eu (λhp=>by first|omega|simpa using hc1)
 refine Z4 ?_
 refine Zp 2 (Aa.ret ?_)
 refine Zy ?_
 rw[hq2]
attribute [local go_sem] Bc in
theorem Or (T:Ap) (s:Tx) (f:Nat) (hs:s.length<=2000000) (hf:f<=2000000):PC prog T 135 [.d (.str s),.d (.int .i64 (f:Nat))] (.d (.int .i64 (Wy s f))):=by
 refine⟨call135,Ar.enterS func135 rfl ntmps135 rfl λhb=>?_⟩
 simp only[go_sem,results135]
 refine Zp 3 ?_
 refine Zs (Zp 5 ?_)
 refine Aa.block (Zy ?_)
 refine Zl 1 2 (λn lc hc=> ∃(i:Nat),n=s.length-i/\Av lc [(5,.d (.int .i64 i))]/\Av hc (⟨[],[]⟩)/\(Wy s i=Wy s f)/\(i<=s.length+f)) ?_ ?_
 · refine ⟨_,f,rfl,ZE,ZE,?_,?_⟩
   all_goals(first|rfl|omega)
 rintro _ _ _ ⟨i,rfl,⟨rfl⟩,⟨rfl⟩,h1,h2⟩
 refine Zy ?_
 refine Zs (Zp 67 ?_)
 refine Zc (λhc0=>?_) λhc0=>?_
 ·have hlt:i+1<s.length:=by omega
  refine Zk ?_
  refine Zs (Aa.block (Zp 8195 ?_))
  refine Zc (λhc1=>?_) λhc1=>?_
  ·refine Zp 2 (Aa.ret ?_)
   refine Zy ?_
   rw[<-h1,AeU hlt hc1.1 hc1.2]
  refine Z5 ?_
  refine Z6 ?_
  refine Zf 1 2 (.e ⟨_,ZM,i+1,rfl,ZE,ZE,?_,?_⟩)
  · rw [AbT ZO ZO];exact h1
  · omega
 refine Z4 ?_
 refine Zp 2 (Aa.ret ?_)
 refine Zy ?_
 rw[<-h1,AeT ZO]
attribute [local go_sem] Bc in
theorem Ws (T:Ap) (s:Tx) (hs:s.length<=2000000):PC prog T 137 [.d (.str s)] (.d (.int .i64 (Xr s 0))):=by
 refine⟨call137,Ar.enterS func137 rfl ntmps137 rfl λhb=>?_⟩
 simp only[go_sem,results137]
 refine Zp 1 ?_
 refine Zs (Zp 3 ?_)
 refine Aa.block (Zy ?_)
 refine Zl 1 2 (λn lc hc=> ∃(i:Nat),n=s.length-i/\Av lc [(3,.d (.int .i64 i))]/\Av hc (⟨[],[]⟩)/\(Xr s i=Xr s 0)/\(i<=s.length)) ?_ ?_
 · refine ⟨_,0,rfl,ZE,ZE,?_,?_⟩
   all_goals(first|rfl|omega)
 rintro _ _ _ ⟨i,rfl,⟨rfl⟩,⟨rfl⟩,h1,h2⟩
 refine Zy ?_
 refine Zs (Zp 35 ?_)
 refine Zc (λhc0=>?_) λhc0=>?_
 ·have hlt:i<s.length:=by omega
  refine Zk ?_
  refine Zs (Aa.block (Zp 67 ?_))
  refine Zc (λhc1=>?_) λhc1=>?_
  ·refine Zp 2 (Aa.ret ?_)
   refine Zy ?_
   rw[<-h1,AeO hlt hc1]
  refine Z5 ?_
  refine Z6 ?_
  refine Zf 1 2 (.e ⟨_,ZM,i+1,rfl,ZE,ZE,?_,?_⟩)
  · rw [AbK hlt hc1];exact h1
  · omega
 refine Z4 ?_
 refine Zp 2 (Aa.ret ?_)
 refine Zy ?_
 rw[<-h1,AeN ZO]
open Go.RowKit
theorem AcW (T:Ap) (hL:Bw T) (s sep:Tx) (h1:s.length<=1048576):PC prog T 122 [.d (.str s),.d (.str sep)] (.tup [.d (.str (Lib.cut s sep).1),.d (.str (Lib.cut s sep).2.1),.d (.bool (Lib.cut s sep).2.2)]):=Hg call122 λF w vs hF hT R=>by
 obtain⟨v,u,rfl,hv,hu⟩:=Ah6 R
 obtain⟨t,rfl,e1,_⟩:=hv.str_inv
 obtain⟨t2,rfl,e2,_⟩:=hu.str_inv
 obtain⟨_,m,hm⟩:=hL.lib0 hF hT
 subst e1 e2
 have hsz:t.size<=1048576:=by rw[<-Bm];exact h1
 refine(Tryz.strings_Cut t t2 m w ZO hm).mono ?_
 rintro e w' ⟨rfl,k,rfl⟩
 have hl1:(Lib.cut t.data.toList t2.data.toList).1.length<=maxLen:=by
  unfold Lib.cut;split
  ·simp only[List.length_take];rw[Bm];unfold maxLen;omega
  ·rw[Bm];unfold maxLen;omega
 have hl2:(Lib.cut t.data.toList t2.data.toList).2.1.length<=maxLen:=by
  unfold Lib.cut;split
  ·simp only[List.length_drop];rw[Bm];unfold maxLen;omega
  ·simp
 refine⟨_,rfl,BY (Below.refl _ _) k,?_⟩
 refine VR.tup [.d (.str (Lib.cut t.data.toList t2.data.toList).1),.d (.str (Lib.cut t.data.toList t2.data.toList).2.1),.d (.bool (Lib.cut t.data.toList t2.data.toList).2.2)] [_,_,_] rfl λi a v ha hv=>?_
 match i,ha,hv with
 |0,ha,hv=>simp at ha hv;subst ha hv;exact .d (Pa _ hl1)
 |1,ha,hv=>simp at ha hv;subst ha hv;exact .d (Pa _ hl2)
 |2,ha,hv=>simp at ha hv;subst ha hv;exact .d (.bool _)
 |i+3,ha,hv=>simp at ha
theorem S6 (T:Ap) (hL:Bw T) (s sep:Tx) (h1:s.length<=1048576) (h:Lib.index s sep<0):PC prog T 122 [.d (.str s),.d (.str sep)] (.tup [.d (.str s),.d (.str []),.d (.bool false)]):=by
 have:=AcW T hL s sep h1
 rwa [show Lib.cut s sep=(s,[],false) from if_neg ZO] at this
theorem L6 (T:Ap) (hL:Bw T) (s sep:Tx) (h1:s.length<=1048576) (e:Nat) (h:Lib.index s sep=e):PC prog T 122 [.d (.str s),.d (.str sep)] (.tup [.d (.str (s.take e)),.d (.str (s.drop (e+sep.length))),.d (.bool true)]):=by
 have:=AcW T hL s sep h1
 rwa [show Lib.cut s sep=(s.take e,s.drop (e+sep.length),true) from by unfold Lib.cut;rw[h,if_pos ZO];rfl] at this
end
end Go.Proofs.YtidldcfpmehpiaaGreatDoor
