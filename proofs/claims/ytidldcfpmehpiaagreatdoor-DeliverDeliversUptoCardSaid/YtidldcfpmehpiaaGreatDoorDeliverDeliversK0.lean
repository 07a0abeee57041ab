/- Texts that the law DeliverDelivers rests on, packed. -/
import Derived.Test.YtidldcfpmehpiaaGreatDoorGB
import Derived.Test.YtidldcfpmehpiaaGreatDoorGT
import Derived.Lib.IndexBytes
import Derived.Test.YtidldcfpmehpiaaGreatDoorGC
set_option linter.unusedSimpArgs false
set_option linter.unusedVariables false
set_option maxRecDepth 20000
set_option maxHeartbeats 4000000
namespace Go.Proofs.YtidldcfpmehpiaaGreatDoor
open Tryz
section
abbrev Gy:=List UInt8
inductive AM where
 |mk (kind mat part:Int) (names keys:List Gy) (over:Bool) (limit:Int) (kids:List AM)
 deriving Inhabited
def AM.kind:AM->Int| .mk k _ _ _ _ _ _ _=>k
def AM.mat:AM->Int| .mk _ k _ _ _ _ _ _=>k
def AM.part:AM->Int| .mk _ _ k _ _ _ _ _=>k
def AM.names:AM->List Gy| .mk _ _ _ k _ _ _ _=>k
def AM.keys:AM->List Gy| .mk _ _ _ _ k _ _ _=>k
def AM.over:AM->Bool| .mk _ _ _ _ _ k _ _=>k
def AM.limit:AM->Int| .mk _ _ _ _ _ _ k _=>k
def AM.kids:AM->List AM| .mk _ _ _ _ _ _ _ k=>k
mutual
def Cr:AM->List (List D)
 | .mk _ _ _ _ _ _ _ kids=>UG kids
def UG:List AM->List (List D)
 |[]=>[]
 |t::l=>[.int .i64 t.kind,.int .i64 t.mat,.int .i64 t.part,.slc 1 (t.names.map Aq),.slc 1 (t.keys.map Aq),.bool t.over,.int .i64 t.limit,.slc 8 (Cr t)]::UG l
end
def Ef (t:AM):List D:=[.int .i64 t.kind,.int .i64 t.mat,.int .i64 t.part,.slc 1 (t.names.map Aq),.slc 1 (t.keys.map Aq),.bool t.over,.int .i64 t.limit,.slc 8 (Cr t)]
def AJ (t:AM):List AV:=[.d (.int .i64 t.kind),.d (.int .i64 t.mat),.d (.int .i64 t.part),.d (.slc 1 (t.names.map Aq)),.d (.slc 1 (t.keys.map Aq)),.d (.bool t.over),.d (.int .i64 t.limit),.d (.slc 8 (Cr t))]
theorem R5:∀l:List AM,UG l=l.map Ef
 |[]=>rfl
 |t::l=>by
  show _::UG l=Ef t::l.map Ef
  rw[R5 l]
  rfl
theorem Gn (t:AM):Cr t=t.kids.map Ef:=by
 cases t
 exact R5 _
@[go_sem] theorem Oq (t:AM):(Cr t).length=t.kids.length:=by rw[Gn,List.length_map]
theorem BJ (t:AM) (i:Nat) (d:List D) (h:i<t.kids.length):(Cr t).getD i d=Ef (t.kids[i]'h):=by rw[Gn];exact Al Ef _ _ _ h
theorem Tz (t:AM) (k:Nat) (h:k<t.kids.length):(Cr t).take k++[Ef (t.kids[k]'h)]=(Cr t).take (k+1):=by
 rw[List.take_succ_eq_append_getElem (by rw[Oq];exact h)]
 simp only[Gn,List.getElem_map]
theorem ZF {α β:Type} (f:α->β) (l:List α) (k:Nat) (h:k<l.length):(l.map f).take k++[f (l[k]'h)]=(l.map f).take (k+1):=by
 rw[List.take_succ_eq_append_getElem (by rw[List.length_map];exact h)]
 simp only[List.getElem_map]
theorem Acs {α β:Type} (f:α->β) (l:List α) (k:Nat) (h:l.length<=k):(l.map f).take k=l.map f:=List.take_of_length_le (by rw[List.length_map];exact h)
theorem WJ (t:AM) (k:Nat) (h:t.kids.length<=k):(Cr t).take k=Cr t:=List.take_of_length_le (by rw[Oq];exact h)
mutual
def AM.rank:AM->Nat
 | .mk _ _ _ _ _ _ _ kids=>AM.rankL kids+1
def AM.rankL:List AM->Nat
 |[]=>0
 |t::l=>t.rank+AM.rankL l
end
theorem AM.rank_mem {x:AM} :∀{l:List AM},x∈l->x.rank<=AM.rankL l
 |y::l,h=>by
  unfold AM.rankL
  rcases List.mem_cons.1 h with rfl|h
  ·omega
  ·have:=AM.rank_mem h;omega
theorem OZ {t x:AM} (h:x∈t.kids):x.rank<t.rank:=by
 cases t
 have:=AM.rank_mem h
 show x.rank<AM.rankL _+1
 exact Nat.lt_succ_of_le this
theorem AM.ind {p:AM->Prop} (h:∀t,(∀x∈t.kids,p x)->p t) (t:AM):p t:=by
 have:∀n t,AM.rank t<n->p t:=λn=>by
  induction n with
  |zero=>intro t ht;omega
  |succ n ih=>exact λt ht=>h t λx hx=>ih x (by have:=OZ hx;omega)
 exact this _ t (Nat.lt_succ_self _)
inductive AM.Ok:AM->Prop where
 |mk {t:AM} (h1:t.names.length*16<=140737488355328) (h2:t.keys.length*16<=140737488355328) (h3:t.kids.length*112<=140737488355328) (h4:∀x∈t.kids,AM.Ok x):AM.Ok t
theorem AM.Ok.inv {t:AM} (h:t.Ok):t.names.length*16<=140737488355328/\t.keys.length*16<=140737488355328/\t.kids.length*112<=140737488355328/\∀x∈t.kids,AM.Ok x:=by
 cases h;exact⟨by assumption,by assumption,by assumption,by assumption⟩
inductive Ax where
 |mk (kind:Int) (texts:List Gy) (test:AM) (thn els:List Ax)
def Ax.kind:Ax->Int| .mk k _ _ _ _=>k
def Ax.texts:Ax->List Gy| .mk _ k _ _ _=>k
def Ax.test:Ax->AM| .mk _ _ k _ _=>k
def Ax.thn:Ax->List Ax| .mk _ _ _ k _=>k
def Ax.els:Ax->List Ax| .mk _ _ _ _ k=>k
mutual
def Fw:Ax->List (List D)
 | .mk _ _ _ l _=>Ra l
def E6:Ax->List (List D)
 | .mk _ _ _ _ l=>Ra l
def Ra:List Ax->List (List D)
 |[]=>[]
 |c::l=>(.int .i64 c.kind:: .slc 1 (c.texts.map Aq)::(Ef c.test++[.slc 12 (Fw c),.slc 12 (E6 c)]))::Ra l
end
def AW (c:Ax):List D:= .int .i64 c.kind:: .slc 1 (c.texts.map Aq)::(Ef c.test++[.slc 12 (Fw c),.slc 12 (E6 c)])
def BW (c:Ax):List AV:= .d (.int .i64 c.kind):: .d (.slc 1 (c.texts.map Aq))::(AJ c.test++[.d (.slc 12 (Fw c)),.d (.slc 12 (E6 c))])
theorem Mn:∀l:List Ax,Ra l=l.map AW
 |[]=>rfl
 |t::l=>by
  show _::Ra l=AW t::l.map AW
  rw[Mn l]
  rfl
theorem D2 (c:Ax):Fw c=c.thn.map AW:=by cases c;exact Mn _
theorem C1 (c:Ax):E6 c=c.els.map AW:=by cases c;exact Mn _
@[go_sem] theorem AhJ (c:Ax):(Fw c).length=c.thn.length:=by rw[D2,List.length_map]
@[go_sem] theorem AgL (c:Ax):(E6 c).length=c.els.length:=by rw[C1,List.length_map]
theorem Hp (c:Ax) (i:Nat) (d:List D) (h:i<c.els.length):(E6 c).getD i d=AW (c.els[i]'h):=by rw[C1];exact Al AW _ _ _ h
mutual
def Ax.rank:Ax->Nat
 | .mk _ _ _ a b=>Ax.rankL a+Ax.rankL b+1
def Ax.rankL:List Ax->Nat
 |[]=>0
 |t::l=>t.rank+Ax.rankL l+1
end
theorem Ax.rank_mem {x:Ax} :∀{l:List Ax},x∈l->x.rank<Ax.rankL l
 |y::l,h=>by
  unfold Ax.rankL
  rcases List.mem_cons.1 h with rfl|h
  ·omega
  ·have:=Ax.rank_mem h;omega
theorem Lb (c:Ax):c.rank=Ax.rankL c.thn+Ax.rankL c.els+1:=by cases c;simp[Ax.rank,Ax.thn,Ax.els]
theorem Ax.ind {p:Ax->Prop} (h:∀c,(∀x∈c.thn,p x)->(∀x∈c.els,p x)->p c) (c:Ax):p c:=by
 have:∀n c,Ax.rank c<n->p c:=λn=>by
  induction n with
  |zero=>intro t ht;omega
  |succ n ih=>exact λt ht=>h t (λx hx=>ih x (by have:=Ax.rank_mem hx;rw[Lb] at ht;omega)) λx hx=>ih x (by have:=Ax.rank_mem hx;rw[Lb] at ht;omega)
 exact this _ c (Nat.lt_succ_self _)
inductive Ax.Ok:Ax->Prop where
 |mk {c:Ax} (h1:c.texts.length*16<=140737488355328) (h2:c.test.Ok) (h3:c.thn.length*208<=140737488355328) (h4:c.els.length*208<=140737488355328) (h5:∀x∈c.thn,Ax.Ok x) (h6:∀x∈c.els,Ax.Ok x):Ax.Ok c
theorem Ax.Ok.inv {c:Ax} (h:c.Ok):c.texts.length*16<=140737488355328/\c.test.Ok/\c.thn.length*208<=140737488355328/\c.els.length*208<=140737488355328/\(∀x∈c.thn,Ax.Ok x)/\∀x∈c.els,Ax.Ok x:=by
 cases h;exact⟨by assumption,by assumption,by assumption,by assumption,by assumption,by assumption⟩
attribute [go_sem] Ef AJ AW BW
end
section
def A7 (n lo hi:Int):Bool:=decide (lo<=n)&&decide (n<=hi)
def DF (t:AM) (n k m p u l:Bool):Bool:=(n||decide (t.names.length=0))&&(k||decide (t.keys.length=0))&&(m||decide (t.mat=0))&&(p||decide (t.part=0))&&(u||(!t.over&&decide (t.limit=0)))&&(l||decide (t.kids.length=0))
def Sx (t:AM):Bool:=
 DF t (A7 t.kind 6 8||decide (t.kind=9)) (A7 t.kind 6 8) (A7 t.kind 6 8) (A7 t.kind 6 8&&!decide (t.kind=6)) (decide (t.kind=10)) (A7 t.kind 3 5)&&
 (!(A7 t.kind 6 8||decide (t.kind=9))||decide (0<t.names.length))&&
 (!A7 t.kind 6 8||(decide (0<t.keys.length)&&A7 t.mat 1 3&&(decide (t.kind=6)||A7 t.part 1 3)))&&
 (!decide (t.kind=10)||A7 t.limit 0 2147483647)&&(!A7 t.kind 3 5||(decide (0<t.kids.length)&&(!decide (t.kind=3)||decide (t.kids.length=1))))
mutual
def tF:AM->Int->Int
 | .mk a b c e f g h kids,d=>if A7 a 1 10=false then 2 else if 6<d then 1 else if Sx (.mk a b c e f g h kids)=false then 3 else Xf kids (d+1)
def Xf:List AM->Int->Int
 |[],_=>0
 |x::l,d=>if tF x d=0 then Xf l d else tF x d
end
theorem Sj (t:AM) (d:Int):tF t d=if A7 t.kind 1 10=false then 2 else if 6<d then 1 else if Sx t=false then 3 else Xf t.kids (d+1):=by
 cases t;rw[tF];rfl
theorem Kg (l:List AM) (d:Int) (k:Nat) (h:k<l.length):Xf (l.drop k) d=if tF (l[k]'h) d=0 then Xf (l.drop (k+1)) d else tF (l[k]'h) d:=by
 rw[List.drop_eq_getElem_cons h,Xf]
theorem Vr (t:AM) (d:Int) (h:A7 t.kind 1 10=false):tF t d=2:=by rw[Sj,if_pos h]
theorem Vp (t:AM) (d:Int) (h:A7 t.kind 1 10=true) (h2:6<d):tF t d=1:=by rw[Sj,if_neg (by rw[h];simp),if_pos h2]
theorem Sm (t:AM) (d:Int) (h:A7 t.kind 1 10=true) (h2:d<=6) (h3:Sx t=false):tF t d=3:=by rw[Sj,if_neg (by rw[h];simp),if_neg ZO,if_pos h3]
theorem Vq (t:AM) (d:Int) (h:A7 t.kind 1 10=true) (h2:d<=6) (h3:Sx t=true):tF t d=Xf t.kids (d+1):=by rw[Sj,if_neg (by rw[h];simp),if_neg ZO,if_neg (by rw[h3];simp)]
def Xv (c:Ax):Bool:=
 decide (c.test.kind=0)&&DF c.test false false false false false false&&decide (c.thn.length=0)&&decide (c.els.length=0)&&
 (if c.kind=1\/c.kind=8\/c.kind=9 then decide (0<c.texts.length) else if A7 c.kind 5 7 then decide (c.texts.length=1) else decide (c.texts.length=0))
end
section
theorem Ry (T:Ap) (n lo hi:Int):PC prog T 98 [.d (.int .i64 n),.d (.int .i64 lo),.d (.int .i64 hi)] (.d (.bool (A7 n lo hi))):=by
 refine⟨call98,Ar.enter func98 rfl ntmps98 λhb=>?_⟩
 simp only[go_sem,results98]
 refine A6 λK1 hK1=>?_
 refine Zy ?_
 refine hK1 _ _ ?_
 refine A6 λK2 hK2=>?_
 refine Zy ?_
 refine hK2 _ _ ?_
 refine Aa.ret ?_
 simp only[go_sem]
 all_goals rfl
theorem Ni (T:Ap) (t:AM) (n k m p u l:Bool):PC prog T 249 [.agg (AJ t),.d (.bool n),.d (.bool k),.d (.bool m),.d (.bool p),.d (.bool u),.d (.bool l)] (.d (.bool (DF t n k m p u l))):=by
 refine⟨call249,Ar.enter func249 rfl ntmps249 λhb=>?_⟩
 simp only[go_sem,results249]
 refine A6 λK1 hK1=>?_
 refine Zy ?_
 intro b1 fb1
 try simp only[Ab] at fb1
 refine hK1 _ _ ?_
 refine Aa.seq λK3 hK3=>?_
 refine A6 λK4 hK4=>?_
 refine Zy ?_
 (repeat(with_reducible refine And.intro ?_ ?_;grind))
 refine hK4 _ _ ?_
 refine Aa.cond _ rfl (λhc0=>?_) (λhc0=>?_)
 ·skip
  refine A6 λK5 hK5=>?_
  refine Zy ?_
  refine hK5 _ _ ?_
  refine Aa.ret ?_
  simp only[go_sem]
  all_goals grind[DF]
 ·skip
  refine Aa.skip ?_
  refine Ac ?_
  refine hK3 _ _ ?_
  refine A6 λK6 hK6=>?_
  refine Zy ?_
  (repeat(with_reducible refine And.intro ?_ ?_;grind))
  refine hK6 _ _ ?_
  refine Aa.ret ?_
  simp only[go_sem]
  all_goals grind[DF]
theorem SV (T:Ap) (t:AM) (ok:t.Ok):PC prog T 245 [.agg (AJ t)] (.d (.bool (decide (t.kind=0)&&DF t false false false false false false))):=by
 refine⟨call245,Ar.enter func245 rfl ntmps245 λhb=>?_⟩
 obtain⟨s1,s2,s3,s4⟩:=ok.inv
 simp only[go_sem,results245]
 refine A6 λK1 hK1=>?_
 refine Zy ?_
 intro b1 fb1
 try simp only[Ab] at fb1
 refine hK1 _ _ ?_
 refine A6 λK3 hK3=>?_
 refine Zy ?_
 (repeat(with_reducible refine And.intro ?_ ?_;(intro hg;refine⟨hg,?_⟩;omega)))
 refine hK3 _ _ ?_
 refine Aa.ret ?_
 simp only[go_sem]
 all_goals grind[DF]
theorem Nj (T:Ap) (t:AM) (ok:t.Ok) (d:Int) (hd: -9<=d) (hd2:d<=7) (ih:∀x∈t.kids,∀d:Int,-9<=d->d<=7->PC prog T 250 [.agg (AJ x),.d (.int .i64 d)] (.d (.int .i64 (tF x d)))):PC prog T 250 [.agg (AJ t),.d (.int .i64 d)] (.d (.int .i64 (tF t d))):=by
 refine⟨call250,Ar.enter func250 rfl ntmps250 λhb=>?_⟩
 obtain⟨s1,s2,s3,s4⟩:=ok.inv
 simp only[go_sem,results250]
 refine A6 λK1 hK1=>?_
 refine Zy ?_
 intro b1 fb1
 try simp only[Ab] at fb1
 refine hK1 _ _ ?_
 refine Aa.seq λK3 hK3=>?_
 refine A6 λK4 hK4=>?_
 refine Zy ?_
 refine ZP (Ry T _ _ _) ?_
 refine Zy ?_
 refine hK4 _ _ ?_
 refine Aa.cond _ rfl (λhc0=>?_) (λhc0=>?_)
 ·skip
  refine A6 λK5 hK5=>?_
  refine Zy ?_
  refine hK5 _ _ ?_
  refine Aa.ret ?_
  simp only[go_sem]
  rw[Vr];simpa using hc0
 ·skip
  have hk:A7 t.kind 1 10=true:=by simpa using hc0
  refine Aa.skip ?_
  refine Ac ?_
  refine hK3 _ _ ?_
  refine Aa.seq λK6 hK6=>?_
  refine A6 λK7 hK7=>?_
  refine Zy ?_
  refine hK7 _ _ ?_
  refine Aa.cond _ rfl (λhc1=>?_) (λhc1=>?_)
  ·skip
   refine A6 λK8 hK8=>?_
   refine Zy ?_
   refine hK8 _ _ ?_
   refine Aa.ret ?_
   simp only[go_sem]
   rw[Vp _ _ hk (by simpa using hc1)]
  ·skip
   have hd6:d<=6:=by simpa using hc1
   refine Aa.skip ?_
   refine Ac ?_
   refine hK6 _ _ ?_
   refine A6 λK9 hK9=>?_
   refine Zy ?_
   refine ZP (Ry T _ _ _) ?_
   refine Zy ?_
   refine hK9 _ _ ?_
   refine A6 λK10 hK10=>?_
   refine Zy ?_
   refine ZP (Ry T _ _ _) ?_
   refine Zy ?_
   refine hK10 _ _ ?_
   refine A6 λK11 hK11=>?_
   refine Zy ?_
   (repeat(with_reducible refine And.intro ?_ ?_;grind))
   refine ZP (Ni T _ _ _ _ _ _ _) ?_
   refine Zy ?_
   refine hK11 _ _ ?_
   refine Jk (λs h=>s=[.any,.d (.int .i64 d),.ptr b1 8 0 0,.any,.any,.d (.bool (A7 t.kind 6 8)),.d (.bool (A7 t.kind 3 5)),.d (.bool (DF t (A7 t.kind 6 8||decide (t.kind=9)) (A7 t.kind 6 8) (A7 t.kind 6 8) (A7 t.kind 6 8&&!decide (t.kind=6)) (decide (t.kind=10)) (A7 t.kind 3 5)&&(!(A7 t.kind 6 8||decide (t.kind=9))||decide (0<t.names.length)))),.any,.any,.any,.any,.any,.any,.any,.any,.any,.any,.any,.any,.any,.any,.any,.any,.any,.any,.any,.any,.any,.any,.any,.any,.any,.any,.any,.any,.any,.any,.any,.any,.any,.any,.any,.any,.any,.any,.any,.any,.any,.any,.any,.any,.any,.any,.any,.any,.any,.any,.any,.any,.any,.any,.any,.any,.any,.any,.any,.any,.any,.any,.any,.any,.any,.any,.any,.any,.any,.any,.any,.any,.any,.any,.any,.any,.any,.any,.any,.any,.any,.any,.any,.any,.any,.any,.any,.any,.any,.any,.any,.any,.any,.any,.any,.any,.any,.any,.any,.any,.any,.any,.any,.any,.any,.any,.any,.any,.any,.any,.any,.any,.any,.any,.any,.any,.any,.any]/\h=⟨[(b1,⟨8,1,[AJ t]⟩)],[]⟩) ?_ ?_
   ·skip
    refine A6 λK12 hK12=>?_
    refine Zy ?_
    (repeat(with_reducible refine And.intro ?_ ?_;grind))
    refine hK12 _ _ ?_
    refine Aa.cond _ rfl (λhc2=>?_) (λhc2=>?_)
    ·skip
     refine ED λK13 hK13=>?_
     refine Zy ?_
     refine hK13 _ _ ?_
     refine Ac ?_
     (refine⟨0,0,_,_,?_,?_,rfl,rfl⟩)<;>try simp only[go_sem]
     all_goals(first|grind (splits:=30)|(subst hz;simp_all;done)|(subst hz;simp_all;omega)|(subst hz;simp_all;grind))
    ·skip
     refine Aa.skip ?_
     refine Ac ?_
     (refine⟨0,0,_,_,?_,?_,rfl,rfl⟩)<;>try simp only[go_sem]
     all_goals(first|grind (splits:=30)|(subst hz;simp_all;done)|(subst hz;simp_all;omega)|(subst hz;simp_all;grind))
   rintro s h ⟨rfl,rfl⟩
   generalize hz:(DF t (A7 t.kind 6 8||decide (t.kind=9)) (A7 t.kind 6 8) (A7 t.kind 6 8) (A7 t.kind 6 8&&!decide (t.kind=6)) (decide (t.kind=10)) (A7 t.kind 3 5)&&(!(A7 t.kind 6 8||decide (t.kind=9))||decide (0<t.names.length)))=z
   refine Zy ?_
   refine Jk (λs h=>s=[.any,.d (.int .i64 d),.ptr b1 8 0 0,.any,.any,.d (.bool (A7 t.kind 6 8)),.d (.bool (A7 t.kind 3 5)),.d (.bool (DF t (A7 t.kind 6 8||decide (t.kind=9)) (A7 t.kind 6 8) (A7 t.kind 6 8) (A7 t.kind 6 8&&!decide (t.kind=6)) (decide (t.kind=10)) (A7 t.kind 3 5)&&(!(A7 t.kind 6 8||decide (t.kind=9))||decide (0<t.names.length))&&(!A7 t.kind 6 8||(decide (0<t.keys.length)&&A7 t.mat 1 3&&(decide (t.kind=6)||A7 t.part 1 3))))),.any,.any,.any,.any,.any,.any,.any,.any,.any,.any,.any,.any,.any,.any,.any,.any,.any,.any,.any,.any,.any,.any,.any,.any,.any,.any,.any,.any,.any,.any,.any,.any,.any,.any,.any,.any,.any,.any,.any,.any,.any,.any,.any,.any,.any,.any,.any,.any,.any,.any,.any,.any,.any,.any,.any,.any,.any,.any,.any,.any,.any,.any,.any,.any,.any,.any,.any,.any,.any,.any,.any,.any,.any,.any,.any,.any,.any,.any,.any,.any,.any,.any,.any,.any,.any,.any,.any,.any,.any,.any,.any,.any,.any,.any,.any,.any,.any,.any,.any,.any,.any,.any,.any,.any,.any,.any,.any,.any,.any,.any,.any,.any,.any,.any,.any,.any,.any,.any]/\h=⟨[(b1,⟨8,1,[AJ t]⟩)],[]⟩) ?_ ?_
   ·skip
    refine A6 λK14 hK14=>?_
    refine Zy ?_
    refine hK14 _ _ ?_
    refine Aa.cond _ rfl (λhc3=>?_) (λhc3=>?_)
    ·skip
     refine ED λK15 hK15=>?_
     refine Zy ?_
     refine ZQ (λhg=>Ry T _ _ _) ?_
     refine Zy ?_
     refine ZQ (λhg=>Ry T _ _ _) ?_
     refine Zy ?_
     (repeat(with_reducible refine And.intro ?_ ?_;grind))
     refine hK15 _ _ ?_
     refine Ac ?_
     (refine⟨0,0,_,_,?_,?_,rfl,rfl⟩)<;>try simp only[go_sem]
     all_goals(first|grind (splits:=30)|(subst hz;simp_all;done)|(subst hz;simp_all;omega)|(subst hz;simp_all;grind))
    ·skip
     refine Aa.skip ?_
     refine Ac ?_
     (refine⟨0,0,_,_,?_,?_,rfl,rfl⟩)<;>try simp only[go_sem]
     all_goals(first|grind (splits:=30)|(subst hz;simp_all;done)|(subst hz;simp_all;omega)|(subst hz;simp_all;grind))
   rintro s h ⟨rfl,rfl⟩
   generalize hz:(DF t (A7 t.kind 6 8||decide (t.kind=9)) (A7 t.kind 6 8) (A7 t.kind 6 8) (A7 t.kind 6 8&&!decide (t.kind=6)) (decide (t.kind=10)) (A7 t.kind 3 5)&&(!(A7 t.kind 6 8||decide (t.kind=9))||decide (0<t.names.length))&&(!A7 t.kind 6 8||(decide (0<t.keys.length)&&A7 t.mat 1 3&&(decide (t.kind=6)||A7 t.part 1 3))))=z
   refine Zy ?_
   refine Jk (λs h=>s=[.any,.d (.int .i64 d),.ptr b1 8 0 0,.any,.any,.d (.bool (A7 t.kind 6 8)),.d (.bool (A7 t.kind 3 5)),.d (.bool (DF t (A7 t.kind 6 8||decide (t.kind=9)) (A7 t.kind 6 8) (A7 t.kind 6 8) (A7 t.kind 6 8&&!decide (t.kind=6)) (decide (t.kind=10)) (A7 t.kind 3 5)&&(!(A7 t.kind 6 8||decide (t.kind=9))||decide (0<t.names.length))&&(!A7 t.kind 6 8||(decide (0<t.keys.length)&&A7 t.mat 1 3&&(decide (t.kind=6)||A7 t.part 1 3)))&&(!decide (t.kind=10)||A7 t.limit 0 2147483647))),.any,.any,.any,.any,.any,.any,.any,.any,.any,.any,.any,.any,.any,.any,.any,.any,.any,.any,.any,.any,.any,.any,.any,.any,.any,.any,.any,.any,.any,.any,.any,.any,.any,.any,.any,.any,.any,.any,.any,.any,.any,.any,.any,.any,.any,.any,.any,.any,.any,.any,.any,.any,.any,.any,.any,.any,.any,.any,.any,.any,.any,.any,.any,.any,.any,.any,.any,.any,.any,.any,.any,.any,.any,.any,.any,.any,.any,.any,.any,.any,.any,.any,.any,.any,.any,.any,.any,.any,.any,.any,.any,.any,.any,.any,.any,.any,.any,.any,.any,.any,.any,.any,.any,.any,.any,.any,.any,.any,.any,.any,.any,.any,.any,.any,.any,.any,.any,.any]/\h=⟨[(b1,⟨8,1,[AJ t]⟩)],[]⟩) ?_ ?_
   ·skip
    refine A6 λK16 hK16=>?_
    refine Zy ?_
    refine hK16 _ _ ?_
    refine Aa.cond _ rfl (λhc4=>?_) (λhc4=>?_)
    ·skip
     refine ED λK17 hK17=>?_
     refine Zy ?_
     refine ZQ (λhg=>Ry T _ _ _) ?_
     refine Zy ?_
     refine hK17 _ _ ?_
     refine Ac ?_
     (refine⟨0,0,_,_,?_,?_,rfl,rfl⟩)<;>try simp only[go_sem]
     all_goals(first|grind (splits:=30)|(subst hz;simp_all;done)|(subst hz;simp_all;omega)|(subst hz;simp_all;grind))
    ·skip
     refine Aa.skip ?_
     refine Ac ?_
     (refine⟨0,0,_,_,?_,?_,rfl,rfl⟩)<;>try simp only[go_sem]
     all_goals(first|grind (splits:=30)|(subst hz;simp_all;done)|(subst hz;simp_all;omega)|(subst hz;simp_all;grind))
   rintro s h ⟨rfl,rfl⟩
   generalize hz:(DF t (A7 t.kind 6 8||decide (t.kind=9)) (A7 t.kind 6 8) (A7 t.kind 6 8) (A7 t.kind 6 8&&!decide (t.kind=6)) (decide (t.kind=10)) (A7 t.kind 3 5)&&(!(A7 t.kind 6 8||decide (t.kind=9))||decide (0<t.names.length))&&(!A7 t.kind 6 8||(decide (0<t.keys.length)&&A7 t.mat 1 3&&(decide (t.kind=6)||A7 t.part 1 3)))&&(!decide (t.kind=10)||A7 t.limit 0 2147483647))=z
   refine Zy ?_
   refine Jk (λs h=>s=[.any,.d (.int .i64 d),.ptr b1 8 0 0,.any,.any,.d (.bool (A7 t.kind 6 8)),.d (.bool (A7 t.kind 3 5)),.d (.bool (DF t (A7 t.kind 6 8||decide (t.kind=9)) (A7 t.kind 6 8) (A7 t.kind 6 8) (A7 t.kind 6 8&&!decide (t.kind=6)) (decide (t.kind=10)) (A7 t.kind 3 5)&&(!(A7 t.kind 6 8||decide (t.kind=9))||decide (0<t.names.length))&&(!A7 t.kind 6 8||(decide (0<t.keys.length)&&A7 t.mat 1 3&&(decide (t.kind=6)||A7 t.part 1 3)))&&(!decide (t.kind=10)||A7 t.limit 0 2147483647)&&(!A7 t.kind 3 5||(decide (0<t.kids.length)&&(!decide (t.kind=3)||decide (t.kids.length=1)))))),.any,.any,.any,.any,.any,.any,.any,.any,.any,.any,.any,.any,.any,.any,.any,.any,.any,.any,.any,.any,.any,.any,.any,.any,.any,.any,.any,.any,.any,.any,.any,.any,.any,.any,.any,.any,.any,.any,.any,.any,.any,.any,.any,.any,.any,.any,.any,.any,.any,.any,.any,.any,.any,.any,.any,.any,.any,.any,.any,.any,.any,.any,.any,.any,.any,.any,.any,.any,.any,.any,.any,.any,.any,.any,.any,.any,.any,.any,.any,.any,.any,.any,.any,.any,.any,.any,.any,.any,.any,.any,.any,.any,.any,.any,.any,.any,.any,.any,.any,.any,.any,.any,.any,.any,.any,.any,.any,.any,.any,.any,.any,.any,.any,.any,.any,.any,.any,.any]/\h=⟨[(b1,⟨8,1,[AJ t]⟩)],[]⟩) ?_ ?_
   ·skip
    refine A6 λK18 hK18=>?_
    refine Zy ?_
    refine hK18 _ _ ?_
    refine Aa.cond _ rfl (λhc5=>?_) (λhc5=>?_)
    ·skip
     refine ED λK19 hK19=>?_
     refine Zy ?_
     (repeat(with_reducible refine And.intro ?_ ?_;grind))
     refine hK19 _ _ ?_
     refine Ac ?_
     (refine⟨0,0,_,_,?_,?_,rfl,rfl⟩)<;>try simp only[go_sem]
     all_goals(first|grind (splits:=30)|(subst hz;simp_all;done)|(subst hz;simp_all;omega)|(subst hz;simp_all;grind))
    ·skip
     refine Aa.skip ?_
     refine Ac ?_
     (refine⟨0,0,_,_,?_,?_,rfl,rfl⟩)<;>try simp only[go_sem]
     all_goals(first|grind (splits:=30)|(subst hz;simp_all;done)|(subst hz;simp_all;omega)|(subst hz;simp_all;grind))
   rintro s h ⟨rfl,rfl⟩
   generalize hz:(DF t (A7 t.kind 6 8||decide (t.kind=9)) (A7 t.kind 6 8) (A7 t.kind 6 8) (A7 t.kind 6 8&&!decide (t.kind=6)) (decide (t.kind=10)) (A7 t.kind 3 5)&&(!(A7 t.kind 6 8||decide (t.kind=9))||decide (0<t.names.length))&&(!A7 t.kind 6 8||(decide (0<t.keys.length)&&A7 t.mat 1 3&&(decide (t.kind=6)||A7 t.part 1 3)))&&(!decide (t.kind=10)||A7 t.limit 0 2147483647)&&(!A7 t.kind 3 5||(decide (0<t.kids.length)&&(!decide (t.kind=3)||decide (t.kids.length=1)))))=z
   refine Zy ?_
   refine Aa.seq λK20 hK20=>?_
   refine A6 λK21 hK21=>?_
   refine Zy ?_
   refine hK21 _ _ ?_
   refine Aa.cond _ rfl (λhc6=>?_) (λhc6=>?_)
   ·skip
    refine A6 λK22 hK22=>?_
    refine Zy ?_
    refine hK22 _ _ ?_
    refine Aa.ret ?_
    simp only[go_sem]
    have hs:Sx t=false:=by
     rw[Sx];grind (splits:=30)
    rw[Sm _ _ hk hd6 hs]
   ·skip
    have hs:Sx t=true:=by
     rw[Sx];grind (splits:=30)
    have h0:=Vq _ _ hk hd6 hs
    refine Aa.skip ?_
    refine Ac ?_
    refine hK20 _ _ ?_
    refine Aa.seq λK23 hK23=>?_
    refine A6 λK24 hK24=>?_
    refine Zy ?_
    refine hK24 _ _ ?_
    refine Aa.block (Aa.loop [1,2,8] (λn s h=> ∃(k:Nat),k<=t.kids.length/\tF t d=Xf (t.kids.drop k) (d+1)/\n=t.kids.length-k/\s=[.any,.d (.int .i64 d),.ptr b1 8 0 0,.any,.any,.any,.any,.any,.d (.int .i64 k),.any,.any,.any,.any,.any,.any,.any,.any,.any,.any,.any,.any,.any,.any,.any,.any,.any,.any,.any,.any,.any,.any,.any,.any,.any,.any,.any,.any,.any,.any,.any,.any,.any,.any,.any,.any,.any,.any,.any,.any,.any,.any,.any,.any,.any,.any,.any,.any,.any,.any,.any,.any,.any,.any,.any,.any,.any,.any,.any,.any,.any,.any,.any,.any,.any,.any,.any,.any,.any,.any,.any,.any,.any,.any,.any,.any,.any,.any,.any,.any,.any,.any,.any,.any,.any,.any,.any,.any,.any,.any,.any,.any,.any,.any,.any,.any,.any,.any,.any,.any,.any,.any,.any,.any,.any,.any,.any,.any,.any,.any,.any,.any,.any,.any,.any,.any,.any]/\h=⟨[(b1,⟨8,1,[AJ t]⟩)],[]⟩) ⟨_,0,Nat.zero_le _,h0,rfl,rfl,rfl⟩ ?_)
    rintro n s h ⟨k,hk,htf,rfl,rfl,rfl⟩
    refine Zy ?_
    refine Aa.seq λK25 hK25=>?_
    refine A6 λK26 hK26=>?_
    refine Zy ?_
    refine hK26 _ _ ?_
    refine Aa.cond _ rfl (λhc7=>?_) (λhc7=>?_)
    ·skip
     have hlt:k<t.kids.length:=by simpa using hc7
     refine Aa.skip ?_
     refine Ac ?_
     refine hK25 _ _ ?_
     refine Aa.seq λK27 hK27=>?_
     refine Aa.block (A6 λK28 hK28=>?_)
     simp only[go_sem,BJ t k _ hlt]
     (repeat(with_reducible refine And.intro ?_ ?_;omega))
     refine Aw rfl rfl rfl rfl (ih _ (List.getElem_mem hlt) _ ZO ZO) rfl rfl ?_
     refine Zy ?_
     refine hK28 _ _ ?_
     refine A6 λK29 hK29=>?_
     refine Zy ?_
     refine hK29 _ _ ?_
     refine Aa.cond _ rfl (λhc8=>?_) (λhc8=>?_)
     ·skip
      refine A6 λK30 hK30=>?_
      refine Zy ?_
      refine hK30 _ _ ?_
      refine Aa.ret ?_
      simp only[go_sem]
      rw[htf,Kg _ _ _ hlt,if_neg (by simpa using hc8)]
     ·skip
      refine Aa.skip ?_
      refine Ai (Ac ?_)
      refine hK27 _ _ ?_
      refine ED λK31 hK31=>?_
      refine Zy ?_
      (repeat(with_reducible refine And.intro ?_ ?_;omega))
      refine hK31 _ _ ?_
      refine Ac ?_
      refine⟨_,0,0,?_,k+1,by omega,?_,rfl,rfl,rfl⟩
      ·omega
      ·rw[htf,Kg _ _ _ hlt,if_pos (by simpa using hc8)]
    ·skip
     refine Aa.exit ?_
     refine Ak (Ak (Bh (Ac ?_)))
     refine hK23 _ _ ?_
     refine A6 λK32 hK32=>?_
     refine Zy ?_
     refine hK32 _ _ ?_
     refine Aa.ret ?_
     simp only[go_sem]
     have:t.kids.drop k=[]:=List.drop_eq_nil_of_le (by simp at hc7;omega)
     rw[htf,this,Xf]
theorem So (T:Ap) (t:AM) (ok:t.Ok) (d:Int) (hd: -9<=d) (hd2:d<=7):PC prog T 250 [.agg (AJ t),.d (.int .i64 d)] (.d (.int .i64 (tF t d))):=by
 induction t using AM.ind generalizing d with
 |h t ih=>exact Nj T t ok d hd hd2 λx hx d h1 h2=>ih x hx (ok.inv.2.2.2 x hx) d h1 h2
end
section
def Iq (t:AM):Bool:=if A7 t.kind 3 5 then(decide (t.kids.length=1)||(!decide (t.kind=3)&&decide (0<t.kids.length))) else if A7 t.kind 6 8 then((decide (1<=t.mat)&&decide (t.mat<=3))&&decide (0<t.names.length)&&decide (0<t.keys.length)&&(decide (t.kind=6)||(decide (1<=t.part)&&decide (t.part<=3)))) else if t.kind=9 then decide (0<t.names.length) else if t.kind=10 then(decide (0<=t.limit)&&decide (t.limit<=2147483647)) else true
def eqB (t:AM):Bool:=Iq t&&((A7 t.kind 6 8||decide (t.kind=9))||decide (t.names.length=0))&&((A7 t.kind 6 8)||decide (t.keys.length=0))&&((A7 t.kind 6 8)||decide (t.mat=0))&&((A7 t.kind 6 8&&!decide (t.kind=6))||decide (t.part=0))&&(decide (t.kind=10)||!t.over)&&(decide (t.kind=10)||decide (t.limit=0))
theorem AeW (t:AM) (hk:A7 t.kind 1 10=true):(eqB t&&(A7 t.kind 3 5||decide (t.kids.length=0)))=Sx t:=by
 have:t.kind=1\/t.kind=2\/t.kind=3\/t.kind=4\/t.kind=5\/t.kind=6\/t.kind=7\/t.kind=8\/t.kind=9\/t.kind=10:=by simp[A7] at hk;omega
 rcases this with h|h|h|h|h|h|h|h|h|h<;>simp[Sx,DF,eqB,Iq,A7,h]<;>grind
def neP (t:AM):Prop:=((((((t.names.length:Int)≠((if A7 t.kind 6 8=true\/t.kind=9 then t.names else []).length:Int))\/((t.keys.length:Int)≠((if A7 t.kind 6 8=true then t.keys else []).length:Int)))\/(t.mat≠if A7 t.kind 6 8=true then t.mat else 0))\/(t.part≠if A7 t.kind 6 8=true/\¬t.kind=6 then t.part else 0))\/(t.over≠(decide (t.kind=10)&&t.over)))\/(t.limit≠if t.kind=10 then t.limit else 0)
theorem Adx (t:AM) (h:neP t):eqB t=false:=by
 unfold neP at h
 cases h1:A7 t.kind 6 8<;>by_cases h9:t.kind=9<;>by_cases h6:t.kind=6<;>by_cases h10:t.kind=10<;>simp only[eqB,h1] at h⊢ <;>simp[h9,h6,h10] at h⊢ <;>grind
theorem Adw (t:AM) (h:¬neP t):eqB t=Iq t:=by
 unfold neP at h
 cases h1:A7 t.kind 6 8<;>by_cases h9:t.kind=9<;>by_cases h6:t.kind=6<;>by_cases h10:t.kind=10<;>simp only[eqB,h1] at h⊢ <;>simp[h9,h6,h10] at h⊢ <;>grind
theorem Mm (T:Ap) (t:AM) (ok:t.Ok) (d:Int) (hd: -9<=d) (hd2:d<=7) (ih:∀x∈t.kids,∀d:Int,-9<=d->d<=7->PC prog T 244 [.agg (AJ x),.d (.int .i64 d)] (.d (.int .i64 (tF x d)))):PC prog T 244 [.agg (AJ t),.d (.int .i64 d)] (.d (.int .i64 (tF t d))):=by
 refine⟨call244,Ar.enterS func244 rfl ntmps244 rfl λhb=>?_⟩
 obtain⟨s1,s2,s3,s4⟩:=ok.inv
 have kl:((t.kids.length:Int)=1)=(t.kids.length=1):=by simp only[eq_iff_iff];omega
 simp only[go_sem,results244]
 refine Zx (Zy ?_)
 intro b1
 first|intro fb1|have fb1:=True.intro
 try simp only[Ab] at fb1
 refine Zs (Zp 2054 ?_)
 refine Zc (λhc0=>?_) λhc0=>?_
 ·refine Zp 4 (Aa.ret ?_)
  refine Zy ?_
  rw[Vr];grind[A7]
 have hk:A7 t.kind 1 10=true:=by grind[A7]
 refine Zk ?_
 refine Zs (Zp 19 ?_)
 refine Zc (λhc1=>?_) λhc1=>?_
 ·refine Zp 4 (Aa.ret ?_)
  refine Zy ?_
  rw[Vp _ _ hk ZO]
 have hd6:d<=6:=by omega
 refine Zk ?_
 refine Zx (Zy ?_)
 intro b5
 first|intro fb5|have fb5:=True.intro
 try simp only[Ab] at fb5
 refine Zm 7 ?_
 refine Zp 15 ?_
 refine Zy ?_
 refine Zj 7 (λlc hc=>Av lc [(6,.d (.bool (Iq t)))]/\Av hc (⟨[(b5,⟨8,1,[[.d (.int .i64 t.kind),.d (.int .i64 (if(A7 t.kind 6 8) then t.mat else 0)),.d (.int .i64 (if(A7 t.kind 6 8&&!decide (t.kind=6)) then t.part else 0)),.d (.slc 1 ((if(A7 t.kind 6 8||decide (t.kind=9)) then t.names else []).map Aq)),.d (.slc 1 ((if(A7 t.kind 6 8) then t.keys else []).map Aq)),.d (.bool (decide (t.kind=10)&&t.over)),.d (.int .i64 (if t.kind=10 then t.limit else 0)),.nils]]⟩),(b1,⟨8,1,[AJ t]⟩)],[]⟩)) ?_ ?_
 ·refine Zp 47 ?_
  refine Aa.block (Zs (Zp 63 ?_))
  refine Zy ?_
  apply Za (z:=(_||(_||_))) 31 25
  ·refine Aa.cond _ rfl (λhc2=>?_) λhc2=>?_
   rotate_left
   ·refine Zp 63 ?_
    refine Aa.cond _ rfl (λhc3=>?_) λhc3=>?_
    rotate_left
    ·refine Z6 ?_
     refine Zf 31 32 (.e ⟨BD (ES hc2 (ES hc3 rfl)),⟨rfl⟩⟩)
    refine Aa.skip (Ac ?_)
    refine Zf 31 32 (.e ⟨BD (ES hc2 (Hc hc3)),⟨rfl⟩⟩)
   refine Aa.skip (Ac ?_)
   refine Zf 31 32 (.e ⟨BD (Hc hc2),⟨rfl⟩⟩)
  refine Zy ?_
  refine Zc (λhc4=>?_) λhc4=>?_
  ·have e35:A7 t.kind 3 5=true:=by simp[A7];omega
   have e68:A7 t.kind 6 8=false:=by simp[A7];omega
   have k9:¬t.kind=9:=by omega
   have k10:¬t.kind=10:=by omega
   refine Zr (Ai (Ac ?_))
   refine Zf 7 8 (.w (([(6,.d (.bool (Iq t)))])) (((⟨[(b5,⟨8,1,[[.d (.int .i64 t.kind),.d (.int .i64 (if(A7 t.kind 6 8) then t.mat else 0)),.d (.int .i64 (if(A7 t.kind 6 8&&!decide (t.kind=6)) then t.part else 0)),.d (.slc 1 ((if(A7 t.kind 6 8||decide (t.kind=9)) then t.names else []).map Aq)),.d (.slc 1 ((if(A7 t.kind 6 8) then t.keys else []).map Aq)),.d (.bool (decide (t.kind=10)&&t.over)),.d (.int .i64 (if t.kind=10 then t.limit else 0)),.nils]]⟩),(b1,⟨8,1,[AJ t]⟩)],[]⟩:AH).objs)) ?_ ?_ ⟨⟨rfl⟩,⟨rfl⟩⟩)
   · simp only[go_sem,Kt]<;>(first|(simp[Iq,e35];done)|(simp[Iq,A7,kl,hc0,hc1,hc4,e35,e68,k9,k10];done)|(simp[Iq,A7,kl,hc0,hc1,hc4,e35,e68,k9,k10]<;>omega)|(simp[Iq,kl,hc0,hc1,hc4,e35,e68,k9,k10]<;>grind))
   · simp only[go_sem]<;>(first|(simp[e68,k9,k10];done)|(simp[A7,kl,hc0,hc1,hc4,e35,e68,k9,k10];done)|(simp[A7,kl,hc0,hc1,hc4,e35,e68,k9,k10]<;>omega)|(simp[kl,hc0,hc1,hc4,e35,e68,k9,k10]<;>grind))
  have e35:A7 t.kind 3 5=false:=by simp[A7];omega
  refine Zs (Zp 95 ?_)
  refine Zy ?_
  apply Za (z:=(_||(_||_))) 31 44
  ·refine Aa.cond _ rfl (λhc5=>?_) λhc5=>?_
   rotate_left
   ·refine Zp 63 ?_
    refine Aa.cond _ rfl (λhc6=>?_) λhc6=>?_
    rotate_left
    ·refine Z6 ?_
     refine Zf 31 32 (.e ⟨BD (ES hc5 (ES hc6 rfl)),⟨rfl⟩⟩)
    refine Aa.skip (Ac ?_)
    refine Zf 31 32 (.e ⟨BD (ES hc5 (Hc hc6)),⟨rfl⟩⟩)
   refine Aa.skip (Ac ?_)
   refine Zf 31 32 (.e ⟨BD (Hc hc5),⟨rfl⟩⟩)
  refine Zy ?_
  refine Zc (λhc7=>?_) λhc7=>?_
  ·have e68:A7 t.kind 6 8=true:=by simp[A7];omega
   have k9:¬t.kind=9:=by omega
   have k10:¬t.kind=10:=by omega
   refine Zp 15 ?_
   refine Zs (Zp 79 ?_)
   refine Zc (λhc8=>?_) λhc8=>?_
   ·refine Zp 15 ?_
    refine Z6 ?_
    refine DL true (.seg 0 (.seg 1 (.seg 2 (.seg 4 (.seg 6 (.many (.alt 3 (.many (.alt 5 (.seg 7 (.seg 8 (.seg 9 (.seg 10 (.seg 11 (.done)))))) (.alt 7 (.seg 8 (.many (.alt 5 (.seg 9 (.seg 10 (.seg 11 (.done)))) (.alt 9 (.seg 5 (.seg 10 (.seg 11 (.done)))) (.nil))))) (.nil)))) (.alt 5 (.many (.alt 3 (.seg 7 (.seg 8 (.seg 9 (.seg 10 (.seg 11 (.done)))))) (.alt 7 (.seg 3 (.seg 8 (.seg 9 (.seg 10 (.seg 11 (.done)))))) (.nil)))) (.alt 7 (.seg 3 (.seg 8 (.many (.alt 5 (.seg 9 (.seg 10 (.seg 11 (.done)))) (.alt 9 (.seg 5 (.seg 10 (.seg 11 (.done)))) (.nil)))))) (.nil)))))))))) rfl (by kernel_rfl) λK_ hK_=>?_
    simp only[go_sem,fb5]
    refine hK_ _ _ ?_
    refine Ai (Ac ?_)
    refine Zf 7 8 (.w (([(6,.d (.bool (Iq t)))])) (((⟨[(b5,⟨8,1,[[.d (.int .i64 t.kind),.d (.int .i64 (if(A7 t.kind 6 8) then t.mat else 0)),.d (.int .i64 (if(A7 t.kind 6 8&&!decide (t.kind=6)) then t.part else 0)),.d (.slc 1 ((if(A7 t.kind 6 8||decide (t.kind=9)) then t.names else []).map Aq)),.d (.slc 1 ((if(A7 t.kind 6 8) then t.keys else []).map Aq)),.d (.bool (decide (t.kind=10)&&t.over)),.d (.int .i64 (if t.kind=10 then t.limit else 0)),.nils]]⟩),(b1,⟨8,1,[AJ t]⟩)],[]⟩:AH).objs)) ?_ ?_ ⟨⟨rfl⟩,⟨rfl⟩⟩)
    · simp only[go_sem,Kt]<;>(first|(simp[Iq,e35,e68,hc8];done)|(simp[Iq,A7,hc4,k9,k10,hc8];done)|(simp[Iq,A7,hc4,k9,k10,hc8]<;>omega)|(simp[Iq,e35,e68,hc8]<;>grind))
    · simp only[go_sem]<;>(first|(simp[e68,k9,k10,hc8];done)|(simp[A7,kl,hc0,hc1,hc4,e35,hc7,e68,k9,k10,hc8];done)|(simp[A7,kl,hc0,hc1,hc4,e35,hc7,e68,k9,k10,hc8]<;>omega)|(simp[kl,hc0,hc1,hc4,e35,hc7,e68,k9,k10,hc8]<;>grind))
   refine Zk ?_
   refine DL true (.seg 0 (.seg 1 (.seg 2 (.seg 4 (.seg 6 (.many (.alt 3 (.many (.alt 5 (.seg 7 (.seg 8 (.seg 9 (.seg 10 (.seg 11 (.done)))))) (.alt 7 (.seg 8 (.many (.alt 5 (.seg 9 (.seg 10 (.seg 11 (.done)))) (.alt 9 (.seg 5 (.seg 10 (.seg 11 (.done)))) (.nil))))) (.nil)))) (.alt 5 (.many (.alt 3 (.seg 7 (.seg 8 (.seg 9 (.seg 10 (.seg 11 (.done)))))) (.alt 7 (.seg 3 (.seg 8 (.seg 9 (.seg 10 (.seg 11 (.done)))))) (.nil)))) (.alt 7 (.seg 3 (.seg 8 (.many (.alt 5 (.seg 9 (.seg 10 (.seg 11 (.done)))) (.alt 9 (.seg 5 (.seg 10 (.seg 11 (.done)))) (.nil)))))) (.nil)))))))))) rfl (by kernel_rfl) λK_ hK_=>?_
   simp only[go_sem,fb5]
   refine hK_ _ _ ?_
   refine Ai (Ac ?_)
   refine Zf 7 8 (.w (([(6,.d (.bool (Iq t)))])) (((⟨[(b5,⟨8,1,[[.d (.int .i64 t.kind),.d (.int .i64 (if(A7 t.kind 6 8) then t.mat else 0)),.d (.int .i64 (if(A7 t.kind 6 8&&!decide (t.kind=6)) then t.part else 0)),.d (.slc 1 ((if(A7 t.kind 6 8||decide (t.kind=9)) then t.names else []).map Aq)),.d (.slc 1 ((if(A7 t.kind 6 8) then t.keys else []).map Aq)),.d (.bool (decide (t.kind=10)&&t.over)),.d (.int .i64 (if t.kind=10 then t.limit else 0)),.nils]]⟩),(b1,⟨8,1,[AJ t]⟩)],[]⟩:AH).objs)) ?_ ?_ ⟨⟨rfl⟩,⟨rfl⟩⟩)
   · simp only[go_sem,Kt]<;>(first|(simp[Iq,hc8];done)|(simp[Iq,A7,hc8];done)|(simp[Iq,A7,kl,hc0,hc1,hc4,e35,hc7,e68,k9,k10,hc8]<;>omega)|(simp[Iq,kl,hc0,hc1,hc4,e35,hc7,e68,k9,k10,hc8]<;>grind))
   · simp only[go_sem]<;>(first|(simp[hc8];done)|(simp[A7,hc8];done)|(simp[A7,kl,hc0,hc1,hc4,e35,hc7,e68,k9,k10,hc8]<;>omega)|(simp[kl,hc0,hc1,hc4,e35,hc7,e68,k9,k10,hc8]<;>grind))
  have e68:A7 t.kind 6 8=false:=by simp[A7];omega
  refine Zp 95 ?_
  refine Zc (λhc9=>?_) λhc9=>?_
  ·refine Zp 15 ?_
   refine Zr (Ai (Ac ?_))
   refine Zf 7 8 (.w (([(6,.d (.bool (Iq t)))])) (((⟨[(b5,⟨8,1,[[.d (.int .i64 t.kind),.d (.int .i64 (if(A7 t.kind 6 8) then t.mat else 0)),.d (.int .i64 (if(A7 t.kind 6 8&&!decide (t.kind=6)) then t.part else 0)),.d (.slc 1 ((if(A7 t.kind 6 8||decide (t.kind=9)) then t.names else []).map Aq)),.d (.slc 1 ((if(A7 t.kind 6 8) then t.keys else []).map Aq)),.d (.bool (decide (t.kind=10)&&t.over)),.d (.int .i64 (if t.kind=10 then t.limit else 0)),.nils]]⟩),(b1,⟨8,1,[AJ t]⟩)],[]⟩:AH).objs)) ?_ ?_ ⟨⟨rfl⟩,⟨rfl⟩⟩)
   · simp only[go_sem,Kt]<;>(first|(simp[Iq,hc9];done)|(simp[Iq,A7,hc9];done)|(simp[Iq,A7,kl,hc0,hc1,hc4,e35,hc7,e68,hc9]<;>omega)|(simp[Iq,kl,hc0,hc1,hc4,e35,hc7,e68,hc9]<;>grind))
   · simp only[go_sem]<;>(first|(simp[hc9];done)|(simp[A7,hc9];done)|(simp[A7,kl,hc0,hc1,hc4,e35,hc7,e68,hc9]<;>omega)|(simp[kl,hc0,hc1,hc4,e35,hc7,e68,hc9]<;>grind))
  refine Zp 79 ?_
  refine Zc (λhc10=>?_) λhc10=>?_
  ·refine Zp 15 ?_
   refine DL true (.seg 0 (.seg 1 (.seg 2 (.seg 4 (.many (.alt 3 (.seg 5 (.seg 6 (.seg 7 (.done)))) (.alt 5 (.seg 3 (.seg 6 (.seg 7 (.done)))) (.nil)))))))) rfl (by kernel_rfl) λK_ hK_=>?_
   simp only[go_sem,fb5]
   refine hK_ _ _ ?_
   refine Ai (Ac ?_)
   refine Zf 7 8 (.w (([(6,.d (.bool (Iq t)))])) (((⟨[(b5,⟨8,1,[[.d (.int .i64 t.kind),.d (.int .i64 (if(A7 t.kind 6 8) then t.mat else 0)),.d (.int .i64 (if(A7 t.kind 6 8&&!decide (t.kind=6)) then t.part else 0)),.d (.slc 1 ((if(A7 t.kind 6 8||decide (t.kind=9)) then t.names else []).map Aq)),.d (.slc 1 ((if(A7 t.kind 6 8) then t.keys else []).map Aq)),.d (.bool (decide (t.kind=10)&&t.over)),.d (.int .i64 (if t.kind=10 then t.limit else 0)),.nils]]⟩),(b1,⟨8,1,[AJ t]⟩)],[]⟩:AH).objs)) ?_ ?_ ⟨⟨rfl⟩,⟨rfl⟩⟩)
   · simp only[go_sem,Kt]<;>(first|(simp[Iq,hc10];done)|(simp[Iq,A7,hc10];done)|(simp[Iq,A7,kl,hc0,hc1,hc4,e35,hc7,e68,hc9,hc10]<;>omega)|(simp[Iq,kl,hc0,hc1,hc4,e35,hc7,e68,hc9,hc10]<;>grind))
   · simp only[go_sem]<;>(first|(simp[hc10];done)|(simp[A7,hc10];done)|(simp[A7,kl,hc0,hc1,hc4,e35,hc7,e68,hc9,hc10]<;>omega)|(simp[kl,hc0,hc1,hc4,e35,hc7,e68,hc9,hc10]<;>grind))
  refine Z5 ?_
  refine Zf 7 8 (.w (([(6,.d (.bool (Iq t)))])) (((⟨[(b5,⟨8,1,[[.d (.int .i64 t.kind),.d (.int .i64 (if(A7 t.kind 6 8) then t.mat else 0)),.d (.int .i64 (if(A7 t.kind 6 8&&!decide (t.kind=6)) then t.part else 0)),.d (.slc 1 ((if(A7 t.kind 6 8||decide (t.kind=9)) then t.names else []).map Aq)),.d (.slc 1 ((if(A7 t.kind 6 8) then t.keys else []).map Aq)),.d (.bool (decide (t.kind=10)&&t.over)),.d (.int .i64 (if t.kind=10 then t.limit else 0)),.nils]]⟩),(b1,⟨8,1,[AJ t]⟩)],[]⟩:AH).objs)) ?_ ?_ ⟨⟨rfl⟩,⟨rfl⟩⟩)
  · simp only[go_sem,Kt]<;>(first|(simp[Iq,e35,e68,hc9,hc10];done)|(simp[Iq,A7,kl,hc0,hc1,hc4,e35,hc7,e68,hc9,hc10];done)|(simp[Iq,A7,kl,hc0,hc1,hc4,e35,hc7,e68,hc9,hc10]<;>omega)|(simp[Iq,kl,hc0,hc1,hc4,e35,hc7,e68,hc9,hc10]<;>grind))
  · simp only[go_sem]<;>(first|(simp[hc7,e68,hc9,hc10];done)|(simp[A7,kl,hc0,hc1,hc4,e35,hc7,e68,hc9,hc10];done)|(simp[A7,kl,hc0,hc1,hc4,e35,hc7,e68,hc9,hc10]<;>omega)|(simp[kl,hc0,hc1,hc4,e35,hc7,e68,hc9,hc10]<;>grind))
 rintro _ _ ⟨⟨rfl⟩,⟨rfl⟩⟩
 refine Zy ?_
 refine Zj 3 (λlc hc=>Av lc [(6,.d (.bool (eqB t)))]/\Av hc (⟨[(b1,⟨8,1,[AJ t]⟩)],[]⟩)) ?_ ?_
 ·refine Zp 140737488355339 ?_
  refine Zc (λhc11=>?_) λhc11=>?_
  ·have hne:neP t:=by unfold neP;simpa using hc11
   refine Z6 ?_
   refine Ze 3 4 [b5] [] [] [] (.e ⟨?_,?_⟩)
   · (try simp only[go_sem])<;>first|exact⟨rfl⟩|(constructor;first|(rw[Adx t hne];done)|(rw[Adw t hne];done))
   · (try simp only[go_sem,fb5])<;>first|exact⟨rfl⟩|(constructor;skip)
  have hne:¬neP t:=by unfold neP;simpa using hc11
  refine Zk ?_
  refine Ze 3 4 [b5] [] [] [] (.e ⟨?_,?_⟩)
  · (try simp only[go_sem])<;>first|exact⟨rfl⟩|(constructor;first|(rw[Adx t hne];done)|(rw[Adw t hne];done))
  · (try simp only[go_sem,fb5])<;>first|exact⟨rfl⟩|(constructor;skip)
 rintro _ _ ⟨⟨rfl⟩,⟨rfl⟩⟩
 refine Zy ?_
 refine Zj 3 (λlc hc=>Av lc [(6,.d (.bool (eqB t&&(A7 t.kind 3 5||decide (t.kids.length=0)))))]/\Av hc (⟨[(b1,⟨8,1,[AJ t]⟩)],[]⟩)) ?_ ?_
 ·refine Zp 1031 ?_
  refine Zc (λhc12=>?_) λhc12=>?_
  ·have e35:A7 t.kind 3 5=false:=by simp[A7];omega
   refine Z6 ?_
   refine Zf 3 4 (.e ⟨?_,ZG⟩)
   · (try simp only[go_sem])<;>first|exact⟨rfl⟩|(constructor;simp[e35])
  have e35:A7 t.kind 3 5=true:=by simp[A7];omega
  refine Zk ?_
  refine Zf 3 4 (.e ⟨?_,ZG⟩)
  · (try simp only[go_sem])<;>first|exact⟨rfl⟩|(constructor;simp[e35])
 rintro _ _ ⟨⟨rfl⟩,⟨rfl⟩⟩
 rw[AeW t hk]
 refine Zy ?_
 refine Zs (Zp 19 ?_)
 refine Zc (λhc13=>?_) λhc13=>?_
 ·refine Zp 4 (Aa.ret ?_)
  refine Zy ?_
  rw[Sm _ _ hk hd6 hc13]
 have h0:=Vq _ _ hk hd6 hc13
 refine Zk ?_
 refine Zs (Zp 113 ?_)
 refine Aa.block (Zy ?_)
 refine Zl 7 8 (λn lc hc=> ∃(k:Nat),n=t.kids.length-k/\Av lc [(183,.d (.int .i64 k))]/\Av hc (⟨[(b1,⟨8,1,[AJ t]⟩)],[]⟩)/\(k<=t.kids.length)/\(tF t d=Xf (t.kids.drop k) (d+1))) ?_ ?_
 · refine ⟨_,0,rfl,ZE,ZE,?_,?_⟩
   all_goals(first|omega|exact h0)
 rintro _ _ _ ⟨k,rfl,⟨rfl⟩,⟨rfl⟩,hk0,htf⟩
 refine Zy ?_
 refine Zp 31 ?_
 refine Zs (Zc (λhc14=>?_) λhc14=>?_)
 ·have hlt:k<t.kids.length:=by omega
  have zf1:=λd0_=>BJ t k d0_ hlt
  refine Zk ?_
  refine Zs (Aa.block (Zx ?_))
  simp only[go_sem,zf1]
  (repeat(with_reducible refine And.intro ZS ?_))
  intro bz1
  first|intro fbz1|have fbz1:=True.intro
  try simp only[Ab] at fbz1
  refine Zx ?_
  simp only[go_sem,fbz1]
  (repeat(with_reducible refine And.intro ZS ?_))
  refine Aw rfl rfl rfl rfl (ih _ (List.getElem_mem hlt) _ ZO ZO) rfl rfl ?_
  refine Zy ?_
  refine Zm 61 ?_
  refine Zp 95 ?_
  refine Zc (λhc15=>?_) λhc15=>?_
  ·refine Zp 2 (Aa.ret ?_)
   refine Zy ?_
   rw[htf,Kg _ _ _ hlt,if_neg hc15]
  refine Z5 ?_
  refine Z6 ?_
  refine Ze 13 16 [bz1] [] [] [] (.e ⟨_,ZM,k+1,rfl,ZE,ZE,?_,?_⟩)
  · omega
  · rw [htf,Kg _ _ _ hlt,if_pos hc15]
 refine Z4 ?_
 refine Zm 0 ?_
 refine Zp 1 (Aa.ret ?_)
 refine Zy ?_
 have:t.kids.drop k=[]:=List.drop_eq_nil_of_le ZO
 rw[htf,this,Xf]
end
section
theorem QY (T:Ap) (t:AM) (ok:t.Ok) (d:Int) (hd: -9<=d) (hd2:d<=7):PC prog T 244 [.agg (AJ t),.d (.int .i64 d)] (.d (.int .i64 (tF t d))):=by
 induction t using AM.ind generalizing d with
 |h t ih=>exact Mm T t ok d hd hd2 λx hx d h1 h2=>ih x hx (ok.inv.2.2.2 x hx) d h1 h2
mutual
def cF:Ax->Int->Int
 | .mk k tx t a e,d=>if A7 k 1 10=false then 2 else if 6<d then 1 else if k=2 then(if 0<tx.length then 3 else if tF t 1=0 then(if FX a (d+1)=0 then Yp e d else FX a (d+1)) else tF t 1)
  else if Xv (.mk k tx t a e)=true then 0 else 3
def FX:List Ax->Int->Int
 |[],_=>0
 |x::l,d=>if cF x d=0 then FX l d else cF x d
def Yp:List Ax->Int->Int
 |[],_=>0
 |[x],d=>if x.kind=2 then cF x d else cF x (d+1)
 |x::y::l,d=>if cF x (d+1)=0 then FX (y::l) (d+1) else cF x (d+1)
end
theorem QX (c:Ax) (d:Int):cF c d=if A7 c.kind 1 10=false then 2 else if 6<d then 1 else if c.kind=2 then(if 0<c.texts.length then 3 else if tF c.test 1=0 then(if FX c.thn (d+1)=0 then Yp c.els d else FX c.thn (d+1)) else tF c.test 1) else if Xv c=true then 0 else 3:=by
 cases c;rw[cF];rfl
theorem J9 (l:List Ax) (d:Int) (k:Nat) (h:k<l.length):FX (l.drop k) d=if cF (l[k]'h) d=0 then FX (l.drop (k+1)) d else cF (l[k]'h) d:=by
 rw[List.drop_eq_getElem_cons h,FX]
theorem Up (l:List Ax) (d:Int) (k:Nat) (h:l.length<=k):FX (l.drop k) d=0:=by rw[List.drop_eq_nil_of_le h,FX]
def BQ (c:Ax):Bool:=decide (c.els.length=1)&&decide ((c.els.headD (.mk 0 [] default [] [])).kind=2)
theorem QW (c:Ax) (d:Int) (h:BQ c=true) (h1:0<c.els.length):Yp c.els d=cF (c.els[0]'h1) d:=by
 obtain⟨k,tx,t,a,e⟩:=c
 simp only[BQ,Ax.els] at*
 match e,h,h1 with
 |[x],h,h1=>simp at h;simp[Yp,h]
theorem NU (c:Ax) (d:Int) (h:BQ c=false):Yp c.els d=FX c.els (d+1):=by
 obtain⟨k,tx,t,a,e⟩:=c
 simp only[BQ,Ax.els] at*
 match e,h with
 |[],h=>simp[Yp,FX]
 |[x],h=>simp at h;simp[Yp,FX,h]
 |x::y::l,h=>simp[Yp,FX]
theorem Us (c:Ax) (d:Int) (h:A7 c.kind 1 10=false):cF c d=2:=by rw[QX,if_pos h]
theorem Uq (c:Ax) (d:Int) (h:A7 c.kind 1 10=true) (h2:6<d):cF c d=1:=by rw[QX,if_neg (by rw[h];simp),if_pos h2]
theorem F2 (c:Ax) (d:Int) (h:A7 c.kind 1 10=true) (h2:d<=6) (h3:c.kind≠2):cF c d=if Xv c=true then 0 else 3:=by rw[QX,if_neg (by rw[h];simp),if_neg ZO,if_neg h3]
theorem Ur (c:Ax) (d:Int) (h2:d<=6) (h3:c.kind=2):cF c d=if 0<c.texts.length then 3 else if tF c.test 1=0 then(if FX c.thn (d+1)=0 then Yp c.els d else FX c.thn (d+1)) else tF c.test 1:=by rw[QX,if_neg (by rw[h3];simp[A7]),if_neg ZO,if_pos h3]
theorem Gj (c:Ax) (h:0<c.els.length):BQ c=(decide (c.els.length=1)&&decide ((c.els[0]'h).kind=2)):=by
 obtain⟨k,tx,t,a,e⟩:=c
 simp only[BQ,Ax.els] at*
 match e,h with
 |x::l,h=>rfl
theorem JF (c:Ax) (h:¬c.els.length=1):BQ c=false:=by simp[BQ,h]
theorem MN (c:Ax):Xv c=(decide (c.test.kind=0)&&DF c.test false false false false false false&&decide (c.thn.length=0)&&decide (c.els.length=0)&&
 (if c.kind=1\/c.kind=8\/c.kind=9 then decide (0<c.texts.length) else if A7 c.kind 5 7 then decide (c.texts.length=1) else decide (c.texts.length=0))):=by rw[Xv]
attribute [local go_sem] List.getD_nil List.take_nil List.map_nil List.headD_nil decide_false in
theorem AbU (T:Ap) (c:Ax) (h0:c.els.length=0):PC prog T 251 [.agg (BW c)] (.d (.bool (BQ c))):=by
 refine⟨call251,Ar.enterS func251 rfl ntmps251 rfl λhb=>?_⟩
 have hE:E6 c=[]:=by rw[C1,List.map_eq_nil_iff];exact List.eq_nil_of_length_eq_zero h0
 have hi0:((c.els.length:Int)=1)=False:=by simp only[eq_iff_iff,iff_false];omega
 simp only[go_sem,results251]
 refine Zx ?_
 simp only[go_sem,hE]
 intro b1
 first|intro fb1|have fb1:=True.intro
 try simp only[Ab] at fb1
 refine Zp 4 (Aa.ret ?_)
 refine Zy ?_
 rw[JF c ZO,Bool.and_false]
theorem AbV (T:Ap) (c:Ax) (h0:0<c.els.length):PC prog T 251 [.agg (BW c)] (.d (.bool (BQ c))):=by
 refine⟨call251,Ar.enterS func251 rfl ntmps251 rfl λhb=>?_⟩
 have el1:((c.els.length:Int)=1)=(c.els.length=1):=by simp only[eq_iff_iff];omega
 have zf1:=λd0_=>Hp c _ d0_ h0
 simp only[go_sem,results251]
 refine Zx (Zy ?_)
 intro b1
 first|intro fb1|have fb1:=True.intro
 try simp only[Ab] at fb1
 refine Zp 4 (Aa.ret ?_)
 refine Zy ?_
 rw[Gj c h0]
theorem U1 (T:Ap) (c:Ax):PC prog T 251 [.agg (BW c)] (.d (.bool (BQ c))):=by
 rcases Nat.eq_zero_or_pos c.els.length with h|h
 ·exact AbU T c h
 ·exact AbV T c h
theorem FL (T:Ap) (l:List Ax) (hl:l.length*208<=140737488355328) (d:Int) (hd: -9<=d) (hd2:d<=7) (ih:∀x∈l,PC prog T 195 [.agg (BW x),.d (.int .i64 d)] (.d (.int .i64 (cF x d)))):PC prog T 112 [.d (.slc 12 (l.map AW)),.d (.int .i64 d)] (.d (.int .i64 (FX l d))):=by
 refine⟨call112,Ar.enterS func112 rfl ntmps112 rfl λhb=>?_⟩
 simp only[go_sem,results112]
 refine Zp 3 ?_
 refine Zs (Zp 30 ?_)
 refine Aa.block (Zy ?_)
 refine Zl 7 8 (λn lc hc=> ∃(k:Nat),n=l.length-k/\Av lc [(10,.d (.int .i64 k))]/\Av hc (⟨[],[]⟩)/\(k<=l.length)/\(FX l d=FX (l.drop k) d)) ?_ ?_
 · refine ⟨_,0,rfl,ZE,ZE,?_,?_⟩
   all_goals(first|omega|rfl)
 rintro _ _ _ ⟨k,rfl,⟨rfl⟩,⟨rfl⟩,hk0,htf⟩
 refine Zy ?_
 refine Zp 31 ?_
 refine Zs (Zc (λhc0=>?_) λhc0=>?_)
 ·have hlt:k<l.length:=by omega
  have zf1:=λd0_=>Al AW _ _ d0_ hlt
  refine Zk ?_
  refine Zs (Aa.block (Zx ?_))
  simp only[go_sem,zf1]
  (repeat(with_reducible refine And.intro ZS ?_))
  intro bz1
  first|intro fbz1|have fbz1:=True.intro
  try simp only[Ab] at fbz1
  refine Zx (Zy ?_)
  refine Aw rfl rfl rfl rfl (ih _ (List.getElem_mem hlt)) rfl rfl ?_
  refine Zy ?_
  refine Zm 61 ?_
  refine Zp 95 ?_
  refine Zc (λhc1=>?_) λhc1=>?_
  ·refine Zp 2 (Aa.ret ?_)
   refine Zy ?_
   rw[htf,J9 _ _ _ hlt,if_neg hc1]
  refine Z5 ?_
  refine Z6 ?_
  refine Ze 13 16 [bz1] [] [] [] (.e ⟨_,ZM,k+1,rfl,ZE,ZE,?_,?_⟩)
  · omega
  · rw [htf,J9 _ _ _ hlt,if_pos hc1]
 refine Z4 ?_
 refine Zm 0 ?_
 refine Zp 1 (Aa.ret ?_)
 refine Zy ?_
 rw[htf,Up _ _ _ ZO]
theorem Fn (T:Ap) (l:List Ax) (hl:l.length*208<=140737488355328) (d:Int) (hd: -9<=d) (hd2:d<=7) (ih:∀x∈l,PC prog T 201 [.agg (BW x),.d (.int .i64 d)] (.d (.int .i64 (cF x d)))):PC prog T 117 [.d (.slc 12 (l.map AW)),.d (.int .i64 d)] (.d (.int .i64 (FX l d))):=by
 refine⟨call117,Ar.enterS func117 rfl ntmps117 rfl λhb=>?_⟩
 simp only[go_sem,results117]
 refine Zp 3 ?_
 refine Zs (Zp 7 ?_)
 refine Aa.block (Zy ?_)
 refine Zl 3 4 (λn lc hc=> ∃(k:Nat),n=l.length-k/\Av lc [(5,.d (.int .i64 k))]/\Av hc (⟨[],[]⟩)/\(k<=l.length)/\(FX l d=FX (l.drop k) d)) ?_ ?_
 · refine ⟨_,0,rfl,ZE,ZE,?_,?_⟩
   all_goals(first|omega|rfl)
 rintro _ _ _ ⟨k,rfl,⟨rfl⟩,⟨rfl⟩,hk0,htf⟩
 refine Zy ?_
 refine Zs (Zp 71 ?_)
 refine Zc (λhc0=>?_) λhc0=>?_
 ·have hlt:k<l.length:=by omega
  have zf1:=λd0_=>Al AW _ _ d0_ hlt
  refine Zk ?_
  refine Zs (Aa.block (Zx ?_))
  simp only[go_sem,zf1]
  (repeat(with_reducible refine And.intro ZS ?_))
  refine Aw rfl rfl rfl rfl (ih _ (List.getElem_mem hlt)) rfl rfl ?_
  refine Zy ?_
  refine Zm 15 ?_
  refine Zp 47 ?_
  refine Zc (λhc1=>?_) λhc1=>?_
  ·refine Zp 4 (Aa.ret ?_)
   refine Zy ?_
   rw[htf,J9 _ _ _ hlt,if_neg hc1]
  refine Z5 ?_
  refine Z6 ?_
  refine Zf 3 4 (.e ⟨_,ZM,k+1,rfl,ZE,ZE,?_,?_⟩)
  · omega
  · rw [htf,J9 _ _ _ hlt,if_pos hc1]
 refine Z4 ?_
 refine Zm 0 ?_
 refine Zp 1 (Aa.ret ?_)
 refine Zy ?_
 rw[htf,Up _ _ _ ZO]
theorem JP (c:Ax):Xv c=(decide (c.test.kind=0)&&DF c.test false false false false false false&&decide ((c.thn.length:Int)=0)&&decide ((c.els.length:Int)=0)&&
 (if c.kind=1\/c.kind=8\/c.kind=9 then decide (0<(c.texts.length:Int)) else if A7 c.kind 5 7=true then decide ((c.texts.length:Int)=1) else decide ((c.texts.length:Int)=0))):=by
 rw[MN]
 congr 1
 ·congr 1
  ·congr 1
   rw[decide_eq_decide];omega
  ·rw[decide_eq_decide];omega
 ·split
  ·rw[decide_eq_decide];omega
  ·split
   ·rw[decide_eq_decide];omega
   ·rw[decide_eq_decide];omega
theorem Im (c:Ax):Xv c=true↔(c.test.kind=0/\DF c.test false false false false false false=true)/\c.thn.length=0/\c.els.length=0/\((c.kind=1\/c.kind=8\/c.kind=9)->0<c.texts.length)/\(¬(c.kind=1\/c.kind=8\/c.kind=9)->(5<=c.kind/\c.kind<=7)->c.texts.length=1)/\(¬(c.kind=1\/c.kind=8\/c.kind=9)->¬(5<=c.kind/\c.kind<=7)->c.texts.length=0):=by
 rw[MN]
 simp only[Bool.and_eq_true,decide_eq_true_eq]
 by_cases h1:c.kind=1\/c.kind=8\/c.kind=9
 ·simp only[if_pos h1,decide_eq_true_eq];grind
 ·by_cases h2:5<=c.kind/\c.kind<=7
  ·simp only[if_neg h1,if_pos (show A7 c.kind 5 7=true by simp[A7];exact h2),decide_eq_true_eq];grind
  ·simp only[if_neg h1,if_neg (show¬A7 c.kind 5 7=true by simp[A7];omega),decide_eq_true_eq];grind
theorem if0 {a b:Int} (h:(if a=0 then b else a)=0):a=0/\b=0:=by
 by_cases ha:a=0
 ·rw[if_pos ha] at h;exact⟨ha,h⟩
 ·rw[if_neg ha] at h;exact absurd h ha
theorem ifn {a b x:Int} (h:¬(if a=0 then b else a)=0):(if a=0 then(if b=0 then x else b) else a)=(if a=0 then b else a):=by
 by_cases ha:a=0
 ·rw[if_pos ha] at h⊢;rw[if_neg h,if_pos ha]
 ·rw[if_neg ha,if_neg ha]
theorem JB (T:Ap) (c:Ax) (ok:c.Ok) (d:Int) (hd: -9<=d) (hd2:d<=7) (i1:∀d:Int,-9<=d->d<=7->PC prog T 117 [.d (.slc 12 (Fw c)),.d (.int .i64 d)] (.d (.int .i64 (FX c.thn d)))) (i2:∀d:Int,-9<=d->d<=7->PC prog T 117 [.d (.slc 12 (E6 c)),.d (.int .i64 d)] (.d (.int .i64 (FX c.els d)))) (i3:∀x∈c.els,∀d:Int,-9<=d->d<=7->PC prog T 201 [.agg (BW x),.d (.int .i64 d)] (.d (.int .i64 (cF x d)))):PC prog T 201 [.agg (BW c),.d (.int .i64 d)] (.d (.int .i64 (cF c d))):=by
 refine⟨call201,Ar.enterS func201 rfl ntmps201 rfl λhb=>?_⟩
 obtain⟨s1,s2,s3,s4,s5,s6⟩:=ok.inv
 simp only[go_sem,results201]
 refine Zx (Zy ?_)
 intro b1
 first|intro fb1|have fb1:=True.intro
 try simp only[Ab] at fb1
 refine Zs (Zx (Zy ?_))
 refine ZP (Ry T _ _ _) ?_
 refine Zy ?_
 refine Zm 134 ?_
 refine Zc (λhc0=>?_) λhc0=>?_
 ·refine Zp 4 (Aa.ret ?_)
  refine Zy ?_
  rw[Us c d hc0]
 have hk:A7 c.kind 1 10=true:=hc0
 refine Zk ?_
 refine Zs (Zp 19 ?_)
 refine Zc (λhc1=>?_) λhc1=>?_
 ·refine Zp 4 (Aa.ret ?_)
  refine Zy ?_
  rw[Uq c d hk ZO]
 have hd6:d<=6:=by omega
 refine Zk ?_
 refine Zs (Zp 35 ?_)
 refine Zc (λhc2=>?_) λhc2=>?_
 ·refine Zx (Zy ?_)
  refine ZQ (λhg=>Ni T _ _ _ _ _ _ _) ?_
  refine Zy ?_
  refine Zm 6 ?_
  refine Zp 7 ?_
  refine Zy ?_
  refine Zj 0 (λlc hc=>Av lc [(5,.d (.bool (Xv c)))]/\Av hc (⟨[(b1,⟨12,1,[BW c]⟩)],[]⟩)) ?_ ?_
  ·refine Zp 32775 ?_
   refine Zc (λhc3=>?_) λhc3=>?_
   ·refine Z6 ?_
    refine Zf 0 2 (.e ⟨?_,ZG⟩)
    · (try simp only[go_sem])<;>first|exact⟨rfl⟩|(constructor;first|(rw[JP,if_pos ZO];done)|(rw[JP,if_neg ZO,if_pos hc4];done)|(rw[JP,if_neg ZO,if_neg (by rw[hc4];simp)];done))
   refine Zx (Zy ?_)
   refine ZP (Ry T _ _ _) ?_
   refine Zy ?_
   refine Zm 70 ?_
   refine Zc (λhc4=>?_) λhc4=>?_
   ·refine Z6 ?_
    refine Zf 0 1 (.e ⟨?_,ZG⟩)
    · (try simp only[go_sem])<;>first|exact⟨rfl⟩|(constructor;first|(rw[JP,if_pos ZO];done)|(rw[JP,if_neg ZO,if_pos hc4];done)|(rw[JP,if_neg ZO,if_neg (by rw[hc4];simp)];done))
   refine Z6 ?_
   refine Zf 0 1 (.e ⟨?_,ZG⟩)
   · (try simp only[go_sem])<;>first|exact⟨rfl⟩|(constructor;first|(rw[JP,if_pos ZO];done)|(rw[JP,if_neg ZO,if_pos hc4];done)|(rw[JP,if_neg ZO,if_neg (by rw[hc4];simp)];done))
  rintro _ _ ⟨⟨rfl⟩,⟨rfl⟩⟩
  refine Zy ?_
  refine Zs (Zp 4 ?_)
  refine Zc (λhc5=>?_) λhc5=>?_
  ·refine Zp 1 (Aa.ret ?_)
   refine Zy ?_
   rw[F2 c d hk hd6 hc2,if_neg (by rw[hc5];simp)]
  refine Zk ?_
  refine Zp 1 (Aa.ret ?_)
  refine Zy ?_
  rw[F2 c d hk hd6 hc2,if_pos hc5]
 refine Zk ?_
 refine Zs (Zp 67 ?_)
 refine Zc (λhc6=>?_) λhc6=>?_
 ·refine Zp 4 (Aa.ret ?_)
  refine Zy ?_
  rw[Ur c d hd6 hc2,if_pos ZO]
 have h1:cF c d=if tF c.test 1=0 then(if FX c.thn (d+1)=0 then Yp c.els d else FX c.thn (d+1)) else tF c.test 1:=by rw[Ur c d hd6 hc2,if_neg ZO]
 refine Zk ?_
 refine Zx (Zy ?_)
 refine Aw rfl rfl rfl rfl (So T _ s2 _ ZO ZO) rfl rfl ?_
 refine Zy ?_
 refine Zn 7 ?_
 refine Zj 3 (λlc hc=>Av lc [(7,.d (.int .i64 (if tF c.test 1=0 then FX c.thn (d+1) else tF c.test 1)))]/\Av hc (⟨[(b1,⟨12,1,[BW c]⟩)],[]⟩)) ?_ ?_
 ·refine Zp 23 ?_
  refine Zc (λhc7=>?_) λhc7=>?_
  ·refine Zq λK_ k_=>?_
   refine Zy ?_
   (repeat(with_reducible refine And.intro ZS ?_))
   refine Aw rfl rfl rfl rfl (i1 _ ZO ZO) rfl rfl ?_
   refine Zy ?_
   refine k_ _ _ (Ac ?_)
   refine Zf 3 4 (.e ⟨?_,ZG⟩)
   · (try simp only[go_sem])<;>first|exact⟨rfl⟩|(constructor;simp[hc7])
  refine Zk ?_
  refine Zf 3 4 (.e ⟨?_,ZG⟩)
  · (try simp only[go_sem])<;>first|exact⟨rfl⟩|(constructor;simp[hc7])
 rintro _ _ ⟨⟨rfl⟩,⟨rfl⟩⟩
 refine Zy ?_
 refine Zs (Zx (Zy ?_))
 refine ZQ (λhg=>U1 T _) ?_
 refine Zy ?_
 refine Zm 263 ?_
 refine Zc (λhc8=>?_) λhc8=>?_
 ·obtain⟨hz,he⟩:=hc8
  have h0:0<c.els.length:=by rcases Nat.eq_zero_or_pos c.els.length with h|h;exact absurd he (by rw[JF c ZO];simp);exact h
  have zf1:=λd0_=>Hp c _ d0_ h0
  refine Zq λK_ k_=>?_
  simp only[go_sem,zf1]
  (repeat(with_reducible refine And.intro ZS ?_))
  refine Aw rfl rfl rfl rfl (i3 _ (List.getElem_mem h0) _ ZO ZO) rfl rfl ?_
  refine Zy ?_
  refine k_ _ _ (Ac ?_)
  refine Zm 4 ?_
  refine Zp 1 (Aa.ret ?_)
  refine Zy ?_
  first|(have hq:=if0 hz;rw[h1,if_pos hq.1,if_pos hq.2,QW c d he h0];done)|(have hq:=if0 hc9;rw[h1,if_pos hq.1,if_pos hq.2,NU c d (by rcases hc8 with h|h;exact absurd hc9 h;exact h)];done)|(rw[h1,ifn hc9])
 refine Zp 39 ?_
 refine Zc (λhc9=>?_) λhc9=>?_
 ·refine Zq λK_ k_=>?_
  refine Zy ?_
  (repeat(with_reducible refine And.intro ZS ?_))
  refine Aw rfl rfl rfl rfl (i2 _ ZO ZO) rfl rfl ?_
  refine Zy ?_
  refine k_ _ _ (Ac ?_)
  refine Zm 4 ?_
  refine Zp 1 (Aa.ret ?_)
  refine Zy ?_
  first|(have hq:=if0 hz;rw[h1,if_pos hq.1,if_pos hq.2,QW c d he h0];done)|(have hq:=if0 hc9;rw[h1,if_pos hq.1,if_pos hq.2,NU c d (by rcases hc8 with h|h;exact absurd hc9 h;exact h)];done)|(rw[h1,ifn hc9])
 refine Zk ?_
 refine Zp 4 (Aa.ret ?_)
 refine Zy ?_
 first|(have hq:=if0 hz;rw[h1,if_pos hq.1,if_pos hq.2,QW c d he h0];done)|(have hq:=if0 hc9;rw[h1,if_pos hq.1,if_pos hq.2,NU c d (by rcases hc8 with h|h;exact absurd hc9 h;exact h)];done)|(rw[h1,ifn hc9])
attribute [local go_sem] List.getD_nil List.take_nil List.map_nil List.headD_nil decide_false in
theorem Ta (T:Ap) (c:Ax) (ok:c.Ok) (d:Int) (hd: -9<=d) (hd2:d<=7) (i1:∀d:Int,-9<=d->d<=7->PC prog T 112 [.d (.slc 12 (Fw c)),.d (.int .i64 d)] (.d (.int .i64 (FX c.thn d)))) (i2:∀d:Int,-9<=d->d<=7->PC prog T 112 [.d (.slc 12 (E6 c)),.d (.int .i64 d)] (.d (.int .i64 (FX c.els d)))) (i3:∀x∈c.els,∀d:Int,-9<=d->d<=7->PC prog T 195 [.agg (BW x),.d (.int .i64 d)] (.d (.int .i64 (cF x d)))):PC prog T 195 [.agg (BW c),.d (.int .i64 d)] (.d (.int .i64 (cF c d))):=by
 refine⟨call195,Ar.enterS func195 rfl ntmps195 rfl λhb=>?_⟩
 obtain⟨s1,s2,s3,s4,s5,s6⟩:=ok.inv
 simp only[go_sem,results195]
 refine Zx (Zy ?_)
 intro b1
 first|intro fb1|have fb1:=True.intro
 try simp only[Ab] at fb1
 refine Zs (Zp 2054 ?_)
 refine Zc (λhc0=>?_) λhc0=>?_
 ·refine Zp 4 (Aa.ret ?_)
  refine Zy ?_
  rw[Us c d (by simp[A7];omega)]
 have hk:A7 c.kind 1 10=true:=by simp[A7];omega
 refine Zk ?_
 refine Zs (Zp 19 ?_)
 refine Zc (λhc1=>?_) λhc1=>?_
 ·refine Zp 4 (Aa.ret ?_)
  refine Zy ?_
  rw[Uq c d hk ZO]
 have hd6:d<=6:=by omega
 refine Zk ?_
 refine Zs (Zp 35 ?_)
 refine Zc (λhc2=>?_) λhc2=>?_
 ·refine Zs (Zp 67 ?_)
  refine Zc (λhc3=>?_) λhc3=>?_
  ·refine Zp 4 (Aa.ret ?_)
   refine Zy ?_
   rw[Ur c d hd6 hc2,if_pos ZO]
  have h1:cF c d=if tF c.test 1=0 then(if FX c.thn (d+1)=0 then Yp c.els d else FX c.thn (d+1)) else tF c.test 1:=by rw[Ur c d hd6 hc2,if_neg ZO]
  refine Zk ?_
  refine Zs (Zx (Zy ?_))
  refine Aw rfl rfl rfl rfl (QY T _ s2 _ ZO ZO) rfl rfl ?_
  refine Zy ?_
  refine Zm 7 ?_
  refine Zp 23 ?_
  refine Zc (λhc4=>?_) λhc4=>?_
  ·refine Zp 4 (Aa.ret ?_)
   refine Zy ?_
   rw[h1,if_neg hc4]
  refine Zk ?_
  refine Zs (Zx (Zy ?_))
  (repeat(with_reducible refine And.intro ZS ?_))
  refine Aw rfl rfl rfl rfl (i1 _ ZO ZO) rfl rfl ?_
  refine Zy ?_
  refine Zm 11 ?_
  refine Zp 23 ?_
  refine Zc (λhc5=>?_) λhc5=>?_
  ·refine Zp 4 (Aa.ret ?_)
   refine Zy ?_
   rw[h1,if_pos hc4,if_neg hc5]
  refine Zk ?_
  refine Zs ?_
  rcases Nat.eq_zero_or_pos c.els.length with h0|h0
  ·have hE:E6 c=[]:=by rw[C1,List.map_eq_nil_iff];exact List.eq_nil_of_length_eq_zero h0
   have hi0:((c.els.length:Int)=1)=False:=by simp only[eq_iff_iff,iff_false];omega
   have i2e:∀d:Int,-9<=d->d<=7->PC prog T 112 [.d (.slc 12 []),.d (.int .i64 d)] (.d (.int .i64 (FX c.els d))):=λd a b=>by have:=i2 d a b;rwa [hE] at this
   refine Zp 32771 ?_
   refine Zc (λhc6=>?_) λhc6=>?_
   ·simp at hc6
   refine Zk ?_
   refine Zx (Zy ?_)
   (repeat(with_reducible refine And.intro ZS ?_))
   refine Aw rfl rfl rfl rfl (i2e _ ZO ZO) rfl rfl ?_
   refine Zy ?_
   refine Zm 4 ?_
   refine Aa.ret ?_
   simp only[go_sem]
   rw[h1,if_pos hc4,if_pos hc5,NU c d (JF c ZO)]
  have el1:((c.els.length:Int)=1)=(c.els.length=1):=by simp only[eq_iff_iff];omega
  have zf1:=λd0_=>Hp c _ d0_ h0
  refine Zp 32771 ?_
  refine Zc (λhc6=>?_) λhc6=>?_
  ·refine Zx ?_
   simp only[go_sem,zf1]
   (repeat(with_reducible refine And.intro ZS ?_))
   refine Aw rfl rfl rfl rfl (i3 _ (List.getElem_mem h0) _ ZO ZO) rfl rfl ?_
   refine Zy ?_
   refine Zm 4 ?_
   refine Aa.ret ?_
   simp only[go_sem]
   rw[h1,if_pos hc4,if_pos hc5,QW c d (by rw[Gj c h0];simp[hc6]) h0]
  refine Zk ?_
  refine Zx (Zy ?_)
  (repeat(with_reducible refine And.intro ZS ?_))
  refine Aw rfl rfl rfl rfl (i2 _ ZO ZO) rfl rfl ?_
  refine Zy ?_
  refine Zm 4 ?_
  refine Aa.ret ?_
  simp only[go_sem]
  rw[h1,if_pos hc4,if_pos hc5,NU c d (by rw[Gj c h0];rcases hc6 with h|h<;>simp[h])]
 refine Zk ?_
 refine Zp 6 ?_
 refine Zs (Zp 11 ?_)
 refine Aa.block (Zs (Zp 15 ?_))
 refine Zy ?_
 apply Za (z:=(_||(_||_))) 7 68
 ·refine Aa.cond _ rfl (λhc7=>?_) λhc7=>?_
  rotate_left
  ·refine Zp 15 ?_
   refine Aa.cond _ rfl (λhc8=>?_) λhc8=>?_
   rotate_left
   ·refine Z6 ?_
    refine Zf 7 8 (.e ⟨BD (ES hc7 (ES hc8 rfl)),⟨rfl⟩⟩)
   refine Aa.skip (Ac ?_)
   refine Zf 7 8 (.e ⟨BD (ES hc7 (Hc hc8)),⟨rfl⟩⟩)
  refine Aa.skip (Ac ?_)
  refine Zf 7 8 (.e ⟨BD (Hc hc7),⟨rfl⟩⟩)
 refine Zy ?_
 refine Zc (λhc9=>?_) λhc9=>?_
 ·refine Zr (Ai (Ac ?_))
  refine Zm 3 ?_
  refine Zs (Zx (Zy ?_))
  refine ZQ (λhg=>SV T _ s2) ?_
  refine Zy ?_
  (repeat(with_reducible refine And.intro ZS ?_))
  refine Zm 524288 ?_
  refine Zc (λhc13=>?_) λhc13=>?_
  ·refine Zp 1 (Aa.ret ?_)
   refine Zy ?_
   rw[F2 c d hk hd6 hc2,if_neg (by rw[Im];rintro⟨⟨a1,a2⟩,a3,a4,a5,a6,a7⟩;rcases hc13 with(h|h|h)|h<;>first|omega|(rw[a2] at h;cases h))]
  refine Zk ?_
  refine Zp 1 (Aa.ret ?_)
  refine Zy ?_
  obtain⟨⟨g1,g2,g3⟩,g4⟩:=hc13
  rw[F2 c d hk hd6 hc2,if_pos ((Im c).2 ⟨⟨g2,g3⟩,by omega,by omega,by omega,by omega,by omega⟩)]
 refine Zs (Zp 23 ?_)
 refine Zy ?_
 apply Za (z:=(_||(_||_))) 3 76
 ·refine Aa.cond _ rfl (λhc10=>?_) λhc10=>?_
  rotate_left
  ·refine Zp 15 ?_
   refine Aa.cond _ rfl (λhc11=>?_) λhc11=>?_
   rotate_left
   ·refine Z6 ?_
    refine Zf 3 8 (.e ⟨BD (ES hc10 (ES hc11 rfl)),⟨rfl⟩⟩)
   refine Aa.skip (Ac ?_)
   refine Zf 3 8 (.e ⟨BD (ES hc10 (Hc hc11)),⟨rfl⟩⟩)
  refine Aa.skip (Ac ?_)
  refine Zf 3 8 (.e ⟨BD (Hc hc10),⟨rfl⟩⟩)
 refine Zy ?_
 refine Zc (λhc12=>?_) λhc12=>?_
 ·refine Zr (Ai (Ac ?_))
  refine Zm 3 ?_
  refine Zs (Zx (Zy ?_))
  refine ZQ (λhg=>SV T _ s2) ?_
  refine Zy ?_
  (repeat(with_reducible refine And.intro ZS ?_))
  refine Zm 524288 ?_
  refine Zc (λhc13=>?_) λhc13=>?_
  ·refine Zp 1 (Aa.ret ?_)
   refine Zy ?_
   rw[F2 c d hk hd6 hc2,if_neg (by rw[Im];rintro⟨⟨a1,a2⟩,a3,a4,a5,a6,a7⟩;rcases hc13 with(h|h|h)|h<;>first|omega|(rw[a2] at h;cases h))]
  refine Zk ?_
  refine Zp 1 (Aa.ret ?_)
  refine Zy ?_
  obtain⟨⟨g1,g2,g3⟩,g4⟩:=hc13
  rw[F2 c d hk hd6 hc2,if_pos ((Im c).2 ⟨⟨g2,g3⟩,by omega,by omega,by omega,by omega,by omega⟩)]
 refine Z5 ?_
 refine Zs (Zx (Zy ?_))
 refine ZQ (λhg=>SV T _ s2) ?_
 refine Zy ?_
 (repeat(with_reducible refine And.intro ZS ?_))
 refine Zm 1048576 ?_
 refine Zc (λhc13=>?_) λhc13=>?_
 ·refine Zp 1 (Aa.ret ?_)
  refine Zy ?_
  rw[F2 c d hk hd6 hc2,if_neg (by rw[Im];rintro⟨⟨a1,a2⟩,a3,a4,a5,a6,a7⟩;rcases hc13 with(h|h|h)|h<;>first|omega|(rw[a2] at h;cases h))]
 refine Zk ?_
 refine Zp 1 (Aa.ret ?_)
 refine Zy ?_
 obtain⟨⟨g1,g2,g3⟩,g4⟩:=hc13
 rw[F2 c d hk hd6 hc2,if_pos ((Im c).2 ⟨⟨g2,g3⟩,by omega,by omega,by omega,by omega,by omega⟩)]
theorem AbH (T:Ap) (c:Ax) (ok:c.Ok) (d:Int) (hd: -9<=d) (hd2:d<=7):PC prog T 195 [.agg (BW c),.d (.int .i64 d)] (.d (.int .i64 (cF c d))):=by
 induction c using Ax.ind generalizing d with
 |h c i1 i2=>
  obtain⟨s1,s2,s3,s4,s5,s6⟩:=ok.inv
  refine Ta T c ok d hd hd2 (λd h1 h2=>?_) (λd h1 h2=>?_) (λx hx d h1 h2=>i2 x hx (s6 x hx) d h1 h2)
  ·rw[D2];exact FL T _ s3 d h1 h2 λx hx=>i1 x hx (s5 x hx) d h1 h2
  ·rw[C1];exact FL T _ s4 d h1 h2 λx hx=>i2 x hx (s6 x hx) d h1 h2
theorem SZ (T:Ap) (l:List Ax) (hl:l.length*208<=140737488355328) (ok:∀x∈l,x.Ok) (d:Int) (hd: -9<=d) (hd2:d<=7):PC prog T 112 [.d (.slc 12 (l.map AW)),.d (.int .i64 d)] (.d (.int .i64 (FX l d))):=
 FL T l hl d hd hd2 λx hx=>AbH T x (ok x hx) d hd hd2
theorem Mp (T:Ap) (c:Ax) (ok:c.Ok) (d:Int) (hd: -9<=d) (hd2:d<=7):PC prog T 201 [.agg (BW c),.d (.int .i64 d)] (.d (.int .i64 (cF c d))):=by
 induction c using Ax.ind generalizing d with
 |h c i1 i2=>
  obtain⟨s1,s2,s3,s4,s5,s6⟩:=ok.inv
  refine JB T c ok d hd hd2 (λd h1 h2=>?_) (λd h1 h2=>?_) (λx hx d h1 h2=>i2 x hx (s6 x hx) d h1 h2)
  ·rw[D2];exact Fn T _ s3 d h1 h2 λx hx=>i1 x hx (s5 x hx) d h1 h2
  ·rw[C1];exact Fn T _ s4 d h1 h2 λx hx=>i2 x hx (s6 x hx) d h1 h2
theorem R8 (T:Ap) (l:List Ax) (hl:l.length*208<=140737488355328) (ok:∀x∈l,x.Ok) (d:Int) (hd: -9<=d) (hd2:d<=7):PC prog T 117 [.d (.slc 12 (l.map AW)),.d (.int .i64 d)] (.d (.int .i64 (FX l d))):=
 Fn T l hl d hd hd2 λx hx=>Mp T x (ok x hx) d hd hd2
end
section
theorem Ai1 {α:Type} {Y:List α} {a:α} (h:Y.length+2<=4398046511104):(Y++[a]).length+1<=4398046511104:=by
 rw[List.length_append]
 show Y.length+1+1<=4398046511104
 omega
structure DM where
 kind:Int
 text:Gy
 num:Int
def C9 (t:DM):List D:=[.int .i64 t.kind,.str t.text,.int .i64 t.num]
def AK (X:List DM):List (List D):=X.map C9
theorem Xi (X:List DM):(AK X).length=X.length:=by simp[AK]
attribute [go_sem] Xi
def tW (s:Gy):DM:=⟨1,s,0⟩
def tG (s:Gy):DM:=⟨2,s,0⟩
def tN (n:Int):DM:=⟨3,[],n⟩
def tS (s:Gy):DM:=⟨4,s,0⟩
def tM (s:Gy):DM:=⟨5,s,0⟩
def CY (b u:Nat) (X:List DM):Nat×Ob:=(b,⟨1,1,[[.own u 3 (AK X)]]⟩)
def WR (b:Nat) (F:Af) (L:List Nat) (X:List DM):AR->AH->Prop:=λx h=> ∃t,Ae t L/\x= .ret (.tup [])/\h=⟨CY b t X::F,t::L⟩
attribute [go_sem] CY
@[go_sem] theorem Aga (c:Bool):(if c=true then(1:Int) else 0).toNat=if c=true then 1 else 0:=by cases c<;>rfl
@[go_sem] theorem Aix (x y:Gy) (c:Bool) (d:List D):[[D.str x],[D.str y]].getD (if c=true then 1 else 0) d=[D.str (if c=true then y else x)]:=by cases c<;>rfl
def Tq:List Gy->Bool->List DM
 |[],_=>[]
 |s::l,f=>tM (if f=true then [91] else [44])::tS s::Tq l false
def BV (l:List Gy):List DM:=if l.length=1 then [tS (l.headD [])] else Tq l true++[tM [93]]
theorem YX (l:List Gy) (k:Nat) (f:Bool) (h:k<l.length):Tq (l.drop k) f=tM (if f=true then [91] else [44])::tS (l[k]'h)::Tq (l.drop (k+1)) false:=by
 rw[List.drop_eq_getElem_cons h,Tq]
theorem Ach (l:List Gy) (k:Nat) (f:Bool) (h:l.length<=k):Tq (l.drop k) f=[]:=by rw[List.drop_eq_nil_of_le h,Tq]
theorem LI (l:List Gy) (f:Bool):(Tq l f).length=2*l.length:=by
 induction l generalizing f with
 |nil=>rfl
 |cons s l ih=>simp[Tq,ih];omega
theorem Eg (T:Ap) (b u:Nat) (X:List DM) (F:Af) (L:List Nat) (k:Int) (s:Gy) (hl:X.length+1<=4398046511104):AC prog T 196 [.ptr b 1 0 0,.d (.int .i64 k),.d (.str s)] (⟨CY b u X::F,u::L⟩) (WR b F L (X++[⟨k,s,0⟩])):=by
 refine⟨call196,Ao.enterS func196 rfl ntmps196 rfl λhb=>?_⟩
 simp only[go_sem,results196]
 refine Zq λK_ k_=>?_
 refine Zy ?_
 refine ZW λt1 ft1=>?_
 try simp only[Ae] at ft1
 refine Zy ?_
 refine k_ _ _ ?_
 apply Cd [] [] [] [] ZH
 · refine ⟨t1,by simp only[go_sem,ft1],rfl,?_⟩
   (simp only[go_sem])<;>(simp[AK,C9])
 · simp only[Aj,Bj]
theorem Tj (T:Ap) (c:Bool):PC prog T 248 [.d (.bool c)] (.d (.int .i64 (if c=true then 1 else 0))):=by
 refine⟨call248,Ar.enterS func248 rfl ntmps248 rfl λhb=>?_⟩
 simp only[go_sem,results248]
 refine Zp 1 ?_
 refine Zs (Zp 2 ?_)
 refine Zc (λhc0=>?_) λhc0=>?_
 ·refine Zp 1 (Aa.ret ?_)
  refine Zy ?_
  simp[hc0]
 refine Zk ?_
 refine Zp 1 (Aa.ret ?_)
 refine Zy ?_
 simp[hc0]
attribute [local go_sem] CY in
theorem KF (T:Ap) (b u:Nat) (X:List DM) (F:Af) (L:List Nat) (l:List Gy) (hl:X.length+(BV l).length<=4398046511104):AC prog T 198 [.ptr b 1 0 0,.d (.slc 1 (l.map Aq))] (⟨CY b u X::F,u::L⟩) (WR b F L (X++BV l)):=by
 refine⟨call198,Ao.enterS func198 rfl ntmps198 rfl λhb=>?_⟩
 simp only[go_sem,results198]
 refine Zs (Zp 19 ?_)
 refine Zc (λhc0=>?_) λhc0=>?_
 ·have h0:0<l.length:=by omega
  have hl2:(BV l).length=1:=by rw[BV,if_pos ZO];rfl
  have zf1:=λd0_=>Al Aq _ _ d0_ h0
  refine Zx ?_
  simp only[go_sem,zf1]
  (repeat(with_reducible refine And.intro ZS ?_))
  refine AI [b] [u] rfl rfl rfl rfl ZH rfl (Eg T _ _ _ _ _ _ _ (by(try simp only[List.length_append,List.length_cons,List.length_nil]);omega)) ?_
  rintro _ _ ⟨W1,fW1,rfl,rfl⟩
  try simp only[Ae,Ab] at fW1
  refine Zy ?_
  refine Zm 0 ?_
  refine Aa.ret ?_
  simp only[Am]
  apply Ah [] [] [b] [W1] ZH
  · refine ⟨W1,by simp only[go_sem,fW1],rfl,?_⟩
    rw[show _=_ from(show X++BV l=X++[⟨4,l[0],0⟩] by rw[BV,if_pos ZO];cases l;simp at h0;rfl)]
    (try simp only[go_sem])<;>rfl
  · simp only[Aj,Bj]
 have hl2:(BV l).length=2*l.length+1:=by rw[BV,if_neg ZO];simp[LI]
 refine Zk ?_
 refine Zs (Zp 57 ?_)
 refine Aa.block (Zy ?_)
 refine Zl 7 8 (λn lc hc=> ∃(k v:Nat) (Y:List DM),n=l.length-k/\Av lc [(16,.d (.int .i64 k))]/\Av hc (⟨CY b v Y::F,v::L⟩)/\(k<=l.length)/\(Y++Tq (l.drop k) (decide (k=0))=X++Tq l true)) ⟨_,0,u,X,rfl,ZE,ZE,ZI,ZI⟩ ?_
 rintro _ _ _ ⟨k,v,Y,rfl,⟨rfl⟩,⟨rfl⟩,hk,hY⟩
 have hYl:=congrArg List.length hY
 simp only[List.length_append,LI,List.length_drop] at hYl
 refine Zy ?_
 refine Zp 31 ?_
 refine Zs (Zc (λhc1=>?_) λhc1=>?_)
 ·have hlt:k<l.length:=by omega
  have e1:Y.length+2<=4398046511104:=by omega
  have zf2:=λd0_=>Al Aq _ _ d0_ hlt
  refine Zk ?_
  refine Zs (Aa.block (Zp 63 ?_))
  refine Zx (Zy ?_)
  refine Aw rfl rfl rfl rfl (Tj T _) rfl rfl ?_
  refine Zy ?_
  (repeat(with_reducible refine And.intro ZS ?_))
  refine AI [b] [v] rfl rfl rfl rfl ZH rfl (Eg T _ _ _ _ _ _ _ (by(try simp only[List.length_append,List.length_cons,List.length_nil]);omega)) ?_
  rintro _ _ ⟨W2,fW2,rfl,rfl⟩
  try simp only[Ae,Ab] at fW2
  refine Zy ?_
  refine Zm 61 ?_
  refine Zq λK_ k_=>?_
  refine Zy ?_
  refine AI [b] [W2] rfl rfl rfl rfl ZH rfl (Eg T _ _ _ _ _ _ _ (Ai1 e1)) ?_
  rintro _ _ ⟨W3,fW3,rfl,rfl⟩
  try simp only[Ae,Ab] at fW3
  refine Zy ?_
  refine k_ _ _ (Ai (Ac ?_))
  refine Zm 29 ?_
  refine Z6 ?_
  refine Zf 7 8 (.e ⟨_,ZM,k+1,W3,Y++[⟨5,if decide ((k:Int)=0)=true then [91] else [44],0⟩]++[⟨4,l[k],0⟩],rfl,ZE,ZE,?_,?_⟩)
  · omega
  · rw [<-hY,YX _ _ _ hlt];by_cases hk0:k=0<;>simp[hk0,tM,tS]
 refine Z4 ?_
 refine Zm 1 ?_
 refine Zq λK_ k_=>?_
 refine Zy ?_
 refine AI [b] [v] rfl rfl rfl rfl ZH rfl (Eg T _ _ _ _ _ _ _ (by(try simp only[List.length_append,List.length_cons,List.length_nil]);omega)) ?_
 rintro _ _ ⟨W4,fW4,rfl,rfl⟩
 try simp only[Ae,Ab] at fW4
 refine Zy ?_
 refine k_ _ _ ?_
 apply Cd [] [] [b] [W4] ZH
 · refine ⟨W4,by simp only[go_sem,fW4],rfl,?_⟩
   rw[show _=_ from(show X++BV l=Y++[⟨5,[93],0⟩] by rw[BV,if_neg ZO,<-List.append_assoc,<-hY,Ach _ _ _ ZO,List.append_nil];rfl)]
   (try simp only[go_sem])<;>rfl
 · simp only[Aj,Bj]
def Dv:List Gy:=[[],[114,101,113,117,105,114,101],[105,102],[107,101,101,112],[100,105,115,99,97,114,100],[102,105,108,101,105,110,116,111],[114,101,100,105,114,101,99,116],[114,101,106,101,99,116],[115,101,116,102,108,97,103],[97,100,100,102,108,97,103],[115,116,111,112]]
theorem NV:Dv.length=11:=rfl
def Dh:List Gy:=[[],[116,114,117,101],[102,97,108,115,101],[110,111,116],[97,108,108,111,102],[97,110,121,111,102],[104,101,97,100,101,114],[97,100,100,114,101,115,115],[101,110,118,101,108,111,112,101],[101,120,105,115,116,115],[115,105,122,101]]
theorem OK:Dh.length=11:=rfl
def Gq:List Gy:=[[],[105,115],[99,111,110,116,97,105,110,115],[109,97,116,99,104,101,115]]
theorem O0:Gq.length=4:=rfl
def Gs:List Gy:=[[],[97,108,108],[108,111,99,97,108,112,97,114,116],[100,111,109,97,105,110]]
theorem O6:Gs.length=4:=rfl
def Ce (ws:List Gy) (k:Int):Gy:=ws.getD k.toNat []
theorem Qc (ws:List Gy) (k:Int) (h0:0<=k) (h:k<ws.length):List.take 1 (List.drop k.toNat (List.map D.str ws))=[D.str (Ce ws k)]:=by
 have hk:k.toNat<ws.length:=by omega
 rw[List.drop_eq_getElem_cons (by simpa using hk)]
 simp[Ce,List.getD,hk]
structure LZ (T:Ap):Prop where
 cmds:T 1=Dv.map D.str
 tests:T 4=Dh.map D.str
 mats:T 6=Gq.map D.str
 parts:T 5=Gs.map D.str
mutual
def tT:AM->List DM
 | .mk k m p n ks o lim kids=>tW (Ce Dh k)::(if k=3 then tK kids else if A7 k 4 5=true then Qb kids true++[tM [41]] else if A7 k 6 8=true then(if k=6 then [] else [tG (Ce Gs p)])++tG (Ce Gq m)::(BV n++BV ks) else if k=9 then BV n else if k=10 then [tG (if o=true then [111,118,101,114] else [117,110,100,101,114]),tN lim] else [])
def tK:List AM->List DM
 |[]=>[]
 |x::_=>tT x
def Qb:List AM->Bool->List DM
 |[],_=>[]
 |x::l,f=>tM (if f=true then [40] else [44])::(tT x++Qb l false)
end
theorem HU (t:AM):tT t=tW (Ce Dh t.kind)::(if t.kind=3 then tK t.kids else if A7 t.kind 4 5=true then Qb t.kids true++[tM [41]] else if A7 t.kind 6 8=true then(if t.kind=6 then [] else [tG (Ce Gs t.part)])++tG (Ce Gq t.mat)::(BV t.names++BV t.keys) else if t.kind=9 then BV t.names else if t.kind=10 then [tG (if t.over=true then [111,118,101,114] else [117,110,100,101,114]),tN t.limit] else []):=by
 cases t;rw[tT];rfl
theorem Sn (l:List AM) (k:Nat) (f:Bool) (h:k<l.length):Qb (l.drop k) f=tM (if f=true then [40] else [44])::(tT (l[k]'h)++Qb (l.drop (k+1)) false):=by
 rw[List.drop_eq_getElem_cons h,Qb]
theorem Vt (l:List AM) (k:Nat) (f:Bool) (h:l.length<=k):Qb (l.drop k) f=[]:=by rw[List.drop_eq_nil_of_le h,Qb]
theorem AdV (t:AM) (h:0<t.kids.length):tK t.kids=tT (t.kids[0]'h):=by
 obtain⟨k,m,p,n,ks,o,lim,kids⟩:=t
 match kids,h with
 |x::l,h=>simp only[AM.kids,tK];rfl
theorem AcH (l:List AM) (d:Int) (h:Xf l d=0):∀x∈l,tF x d=0:=by
 induction l with
 |nil=>simp
 | cons y l ih=>
  rw[Xf] at h
  intro x hx
  by_cases h1:tF y d=0
  ·rw[if_pos h1] at h
   rcases List.mem_cons.1 hx with rfl|hx
   ·exact h1
   ·exact ih h x hx
  ·rw[if_neg h1] at h;exact absurd h h1
theorem Sk {t:AM} {d:Int} (h:tF t d=0):A7 t.kind 1 10=true/\Sx t=true/\∀x∈t.kids,tF x (d+1)=0:=by
 rw[Sj] at h
 by_cases h1:A7 t.kind 1 10=false
 ·rw[if_pos h1] at h;omega
 ·rw[if_neg h1] at h
  by_cases h2:6<d
  ·rw[if_pos h2] at h;omega
  ·rw[if_neg h2] at h
   by_cases h3:Sx t=false
   ·rw[if_pos h3] at h;omega
   ·rw[if_neg h3] at h
    exact⟨by simpa using h1,by simpa using h3,AcH _ _ h⟩
theorem KU (l:List Gy):(BV l).length<=2*l.length+1:=by
 unfold BV
 split
 ·simp
 ·simp[LI]
end
section
theorem JQ (t:AM) (h:Sx t=true):(t.kind=3->t.kids.length=1)/\(A7 t.kind 4 5=true->0<t.kids.length)/\(A7 t.kind 6 8=true->0<t.names.length/\0<t.keys.length/\1<=t.mat/\t.mat<=3)/\(A7 t.kind 7 8=true->1<=t.part/\t.part<=3)/\(t.kind=9->0<t.names.length)/\
 (A7 t.kind 3 5=false->t.kids.length=0)/\(t.kind=6->t.part=0)/\(A7 t.kind 6 8=false->t.mat=0/\t.part=0/\t.keys.length=0)/\(A7 t.kind 6 8=false->t.kind≠9->t.names.length=0):=by
 simp only[Sx,DF,A7,Bool.and_eq_true,Bool.or_eq_true,Bool.not_eq_true',decide_eq_true_eq,decide_eq_false_iff_not,Bool.and_eq_false_iff] at h⊢
 refine⟨?_,?_,?_,?_,?_,?_,?_,?_,?_⟩<;>intro a<;>first|omega|grind (splits:=30)
attribute [local go_sem] CY List.length_map OK O0 O6 Nat.mul_one in
theorem TS (T:Ap) (b u:Nat) (X:List DM) (F:Af) (L:List Nat) (t:AM) (ok:t.Ok) (tb:LZ T) (d:Int) (hF:tF t d=0) (hl:X.length+(tT t).length<=4398046511104) (ih:∀x∈t.kids,∀(u:Nat) (X:List DM) (F:Af) (L:List Nat),X.length+(tT x).length<=4398046511104->AC prog T 246 [.ptr b 1 0 0,.agg (AJ x)] ⟨CY b u X::F,u::L⟩ (WR b F L (X++tT x))):AC prog T 246 [.ptr b 1 0 0,.agg (AJ t)] (⟨CY b u X::F,u::L⟩) (WR b F L (X++tT t)):=by
 refine⟨call246,Ao.enterS func246 rfl ntmps246 rfl λhb=>?_⟩
 obtain⟨s1,s2,s3,s4⟩:=ok.inv
 obtain⟨hk,hO,hK⟩:=Sk hF
 obtain⟨o1,o2,o3,o4,o5,o6,o7,o8,o9⟩:=JQ t hO
 have hkk:1<=t.kind/\t.kind<=10:=by simpa[A7] using hk
 have hw:=Qc Dh t.kind ZO (by rw[OK];omega)
 have h1:0<(tT t).length:=by rw[HU];simp
 have zf1:=tb.tests
 have zf2:=tb.mats
 have zf3:=tb.parts
 simp only[go_sem,results246]
 refine Zx (Zy ?_)
 intro b3 fb3
 try simp only[Ab,CY] at fb3
 refine Zx ?_
 simp only[go_sem,zf1,hw,fb3]
 (repeat(with_reducible refine And.intro ZS ?_))
 refine AI [b] [u] rfl rfl rfl rfl (by(try simp only[go_sem,fb3]);rfl) rfl (Eg T _ _ _ _ _ _ _ (by(try simp only[List.length_append,List.length_cons,List.length_nil]);omega)) ?_
 rintro _ _ ⟨W1,fW1,rfl,rfl⟩
 try simp only[Ae,Ab,CY] at fW1
 refine Zy ?_
 refine Zm 5 ?_
 refine Zp 11 ?_
 refine Aa.block (Zp 15 ?_)
 refine Zc (λhc0=>?_) λhc0=>?_
 ·have h0:0<t.kids.length:=by rw[o1 hc0];omega
  have hT:tT t=tW (Ce Dh t.kind)::tT (t.kids[0]'h0):=by rw[HU,if_pos hc0,AdV]
  have hTl:=congrArg List.length hT
  simp only[List.length_cons] at hTl
  have zf4:=λd0_=>BJ t 0 d0_ h0
  refine Zq λK_ k_=>?_
  simp only[go_sem,fb3,zf4]
  (repeat(with_reducible refine And.intro ZS ?_))
  refine AI [b] [W1] rfl rfl rfl rfl (by(try simp only[go_sem,fb3]);rfl) rfl (ih _ (List.getElem_mem h0) _ _ _ _ (by(try simp only[List.length_append,List.length_cons,List.length_nil]);omega)) ?_
  rintro _ _ ⟨W2,fW2,rfl,rfl⟩
  try simp only[Ae,Ab,CY] at fW2
  refine Zy ?_
  refine k_ _ _ (Ai ?_)
  apply Cd [b3] [] [b] [W2] ZH
  · refine ⟨W2,by simp only[go_sem,fW2],rfl,?_⟩
    first|(simp only[go_sem,zf1,zf2,zf3,hw,fb3,fW1,zf4,fW2,hT,tW,tG,tM,tN,tS,List.append_assoc,List.cons_append,List.nil_append,hY];done)|(simp only[go_sem,fb3,hT,tW,List.append_assoc,List.cons_append,List.nil_append];done)|(simp only[go_sem,zf1,zf2,zf3,hw,fb3,fW1,zf4,fW2,hT,tW,tG,tM,tN,tS,List.append_assoc,List.cons_append,List.nil_append,AK,List.map_append,List.map_cons,List.map_nil,C9];done)
  · simp only[Aj,Bj]
 refine Zs (Zp 23 ?_)
 refine Zy ?_
 apply Za (z:=(_||_)) 7 22
 ·refine Aa.cond _ rfl (λhc1=>?_) λhc1=>?_
  rotate_left
  ·refine Z6 ?_
   refine Zf 7 8 (.e ⟨BD (ES hc1 rfl),⟨rfl⟩⟩)
  refine Aa.skip (Ac ?_)
  refine Zf 7 8 (.e ⟨BD (Hc hc1),⟨rfl⟩⟩)
 refine Zy ?_
 refine Zc (λhc2=>?_) λhc2=>?_
 ·have e45:A7 t.kind 4 5=true:=by simp[A7];omega
  have h0:=o2 e45
  have hT:tT t=tW (Ce Dh t.kind)::(Qb t.kids true++[tM [41]]):=by rw[HU,if_neg ZO,if_pos e45]
  have hTl:=congrArg List.length hT
  simp only[List.length_cons,List.length_append,List.length_nil] at hTl
  refine Zs (Zp 225 ?_)
  refine Aa.block (Zy ?_)
  refine Zl 7 8 (λn lc hc=> ∃(k v:Nat) (Y:List DM),n=t.kids.length-k/\Av lc [(28,.d (.int .i64 k))]/\Av hc (⟨[CY b v Y,(b3,⟨8,1,[AJ t]⟩)]++F,v::L⟩)/\(k<=t.kids.length)/\(Y++Qb (t.kids.drop k) (decide (k=0))=X++tW (Ce Dh t.kind)::Qb t.kids true)) ?_ ?_
  · refine ⟨_,0,W1,X++[⟨1,Ce Dh t.kind,0⟩],rfl,ZE,ZE,?_,?_⟩
    all_goals(first|omega|(simp[tW];done))
  rintro _ _ _ ⟨k,v,Y,rfl,⟨rfl⟩,⟨rfl⟩,hk,hY⟩
  have hYl:=congrArg List.length hY
  simp only[List.length_append,List.length_cons] at hYl
  refine Zy ?_
  refine Zp 31 ?_
  refine Zs (Zc (λhc3=>?_) λhc3=>?_)
  ·have hlt:k<t.kids.length:=by omega
   rw[Sn _ _ _ hlt] at hYl
   simp only[List.length_append,List.length_cons] at hYl
   have zf5:=λd0_=>BJ t k d0_ hlt
   refine Zk ?_
   refine Zs (Aa.block (Zx (Z3 ?_)))
   intro bz3 fbz3
   try simp only[Ab,CY] at fbz3
   refine Zm 63 ?_
   refine Zx (Zy ?_)
   refine ZP (Tj T _) ?_
   refine Zy ?_
   (repeat(with_reducible refine And.intro ZS ?_))
   refine AI [b] [v] rfl rfl rfl rfl (by(try simp only[go_sem,fb3,fbz3]);rfl) rfl (Eg T _ _ _ _ _ _ _ (by(try simp only[List.length_append,List.length_cons,List.length_nil]);omega)) ?_
   rintro _ _ ⟨W4,fW4,rfl,rfl⟩
   try simp only[Ae,Ab,CY] at fW4
   refine Zy ?_
   refine Zm 61 ?_
   refine Zq λK_ k_=>?_
   simp only[go_sem,fbz3]
   refine AI [b] [W4] rfl rfl rfl rfl (by(try simp only[go_sem,fb3,fbz3]);rfl) rfl (ih _ (List.getElem_mem hlt) _ _ _ _ (by(try simp only[List.length_append,List.length_cons,List.length_nil]);omega)) ?_
   rintro _ _ ⟨W5,fW5,rfl,rfl⟩
   try simp only[Ae,Ab,CY] at fW5
   refine Zy ?_
   refine k_ _ _ (Ai (Ac ?_))
   refine Zm 29 ?_
   refine Z6 ?_
   refine Ze 7 8 [bz3] [] [b,b3] [W5] (.e ⟨_,ZM,k+1,W5,Y++[⟨5,if decide ((k:Int)=0)=true then [40] else [44],0⟩]++tT (t.kids[k]'hlt),rfl,ZE,ZE,?_,?_⟩)
   · omega
   · rw [Sn _ _ _ hlt] at hY;rw[<-hY];by_cases hk0:k=0<;>simp[hk0,tM]
  rw[Vt _ _ _ ZO,List.append_nil] at hY
  rw[Vt _ _ _ ZO,List.length_nil] at hYl
  refine Z4 ?_
  refine Zm 1 ?_
  refine Zq λK_ k_=>?_
  refine Zy ?_
  refine AI [b] [v] rfl rfl rfl rfl (by(try simp only[go_sem,fb3]);rfl) rfl (Eg T _ _ _ _ _ _ _ (by(try simp only[List.length_append,List.length_cons,List.length_nil]);omega)) ?_
  rintro _ _ ⟨W6,fW6,rfl,rfl⟩
  try simp only[Ae,Ab,CY] at fW6
  refine Zy ?_
  refine k_ _ _ (Ai ?_)
  apply Cd [b3] [] [b] [W6] ZH
  · refine ⟨W6,by simp only[go_sem,fW6],rfl,?_⟩
    first|(simp only[go_sem,fb3,hT,tW,tM,List.append_assoc,List.cons_append,hY];done)|(simp only[go_sem,zf1,zf2,zf3,hw,fb3,fW1,fW6,hT,tW,tG,tM,tN,tS,List.append_assoc,List.cons_append,List.nil_append];done)|(simp only[go_sem,zf1,zf2,zf3,hw,fb3,fW1,fW6,hT,tW,tG,tM,tN,tS,List.append_assoc,List.cons_append,List.nil_append,AK,List.map_append,List.map_cons,List.map_nil,C9];done)
  · simp only[Aj,Bj]
 have e45:A7 t.kind 4 5=false:=by simp[A7];omega
 refine Zs (Zp 23 ?_)
 refine Zy ?_
 apply Za (z:=(_||(_||_))) 7 47
 ·refine Aa.cond _ rfl (λhc4=>?_) λhc4=>?_
  rotate_left
  ·refine Zp 15 ?_
   refine Aa.cond _ rfl (λhc5=>?_) λhc5=>?_
   rotate_left
   ·refine Z6 ?_
    refine Zf 7 8 (.e ⟨BD (ES hc4 (ES hc5 rfl)),⟨rfl⟩⟩)
   refine Aa.skip (Ac ?_)
   refine Zf 7 8 (.e ⟨BD (ES hc4 (Hc hc5)),⟨rfl⟩⟩)
  refine Aa.skip (Ac ?_)
  refine Zf 7 8 (.e ⟨BD (Hc hc4),⟨rfl⟩⟩)
 refine Zy ?_
 refine Zc (λhc6=>?_) λhc6=>?_
 ·have e68:A7 t.kind 6 8=true:=by simp[A7];omega
  obtain⟨p1,p2,p3,p4⟩:=o3 e68
  have hwm:=Qc Gq t.mat ZO (by rw[O0];omega)
  have hT:tT t=tW (Ce Dh t.kind)::((if t.kind=6 then [] else [tG (Ce Gs t.part)])++tG (Ce Gq t.mat)::(BV t.names++BV t.keys)):=by rw[HU,if_neg ZO,if_neg (by rw[e45];simp),if_pos e68]
  refine Zs (Zp 67 ?_)
  refine Zc (λhc7=>?_) λhc7=>?_
  ·obtain⟨q1,q2⟩:=o4 (by simp[A7];omega)
   have hwp:=Qc Gs t.part ZO (by rw[O6];omega)
   rw[if_neg hc7] at hT
   have hTl:=congrArg List.length hT
   simp only[List.length_cons,List.length_append,List.length_nil] at hTl
   refine Zq λK_ k_=>?_
   simp only[go_sem,zf3,fb3,hwp]
   (repeat(with_reducible refine And.intro ZS ?_))
   refine AI [b] [W1] rfl rfl rfl rfl (by(try simp only[go_sem,fb3]);rfl) rfl (Eg T _ _ _ _ _ _ _ (by(try simp only[List.length_append,List.length_cons,List.length_nil]);omega)) ?_
   rintro _ _ ⟨W7,fW7,rfl,rfl⟩
   try simp only[Ae,Ab,CY] at fW7
   refine Zy ?_
   refine k_ _ _ (Ac ?_)
   refine Zm 3 ?_
   refine Zx ?_
   simp only[go_sem,zf2,fb3,hwm]
   (repeat(with_reducible refine And.intro ZS ?_))
   refine AI [b] [W7] rfl rfl rfl rfl (by(try simp only[go_sem,fb3]);rfl) rfl (Eg T _ _ _ _ _ _ _ (by(try simp only[List.length_append,List.length_cons,List.length_nil]);omega)) ?_
   rintro _ _ ⟨W8,fW8,rfl,rfl⟩
   try simp only[Ae,Ab,CY] at fW8
   refine Zy ?_
   refine Zm 3 ?_
   refine Zx ?_
   simp only[go_sem,fb3]
   refine AI [b] [W8] rfl rfl rfl rfl (by(try simp only[go_sem,fb3]);rfl) rfl (KF T _ _ _ _ _ _ (by(try simp only[List.length_append,List.length_cons,List.length_nil]);omega)) ?_
   rintro _ _ ⟨W9,fW9,rfl,rfl⟩
   try simp only[Ae,Ab,CY] at fW9
   refine Zy ?_
   refine Zm 3 ?_
   refine Zq λK_ k_=>?_
   simp only[go_sem,fb3]
   refine AI [b] [W9] rfl rfl rfl rfl (by(try simp only[go_sem,fb3]);rfl) rfl (KF T _ _ _ _ _ _ (by(try simp only[List.length_append,List.length_cons,List.length_nil]);omega)) ?_
   rintro _ _ ⟨W10,fW10,rfl,rfl⟩
   try simp only[Ae,Ab,CY] at fW10
   refine Zy ?_
   refine k_ _ _ (Ai ?_)
   apply Cd [b3] [] [b] [W10] ZH
   · refine ⟨W10,by simp only[go_sem,fW10],rfl,?_⟩
     first|(simp only[go_sem,zf1,zf2,zf3,hw,fb3,fW1,hwm,hwp,fW7,fW8,fW9,fW10,hT,tW,tG,tM,tN,tS,List.append_assoc,List.cons_append,List.nil_append,hY];done)|(simp only[go_sem,fb3,hT,tW,tG,List.append_assoc,List.cons_append,List.nil_append];done)|(simp only[go_sem,zf1,zf2,zf3,hw,fb3,fW1,hwm,hwp,fW7,fW8,fW9,fW10,hT,tW,tG,tM,tN,tS,List.append_assoc,List.cons_append,List.nil_append,AK,List.map_append,List.map_cons,List.map_nil,C9];done)
   · simp only[Aj,Bj]
  rw[if_pos hc7] at hT
  have hTl:=congrArg List.length hT
  simp only[List.length_cons,List.length_append,List.length_nil] at hTl
  refine Zk ?_
  refine Zx ?_
  simp only[go_sem,zf2,fb3,hwm]
  (repeat(with_reducible refine And.intro ZS ?_))
  refine AI [b] [W1] rfl rfl rfl rfl (by(try simp only[go_sem,fb3]);rfl) rfl (Eg T _ _ _ _ _ _ _ (by(try simp only[List.length_append,List.length_cons,List.length_nil]);omega)) ?_
  rintro _ _ ⟨W11,fW11,rfl,rfl⟩
  try simp only[Ae,Ab,CY] at fW11
  refine Zy ?_
  refine Zm 3 ?_
  refine Zx ?_
  simp only[go_sem,fb3]
  refine AI [b] [W11] rfl rfl rfl rfl (by(try simp only[go_sem,fb3]);rfl) rfl (KF T _ _ _ _ _ _ (by(try simp only[List.length_append,List.length_cons,List.length_nil]);omega)) ?_
  rintro _ _ ⟨W12,fW12,rfl,rfl⟩
  try simp only[Ae,Ab,CY] at fW12
  refine Zy ?_
  refine Zm 3 ?_
  refine Zq λK_ k_=>?_
  simp only[go_sem,fb3]
  refine AI [b] [W12] rfl rfl rfl rfl (by(try simp only[go_sem,fb3]);rfl) rfl (KF T _ _ _ _ _ _ (by(try simp only[List.length_append,List.length_cons,List.length_nil]);omega)) ?_
  rintro _ _ ⟨W13,fW13,rfl,rfl⟩
  try simp only[Ae,Ab,CY] at fW13
  refine Zy ?_
  refine k_ _ _ (Ai ?_)
  apply Cd [b3] [] [b] [W13] ZH
  · refine ⟨W13,by simp only[go_sem,fW13],rfl,?_⟩
    first|(simp only[go_sem,zf1,zf2,zf3,hw,fb3,fW1,hwm,fW11,fW12,fW13,hT,tW,tG,tM,tN,tS,List.append_assoc,List.cons_append,List.nil_append,hY];done)|(simp only[go_sem,fb3,hT,tW,tG,List.append_assoc,List.cons_append,List.nil_append];done)|(simp only[go_sem,zf1,zf2,zf3,hw,fb3,fW1,hwm,fW11,fW12,fW13,hT,tW,tG,tM,tN,tS,List.append_assoc,List.cons_append,List.nil_append,AK,List.map_append,List.map_cons,List.map_nil,C9];done)
  · simp only[Aj,Bj]
 have e68:A7 t.kind 6 8=false:=by simp[A7];omega
 refine Zp 23 ?_
 refine Zc (λhc8=>?_) λhc8=>?_
 ·have hT:tT t=tW (Ce Dh t.kind)::BV t.names:=by rw[HU,if_neg ZO,if_neg (by rw[e45];simp),if_neg (by rw[e68];simp),if_pos hc8]
  have hTl:=congrArg List.length hT
  simp only[List.length_cons] at hTl
  refine Zq λK_ k_=>?_
  simp only[go_sem,fb3]
  refine AI [b] [W1] rfl rfl rfl rfl (by(try simp only[go_sem,fb3]);rfl) rfl (KF T _ _ _ _ _ _ (by(try simp only[List.length_append,List.length_cons,List.length_nil]);omega)) ?_
  rintro _ _ ⟨W14,fW14,rfl,rfl⟩
  try simp only[Ae,Ab,CY] at fW14
  refine Zy ?_
  refine k_ _ _ (Ai ?_)
  apply Cd [b3] [] [b] [W14] ZH
  · refine ⟨W14,by simp only[go_sem,fW14],rfl,?_⟩
    first|(simp only[go_sem,zf1,zf2,zf3,hw,fb3,fW1,fW14,hT,tW,tG,tM,tN,tS,List.append_assoc,List.cons_append,List.nil_append,hY];done)|(simp only[go_sem,fb3,hT,tW,List.append_assoc,List.cons_append,List.nil_append];done)|(simp only[go_sem,zf1,zf2,zf3,hw,fb3,fW1,fW14,hT,tW,tG,tM,tN,tS,List.append_assoc,List.cons_append,List.nil_append,AK,List.map_append,List.map_cons,List.map_nil,C9];done)
  · simp only[Aj,Bj]
 refine Zp 19 ?_
 refine Zc (λhc9=>?_) λhc9=>?_
 ·have hT:tT t=tW (Ce Dh t.kind)::[tG (if t.over=true then [111,118,101,114] else [117,110,100,101,114]),tN t.limit]:=by rw[HU,if_neg ZO,if_neg (by rw[e45];simp),if_neg (by rw[e68];simp),if_neg hc8,if_pos hc9]
  have hTl:=congrArg List.length hT
  simp only[List.length_cons,List.length_nil] at hTl
  refine Zx ?_
  simp only[go_sem,fb3]
  refine ZP (Tj T _) ?_
  refine Zy ?_
  (repeat(with_reducible refine And.intro ZS ?_))
  refine AI [b] [W1] rfl rfl rfl rfl (by(try simp only[go_sem,fb3]);rfl) rfl (Eg T _ _ _ _ _ _ _ (by(try simp only[List.length_append,List.length_cons,List.length_nil]);omega)) ?_
  rintro _ _ ⟨W15,fW15,rfl,rfl⟩
  try simp only[Ae,Ab,CY] at fW15
  refine Zy ?_
  refine Zm 3 ?_
  refine Zt true [0,1,2,3,4,5,6,7,8,9,10,11,12] λK_ k_=>?_
  simp only[go_sem,fb3]
  refine ZW λt1 ft1=>?_
  try simp only[Ae] at ft1
  simp only[go_sem,fb3]
  refine k_ _ _ (Ai ?_)
  apply Cd [b3] [] [b] [t1] ZH
  · refine ⟨t1,by simp only[go_sem,ft1],rfl,?_⟩
    first|(simp only[go_sem,zf1,zf2,zf3,hw,fb3,fW1,fW15,ft1,hT,tW,tG,tM,tN,tS,List.append_assoc,List.cons_append,List.nil_append,hY];done)|(simp only[go_sem,fb3,hT,tW,tG,tN,List.append_assoc,List.cons_append,List.nil_append];done)|(simp only[go_sem,fb3,hT,tW,tG,tN,List.append_assoc,List.cons_append,List.nil_append,AK,List.map_append,List.map_cons,List.map_nil,C9];done)
  · simp only[Aj,Bj]
 have hT:tT t=tW (Ce Dh t.kind)::[]:=by rw[HU,if_neg ZO,if_neg (by rw[e45];simp),if_neg (by rw[e68];simp),if_neg hc8,if_neg hc9]
 refine Aa.skip (Ai ?_)
 apply Cd [b3] [] [b] [W1] ZH
 · refine ⟨W1,by simp only[go_sem,fW1],rfl,?_⟩
   first|(simp only[go_sem,zf1,zf2,zf3,hw,fb3,fW1,hT,tW,tG,tM,tN,tS,List.append_assoc,List.cons_append,List.nil_append,hY];done)|(simp only[go_sem,fb3,hT,tW];done)|(simp only[go_sem,zf1,zf2,zf3,hw,fb3,fW1,hT,tW,tG,tM,tN,tS,List.append_assoc,List.cons_append,List.nil_append,AK,List.map_append,List.map_cons,List.map_nil,C9];done)
 · simp only[Aj,Bj]
theorem V1 (T:Ap) (b:Nat) (tb:LZ T) (t:AM) (ok:t.Ok) (d:Int) (hF:tF t d=0) (u:Nat) (X:List DM) (F:Af) (L:List Nat) (hl:X.length+(tT t).length<=4398046511104):AC prog T 246 [.ptr b 1 0 0,.agg (AJ t)] ⟨CY b u X::F,u::L⟩ (WR b F L (X++tT t)):=by
 induction t using AM.ind generalizing d u X F L with
 |h t ih=>exact TS T b u X F L t ok tb d hF hl λx hx u X F L h=>ih x hx (ok.inv.2.2.2 x hx) (d+1) ((Sk hF).2.2 x hx) u X F L h
mutual
def F3:Ax->List DM
 | .mk k tx t a e=>if k=2 then tT t++tM [123]::(Ee a++tM [125]::Uy e) else(if 0<tx.length then BV tx else [])++[tM [59]]
def Ee:List Ax->List DM
 |[]=>[]
 |x::l=>tW (Ce Dv x.kind)::(F3 x++Ee l)
def Uy:List Ax->List DM
 |[]=>[]
 |[x]=>if x.kind=2 then tW [101,108,115,105,102]::F3 x else tW [101,108,115,101]::tM [123]::(tW (Ce Dv x.kind)::F3 x++[tM [125]])
 |x::y::l=>tW [101,108,115,101]::tM [123]::(tW (Ce Dv x.kind)::(F3 x++Ee (y::l))++[tM [125]])
end
theorem IL (c:Ax):F3 c=if c.kind=2 then tT c.test++tM [123]::(Ee c.thn++tM [125]::Uy c.els) else(if 0<c.texts.length then BV c.texts else [])++[tM [59]]:=by
 cases c;rw[F3];rfl
theorem Gp (l:List Ax) (k:Nat) (h:k<l.length):Ee (l.drop k)=tW (Ce Dv (l[k]'h).kind)::(F3 (l[k]'h)++Ee (l.drop (k+1))):=by
 rw[List.drop_eq_getElem_cons h,Ee]
theorem LJ (l:List Ax) (k:Nat) (h:l.length<=k):Ee (l.drop k)=[]:=by rw[List.drop_eq_nil_of_le h,Ee]
theorem U0 (c:Ax) (h:BQ c=true) (h1:0<c.els.length):Uy c.els=tW [101,108,115,105,102]::F3 (c.els[0]'h1):=by
 obtain⟨k,tx,t,a,e⟩:=c
 simp only[BQ,Ax.els] at*
 match e,h,h1 with
 |[x],h,h1=>simp at h;simp[Uy,h]
theorem Uz (c:Ax) (h:BQ c=false) (h1:0<c.els.length):Uy c.els=tW [101,108,115,101]::tM [123]::(Ee c.els++[tM [125]]):=by
 obtain⟨k,tx,t,a,e⟩:=c
 simp only[BQ,Ax.els] at*
 match e,h,h1 with
 |[x],h,h1=>simp at h;simp[Uy,Ee,h]
 |x::y::l,h,h1=>simp[Uy,Ee]
theorem Y4 (c:Ax) (h:c.els.length=0):Uy c.els=[]:=by
 rw[List.eq_nil_of_length_eq_zero h,Uy]
theorem F1 (l:List Ax) (d:Int) (h:FX l d=0):∀x∈l,cF x d=0:=by
 induction l with
 |nil=>simp
 | cons y l ih=>
  rw[FX] at h
  intro x hx
  by_cases h1:cF y d=0
  ·rw[if_pos h1] at h
   rcases List.mem_cons.1 hx with rfl|hx
   ·exact h1
   ·exact ih h x hx
  ·rw[if_neg h1] at h;exact absurd h h1
theorem I9 {c:Ax} {d:Int} (h:cF c d=0):A7 c.kind 1 10=true/\(c.kind=2->tF c.test 1=0/\(∀x∈c.thn,cF x (d+1)=0)/\(BQ c=true->∀x∈c.els,cF x d=0)/\(BQ c=false->∀x∈c.els,cF x (d+1)=0))/\(c.kind≠2->Xv c=true):=by
 rw[QX] at h
 by_cases h1:A7 c.kind 1 10=false
 ·rw[if_pos h1] at h;omega
 ·rw[if_neg h1] at h
  by_cases h2:6<d
  ·rw[if_pos h2] at h;omega
  ·rw[if_neg h2] at h
   refine⟨by simpa using h1,λh3=>?_,λh3=>?_⟩
   ·rw[if_pos h3] at h
    by_cases h4:0<c.texts.length
    ·rw[if_pos h4] at h;omega
    ·rw[if_neg h4] at h
     by_cases h5:tF c.test 1=0
     ·rw[if_pos h5] at h
      by_cases h6:FX c.thn (d+1)=0
      ·rw[if_pos h6] at h
       refine⟨h5,F1 _ _ h6,λh7 x hx=>?_,λh7=>?_⟩
       ·have h8:c.els.length=1:=by simp[BQ] at h7;exact h7.1
        rw[QW c d h7 ZO] at h
        obtain⟨i,hi,rfl⟩:=List.getElem_of_mem hx
        have:i=0:=by omega
        subst this;exact h
       ·rw[NU c d h7] at h
        exact F1 _ _ h
      ·rw[if_neg h6] at h;exact absurd h h6
     ·rw[if_neg h5] at h;exact absurd h h5
   ·rw[if_neg h3] at h
    by_cases h4:Xv c=true
    ·exact h4
    ·rw[if_neg h4] at h;omega
end
section
attribute [local go_sem] CY in
theorem Lv (T:Ap) (b u:Nat) (X:List DM) (F:Af) (L:List Nat) (l:List Ax) (hll:l.length*208<=140737488355328) (hl:X.length+(tM [123]::(Ee l++[tM [125]])).length<=4398046511104) (ih:∀x∈l,∀(u:Nat) (X:List DM) (F:Af) (L:List Nat),X.length+(tW (Ce Dv x.kind)::F3 x).length<=4398046511104->AC prog T 113 [.ptr b 1 0 0,.agg (BW x)] ⟨CY b u X::F,u::L⟩ (WR b F L (X++tW (Ce Dv x.kind)::F3 x))):AC prog T 247 [.ptr b 1 0 0,.d (.slc 12 (l.map AW))] (⟨CY b u X::F,u::L⟩) (WR b F L (X++tM [123]::(Ee l++[tM [125]]))):=by
 refine⟨call247,Ao.enterS func247 rfl ntmps247 rfl λhb=>?_⟩
 simp only[List.length_cons,List.length_append,List.length_nil] at hl
 simp only[go_sem,results247]
 refine Zx (Zy ?_)
 refine AI [b] [u] rfl rfl rfl rfl ZH rfl (Eg T _ _ _ _ _ _ _ (by(try simp only[List.length_cons,List.length_append,List.length_nil]);omega)) ?_
 rintro _ _ ⟨W1,fW1,rfl,rfl⟩
 try simp only[Ae,Ab,CY] at fW1
 refine Zy ?_
 refine Zs (Zp 113 ?_)
 refine Aa.block (Zy ?_)
 refine Zl 7 8 (λn lc hc=> ∃(k v:Nat) (Y:List DM),n=l.length-k/\Av lc [(10,.d (.int .i64 k))]/\Av hc (⟨[CY b v Y]++F,v::L⟩)/\(k<=l.length)/\(Y++Ee (l.drop k)=X++tM [123]::Ee l)) ?_ ?_
 · refine ⟨_,0,W1,X++[⟨5,[123],0⟩],rfl,ZE,ZE,?_,?_⟩
   all_goals(first|omega|(simp[tM];done))
 rintro _ _ _ ⟨k,v,Y,rfl,⟨rfl⟩,⟨rfl⟩,hk,hY⟩
 have hYl:=congrArg List.length hY
 simp only[List.length_cons,List.length_append] at hYl
 refine Zy ?_
 refine Zp 31 ?_
 refine Zs (Zc (λhc0=>?_) λhc0=>?_)
 ·have hlt:k<l.length:=by omega
  rw[Gp _ _ hlt] at hYl
  simp only[List.length_cons,List.length_append] at hYl
  have zf1:=λd0_=>Al AW _ _ d0_ hlt
  refine Zk ?_
  refine Zs (Aa.block (Zx ?_))
  simp only[go_sem,zf1]
  (repeat(with_reducible refine And.intro ZS ?_))
  intro bz2
  first|intro fbz2|have fbz2:=True.intro
  try simp only[Ab,CY] at fbz2
  refine Zq λK_ k_=>?_
  simp only[go_sem,fbz2]
  refine AI [b] [v] rfl rfl rfl rfl (by(try simp only[go_sem,fbz2]);rfl) rfl (ih _ (List.getElem_mem hlt) _ _ _ _ (by(try simp only[List.length_cons]);omega)) ?_
  rintro _ _ ⟨W3,fW3,rfl,rfl⟩
  try simp only[Ae,Ab,CY] at fW3
  refine Zy ?_
  refine k_ _ _ (Ai (Ac ?_))
  refine Zm 29 ?_
  refine Z6 ?_
  refine Ze 7 8 [bz2] [] [b] [W3] (.e ⟨_,ZM,k+1,W3,Y++(tW (Ce Dv (l[k]'hlt).kind)::F3 (l[k]'hlt)),rfl,ZE,ZE,?_,?_⟩)
  · omega
  · rw [<-hY,Gp _ _ hlt];simp
 rw[LJ _ _ ZO,List.append_nil] at hY
 rw[LJ _ _ ZO,List.length_nil] at hYl
 refine Z4 ?_
 refine Zm 1 ?_
 refine Zq λK_ k_=>?_
 refine Zy ?_
 refine AI [b] [v] rfl rfl rfl rfl ZH rfl (Eg T _ _ _ _ _ _ _ (by(try simp only[List.length_cons,List.length_append,List.length_nil]);omega)) ?_
 rintro _ _ ⟨W4,fW4,rfl,rfl⟩
 try simp only[Ae,Ab,CY] at fW4
 refine Zy ?_
 refine k_ _ _ ?_
 apply Cd [] [] [b] [W4] ZH
 · refine ⟨W4,by simp only[go_sem,fW4],rfl,?_⟩
   (simp only[go_sem,tM,List.append_assoc,List.cons_append,hY];done)
 · simp only[Aj,Bj]
attribute [local go_sem] CY List.getD_nil List.take_nil List.map_nil List.headD_nil decide_false in
theorem Xl (T:Ap) (b u:Nat) (X:List DM) (F:Af) (L:List Nat) (c:Ax) (ok:c.Ok) (h0:c.els.length=0) (tb:LZ T) (h2:c.kind=2) (d:Int) (hF:cF c d=0) (hl:X.length+(F3 c).length<=4398046511104) (i1:∀(u:Nat) (X:List DM) (F:Af) (L:List Nat),X.length+(tM [123]::(Ee c.thn++[tM [125]])).length<=4398046511104->AC prog T 247 [.ptr b 1 0 0,.d (.slc 12 (Fw c))] ⟨CY b u X::F,u::L⟩ (WR b F L (X++tM [123]::(Ee c.thn++[tM [125]])))) (i2:∀(u:Nat) (X:List DM) (F:Af) (L:List Nat),X.length+(tM [123]::(Ee c.els++[tM [125]])).length<=4398046511104->AC prog T 247 [.ptr b 1 0 0,.d (.slc 12 (E6 c))] ⟨CY b u X::F,u::L⟩ (WR b F L (X++tM [123]::(Ee c.els++[tM [125]])))):AC prog T 197 [.ptr b 1 0 0,.agg (BW c)] (⟨CY b u X::F,u::L⟩) (WR b F L (X++F3 c)):=by
 refine⟨call197,Ao.enterS func197 rfl ntmps197 rfl λhb=>?_⟩
 obtain⟨s1,s2,s3,s4,s5,s6⟩:=ok.inv
 obtain⟨hk,hok,_⟩:=I9 hF
 obtain⟨hft,_,_,_⟩:=hok h2
 have hT:F3 c=tT c.test++tM [123]::(Ee c.thn++tM [125]::Uy c.els):=by rw[IL,if_pos h2]
 have hTl:=congrArg List.length hT
 simp only[List.length_cons,List.length_append] at hTl
 have hE:E6 c=[]:=by rw[C1,List.map_eq_nil_iff];exact List.eq_nil_of_length_eq_zero h0
 have hi0:((c.els.length:Int)=1)=False:=by simp only[eq_iff_iff,iff_false];omega
 rw[Y4 c h0] at hT hTl
 have zf1:=tb.cmds
 simp only[go_sem,results197]
 refine Zx ?_
 simp only[go_sem,hE]
 intro b3 fb3
 try simp only[Ab,CY] at fb3
 refine Zx ?_
 simp only[go_sem,fb3]
 refine AI [b] [u] rfl rfl rfl rfl (by(try simp only[go_sem,fb3]);rfl) rfl (V1 T _ tb c.test s2 1 hft _ _ _ _ (by(try simp only[List.length_cons,List.length_append,List.length_nil]);omega)) ?_
 rintro _ _ ⟨W1,fW1,rfl,rfl⟩
 try simp only[Ae,Ab,CY] at fW1
 refine Zy ?_
 refine Zm 5 ?_
 refine Zx ?_
 simp only[go_sem,fb3]
 refine AI [b] [W1] rfl rfl rfl rfl (by(try simp only[go_sem,fb3]);rfl) rfl (i1 _ _ _ _ (by(try simp only[List.length_cons,List.length_append,List.length_nil]);omega)) ?_
 rintro _ _ ⟨W2,fW2,rfl,rfl⟩
 try simp only[Ae,Ab,CY] at fW2
 refine Zy ?_
 refine Zm 3 ?_
 refine Aa.block (Zp 7 ?_)
 refine Zc (λhc0=>?_) λhc0=>?_
 ·first|omega|(simp at hc0)
 refine Zp 11 ?_
 refine Zc (λhc1=>?_) λhc1=>?_
 ·first|omega|(simp at hc1)
 refine Aa.skip (Ai ?_)
 apply Cd [b3] [] [b] [W2] ZH
 · refine ⟨W2,by simp only[go_sem,fW2],rfl,?_⟩
   (simp only[go_sem,fb3,tM,List.append_assoc,hT];done)
 · simp only[Aj,Bj]
attribute [local go_sem] CY in
theorem Xm (T:Ap) (b u:Nat) (X:List DM) (F:Af) (L:List Nat) (c:Ax) (ok:c.Ok) (h0:0<c.els.length) (tb:LZ T) (h2:c.kind=2) (d:Int) (hF:cF c d=0) (hl:X.length+(F3 c).length<=4398046511104) (i1:∀(u:Nat) (X:List DM) (F:Af) (L:List Nat),X.length+(tM [123]::(Ee c.thn++[tM [125]])).length<=4398046511104->AC prog T 247 [.ptr b 1 0 0,.d (.slc 12 (Fw c))] ⟨CY b u X::F,u::L⟩ (WR b F L (X++tM [123]::(Ee c.thn++[tM [125]])))) (i2:∀(u:Nat) (X:List DM) (F:Af) (L:List Nat),X.length+(tM [123]::(Ee c.els++[tM [125]])).length<=4398046511104->AC prog T 247 [.ptr b 1 0 0,.d (.slc 12 (E6 c))] ⟨CY b u X::F,u::L⟩ (WR b F L (X++tM [123]::(Ee c.els++[tM [125]])))) (i3:(c.els[0]'h0).kind=2->∀(u:Nat) (X:List DM) (F:Af) (L:List Nat),X.length+(F3 (c.els[0]'h0)).length<=4398046511104->AC prog T 197 [.ptr b 1 0 0,.agg (BW (c.els[0]'h0))] ⟨CY b u X::F,u::L⟩ (WR b F L (X++F3 (c.els[0]'h0)))):AC prog T 197 [.ptr b 1 0 0,.agg (BW c)] (⟨CY b u X::F,u::L⟩) (WR b F L (X++F3 c)):=by
 refine⟨call197,Ao.enterS func197 rfl ntmps197 rfl λhb=>?_⟩
 obtain⟨s1,s2,s3,s4,s5,s6⟩:=ok.inv
 obtain⟨hk,hok,_⟩:=I9 hF
 obtain⟨hft,_,_,_⟩:=hok h2
 have hT:F3 c=tT c.test++tM [123]::(Ee c.thn++tM [125]::Uy c.els):=by rw[IL,if_pos h2]
 have hTl:=congrArg List.length hT
 simp only[List.length_cons,List.length_append] at hTl
 have el1:((c.els.length:Int)=1)=(c.els.length=1):=by simp only[eq_iff_iff];omega
 have zf1:=tb.cmds
 have zf2:=λd0_=>Hp c _ d0_ h0
 simp only[go_sem,results197]
 refine Zx (Zy ?_)
 intro b3 fb3
 try simp only[Ab,CY] at fb3
 refine Zx ?_
 simp only[go_sem,fb3]
 refine AI [b] [u] rfl rfl rfl rfl (by(try simp only[go_sem,fb3]);rfl) rfl (V1 T _ tb c.test s2 1 hft _ _ _ _ (by(try simp only[List.length_cons,List.length_append,List.length_nil]);omega)) ?_
 rintro _ _ ⟨W1,fW1,rfl,rfl⟩
 try simp only[Ae,Ab,CY] at fW1
 refine Zy ?_
 refine Zm 5 ?_
 refine Zx ?_
 simp only[go_sem,fb3]
 refine AI [b] [W1] rfl rfl rfl rfl (by(try simp only[go_sem,fb3]);rfl) rfl (i1 _ _ _ _ (by(try simp only[List.length_cons,List.length_append,List.length_nil]);omega)) ?_
 rintro _ _ ⟨W2,fW2,rfl,rfl⟩
 try simp only[Ae,Ab,CY] at fW2
 refine Zy ?_
 refine Zm 3 ?_
 refine Aa.block (Zp 7 ?_)
 refine Zc (λhc0=>?_) λhc0=>?_
 ·have he:BQ c=true:=by rw[Gj c h0];simp[hc0]
  rw[U0 c he h0] at hT hTl
  simp only[List.length_cons] at hTl
  refine Zx (Zy ?_)
  refine AI [b] [W2] rfl rfl rfl rfl (by(try simp only[go_sem,fb3]);rfl) rfl (Eg T _ _ _ _ _ _ _ (by(try simp only[List.length_cons,List.length_append,List.length_nil]);omega)) ?_
  rintro _ _ ⟨W3,fW3,rfl,rfl⟩
  try simp only[Ae,Ab,CY] at fW3
  refine Zy ?_
  refine Zq λK_ k_=>?_
  simp only[go_sem,zf2,fb3]
  (repeat(with_reducible refine And.intro ZS ?_))
  refine AI [b] [W3] rfl rfl rfl rfl (by(try simp only[go_sem,fb3]);rfl) rfl (i3 hc0.2 _ _ _ _ (by(try simp only[List.length_cons,List.length_append,List.length_nil]);omega)) ?_
  rintro _ _ ⟨W4,fW4,rfl,rfl⟩
  try simp only[Ae,Ab,CY] at fW4
  refine Zy ?_
  refine k_ _ _ (Ai ?_)
  apply Cd [b3] [] [b] [W4] ZH
  · refine ⟨W4,by simp only[go_sem,fW4],rfl,?_⟩
    (simp only[go_sem,fb3,tW,tM,List.append_assoc,List.cons_append,List.nil_append,hT];done)
  · simp only[Aj,Bj]
 have he:BQ c=false:=by rw[Gj c h0];rcases hc0 with h|h<;>simp[h]
 rw[Uz c he h0] at hT hTl
 simp only[List.length_cons,List.length_append,List.length_nil] at hTl
 refine Zp 11 ?_
 refine Zc (λhc1=>?_) λhc1=>?_
 ·refine Zx (Zy ?_)
  refine AI [b] [W2] rfl rfl rfl rfl (by(try simp only[go_sem,fb3]);rfl) rfl (Eg T _ _ _ _ _ _ _ (by(try simp only[List.length_cons,List.length_append,List.length_nil]);omega)) ?_
  rintro _ _ ⟨W5,fW5,rfl,rfl⟩
  try simp only[Ae,Ab,CY] at fW5
  refine Zy ?_
  refine Zq λK_ k_=>?_
  simp only[go_sem,fb3]
  refine AI [b] [W5] rfl rfl rfl rfl (by(try simp only[go_sem,fb3]);rfl) rfl (i2 _ _ _ _ (by(try simp only[List.length_cons,List.length_append,List.length_nil]);omega)) ?_
  rintro _ _ ⟨W6,fW6,rfl,rfl⟩
  try simp only[Ae,Ab,CY] at fW6
  refine Zy ?_
  refine k_ _ _ (Ai ?_)
  apply Cd [b3] [] [b] [W6] ZH
  · refine ⟨W6,by simp only[go_sem,fW6],rfl,?_⟩
    (simp only[go_sem,fb3,tW,tM,List.append_assoc,List.cons_append,List.nil_append,hT];done)
  · simp only[Aj,Bj]
 omega
attribute [local go_sem] CY NV List.length_map Nat.mul_one in
theorem Xo (T:Ap) (b u:Nat) (X:List DM) (F:Af) (L:List Nat) (c:Ax) (ok:c.Ok) (tb:LZ T) (d:Int) (hF:cF c d=0) (hl:X.length+(tW (Ce Dv c.kind)::F3 c).length<=4398046511104) (ib:c.kind=2->∀(u:Nat) (X:List DM) (F:Af) (L:List Nat),X.length+(F3 c).length<=4398046511104->AC prog T 197 [.ptr b 1 0 0,.agg (BW c)] ⟨CY b u X::F,u::L⟩ (WR b F L (X++F3 c))):AC prog T 113 [.ptr b 1 0 0,.agg (BW c)] (⟨CY b u X::F,u::L⟩) (WR b F L (X++tW (Ce Dv c.kind)::F3 c)):=by
 refine⟨call113,Ao.enterS func113 rfl ntmps113 rfl λhb=>?_⟩
 obtain⟨s1,s2,s3,s4,s5,s6⟩:=ok.inv
 obtain⟨hk,_,hok⟩:=I9 hF
 have hkk:1<=c.kind/\c.kind<=10:=by simpa[A7] using hk
 have hw:=Qc Dv c.kind ZO (by rw[NV];omega)
 simp only[List.length_cons] at hl
 have zf1:=tb.cmds
 simp only[go_sem,results113]
 refine Zx (Zy ?_)
 intro b3
 first|intro fb3|have fb3:=True.intro
 try simp only[Ab,CY] at fb3
 refine Zx ?_
 simp only[go_sem,zf1,hw,fb3]
 (repeat(with_reducible refine And.intro ZS ?_))
 refine AI [b] [u] rfl rfl rfl rfl (by(try simp only[go_sem,fb3]);rfl) rfl (Eg T _ _ _ _ _ _ _ (by(try simp only[List.length_cons,List.length_append,List.length_nil]);omega)) ?_
 rintro _ _ ⟨W1,fW1,rfl,rfl⟩
 try simp only[Ae,Ab,CY] at fW1
 refine Zy ?_
 refine Zm 5 ?_
 refine Zs (Zp 19 ?_)
 refine Zc (λhc0=>?_) λhc0=>?_
 ·refine Zx ?_
  simp only[go_sem,fb3]
  refine AI [b] [W1] rfl rfl rfl rfl (by(try simp only[go_sem,fb3]);rfl) rfl (ib hc0 _ _ _ _ (by(try simp only[List.length_cons,List.length_append,List.length_nil]);omega)) ?_
  rintro _ _ ⟨W2,fW2,rfl,rfl⟩
  try simp only[Ae,Ab,CY] at fW2
  refine Zy ?_
  refine Zm 0 ?_
  refine Aa.ret ?_
  simp only[Am]
  apply Ah [b3] [] [b] [W2] ZH
  · refine ⟨W2,by simp only[go_sem,fW2],rfl,?_⟩
    first|(simp only[go_sem,zf1,hw,fb3,fW1,fW2,tW,tG,tM,tN,tS,List.append_assoc,List.cons_append,List.nil_append,hT];done)|(simp only[go_sem,fb3,tW,List.append_assoc,List.cons_append,List.nil_append];done)
  · simp only[Aj,Bj]
 have hT:F3 c=(if 0<c.texts.length then BV c.texts else [])++[tM [59]]:=by rw[IL,if_neg hc0]
 refine Zk ?_
 refine Zs (Zp 67 ?_)
 refine Zc (λhc1=>?_) λhc1=>?_
 ·rw[if_pos ZO] at hT
  have hTl:=congrArg List.length hT
  simp only[List.length_cons,List.length_append,List.length_nil] at hTl
  refine Zq λK_ k_=>?_
  simp only[go_sem,fb3]
  refine AI [b] [W1] rfl rfl rfl rfl (by(try simp only[go_sem,fb3]);rfl) rfl (KF T _ _ _ _ _ _ (by(try simp only[List.length_append,List.length_cons,List.length_nil]);omega)) ?_
  rintro _ _ ⟨W3,fW3,rfl,rfl⟩
  try simp only[Ae,Ab,CY] at fW3
  refine Zy ?_
  refine k_ _ _ (Ac ?_)
  refine Zm 1 ?_
  refine Zq λK_ k_=>?_
  refine Zy ?_
  refine AI [b] [W3] rfl rfl rfl rfl (by(try simp only[go_sem,fb3]);rfl) rfl (Eg T _ _ _ _ _ _ _ (by(try simp only[List.length_cons,List.length_append,List.length_nil]);omega)) ?_
  rintro _ _ ⟨W4,fW4,rfl,rfl⟩
  try simp only[Ae,Ab,CY] at fW4
  refine Zy ?_
  refine k_ _ _ ?_
  apply Cd [b3] [] [b] [W4] ZH
  · refine ⟨W4,by simp only[go_sem,fW4],rfl,?_⟩
    first|(simp only[go_sem,fb3,tW,tM,List.append_assoc,List.cons_append,List.nil_append,hT];done)|(simp only[go_sem,zf1,hw,fb3,fW1,fW3,fW4,tW,tG,tM,tN,tS,List.append_assoc,List.cons_append,List.nil_append];done)
  · simp only[Aj,Bj]
 rw[if_neg ZO] at hT
 have hTl:=congrArg List.length hT
 simp only[List.length_cons,List.length_append,List.length_nil] at hTl
 refine Zk ?_
 refine Zq λK_ k_=>?_
 refine Zy ?_
 refine AI [b] [W1] rfl rfl rfl rfl (by(try simp only[go_sem,fb3]);rfl) rfl (Eg T _ _ _ _ _ _ _ (by(try simp only[List.length_cons,List.length_append,List.length_nil]);omega)) ?_
 rintro _ _ ⟨W5,fW5,rfl,rfl⟩
 try simp only[Ae,Ab,CY] at fW5
 refine Zy ?_
 refine k_ _ _ ?_
 apply Cd [b3] [] [b] [W5] ZH
 · refine ⟨W5,by simp only[go_sem,fW5],rfl,?_⟩
   first|(simp only[go_sem,fb3,tW,tM,List.append_assoc,List.cons_append,List.nil_append,hT];done)|(simp only[go_sem,zf1,hw,fb3,fW1,fW5,tW,tG,tM,tN,tS,List.append_assoc,List.cons_append,List.nil_append];done)
 · simp only[Aj,Bj]
theorem Xn (T:Ap) (b:Nat) (tb:LZ T) (c:Ax) (ok:c.Ok) (d:Int) (hF:cF c d=0):(c.kind=2->∀(u:Nat) (X:List DM) (F:Af) (L:List Nat),X.length+(F3 c).length<=4398046511104->AC prog T 197 [.ptr b 1 0 0,.agg (BW c)] ⟨CY b u X::F,u::L⟩ (WR b F L (X++F3 c)))/\(∀(u:Nat) (X:List DM) (F:Af) (L:List Nat),X.length+(tW (Ce Dv c.kind)::F3 c).length<=4398046511104->AC prog T 113 [.ptr b 1 0 0,.agg (BW c)] ⟨CY b u X::F,u::L⟩ (WR b F L (X++tW (Ce Dv c.kind)::F3 c))):=by
 induction c using Ax.ind generalizing d with
 | h c i1 i2=>
  obtain⟨s1,s2,s3,s4,s5,s6⟩:=ok.inv
  obtain⟨hk,hok,_⟩:=I9 hF
  have hb:c.kind=2->∀(u:Nat) (X:List DM) (F:Af) (L:List Nat),X.length+(F3 c).length<=4398046511104->AC prog T 197 [.ptr b 1 0 0,.agg (BW c)] ⟨CY b u X::F,u::L⟩ (WR b F L (X++F3 c)):=λh2 u X F L hl=>by
   obtain⟨hft,ha,hb,hc⟩:=hok h2
   have j1:∀(u:Nat) (X:List DM) (F:Af) (L:List Nat),X.length+(tM [123]::(Ee c.thn++[tM [125]])).length<=4398046511104->AC prog T 247 [.ptr b 1 0 0,.d (.slc 12 (Fw c))] ⟨CY b u X::F,u::L⟩ (WR b F L (X++tM [123]::(Ee c.thn++[tM [125]]))):=by
    rw[D2]
    exact λu X F L hl=>Lv T b u X F L c.thn s3 hl λx hx=>(i1 x hx (s5 x hx) (d+1) (ha x hx)).2
   have j2:∀(u:Nat) (X:List DM) (F:Af) (L:List Nat),X.length+(tM [123]::(Ee c.els++[tM [125]])).length<=4398046511104->AC prog T 247 [.ptr b 1 0 0,.d (.slc 12 (E6 c))] ⟨CY b u X::F,u::L⟩ (WR b F L (X++tM [123]::(Ee c.els++[tM [125]]))):=by
    rw[C1]
    refine λu X F L hl=>Lv T b u X F L c.els s4 hl λx hx=>?_
    cases he:BQ c with
    |true=>exact(i2 x hx (s6 x hx) d (hb he x hx)).2
    |false=>exact(i2 x hx (s6 x hx) (d+1) (hc he x hx)).2
   rcases Nat.eq_zero_or_pos c.els.length with h0|h0
   ·exact Xl T b u X F L c ok h0 tb h2 d hF hl j1 j2
   ·refine Xm T b u X F L c ok h0 tb h2 d hF hl j1 j2 λh3=>?_
    have hm:=List.getElem_mem h0
    cases he:BQ c with
    |true=>exact(i2 _ hm (s6 _ hm) d (hb he _ hm)).1 h3
    |false=>exact(i2 _ hm (s6 _ hm) (d+1) (hc he _ hm)).1 h3
  exact⟨hb,λu X F L hl=>Xo T b u X F L c ok tb d hF hl hb⟩
end
section
theorem LN (ws:List Gy) (k:Int) (h0:0<=k) (h:k<ws.length):(ws.map λs=>[D.str s]).getD k.toNat []=[D.str (Ce ws k)]:=by
 have hk:k.toNat<ws.length:=by omega
 rw[Al _ _ _ _ hk]
 simp[Ce,List.getD,hk]
theorem Nv (T:Ap) (k:Int) (h0:0<=k) (h1:k<11):PC prog T 190 [.d (.int .i64 k)] (.d (.str (Ce Dv k))):=by
 refine⟨call190,Ar.enterS func190 rfl ntmps190 rfl λhb=>?_⟩
 have hw:List.getD [[D.str []],[D.str [114,101,113,117,105,114,101]],[D.str [105,102]],[D.str [107,101,101,112]],[D.str [100,105,115,99,97,114,100]],[D.str [102,105,108,101,105,110,116,111]],[D.str [114,101,100,105,114,101,99,116]],[D.str [114,101,106,101,99,116]],[D.str [115,101,116,102,108,97,103]],[D.str [97,100,100,102,108,97,103]],[D.str [115,116,111,112]]] k.toNat []=[D.str (Ce Dv k)]:=LN Dv k h0 h1
 simp only[go_sem,results190]
 refine Zp 1 ?_
 refine Zp 2 (Aa.ret ?_)
 simp only[go_sem]
 skip
theorem TP (T:Ap) (k:Int) (h0:0<=k) (h1:k<11):PC prog T 273 [.d (.int .i64 k)] (.d (.str (Ce Dh k))):=by
 refine⟨call273,Ar.enterS func273 rfl ntmps273 rfl λhb=>?_⟩
 have hw:List.getD [[D.str []],[D.str [116,114,117,101]],[D.str [102,97,108,115,101]],[D.str [110,111,116]],[D.str [97,108,108,111,102]],[D.str [97,110,121,111,102]],[D.str [104,101,97,100,101,114]],[D.str [97,100,100,114,101,115,115]],[D.str [101,110,118,101,108,111,112,101]],[D.str [101,120,105,115,116,115]],[D.str [115,105,122,101]]] k.toNat []=[D.str (Ce Dh k)]:=LN Dh k h0 h1
 simp only[go_sem,results273]
 refine Zp 1 ?_
 refine Zp 2 (Aa.ret ?_)
 simp only[go_sem]
 skip
theorem RJ (T:Ap) (k:Int) (h0:0<=k) (h1:k<4):PC prog T 276 [.d (.int .i64 k)] (.d (.str (Ce Gq k))):=by
 refine⟨call276,Ar.enterS func276 rfl ntmps276 rfl λhb=>?_⟩
 have hw:List.getD [[D.str []],[D.str [105,115]],[D.str [99,111,110,116,97,105,110,115]],[D.str [109,97,116,99,104,101,115]]] k.toNat []=[D.str (Ce Gq k)]:=LN Gq k h0 h1
 simp only[go_sem,results276]
 refine Zp 1 ?_
 refine Zp 2 (Aa.ret ?_)
 simp only[go_sem]
 skip
theorem TD (T:Ap) (k:Int) (h0:0<=k) (h1:k<4):PC prog T 275 [.d (.int .i64 k)] (.d (.str (Ce Gs k))):=by
 refine⟨call275,Ar.enterS func275 rfl ntmps275 rfl λhb=>?_⟩
 have hw:List.getD [[D.str []],[D.str [97,108,108]],[D.str [108,111,99,97,108,112,97,114,116]],[D.str [100,111,109,97,105,110]]] k.toNat []=[D.str (Ce Gs k)]:=LN Gs k h0 h1
 simp only[go_sem,results275]
 refine Zp 1 ?_
 refine Zp 2 (Aa.ret ?_)
 simp only[go_sem]
 skip
theorem Dg (T:Ap) (k:Int) (s:Gy):PC prog T 202 [.d (.int .i64 k),.d (.str s)] (.agg [.d (.int .i64 k),.d (.str s),.d (.int .i64 0)]):=by
 refine⟨call202,Ar.enterS func202 rfl ntmps202 rfl λhb=>?_⟩
 simp only[go_sem,results202]
 refine Zx (Zy ?_)
 intro bz1
 first|intro fbz1|have fbz1:=True.intro
 try simp only[Ab] at fbz1
 refine Zp 4 (Aa.ret ?_)
 simp only[go_sem]
 skip
def Tp:List Gy->Bool->List DM
 |[],_=>[]
 |s::l,f=>(if f=true then [] else [tM [44]])++tS s::Tp l false
theorem M7 (l:List Gy) (k:Nat) (f:Bool) (h:k<l.length):Tp (l.drop k) f=(if f=true then [] else [tM [44]])++tS (l[k]'h)::Tp (l.drop (k+1)) false:=by
 rw[List.drop_eq_getElem_cons h,Tp]
theorem Acf (l:List Gy) (k:Nat) (f:Bool) (h:l.length<=k):Tp (l.drop k) f=[]:=by rw[List.drop_eq_nil_of_le h,Tp]
theorem Ahi (l:List Gy):Tp l false=Tq l false:=by
 induction l with
 |nil=>rfl
 |cons s l ih=>simp[Tp,Tq,ih]
theorem Ahj (l:List Gy) (h:0<l.length):tM [91]::Tp l true=Tq l true:=by
 cases l with
 |nil=>simp at h
 |cons s l=>simp[Tp,Tq,Ahi]
theorem Acg (l:List Gy) (f:Bool):(Tp l f).length<=2*l.length:=by
 induction l generalizing f with
 |nil=>simp[Tp]
 |cons s l ih=>cases f<;>simp[Tp]<;>have:=ih false<;>omega
theorem H9 (T:Ap) (l:List Gy) (h0:0<l.length) (hl:(BV l).length<=4398046511104):PC prog T 252 [.d (.slc 1 (l.map Aq))] (.d (.slc 3 (AK (BV l)))):=by
 refine⟨call252,Ar.enterS func252 rfl ntmps252 rfl λhb=>?_⟩
 have zf1:=λd0_=>Al Aq _ _ d0_ h0
 simp only[go_sem,results252]
 refine Zp 1 ?_
 refine Zs (Zp 9 ?_)
 refine Zc (λhc0=>?_) λhc0=>?_
 ·refine Zx ?_
  simp only[go_sem,zf1]
  (repeat(with_reducible refine And.intro ZS ?_))
  refine Aw rfl rfl rfl rfl (Dg T _ _) rfl rfl ?_
  refine Zy ?_
  refine Zm 2 ?_
  refine Aa.ret ?_
  simp only[go_sem]
  rw[BV,if_pos ZO];cases l;simp at h0;simp[AK,C9,tS,List.headD]
 have hl2:(BV l).length=2*l.length+1:=by rw[BV,if_neg ZO];simp[LI]
 refine Zk ?_
 refine Aa.cut 1 λK_ hK_=>?_
 simp only[List.take_succ_cons,List.take_zero,List.drop_succ_cons,List.drop_zero]
 refine Zy ?_
 refine ZP (Dg T _ _) ?_
 refine Zy ?_
 refine Kq (he:=by first|rfl|kernel_rfl) rfl rfl (show BL prog 113=some (169,3,32) by simp only[go_sem]) ZH rfl ZD λt1 ft1=>?_
 try simp only[Ae] at ft1
 refine Zy ?_
 refine hK_ _ _ ?_
 refine Zs (Zp 7 ?_)
 refine Aa.block (Zy ?_)
 refine Zl 1 6 (λn lc hc=> ∃(k v:Nat) (Y:List DM),n=l.length-k/\Av lc [(3,.own v 3 (AK Y)),(4,.d (.int .i64 k))]/\Av hc (⟨[],[v]⟩)/\(k<=l.length)/\(Y++Tp (l.drop k) (decide (k=0))=tM [91]::Tp l true)) ?_ ?_
 · refine ⟨_,0,t1,[tM [91]],rfl,?_,ZE,ZI,ZI⟩
   · (try simp only[go_sem])<;>first|exact⟨rfl⟩|(constructor;simp[AK,C9,tM];done)
 rintro _ _ _ ⟨k,v,Y,rfl,⟨rfl⟩,⟨rfl⟩,hk,hY⟩
 have hYl:=congrArg List.length hY
 have:=Acg l true
 simp only[List.length_append,List.length_cons] at hYl
 refine Zy ?_
 refine Zs (Zp 71 ?_)
 refine Zc (λhc1=>?_) λhc1=>?_
 ·have hlt:k<l.length:=by omega
  rw[M7 _ _ _ hlt] at hYl
  simp only[List.length_append,List.length_cons] at hYl
  have zf2:=λd0_=>Al Aq _ _ d0_ hlt
  refine Zk ?_
  refine Zs (Aa.block (Zs (Zp 39 ?_)))
  refine Zc (λhc2=>?_) λhc2=>?_
  ·have hk0:¬k=0:=by omega
   refine Zq λK_ k_=>?_
   refine Zy ?_
   refine ZP (Dg T _ _) ?_
   refine Zy ?_
   refine ZW λt2 ft2=>?_
   try simp only[Ae] at ft2
   refine Zy ?_
   refine k_ _ _ (Ac ?_)
   refine Zm 7 ?_
   refine Zq λK_ k_=>?_
   refine Z3 ?_
   refine ZP (Dg T _ _) ?_
   refine Zy ?_
   refine ZW λt3 ft3=>?_
   try simp only[Ae] at ft3
   refine Zy ?_
   refine k_ _ _ (Ai (Ac ?_))
   refine Zm 7 ?_
   refine Z6 ?_
   refine Ze 1 6 [] [] [] [t3] (.e ⟨_,ZM,k+1,t3,Y++(if k=0 then [] else [tM [44]])++[tS (l[k]'hlt)],rfl,?_,ZE,?_,?_⟩)
   · (try simp only[go_sem])<;>first|exact⟨rfl⟩|(constructor;simp[AK,C9,tM,tS,hk0])
   · omega
   · rw [<-hY,M7 _ _ _ hlt];by_cases hk0:k=0<;>simp[hk0]
  have hk0:k=0:=by omega
  refine Zk ?_
  refine Zq λK_ k_=>?_
  simp only[go_sem,zf2]
  (repeat(with_reducible refine And.intro ZS ?_))
  refine Aw rfl rfl rfl rfl (Dg T _ _) rfl rfl ?_
  refine Zy ?_
  refine ZW λt4 ft4=>?_
  try simp only[Ae] at ft4
  refine Zy ?_
  refine k_ _ _ (Ai (Ac ?_))
  refine Zm 7 ?_
  refine Z6 ?_
  refine Ze 1 6 [] [] [] [t4] (.e ⟨_,ZM,k+1,t4,Y++(if k=0 then [] else [tM [44]])++[tS (l[k]'hlt)],rfl,?_,ZE,?_,?_⟩)
  · (try simp only[go_sem])<;>first|exact⟨rfl⟩|(constructor;simp[AK,C9,tS,hk0])
  · omega
  · rw [<-hY,M7 _ _ _ hlt];by_cases hk0:k=0<;>simp[hk0]
 refine Z4 ?_
 refine Zx (Zy ?_)
 refine ZP (Dg T _ _) ?_
 refine Zy ?_
 refine ZW λt5 ft5=>?_
 try simp only[Ae] at ft5
 refine Zy ?_
 refine Zm 2 ?_
 refine Aa.ret ?_
 simp only[go_sem]
 have e:BV l=Y++[tM [93]]:=by rw[BV,if_neg ZO,<-Ahj l h0,<-hY,Acf _ _ _ ZO,List.append_nil]
 rw[e];simp[AK,C9,tM]
def pT (t:AM):List DM:=if 0<t.part then [tG (Ce Gs t.part)] else []
def mT (t:AM):List DM:=if 0<t.mat then [tG (Ce Gq t.mat)] else []
def nT (t:AM):List DM:=if 0<(t.names.length:Int) then BV t.names else []
def kT (t:AM):List DM:=if 0<(t.keys.length:Int) then BV t.keys else []
def zT (t:AM):List DM:=if t.kind=10 then [tG (if t.over=true then [111,118,101,114] else [117,110,100,101,114]),tN t.limit] else []
def TN (t:AM):List DM:=[tW (Ce Dh t.kind)]
def st1 (t:AM):List DM:=TN t++pT t
def st2 (t:AM):List DM:=st1 t++mT t
def st3 (t:AM):List DM:=st2 t++nT t
def st4 (t:AM):List DM:=st3 t++kT t
def Xw (t:AM):List DM:=st4 t++zT t
theorem AfH (t:AM) (h:Sx t=true) (h3:¬t.kind=3) (hz:t.kids.length=0):tT t=Xw t:=by
 obtain⟨o1,o2,o3,o4,o5,o6,o7,o8,o9⟩:=JQ t h
 have e45:A7 t.kind 4 5=false:=by
  cases e:A7 t.kind 4 5 with
  |false=>rfl
  |true=>have:=o2 e;omega
 rw[HU,if_neg h3,if_neg (by rw[e45];simp)]
 simp only[Xw,st4,st3,st2,st1,TN,pT,mT,nT,kT,zT]
 cases e68:A7 t.kind 6 8 with
 | true=>
  have hk:6<=t.kind/\t.kind<=8:=by simpa[A7] using e68
  obtain⟨p1,p2,p3,p4⟩:=o3 e68
  rw[if_pos rfl,if_pos (by omega:0<t.mat),if_pos (by omega:0<(t.names.length:Int)),if_pos (by omega:0<(t.keys.length:Int)),if_neg (by omega:¬t.kind=10)]
  by_cases h6:t.kind=6
  ·rw[if_pos h6,if_neg (by rw[o7 h6];omega)];simp
  ·obtain⟨q1,q2⟩:=o4 (by simp[A7];omega)
   rw[if_neg h6,if_pos ZO];simp
 | false=>
  obtain⟨r1,r2,r3⟩:=o8 e68
  rw[if_neg ZX,if_neg (by omega:¬0<t.part),if_neg (by omega:¬0<t.mat),if_neg (by omega:¬0<(t.keys.length:Int))]
  by_cases h9:t.kind=9
  ·have:=o5 h9
   rw[if_pos h9,if_pos (by omega:0<(t.names.length:Int)),if_neg (by omega:¬t.kind=10)];simp
  ·have h8:=o9 e68 h9
   rw[if_neg h9,if_neg (by omega:¬0<(t.names.length:Int))]
   by_cases h10:t.kind=10
   ·simp[h10]
   ·simp[h10]
theorem Ah2 (t:AM) (h:Sx t=true):t.part<4/\t.mat<4:=by
 obtain⟨o1,o2,o3,o4,o5,o6,o7,o8,o9⟩:=JQ t h
 cases e:A7 t.kind 6 8 with
 |false=>have:=o8 e;omega
 |true=>
  have hk:6<=t.kind/\t.kind<=8:=by simpa[A7] using e
  have:=o3 e
  by_cases h6:t.kind=6
  ·have:=o7 h6;omega
  ·have:=o4 (by simp[A7];omega);omega
theorem AfI (t:AM):(TN t).length=1/\(st1 t).length=1+(pT t).length/\(st2 t).length=(st1 t).length+(mT t).length/\(st3 t).length=(st2 t).length+(nT t).length/\(st4 t).length=(st3 t).length+(kT t).length/\(Xw t).length=(st4 t).length+(zT t).length:=by
 refine⟨?_,?_,?_,?_,?_,?_⟩<;>simp[Xw,st4,st3,st2,st1,TN]<;>omega
def Vs:List AM->Bool->List DM
 |[],_=>[]
 |x::l,f=>(if f=true then [] else [tM [44]])++(tT x++Vs l false)
theorem Nh (l:List AM) (k:Nat) (f:Bool) (h:k<l.length):Vs (l.drop k) f=(if f=true then [] else [tM [44]])++(tT (l[k]'h)++Vs (l.drop (k+1)) false):=by
 rw[List.drop_eq_getElem_cons h,Vs]
theorem AcI (l:List AM) (k:Nat) (f:Bool) (h:l.length<=k):Vs (l.drop k) f=[]:=by rw[List.drop_eq_nil_of_le h,Vs]
theorem AhG (l:List AM):Vs l false=Qb l false:=by
 induction l with
 |nil=>rw[Vs,Qb]
 |cons s l ih=>simp[Vs,Qb,ih]
theorem AhH (l:List AM) (h:0<l.length):tM [40]::Vs l true=Qb l true:=by
 cases l with
 |nil=>simp at h
 |cons s l=>simp[Vs,Qb,AhG]
theorem Nk (T:Ap) (t:AM) (ok:t.Ok) (d:Int) (hF:tF t d=0) (hl:(tT t).length<=4398046511104) (ih:∀x∈t.kids,(tT x).length<=4398046511104->PC prog T 253 [.agg (AJ x)] (.d (.slc 3 (AK (tT x))))):PC prog T 253 [.agg (AJ t)] (.d (.slc 3 (AK (tT t)))):=by
 refine⟨call253,Ar.enterS func253 rfl ntmps253 rfl λhb=>?_⟩
 obtain⟨s1,s2,s3,s4⟩:=ok.inv
 obtain⟨hk,hO,hK⟩:=Sk hF
 obtain⟨o1,o2,o3,o4,o5,o6,o7,o8,o9⟩:=JQ t hO
 have hkk:1<=t.kind/\t.kind<=10:=by simpa[A7] using hk
 obtain⟨l0,l1,l2,l3,l4,l5⟩:=AfI t
 obtain⟨pk1,pk2⟩:=Ah2 t hO
 simp only[go_sem,results253]
 refine Zx (Zy ?_)
 intro b3
 first|intro fb3|have fb3:=True.intro
 try simp only[Ab] at fb3
 refine Aa.cut 4 λK_ hK_=>?_
 simp only[List.take_succ_cons,List.take_zero,List.drop_succ_cons,List.drop_zero]
 refine Zy ?_
 refine Aw rfl rfl rfl rfl (TP T _ ZO ZO) rfl rfl ?_
 refine Zy ?_
 refine ZP (Dg T _ _) ?_
 refine Zy ?_
 refine Kq (he:=by first|rfl|kernel_rfl) rfl rfl (show BL prog 113=some (169,3,32) by simp only[go_sem]) ZH rfl ZD λt1 ft1=>?_
 try simp only[Ae] at ft1
 refine Zy ?_
 refine hK_ _ _ ?_
 refine Zm 10 ?_
 refine Zs (Zp 19 ?_)
 refine Zc (λhc0=>?_) λhc0=>?_
 ·have h0:0<t.kids.length:=by rw[o1 hc0];omega
  have hT:tT t=tW (Ce Dh t.kind)::tT (t.kids[0]'h0):=by rw[HU,if_pos hc0,AdV]
  have hTl:=congrArg List.length hT
  simp only[List.length_cons] at hTl
  have zf1:=λd0_=>BJ t 0 d0_ h0
  refine Zx ?_
  simp only[go_sem,zf1]
  (repeat(with_reducible refine And.intro ZS ?_))
  refine Aw rfl rfl rfl rfl (ih _ (List.getElem_mem h0) ZO) rfl rfl ?_
  refine Zy ?_
  refine ZW λt2 ft2=>?_
  try simp only[Ae] at ft2
  refine Zy ?_
  refine Zm 2 ?_
  refine Aa.ret ?_
  simp only[go_sem]
  rw[hT];simp[AK,C9,tW]
 refine Zk ?_
 refine Zs (Zp 67 ?_)
 refine Zc (λhc1=>?_) λhc1=>?_
 ·have h0:0<t.kids.length:=by omega
  have e45:A7 t.kind 4 5=true:=by
    cases e:A7 t.kind 3 5 with
    |false=>have:=o6 e;omega
    |true=>simp[A7] at e⊢;omega
  have hT:tT t=tW (Ce Dh t.kind)::(tM [40]::Vs t.kids true++[tM [41]]):=by rw[HU,if_neg hc0,if_pos e45,AhH _ h0]
  have hTl:=congrArg List.length hT
  simp only[List.length_cons,List.length_append,List.length_nil] at hTl
  refine Zx (Zy ?_)
  refine ZP (Dg T _ _) ?_
  refine Zy ?_
  refine BF rfl rfl rfl rfl (show BL prog 113=some (169,3,32) by simp only[go_sem]) rfl rfl (by simp only[go_sem]) ZJ (by first|(simp only[go_sem,List.length_cons,List.length_nil]<;>omega)|(simp<;>omega)) (by first|(simp only[go_sem,List.length_cons,List.length_nil]<;>omega)|(simp<;>omega)) λt3 ft3=>?_
  try simp only[Ae] at ft3
  refine Zy ?_
  refine Zm 3 ?_
  refine Zs (Zp 7 ?_)
  refine Aa.block (Zy ?_)
  refine Zl 1 6 (λn lc hc=> ∃(k v:Nat) (Y:List DM),n=t.kids.length-k/\Av lc [(3,.own v 3 (AK Y)),(4,.d (.int .i64 k))]/\Av hc (⟨[(b3,⟨8,1,[AJ t]⟩)],[v]⟩)/\(k<=t.kids.length)/\(Y++Vs (t.kids.drop k) (decide (k=0))=tW (Ce Dh t.kind)::tM [40]::Vs t.kids true)) ?_ ?_
  · refine ⟨_,0,t3,[tW (Ce Dh t.kind),tM [40]],rfl,?_,ZE,ZI,ZI⟩
    · (try simp only[go_sem])<;>first|exact⟨rfl⟩|(constructor;simp[AK,C9,tM,tW];done)
  rintro _ _ _ ⟨k,v,Y,rfl,⟨rfl⟩,⟨rfl⟩,hk2,hY⟩
  have hYl:=congrArg List.length hY
  simp only[List.length_append,List.length_cons] at hYl
  refine Zy ?_
  refine Zs (Zp 135 ?_)
  refine Zc (λhc2=>?_) λhc2=>?_
  ·have hlt:k<t.kids.length:=by omega
   rw[Nh _ _ _ hlt] at hYl
   simp only[List.length_append] at hYl
   have zf2:=λd0_=>BJ t k d0_ hlt
   refine Zk ?_
   refine Zs (Aa.block (Zs (Zp 39 ?_)))
   refine Zc (λhc3=>?_) λhc3=>?_
   ·have hk0:¬k=0:=by omega
    simp only[hk0,decide_false,Bool.false_eq_true,if_false,List.length_cons,List.length_nil] at hYl
    refine Zq λK_ k_=>?_
    refine Zy ?_
    refine ZP (Dg T _ _) ?_
    refine Zy ?_
    refine ZW λt4 ft4=>?_
    try simp only[Ae] at ft4
    refine Zy ?_
    refine k_ _ _ (Ac ?_)
    refine Zm 7 ?_
    refine Zq λK_ k_=>?_
    refine Z3 ?_
    refine ZP (ih _ (List.getElem_mem hlt) ZO) ?_
    refine Zy ?_
    refine ZW λt5 ft5=>?_
    try simp only[Ae] at ft5
    refine Zy ?_
    refine k_ _ _ (Ai (Ac ?_))
    refine Zm 7 ?_
    refine Z6 ?_
    refine Ze 1 6 [] [] [] [t5] (.e ⟨_,ZM,k+1,t5,Y++(if k=0 then [] else [tM [44]])++tT (t.kids[k]'hlt),rfl,?_,ZE,?_,?_⟩)
    · (try simp only[go_sem])<;>first|exact⟨rfl⟩|(constructor;simp[AK,C9,tM,hk0])
    · omega
    · rw [<-hY,Nh _ _ _ hlt];by_cases hk0:k=0<;>simp[hk0]
   have hk0:k=0:=by omega
   refine Zk ?_
   refine Zq λK_ k_=>?_
   simp only[go_sem,zf2]
   (repeat(with_reducible refine And.intro ZS ?_))
   refine Aw rfl rfl rfl rfl (ih _ (List.getElem_mem hlt) ZO) rfl rfl ?_
   refine Zy ?_
   refine ZW λt6 ft6=>?_
   try simp only[Ae] at ft6
   refine Zy ?_
   refine k_ _ _ (Ai (Ac ?_))
   refine Zm 7 ?_
   refine Z6 ?_
   refine Ze 1 6 [] [] [] [t6] (.e ⟨_,ZM,k+1,t6,Y++(if k=0 then [] else [tM [44]])++tT (t.kids[k]'hlt),rfl,?_,ZE,?_,?_⟩)
   · (try simp only[go_sem])<;>first|exact⟨rfl⟩|(constructor;simp[AK,hk0])
   · omega
   · rw [<-hY,Nh _ _ _ hlt];by_cases hk0:k=0<;>simp[hk0]
  refine Z4 ?_
  refine Zx (Zy ?_)
  refine ZP (Dg T _ _) ?_
  refine Zy ?_
  refine ZW λt7 ft7=>?_
  try simp only[Ae] at ft7
  refine Zy ?_
  refine Zm 2 ?_
  refine Aa.ret ?_
  simp only[go_sem]
  have e:tT t=Y++[tM [41]]:=by
    rw[AcI _ _ _ ZO,List.append_nil] at hY
    rw[hT,hY];rfl
  rw[e];simp[AK,C9,tM]
 have hT:tT t=Xw t:=AfH t hO hc0 ZO
 have hTl:=congrArg List.length hT
 refine Zk ?_
 refine Zs (Zp 35 ?_)
 refine Zy ?_
 refine Zi 1 (λlc hc=> ∃(v:Nat),Av lc [(3,.own v 3 (AK (st1 t)))]/\Av hc (⟨[(b3,⟨8,1,[AJ t]⟩)],[v]⟩)) ?_ ?_
 ·refine Zc (λhc4=>?_) λhc4=>?_
  ·have hg:pT t=[tG (Ce Gs t.part)]:=if_pos hc4
   have hgl:=congrArg List.length hg
   simp only[List.length_cons,List.length_nil] at hgl
   refine Zq λK_ k_=>?_
   refine Zy ?_
   refine Aw rfl rfl rfl rfl (TD T _ ZO ZO) rfl rfl ?_
   refine Zy ?_
   refine ZP (Dg T _ _) ?_
   refine Zy ?_
   refine BF rfl rfl rfl rfl (show BL prog 113=some (169,3,32) by simp only[go_sem]) rfl rfl (by simp only[go_sem]) ZJ (by first|(simp only[go_sem,List.length_cons,List.length_nil]<;>omega)|(simp<;>omega)) (by first|(simp only[go_sem,List.length_cons,List.length_nil]<;>omega)|(simp<;>omega)) λt8 ft8=>?_
   try simp only[Ae] at ft8
   refine Zy ?_
   refine k_ _ _ (Ac ?_)
   refine Ze 1 2 [] [] [] [t8] (.e ⟨t8,?_,ZG⟩)
   · (try simp only[go_sem])<;>first|exact⟨rfl⟩|(constructor;first|(rw[st1,hg];simp[AK,C9,tG,tW,TN];done)|(rw[st1,hg];simp[AK,C9,tG,tW,tN,TN,hc9]))
  have hg:pT t=[]:=if_neg (show¬0<t.part by omega)
  refine Zk ?_
  refine Ze 1 2 [] [] [] [t1] (.e ⟨t1,?_,ZG⟩)
  · (try simp only[go_sem])<;>first|exact⟨rfl⟩|(constructor;first|(rw[st1,hg];simp[AK,C9,tW,TN];done)|(rw[st1,hg];simp[AK,C9,tG,tW,tN,TN,hc9]))
 rintro _ _ ⟨v,⟨rfl⟩,⟨rfl⟩⟩
 refine Zy ?_
 refine Zs (Zp 19 ?_)
 refine Zy ?_
 refine Zi 1 (λlc hc=> ∃(v:Nat),Av lc [(3,.own v 3 (AK (st2 t)))]/\Av hc (⟨[(b3,⟨8,1,[AJ t]⟩)],[v]⟩)) ?_ ?_
 ·refine Zc (λhc5=>?_) λhc5=>?_
  ·have hg:mT t=[tG (Ce Gq t.mat)]:=if_pos hc5
   have hgl:=congrArg List.length hg
   simp only[List.length_cons,List.length_nil] at hgl
   refine Zq λK_ k_=>?_
   refine Zy ?_
   refine Aw rfl rfl rfl rfl (RJ T _ ZO ZO) rfl rfl ?_
   refine Zy ?_
   refine ZP (Dg T _ _) ?_
   refine Zy ?_
   refine BF rfl rfl rfl rfl (show BL prog 113=some (169,3,32) by simp only[go_sem]) rfl rfl (by simp only[go_sem]) ZJ (by first|(simp only[go_sem,List.length_cons,List.length_nil]<;>omega)|(simp<;>omega)) (by first|(simp only[go_sem,List.length_cons,List.length_nil]<;>omega)|(simp<;>omega)) λt9 ft9=>?_
   try simp only[Ae] at ft9
   refine Zy ?_
   refine k_ _ _ (Ac ?_)
   refine Ze 1 2 [] [] [] [t9] (.e ⟨t9,?_,ZG⟩)
   · (try simp only[go_sem])<;>first|exact⟨rfl⟩|(constructor;first|(rw[st2,hg];simp[AK,C9,tG];done)|(rw[st2,hg];simp[AK,C9,tG,tW,tN,TN,hc9]))
  have hg:mT t=[]:=if_neg (show¬0<t.mat by omega)
  refine Zk ?_
  refine Ze 1 2 [] [] [] [v] (.e ⟨v,?_,ZG⟩)
  · (try simp only[go_sem])<;>first|exact⟨rfl⟩|(constructor;first|(rw[st2,hg];simp[AK];done)|(rw[st2,hg];simp[AK,C9,tG,tW,tN,TN,hc9]))
 rintro _ _ ⟨v,⟨rfl⟩,⟨rfl⟩⟩
 refine Zy ?_
 refine Zs (Zp 35 ?_)
 refine Zy ?_
 refine Zi 1 (λlc hc=> ∃(v:Nat),Av lc [(3,.own v 3 (AK (st3 t)))]/\Av hc (⟨[(b3,⟨8,1,[AJ t]⟩)],[v]⟩)) ?_ ?_
 ·refine Zc (λhc6=>?_) λhc6=>?_
  ·have hg:nT t=BV t.names:=if_pos hc6
   have hgl:=congrArg List.length hg
   refine Zq λK_ k_=>?_
   refine Zy ?_
   refine Aw rfl rfl rfl rfl (H9 T _ ZO ZO) rfl rfl ?_
   refine Zy ?_
   refine BF rfl rfl rfl rfl (show BL prog 113=some (169,3,32) by simp only[go_sem]) rfl rfl (by simp only[go_sem]) ZJ (by first|(simp only[go_sem]<;>omega)|(simp<;>omega)) (by first|(simp only[go_sem]<;>omega)|(simp<;>omega)) λt10 ft10=>?_
   try simp only[Ae] at ft10
   refine Zy ?_
   refine k_ _ _ (Ac ?_)
   refine Ze 1 2 [] [] [] [t10] (.e ⟨t10,?_,ZG⟩)
   · (try simp only[go_sem])<;>first|exact⟨rfl⟩|(constructor;first|(rw[st3,hg];simp[AK];done)|(rw[st3,hg];simp[AK,C9,tG,tW,tN,TN,hc9]))
  have hg:nT t=[]:=if_neg (show¬0<(t.names.length:Int) by omega)
  refine Zk ?_
  refine Ze 1 2 [] [] [] [v] (.e ⟨v,?_,ZG⟩)
  · (try simp only[go_sem])<;>first|exact⟨rfl⟩|(constructor;first|(rw[st3,hg];simp[AK];done)|(rw[st3,hg];simp[AK,C9,tG,tW,tN,TN,hc9]))
 rintro _ _ ⟨v,⟨rfl⟩,⟨rfl⟩⟩
 refine Zy ?_
 refine Zs (Zp 35 ?_)
 refine Zy ?_
 refine Zi 1 (λlc hc=> ∃(v:Nat),Av lc [(3,.own v 3 (AK (st4 t)))]/\Av hc (⟨[(b3,⟨8,1,[AJ t]⟩)],[v]⟩)) ?_ ?_
 ·refine Zc (λhc7=>?_) λhc7=>?_
  ·have hg:kT t=BV t.keys:=if_pos hc7
   have hgl:=congrArg List.length hg
   refine Zq λK_ k_=>?_
   refine Zy ?_
   refine Aw rfl rfl rfl rfl (H9 T _ ZO ZO) rfl rfl ?_
   refine Zy ?_
   refine BF rfl rfl rfl rfl (show BL prog 113=some (169,3,32) by simp only[go_sem]) rfl rfl (by simp only[go_sem]) ZJ (by first|(simp only[go_sem]<;>omega)|(simp<;>omega)) (by first|(simp only[go_sem]<;>omega)|(simp<;>omega)) λt11 ft11=>?_
   try simp only[Ae] at ft11
   refine Zy ?_
   refine k_ _ _ (Ac ?_)
   refine Ze 1 2 [] [] [] [t11] (.e ⟨t11,?_,ZG⟩)
   · (try simp only[go_sem])<;>first|exact⟨rfl⟩|(constructor;first|(rw[st4,hg];simp[AK];done)|(rw[st4,hg];simp[AK,C9,tG,tW,tN,TN,hc9]))
  have hg:kT t=[]:=if_neg (show¬0<(t.keys.length:Int) by omega)
  refine Zk ?_
  refine Ze 1 2 [] [] [] [v] (.e ⟨v,?_,ZG⟩)
  · (try simp only[go_sem])<;>first|exact⟨rfl⟩|(constructor;first|(rw[st4,hg];simp[AK];done)|(rw[st4,hg];simp[AK,C9,tG,tW,tN,TN,hc9]))
 rintro _ _ ⟨v,⟨rfl⟩,⟨rfl⟩⟩
 refine Zy ?_
 refine Zs (Zp 19 ?_)
 refine Zy ?_
 refine Zi 0 (λlc hc=> ∃(v:Nat),Av lc [(3,.own v 3 (AK (Xw t)))]/\Av hc (⟨[(b3,⟨8,1,[AJ t]⟩)],[v]⟩)) ?_ ?_
 ·refine Zc (λhc8=>?_) λhc8=>?_
  ·have hg:zT t=[tG (if t.over=true then [111,118,101,114] else [117,110,100,101,114]),tN t.limit]:=if_pos hc8
   have hgl:=congrArg List.length hg
   simp only[List.length_cons,List.length_nil] at hgl
   refine Zp 7 ?_
   refine Zs (Zp 23 ?_)
   refine Zc (λhc9=>?_) λhc9=>?_
   ·refine Z6 ?_
    refine Zt true [0,1,2,3,4,5,6,7,8] λK_ k_=>?_
    refine Zy ?_
    refine ZP (Dg T _ _) ?_
    refine Zy ?_
    refine ZW λt12 ft12=>?_
    try simp only[Ae] at ft12
    refine Zy ?_
    refine k_ _ _ (Ac ?_)
    refine Ze 0 2 [] [] [] [t12] (.e ⟨t12,?_,ZG⟩)
    · (try simp only[go_sem])<;>first|exact⟨rfl⟩|(constructor;first|(rw[Xw,hg];simp[AK,C9,tG,tN];done)|(rw[Xw,hg];simp[AK,C9,tG,tN,hc9]))
   refine Zk ?_
   refine Zt true [0,1,2,3,4,5,6,7,8] λK_ k_=>?_
   refine Zy ?_
   refine ZP (Dg T _ _) ?_
   refine Zy ?_
   refine ZW λt13 ft13=>?_
   try simp only[Ae] at ft13
   refine Zy ?_
   refine k_ _ _ (Ac ?_)
   refine Ze 0 2 [] [] [] [t13] (.e ⟨t13,?_,ZG⟩)
   · (try simp only[go_sem])<;>first|exact⟨rfl⟩|(constructor;first|(rw[Xw,hg];simp[AK,C9,tG,tN];done)|(rw[Xw,hg];simp[AK,C9,tG,tN,hc9]))
  have hg:zT t=[]:=if_neg hc8
  refine Zk ?_
  refine Ze 0 2 [] [] [] [v] (.e ⟨v,?_,ZG⟩)
  · (try simp only[go_sem])<;>first|exact⟨rfl⟩|(constructor;first|(rw[Xw,hg];simp[AK];done)|(rw[Xw,hg];simp[AK,C9,tG,tW,tN,TN,hc9]))
 rintro _ _ ⟨v,⟨rfl⟩,⟨rfl⟩⟩
 refine Zy ?_
 refine Zp 1 (Aa.ret ?_)
 refine Zy ?_
 rw[hT]
theorem Sp (T:Ap) (t:AM) (ok:t.Ok) (d:Int) (hF:tF t d=0) (hl:(tT t).length<=4398046511104):PC prog T 253 [.agg (AJ t)] (.d (.slc 3 (AK (tT t)))):=by
 induction t using AM.ind generalizing d with
 |h t ih=>exact Nk T t ok d hF hl λx hx h=>ih x hx (ok.inv.2.2.2 x hx) (d+1) ((Sk hF).2.2 x hx) h
theorem PG (l:List Ax) (x:Ax) (h:x∈l):(F3 x).length<=(Ee l).length:=by
 induction l with
 |nil=>simp at h
 |cons y l ih=>
  rw[Ee]
  simp only[List.length_cons,List.length_append]
  rcases List.mem_cons.1 h with rfl|h
  ·omega
  ·have:=ih h;omega
end
section
theorem MW (T:Ap) (c:Ax) (ok:c.Ok) (d:Int) (hF:cF c d=0) (hl:(F3 c).length<=4398046511104) (i1:c.kind=2->PC prog T 118 [.d (.slc 12 (Fw c))] (.d (.slc 3 (AK (Ee c.thn))))) (i2:c.kind=2->BQ c=false->0<c.els.length->PC prog T 118 [.d (.slc 12 (E6 c))] (.d (.slc 3 (AK (Ee c.els))))) (i3:c.kind=2->BQ c=true->∀h:0<c.els.length,PC prog T 203 [.agg (BW (c.els[0]'h))] (.d (.slc 3 (AK (F3 (c.els[0]'h)))))):PC prog T 203 [.agg (BW c)] (.d (.slc 3 (AK (F3 c)))):=by
 refine⟨call203,Ar.enterS func203 rfl ntmps203 rfl λhb=>?_⟩
 obtain⟨s1,s2,s3,s4,s5,s6⟩:=ok.inv
 obtain⟨hk,hok,_⟩:=I9 hF
 simp only[go_sem,results203]
 refine Zx (Zy ?_)
 intro b3
 first|intro fb3|have fb3:=True.intro
 try simp only[Ab] at fb3
 refine Zp 10 ?_
 refine Zy ?_
 refine Bs 3 3 rfl rfl ZD λu fu=>?_
 try simp only[Ae] at fu
 refine Zy ?_
 refine Zs (Zp 19 ?_)
 refine Zc (λhc0=>?_) λhc0=>?_
 ·have hT:F3 c=(if 0<c.texts.length then BV c.texts else [])++[tM [59]]:=by rw[IL,if_neg hc0]
  refine Zs (Zp 67 ?_)
  refine Zc (λhc1=>?_) λhc1=>?_
  ·rw[if_pos ZO] at hT
   have hTl:=congrArg List.length hT
   simp only[List.length_cons,List.length_append,List.length_nil] at hTl
   refine Zq λK_ k_=>?_
   refine Zy ?_
   refine Aw rfl rfl rfl rfl (H9 T _ ZO ZO) rfl rfl ?_
   refine Zy ?_
   refine BF rfl rfl rfl rfl (show BL prog 113=some (169,3,32) by simp only[go_sem]) rfl rfl (by simp only[go_sem]) ZJ (by first|(simp only[go_sem,List.length_nil]<;>omega)|(simp<;>omega)) (by first|(simp only[go_sem,List.length_nil]<;>omega)|(simp<;>omega)) λt1 ft1=>?_
   try simp only[Ae] at ft1
   refine Zy ?_
   refine k_ _ _ (Ac ?_)
   refine Zm 2 ?_
   refine Zx (Zy ?_)
   refine Aw rfl rfl rfl rfl (Dg T _ _) rfl rfl ?_
   refine Zy ?_
   refine BF rfl rfl rfl rfl (show BL prog 113=some (169,3,32) by simp only[go_sem]) rfl rfl (by simp only[go_sem]) ZJ (by first|(simp only[go_sem,List.length_cons,List.length_nil]<;>omega)|(simp<;>omega)) (by first|(simp only[go_sem,List.length_cons,List.length_nil]<;>omega)|(simp<;>omega)) λt2 ft2=>?_
   try simp only[Ae] at ft2
   refine Zy ?_
   refine Zm 1 ?_
   refine Aa.ret ?_
   simp only[go_sem]
   simp[AK,C9,tM,hT]
  rw[if_neg ZO] at hT
  have hTl:=congrArg List.length hT
  simp only[List.length_cons,List.length_append,List.length_nil] at hTl
  refine Zk ?_
  refine Zx (Zy ?_)
  refine Aw rfl rfl rfl rfl (Dg T _ _) rfl rfl ?_
  refine Zy ?_
  refine BF rfl rfl rfl rfl (show BL prog 113=some (169,3,32) by simp only[go_sem]) rfl rfl (by simp only[go_sem]) ZJ (by first|(simp only[go_sem,List.length_cons,List.length_nil]<;>omega)|(simp<;>omega)) (by first|(simp only[go_sem,List.length_cons,List.length_nil]<;>omega)|(simp<;>omega)) λt3 ft3=>?_
  try simp only[Ae] at ft3
  refine Zy ?_
  refine Zm 2 ?_
  refine Aa.ret ?_
  simp only[go_sem]
  simp[AK,C9,tM,hT]
 obtain⟨hft,hf1,hf2,hf3⟩:=hok hc0
 have hT:F3 c=tT c.test++tM [123]::(Ee c.thn++tM [125]::Uy c.els):=by rw[IL,if_pos hc0]
 have hTl:=congrArg List.length hT
 simp only[List.length_cons,List.length_append] at hTl
 refine Zk ?_
 refine Zx (Zy ?_)
 refine Aw rfl rfl rfl rfl (Sp T _ s2 1 hft ZO) rfl rfl ?_
 refine Zy ?_
 refine BF rfl rfl rfl rfl (show BL prog 113=some (169,3,32) by simp only[go_sem]) rfl rfl (by simp only[go_sem]) ZJ (by first|(simp only[go_sem,List.length_nil]<;>omega)|(simp<;>omega)) (by first|(simp only[go_sem,List.length_nil]<;>omega)|(simp<;>omega)) λt4 ft4=>?_
 try simp only[Ae] at ft4
 refine Zy ?_
 refine Zm 3 ?_
 refine Zx (Zy ?_)
 refine Aw rfl rfl rfl rfl (Dg T _ _) rfl rfl ?_
 refine Zy ?_
 refine BF rfl rfl rfl rfl (show BL prog 113=some (169,3,32) by simp only[go_sem]) rfl rfl (by simp only[go_sem]) ZJ (by first|(simp only[go_sem,List.length_cons,List.length_nil]<;>omega)|(simp<;>omega)) (by first|(simp only[go_sem,List.length_cons,List.length_nil]<;>omega)|(simp<;>omega)) λt5 ft5=>?_
 try simp only[Ae] at ft5
 refine Zy ?_
 refine Zm 3 ?_
 refine Zx (Zy ?_)
 refine Aw rfl rfl rfl rfl (i1 hc0) rfl rfl ?_
 refine Zy ?_
 refine BF rfl rfl rfl rfl (show BL prog 113=some (169,3,32) by simp only[go_sem]) rfl rfl (by simp only[go_sem]) ZJ (by first|(simp only[go_sem,List.length_append,List.length_cons,List.length_nil]<;>omega)|(simp<;>omega)) (by first|(simp only[go_sem,List.length_append,List.length_cons,List.length_nil]<;>omega)|(simp<;>omega)) λt6 ft6=>?_
 try simp only[Ae] at ft6
 refine Zy ?_
 refine Zm 3 ?_
 refine Zx (Zy ?_)
 refine Aw rfl rfl rfl rfl (Dg T _ _) rfl rfl ?_
 refine Zy ?_
 refine BF rfl rfl rfl rfl (show BL prog 113=some (169,3,32) by simp only[go_sem]) rfl rfl (by simp only[go_sem]) ZJ (by first|(simp only[go_sem,List.length_append,List.length_cons,List.length_nil]<;>omega)|(simp<;>omega)) (by first|(simp only[go_sem,List.length_append,List.length_cons,List.length_nil]<;>omega)|(simp<;>omega)) λt7 ft7=>?_
 try simp only[Ae] at ft7
 refine Zy ?_
 refine Zm 3 ?_
 refine Zs (Zx (Zy ?_))
 refine Aw rfl rfl rfl rfl (U1 T _) rfl rfl ?_
 refine Zy ?_
 refine Zc (λhc2=>?_) λhc2=>?_
 ·have h0:0<c.els.length:=by rcases Nat.eq_zero_or_pos c.els.length with h|h;exact absurd hc2 (by rw[JF c ZO];simp);exact h
  rw[U0 c hc2 h0] at hT hTl
  simp only[List.length_cons] at hTl
  have zf1:=λd0_=>Hp c _ d0_ h0
  refine Zx (Zy ?_)
  refine Aw rfl rfl rfl rfl (Dg T _ _) rfl rfl ?_
  refine Zy ?_
  refine BF rfl rfl rfl rfl (show BL prog 113=some (169,3,32) by simp only[go_sem]) rfl rfl (by simp only[go_sem]) ZJ (by first|(simp only[go_sem,List.length_append,List.length_cons,List.length_nil]<;>omega)|(simp<;>omega)) (by first|(simp only[go_sem,List.length_append,List.length_cons,List.length_nil]<;>omega)|(simp<;>omega)) λt8 ft8=>?_
  try simp only[Ae] at ft8
  refine Zy ?_
  refine Zm 3 ?_
  refine Zx ?_
  simp only[go_sem,zf1]
  (repeat(with_reducible refine And.intro ZS ?_))
  refine Aw rfl rfl rfl rfl (i3 hc0 hc2 h0) rfl rfl ?_
  refine Zy ?_
  refine BF rfl rfl rfl rfl (show BL prog 113=some (169,3,32) by simp only[go_sem]) rfl rfl (by simp only[go_sem]) ZJ (by first|(simp only[go_sem,List.length_append,List.length_cons,List.length_nil]<;>omega)|(simp<;>omega)) (by first|(simp only[go_sem,List.length_append,List.length_cons,List.length_nil]<;>omega)|(simp<;>omega)) λt9 ft9=>?_
  try simp only[Ae] at ft9
  refine Zy ?_
  refine Zm 2 ?_
  refine Aa.ret ?_
  simp only[go_sem]
  simp[AK,C9,tM,tW,hT]
 refine Zk ?_
 refine Zs (Zp 131 ?_)
 refine Zc (λhc3=>?_) λhc3=>?_
 ·rw[Uz c hc2 ZO] at hT hTl
  simp only[List.length_cons,List.length_append,List.length_nil] at hTl
  refine Zx (Zy ?_)
  refine Aw rfl rfl rfl rfl (Dg T _ _) rfl rfl ?_
  refine Zy ?_
  refine Aw rfl rfl rfl rfl (Dg T _ _) rfl rfl ?_
  refine Zy ?_
  refine BF rfl rfl rfl rfl (show BL prog 113=some (169,3,32) by simp only[go_sem]) rfl rfl (by simp only[go_sem]) ZJ (by first|(simp only[go_sem,List.length_append,List.length_cons,List.length_nil]<;>omega)|(simp<;>omega)) (by first|(simp only[go_sem,List.length_append,List.length_cons,List.length_nil]<;>omega)|(simp<;>omega)) λt10 ft10=>?_
  try simp only[Ae] at ft10
  refine Zy ?_
  refine Zm 3 ?_
  refine Zx (Zy ?_)
  refine Aw rfl rfl rfl rfl (i2 hc0 hc2 ZO) rfl rfl ?_
  refine Zy ?_
  refine BF rfl rfl rfl rfl (show BL prog 113=some (169,3,32) by simp only[go_sem]) rfl rfl (by simp only[go_sem]) ZJ (by first|(simp only[go_sem,List.length_append,List.length_cons,List.length_nil]<;>omega)|(simp<;>omega)) (by first|(simp only[go_sem,List.length_append,List.length_cons,List.length_nil]<;>omega)|(simp<;>omega)) λt11 ft11=>?_
  try simp only[Ae] at ft11
  refine Zy ?_
  refine Zm 2 ?_
  refine Zq λK_ k_=>?_
  refine Zy ?_
  refine Aw rfl rfl rfl rfl (Dg T _ _) rfl rfl ?_
  refine Zy ?_
  refine BF rfl rfl rfl rfl (show BL prog 113=some (169,3,32) by simp only[go_sem]) rfl rfl (by simp only[go_sem]) ZJ (by first|(simp only[go_sem,List.length_append,List.length_cons,List.length_nil]<;>omega)|(simp<;>omega)) (by first|(simp only[go_sem,List.length_append,List.length_cons,List.length_nil]<;>omega)|(simp<;>omega)) λt12 ft12=>?_
  try simp only[Ae] at ft12
  refine Zy ?_
  refine k_ _ _ (Ac ?_)
  refine Zm 1 ?_
  refine Zp 1 (Aa.ret ?_)
  refine Zy ?_
  simp[AK,C9,tM,tW,hT]
 rw[Y4 c ZO] at hT hTl
 simp only[List.length_nil] at hTl
 refine Zk ?_
 refine Zp 2 (Aa.ret ?_)
 refine Zy ?_
 simp[AK,C9,tM,hT]
theorem Fp (T:Ap) (l:List Ax) (hll:l.length*208<=140737488355328) (hl:(Ee l).length<=4398046511104) (hk:∀x∈l,1<=x.kind/\x.kind<=10) (ih:∀x∈l,PC prog T 203 [.agg (BW x)] (.d (.slc 3 (AK (F3 x))))):PC prog T 118 [.d (.slc 12 (l.map AW))] (.d (.slc 3 (AK (Ee l)))):=by
 refine⟨call118,Ar.enterS func118 rfl ntmps118 rfl λhb=>?_⟩
 simp only[go_sem,results118]
 refine Zp 1 ?_
 refine Zp 3 ?_
 refine Zy ?_
 refine Bs 3 3 rfl rfl ZD λu fu=>?_
 try simp only[Ae] at fu
 refine Zy ?_
 refine Zs (Zp 7 ?_)
 refine Aa.block (Zy ?_)
 refine Zl 1 6 (λn lc hc=> ∃(k v:Nat) (Y:List DM),n=l.length-k/\Av lc [(3,.own v 3 (AK Y)),(4,.d (.int .i64 k))]/\Av hc (⟨[],[v]⟩)/\(k<=l.length)/\(Y++Ee (l.drop k)=Ee l)) ?_ ?_
 · refine ⟨_,0,u,[],rfl,?_,ZE,ZI,ZI⟩
   · (try simp only[go_sem])<;>first|exact⟨rfl⟩|(constructor;simp[AK];done)
 rintro _ _ _ ⟨k,v,Y,rfl,⟨rfl⟩,⟨rfl⟩,hk2,hY⟩
 have hYl:=congrArg List.length hY
 simp only[List.length_append] at hYl
 refine Zy ?_
 refine Zs (Zp 71 ?_)
 refine Zc (λhc0=>?_) λhc0=>?_
 ·have hlt:k<l.length:=by omega
  rw[Gp _ _ hlt] at hYl
  simp only[List.length_append,List.length_cons] at hYl
  obtain⟨k1,k2⟩:=hk _ (List.getElem_mem hlt)
  have zf1:=λd0_=>Al AW _ _ d0_ hlt
  refine Zk ?_
  refine Zs (Aa.block (Zx (Z3 ?_)))
  refine Aw rfl rfl rfl rfl (Nv T _ ZO ZO) rfl rfl ?_
  refine Zy ?_
  refine ZP (Dg T _ _) ?_
  refine Zy ?_
  refine ZW λt1 ft1=>?_
  try simp only[Ae] at ft1
  refine Zy ?_
  refine Zm 7 ?_
  refine Zq λK_ k_=>?_
  refine Z3 ?_
  refine ZP (ih _ (List.getElem_mem hlt)) ?_
  refine Zy ?_
  refine BF rfl rfl rfl rfl (show BL prog 113=some (169,3,32) by simp only[go_sem]) rfl rfl (by simp only[go_sem]) ZJ (by first|(simp only[go_sem,List.length_append,List.length_cons,List.length_nil]<;>omega)|(simp<;>omega)) (by first|(simp only[go_sem,List.length_append,List.length_cons,List.length_nil]<;>omega)|(simp<;>omega)) λt2 ft2=>?_
  try simp only[Ae] at ft2
  refine Zy ?_
  refine k_ _ _ (Ai (Ac ?_))
  refine Zm 7 ?_
  refine Z6 ?_
  refine Ze 1 6 [] [] [] [t2] (.e ⟨_,ZM,k+1,t2,Y++tW (Ce Dv (l[k]'hlt).kind)::F3 (l[k]'hlt),rfl,?_,ZE,?_,?_⟩)
  · (try simp only[go_sem])<;>first|exact⟨rfl⟩|(constructor;simp[AK,C9,tW])
  · omega
  · rw [<-hY,Gp _ _ hlt];simp
 refine Z4 ?_
 refine Zp 2 (Aa.ret ?_)
 refine Zy ?_
 have e:Ee l=Y:=by rw[LJ _ _ ZO,List.append_nil] at hY;exact hY.symm
 rw[e]
theorem Sc (T:Ap) (c:Ax) (ok:c.Ok) (d:Int) (hF:cF c d=0) (hl:(F3 c).length<=4398046511104):PC prog T 203 [.agg (BW c)] (.d (.slc 3 (AK (F3 c)))):=by
 induction c using Ax.ind generalizing d with
 | h c i1 i2=>
  obtain⟨s1,s2,s3,s4,s5,s6⟩:=ok.inv
  obtain⟨hk,hok,_⟩:=I9 hF
  have kn:∀x d,cF x d=0->1<=x.kind/\x.kind<=10:=λx d h=>by simpa[A7] using(I9 h).1
  have hT:c.kind=2->(F3 c).length=(tT c.test).length+((Ee c.thn).length+((Uy c.els).length+1)+1):=λh2=>by rw[IL,if_pos h2];simp
  refine MW T c ok d hF hl (λh2=>?_) (λh2 he h0=>?_) (λh2 he h0=>?_)
  ·have:=hT h2
   obtain⟨_,ha,_,_⟩:=hok h2
   rw[D2]
   exact Fp T _ s3 ZO (λx hx=>kn x _ (ha x hx)) λx hx=>i1 x hx (s5 x hx) _ (ha x hx) (by have:=PG _ _ hx;omega)
  ·have:=hT h2
   obtain⟨_,_,_,ha⟩:=hok h2
   have ha:=ha he
   rw[Uz c he h0] at this
   simp only[List.length_cons,List.length_append,List.length_nil] at this
   rw[C1]
   exact Fp T _ s4 ZO (λx hx=>kn x _ (ha x hx)) λx hx=>i2 x hx (s6 x hx) _ (ha x hx) (by have:=PG _ _ hx;omega)
  ·have:=hT h2
   obtain⟨_,_,ha,_⟩:=hok h2
   rw[U0 c he h0] at this
   simp only[List.length_cons] at this
   have hm:=List.getElem_mem h0
   exact i2 _ hm (s6 _ hm) _ (ha he _ hm) ZO
theorem R9 (T:Ap) (l:List Ax) (hll:l.length*208<=140737488355328) (ok:∀x∈l,x.Ok) (d:Int) (hF:FX l d=0) (hl:(Ee l).length<=4398046511104):PC prog T 118 [.d (.slc 12 (l.map AW))] (.d (.slc 3 (AK (Ee l)))):=
 Fp T l hll hl (λx hx=>by simpa[A7] using(I9 (F1 _ _ hF x hx)).1) λx hx=>Sc T x (ok x hx) d (F1 _ _ hF x hx) (by have:=PG _ _ hx;omega)
def FM (l:List Ax):Int:=if FX l 0=0 then(if 400<((Ee l).length:Int) then 5 else 0) else FX l 0
theorem QZ (T:Ap) (l:List Ax) (hll:l.length*208<=140737488355328) (ok:∀x∈l,x.Ok) (hl:(Ee l).length<=4398046511104):PC prog T 63 [.d (.slc 12 (l.map AW))] (.d (.int .i64 (FM l))):=by
 refine⟨call63,Ar.enterS func63 rfl ntmps63 rfl λhb=>?_⟩
 simp only[go_sem,results63]
 refine Zp 1 ?_
 refine Zx (Zy ?_)
 refine Aw rfl rfl rfl rfl (R8 T _ hll ok _ ZO ZO) rfl rfl ?_
 refine Zy ?_
 refine Zs (Zx (Zy ?_))
 refine B7 rfl rfl rfl rfl rfl (λhg=>R9 T l hll ok 0 (by simpa using hg) hl) (λhg=>by(try simp only[go_sem])<;>first|exact hg|(exfalso;simp at hg;done)|(simpa using hg)|grind) rfl rfl ?_
 refine Zy ?_
 refine Zm 2050 ?_
 refine Zc (λhc0=>?_) λhc0=>?_
 ·refine Z6 ?_
  refine Zp 1 (Aa.ret ?_)
  refine Zy ?_
  first|(obtain⟨g1,g2⟩:=hc0;rw[FM,if_pos g1,if_pos g2];done)|(rw[FM];split;(rcases hc0 with h|h;contradiction;rw[if_neg ZO];assumption);rfl)
 refine Zk ?_
 refine Zp 1 (Aa.ret ?_)
 refine Zy ?_
 first|(obtain⟨g1,g2⟩:=hc0;rw[FM,if_pos g1,if_pos g2];done)|(rw[FM];split;(rcases hc0 with h|h;contradiction;rw[if_neg ZO];assumption);rfl)
end
section
attribute [local go_sem] CY in
theorem Abl (T:Ap) (l:List Ax) (hll:l.length*208<=140737488355328) (ok:∀x∈l,x.Ok) (hl:(Ee l).length<=4398046511104) (tb:LZ T):PC prog T 56 [.d (.slc 12 (l.map AW))] (.d (.int .i64 (FM l))):=by
 refine⟨call56,Ar.enterS func56 rfl ntmps56 rfl λhb=>?_⟩
 simp only[go_sem,results56]
 refine Zp 1 ?_
 refine Zs (Zx (Zy ?_))
 refine Aw rfl rfl rfl rfl (SZ T _ hll ok _ ZO ZO) rfl rfl ?_
 refine Zy ?_
 refine Zp 35 ?_
 refine Zc (λhc0=>?_) λhc0=>?_
 ·refine Zp 2 (Aa.ret ?_)
  refine Zy ?_
  rw[FM,if_neg hc0]
 have h0:=F1 _ _ hc0
 refine Zk ?_
 refine Zx (Zy ?_)
 intro b
 first|intro fb|have fb:=True.intro
 try simp only[Ab,CY] at fb
 refine Zm 5 ?_
 refine Zy ?_
 refine CC b 0 0 3 ZH rfl rfl ZD λu fu=>?_
 try simp only[Ae] at fu
 refine Zy ?_
 refine Zs (Zp 30 ?_)
 refine Aa.block (Zy ?_)
 refine Zl 7 8 (λn lc hc=> ∃(k v:Nat) (Y:List DM),n=l.length-k/\Av lc [(16,.d (.int .i64 k))]/\Av hc (⟨[CY b v Y],[v]⟩)/\(k<=l.length)/\(Y++Ee (l.drop k)=Ee l)) ⟨_,0,u,[],rfl,ZE,ZE,ZI,ZI⟩ ?_
 rintro _ _ _ ⟨k,v,Y,rfl,⟨rfl⟩,⟨rfl⟩,hk2,hY⟩
 have hYl:=congrArg List.length hY
 simp only[List.length_append] at hYl
 refine Zy ?_
 refine Zp 31 ?_
 refine Zs (Zc (λhc1=>?_) λhc1=>?_)
 ·have hlt:k<l.length:=by omega
  rw[Gp _ _ hlt] at hYl
  simp only[List.length_cons,List.length_append] at hYl
  have hkl:=h0 _ (List.getElem_mem hlt)
  have zf1:=λd0_=>Al AW _ _ d0_ hlt
  refine Zk ?_
  refine Zs (Aa.block (Zx (Z3 ?_)))
  intro bz1 fbz1
  try simp only[Ab,CY] at fbz1
  refine Zq λK_ k_=>?_
  simp only[go_sem,fbz1]
  refine AI [b] [v] rfl rfl rfl rfl (by(try simp only[go_sem,fbz1])<;>rfl) rfl ((Xn T b tb _ (ok _ (List.getElem_mem hlt)) 0 hkl).2 _ _ _ _ (by(try simp only[List.length_cons]);omega)) ?_
  rintro _ _ ⟨W2,fW2,rfl,rfl⟩
  try simp only[Ae] at fW2
  refine Zy ?_
  refine k_ _ _ (Ai (Ac ?_))
  refine Zm 29 ?_
  refine Z6 ?_
  refine Ze 7 8 [bz1] [] [b] [W2] (.e ⟨_,ZM,k+1,W2,Y++(tW (Ce Dv (l[k]'hlt).kind)::F3 (l[k]'hlt)),rfl,ZE,ZE,?_,?_⟩)
  · omega
  · rw [<-hY,Gp _ _ hlt];simp
 rw[LJ _ _ ZO,List.append_nil] at hY
 subst hY
 refine Z4 ?_
 refine Zm 1 ?_
 refine Zs (Zp 64 ?_)
 refine Zc (λhc2=>?_) λhc2=>?_
 ·refine Zp 1 (Aa.ret ?_)
  refine Zy ?_
  rw[FM,if_pos hc0,if_pos hc2]
 refine Zk ?_
 refine Zp 1 (Aa.ret ?_)
 refine Zy ?_
 rw[FM,if_pos hc0,if_neg ZO]
end
section
open Go.RowKit
section
variable {P:Program} {T:Ap} {G:Gh} {f:FuncId}
theorem Hg {args:List AV} {r:AV} (hcall:∀az w,(callFunc f az).run P w= .ok (.enter f az) w)
  (H:∀(F:Js) (w:World) (vs:Array Value),(∀b o u,F b o=some u->w.cell? ⟨b,o,none⟩=some u)->(∀g j x,(T g)[j]?=some x->∃u,F g j=some u/\VD F x u)->Dz (Qj w F) args vs->Calls P f vs w λe w'=> ∃v,e= .returned v/\Below w.heap.size w w'/\VR (Qj w F) r v):PC P T f args r:=by
 refine⟨hcall,λF w vs hF hT R=>(H F w vs hF hT R).mono ?_⟩
 rintro e w' ⟨v,rfl,hb,hv⟩
 refine⟨v,F,rfl,hb,λ_ _ _ e=>e,λ_ _ _ e=> .inl e,λb o u e=>?_,hv⟩
 have h1:=hF b o u e
 have hlt:b<w.heap.size:=World.block_lt_of_cell? (w:=w) (a:=⟨b,o,none⟩) h1
 rw[<-h1]
 exact World.cell?_of_block (w:=w) (a:=⟨b,o,none⟩) (hb.block b hlt)
theorem AcF {a:AV} {vs:Array Value} (R:Dz G [a] vs):∃v,vs= #[v]/\VR G a v:=by
 obtain⟨h1,h2⟩:=R
 obtain⟨v,h3,h4⟩:=h2 0 a rfl
 refine⟨v,?_,h4⟩
 apply Array.ext_getElem?
 intro i
 cases i with
 |zero=>simpa using h3
 |succ i=>rw[Array.getElem?_eq_none (by rw[h1];simp),Array.getElem?_eq_none ZX]
theorem Ah6 {a b:AV} {vs:Array Value} (R:Dz G [a,b] vs):∃v u,vs= #[v,u]/\VR G a v/\VR G b u:=by
 obtain⟨h1,h2⟩:=R
 obtain⟨v,h3,h4⟩:=h2 0 a rfl
 obtain⟨u,h5,h6⟩:=h2 1 b rfl
 refine⟨v,u,?_,h4,h6⟩
 apply Array.ext_getElem?
 intro i
 match i with
 |0=>simpa using h3
 |1=>simpa using h5
 |i+2=>rw[Array.getElem?_eq_none (by rw[h1];simp),Array.getElem?_eq_none ZX]
theorem Ah7 {a b c:AV} {vs:Array Value} (R:Dz G [a,b,c] vs):∃v u x,vs= #[v,u,x]/\VR G a v/\VR G b u/\VR G c x:=by
 obtain⟨h1,h2⟩:=R
 obtain⟨v,h3,h4⟩:=h2 0 a rfl
 obtain⟨u,h5,h6⟩:=h2 1 b rfl
 obtain⟨x,h7,h8⟩:=h2 2 c rfl
 refine⟨v,u,x,?_,h4,h6,h8⟩
 apply Array.ext_getElem?
 intro i
 match i with
 |0=>simpa using h3
 |1=>simpa using h5
 |2=>simpa using h7
 |i+3=>rw[Array.getElem?_eq_none (by rw[h1];simp),Array.getElem?_eq_none ZX]
theorem VR.agg_inv {l:List AV} {v:Value} (h:VR G (.agg l) v):∃vs:Array Value,v= .agg vs/\Dz G l vs:=by
 cases h with
 |agg _ vs hl h=>
  refine⟨vs.toArray,rfl,by simpa using hl,λi a e=>?_⟩
  have hi:i<vs.length:=by rw[hl];exact(List.getElem?_eq_some_iff.1 e).1
  exact⟨vs[i],by simp[hi],h i a _ e (List.getElem?_eq_getElem hi)⟩
theorem AaI {F:Js} {w:World} {g j:Nat} {x:D} (hF:∀b o u,F b o=some u->w.cell? ⟨b,o,none⟩=some u) (hT:∀g j x,(T g)[j]?=some x->∃u,F g j=some u/\VD F x u) (h:(T g)[j]?=some x):∃u,w.cell? ⟨g,j,none⟩=some u/\VD F x u:=by
 obtain⟨u,h1,h2⟩:=hT g j x h
 exact⟨u,hF _ _ _ h1,h2⟩
end
end
section
def FU:List UInt8:=[33,35,36,37,38,39,42,43,45,47,61,63,94,95,123,124,125,126,96]
def Ky (c:UInt8):Bool:=(97<=c.toNat&&c.toNat<=122)||(65<=c.toNat&&c.toNat<=90)||(48<=c.toNat&&c.toNat<=57)
def Do (c:UInt8):Bool:=Ky c||decide (0<=Lib.indexByte FU c)
def CI:Bool->List UInt8->Bool
 |d,[]=>!d
 |d,c::r=>if c=46 then !d&&CI true r else Do c&&CI false r
end
section
def Cc (l d:Tx):Int:=if CI true l=false\/CI true d=false then 3 else if 99<l.length+d.length then 1 else 0
theorem SJ (d:Tx):Cc [] d≠0:=by simp[Cc,CI]
theorem SI (l:Tx):Cc l []≠0:=by simp[Cc,CI]
abbrev Ad:=Tx×Tx
def D5 (c:UInt8):Bool:=c==32||c==9
def CV (c:UInt8):Bool:=Do c||c==46
def A5:Tx->Tx:=List.dropWhile D5
def B4:Tx->Tx:=List.takeWhile CV
def BS:Tx->Tx:=List.dropWhile CV
def Cs:Tx->Option Tx
 |[]=>none
 |[c]=>if c=34 then some [] else none
 |c::x::r=>if c=34 then some (x::r) else if c=92 then Cs r else Cs (x::r)
def C4 (l:Tx):Tx->Option (Ad×Tx)
 |[]=>none
 |c::r=>if c=64/\Cc l (B4 r)=0 then some ((l,B4 r),BS r) else none
theorem FD (s:Tx):(A5 s).length<=s.length:=by unfold A5;exact(List.dropWhile_sublist _).length_le
theorem T8 (s:Tx):(BS s).length<=s.length:=by unfold BS;exact(List.dropWhile_sublist _).length_le
theorem Vj (s:Tx):B4 s++BS s=s:=List.takeWhile_append_dropWhile ..
theorem IX (s:Tx) (h:B4 s≠[]):(BS s).length<s.length:=by
 have:=congrArg List.length (Vj s)
 have h2:0<(B4 s).length:=List.length_pos_iff.2 h
 simp only[List.length_append] at this
 omega
theorem H4:∀(s r:Tx),Cs s=some r->r.length<s.length
 |[],r,h=>by simp[Cs] at h
 |[c],r,h=>by
  simp only[Cs] at h
  split at h
  ·injection h with h;subst h;simp
  ·cases h
 | c::x::s,r,h=>by
  simp only[Cs] at h
  split at h
  ·injection h with h;subst h;simp
  ·split at h
   ·have:=H4 s r h;simp;omega
   ·have:=H4 (x::s) r h;simp at this⊢;omega
theorem Ul {l s:Tx} {a:Ad} {r:Tx} (h:C4 l s=some (a,r)):r.length<s.length:=by
 cases s with
 |nil=>simp[C4] at h
 | cons c s=>
  simp only[C4] at h
  split at h
  ·injection h with h;injection h with h1 h2;subst h2
   have:=T8 s
   simp;omega
  ·cases h
def Xu:Option (Ad×Tx)->Option (Ad×Tx)
 |some (a,c::r)=>if c=62 then some (a,r) else none
 |_=>none
def B5 (first:Bool) (s:Tx):Option (Ad×Tx):=
 if(A5 s).head?=some 34 then
  match h:Cs (A5 s).tail with
  |none=>none
  |some r=>B5 false r
 else if(A5 s).head?=some 60 then Xu (C4 (B4 (A5 s).tail) (BS (A5 s).tail))
 else if first=true/\(BS (A5 s)).head?=some 64 then C4 (B4 (A5 s)) (BS (A5 s))
 else if h:B4 (A5 s)=[] then none else B5 false (BS (A5 s))
 termination_by s.length
 decreasing_by
  ·have h1:=H4 _ _ h
   have h2:=FD s
   have h3:(A5 s).tail.length<=(A5 s).length:=by simp
   omega
  ·have h1:=IX _ h
   have h2:=FD s
   omega
theorem YQ {o:Option (Ad×Tx)} {a:Ad} {r:Tx} (h:Xu o=some (a,r)):∃q,o=some (a,62::q)/\r=q:=by
 unfold Xu at h
 split at h
 ·split at h
  ·rename_i hc;subst hc;injection h with h;injection h with h1 h2;exact⟨_,by rw[h1],h2.symm⟩
  ·cases h
 ·cases h
theorem Pe (n:Nat):∀(first:Bool) (s:Tx) (a:Ad) (r:Tx),s.length<=n->B5 first s=some (a,r)->r.length<s.length:=by
 induction n with
 |zero=>
  intro first s a r hs h
  have:s=[]:=List.eq_nil_of_length_eq_zero ZO
  subst this
  unfold B5 at h
  simp[A5,BS,B4] at h
 | succ n ih=>
  intro first s a r hs h
  have hk:=FD s
  unfold B5 at h
  split at h
  ·rename_i h0
   split at h
   ·cases h
   ·rename_i q hq
    have h1:=H4 _ _ hq
    have h2:(A5 s).tail.length+1=(A5 s).length:=by
     cases e:A5 s with
     |nil=>rw[e] at h0;simp at h0
     |cons c t=>simp
    have:=ih false q a r ZO h
    omega
  ·split at h
   ·obtain⟨q,h1,rfl⟩:=YQ h
    have h2:=Ul h1
    have h3:=T8 (A5 s).tail
    have h4:(A5 s).tail.length<=(A5 s).length:=by simp
    simp at h2
    omega
   ·split at h
    ·have:=Ul h
     have:=T8 (A5 s)
     omega
    ·split at h
     ·cases h
     ·rename_i h0
      have h1:=IX _ h0
      have:=ih false _ a r ZO h
      omega
def B6 (s:Tx):Option (List Ad):=
 match h:B5 true s with
 |none=>none
 |some (a,r)=>
  match h2:A5 r with
  |[]=>some [a]
  |c::q=>if c=44 then(B6 q).map (a:: ·) else none
 termination_by s.length
 decreasing_by
  have h1:=Pe _ true s a r (Nat.le_refl _) h
  have h3:=FD r
  rw[h2] at h3
  simp at h3
  omega
structure Bt where
 text:Tx
 run:Bool
 quo:Bool
 apart:Bool
def Az (ap:Bool) (s:Tx):Option (List Bt):=
 match s with
 |[]=>some []
 | c::r=>
  if D5 c=true then Az true r
  else if h:CV c=true then(Az false (BS (c::r))).map (⟨B4 (c::r),true,false,ap⟩:: ·)
  else if c≠34 then(Az false r).map (⟨[c],false,false,ap⟩:: ·)
  else match h2:Cs r with
   |none=>none
   |some q=>(Az false q).map (⟨[],false,true,ap⟩:: ·)
 termination_by s.length
 decreasing_by
  ·simp
  ·exact IX _ (by simp[B4,h])
  ·simp
  ·have:=H4 _ _ h2;simp;omega
def BT:List Bt->Option (Ad×List Bt)
 |a::b::c::t=>if a.run=true/\b.text=[64]/\c.run=true/\b.apart=false/\c.apart=false/\Cc a.text c.text=0 then some ((a.text,c.text),t) else none
 |_=>none
def C0 (b:Bt):Bool:=b.run||b.quo
def EE:List Bt->Option (Ad×List Bt)
 |[]=>none
 | x::l=>if x.text=[60] then
   match BT l with
   |some (a,y::t)=>if l.head?.map Bt.apart=some false/\y.text=[62]/\y.apart=false then some (a,t) else none
   |_=>none
  else none
def Da (l:List Bt):Option (Ad×List Bt):=
 match BT l with
 |some x=>some x
 |none=>EE (l.dropWhile C0)
theorem GL {l:List Bt} {a:Ad} {t:List Bt} (h:BT l=some (a,t)):t.length+3=l.length:=by
 unfold BT at h
 split at h
 ·split at h
  ·injection h with h;injection h with h1 h2;subst h2;simp
  ·cases h
 ·cases h
theorem XY {l:List Bt} {a:Ad} {t:List Bt} (h:EE l=some (a,t)):t.length<l.length:=by
 cases l with
 |nil=>simp[EE] at h
 | cons x l=>
  simp only[EE] at h
  split at h
  ·split at h
   ·rename_i a' y t' hp
    have:=GL hp
    split at h
    ·injection h with h;injection h with h1 h2;subst h2;simp at this⊢;omega
    ·cases h
   ·cases h
  ·cases h
theorem Wf {l:List Bt} {a:Ad} {t:List Bt} (h:Da l=some (a,t)):t.length<l.length:=by
 unfold Da at h
 split at h
 ·rename_i hp;injection h with h;subst h;have:=GL hp;omega
 ·have:=XY h
  have h2:=(List.dropWhile_sublist (l:=l) C0).length_le
  omega
def listB (l:List Bt):Option (List Ad):=
 match h:Da l with
 |none=>none
 |some (a,[])=>some [a]
 |some (a,x::t)=>if x.text=[44] then(listB t).map (a:: ·) else none
 termination_by l.length
 decreasing_by
  have:=Wf h
  simp at this
  omega
end
section
theorem Xa {c:UInt8} (h:D5 c=true):CV c=false:=by
 simp only[D5,Bool.or_eq_true,beq_iff_eq] at h
 rcases h with rfl|rfl<;>decide
theorem AdO:CV 34=false:=by decide
theorem Vf:CV 60=false:=by decide
theorem AdP:CV 62=false:=by decide
theorem Vg:CV 64=false:=by decide
theorem Ah4:CV 44=false:=by decide
theorem Ag8:D5 34=false:=by decide
theorem Yk:D5 60=false:=by decide
theorem AgA:D5 62=false:=by decide
theorem Yl:D5 64=false:=by decide
theorem Ag9:D5 44=false:=by decide
theorem Dt (ap:Bool):Az ap []=some []:=by unfold Az;rfl
theorem Ek {c:UInt8} {r:Tx} {ap:Bool} (h:D5 c=true):Az ap (c::r)=Az true r:=by rw[Az];simp[h]
theorem Fe {c:UInt8} {r:Tx} {ap:Bool} (h:CV c=true):Az ap (c::r)=(Az false (BS (c::r))).map (⟨B4 (c::r),true,false,ap⟩:: ·):=by
 have hb:D5 c=false:=by
  cases e:D5 c with
  |false=>rfl
  |true=>rw[Xa e] at h;cases h
 rw[Az];simp[h,hb]
theorem Ck {c:UInt8} {r:Tx} {ap:Bool} (hb:D5 c=false) (h:CV c=false) (hq:c≠34):Az ap (c::r)=(Az false r).map (⟨[c],false,false,ap⟩:: ·):=by rw[Az];simp[h,hb,hq]
theorem QP {r:Tx} {ap:Bool} :Az ap (34::r)=match Cs r with|none=>none|some q=>(Az false q).map (⟨[],false,true,ap⟩:: ·):=by
 rw[Az]
 simp only[Ag8,AdO,Bool.false_eq_true,if_false,dite_false,ne_eq,not_true_eq_false]
 split<;>rename_i h<;>rw[h]
theorem El {r:Tx} {ap:Bool} (h:Cs r=none):Az ap (34::r)=none:=by rw[QP,h]
theorem Em {r q:Tx} {ap:Bool} (h:Cs r=some q):Az ap (34::r)=(Az false q).map (⟨[],false,true,ap⟩:: ·):=by rw[QP,h]
theorem KS {c:UInt8} {r:Tx} (h:D5 c=true):A5 (c::r)=A5 r:=by unfold A5;rw[List.dropWhile_cons,if_pos h]
theorem Is {c:UInt8} {r:Tx} (h:D5 c=false):A5 (c::r)=c::r:=by unfold A5;rw[List.dropWhile_cons,if_neg (by rw[h];decide)]
theorem Ir:∀(s:Tx) (c:UInt8) (r:Tx),A5 s=c::r->D5 c=false
 |[],c,r,h=>by simp[A5] at h
 |x::s,c,r,h=>by
  cases e:D5 x with
  |true=>rw[KS e] at h;exact Ir s c r h
  |false=>rw[Is e] at h;injection h with h1 h2;rw[<-h1];exact e
theorem NS:∀(s:Tx) (ap:Bool),Az ap s=Az ap (A5 s)\/(Az ap s=Az true (A5 s))
 |[],ap=> .inl rfl
 | c::r,ap=>by
  cases e:D5 c with
  |true=>
   rw[Ek e,KS e]
   rcases NS r true with h|h<;>exact .inr h
  |false=>rw[Is e];exact .inl rfl
theorem Ff (s:Tx) (ap:Bool):∃ap',Az ap s=Az ap' (A5 s):=by
 rcases NS s ap with h|h
 ·exact⟨_,h⟩
 ·exact⟨_,h⟩
theorem II:∀(s:Tx) (x:Bt) (t:List Bt),Az true s=some (x::t)->x.apart=true
 |[],x,t,h=>by rw[Dt] at h;cases h
 | c::r,x,t,h=>by
  cases e:D5 c with
  |true=>rw[Ek e] at h;exact II r x t h
  | false=>
   cases e2:CV c with
   |true=>rw[Fe e2] at h;obtain⟨_,_,h1⟩:=Option.map_eq_some_iff.1 h;injection h1 with h1 _;rw[<-h1]
   | false=>
    by_cases e3:c=34
    ·subst e3
     cases e4:Cs r with
     |none=>rw[El e4] at h;cases h
     |some q=>rw[Em e4] at h;obtain⟨_,_,h1⟩:=Option.map_eq_some_iff.1 h;injection h1 with h1 _;rw[<-h1]
    ·rw[Ck e e2 e3] at h;obtain⟨_,_,h1⟩:=Option.map_eq_some_iff.1 h;injection h1 with h1 _;rw[<-h1]
theorem Es {c:UInt8} {r:Tx} (h:CV c=true):B4 (c::r)=c::B4 r:=by unfold B4;rw[List.takeWhile_cons,if_pos h]
theorem Ka {c:UInt8} {r:Tx} (h:CV c=false):B4 (c::r)=[]:=by unfold B4;rw[List.takeWhile_cons,if_neg (by rw[h];decide)]
theorem Ac1 {c:UInt8} {r:Tx} (h:CV c=false):BS (c::r)=c::r:=by unfold BS;rw[List.dropWhile_cons,if_neg (by rw[h];decide)]
theorem Aa4:B4 []=[]:=rfl
theorem RW:BS []=[]:=rfl
theorem Ol {m:UInt8} (hm:CV m=false) (s:Tx) (x:Bt) (t:List Bt) (h:Az false s=some (x::t)) (ht:x.text=[m]) (ha:x.apart=false):∃r,s=m::r/\Az false r=some t:=by
 cases s with
 |nil=>rw[Dt] at h;cases h
 | cons c r=>
  cases e:D5 c with
  |true=>rw[Ek e] at h;rw[II r x t h] at ha;cases ha
  | false=>
   cases e2:CV c with
   |true=>
    rw[Fe e2] at h;obtain⟨_,_,h1⟩:=Option.map_eq_some_iff.1 h;injection h1 with h1 _
    rw[<-h1] at ht
    dsimp only at ht
    rw[Es e2] at ht
    injection ht with h3 h4
    rw[h3,hm] at e2;cases e2
   | false=>
    by_cases e3:c=34
    ·subst e3
     cases e4:Cs r with
     |none=>rw[El e4] at h;cases h
     |some q=>rw[Em e4] at h;obtain⟨_,_,h1⟩:=Option.map_eq_some_iff.1 h;injection h1 with h1 _;rw[<-h1] at ht;cases ht
    ·rw[Ck e e2 e3] at h;obtain⟨l,h1,h2⟩:=Option.map_eq_some_iff.1 h;injection h2 with h2 h3
     rw[<-h2] at ht
     injection ht with ht
     subst ht;subst h3
     exact⟨r,rfl,h1⟩
theorem Rt {ap:Bool} (s:Tx) (x:Bt) (t:List Bt) (h:Az ap s=some (x::t)) (hr:x.run=true):B4 (A5 s)≠[]/\x.text=B4 (A5 s)/\Az false (BS (A5 s))=some t:=by
 obtain⟨ap',h'⟩:=Ff s ap
 rw[h'] at h
 have hh:=Ir s
 generalize A5 s=q at h hh
 cases q with
 |nil=>rw[Dt] at h;cases h
 | cons c r=>
  have e:=hh c r rfl
  cases e2:CV c with
  |true=>
   rw[Fe e2] at h;obtain⟨l,h1,h2⟩:=Option.map_eq_some_iff.1 h;injection h2 with h2 h3
   subst h3
   rw[<-h2]
   exact⟨by rw[Es e2];simp,rfl,h1⟩
  | false=>
   by_cases e3:c=34
   ·subst e3
    cases e4:Cs r with
    |none=>rw[El e4] at h;cases h
    |some q=>rw[Em e4] at h;obtain⟨_,_,h1⟩:=Option.map_eq_some_iff.1 h;injection h1 with h1 _;rw[<-h1] at hr;cases hr
   ·rw[Ck e e2 e3] at h;obtain⟨l,h1,h2⟩:=Option.map_eq_some_iff.1 h;injection h2 with h2 h3
    rw[<-h2] at hr;cases hr
theorem Nd (s:Tx) (x:Bt) (t:List Bt) (h:Az false s=some (x::t)) (ha:x.apart=false):A5 s=s:=by
 cases s with
 |nil=>rfl
 |cons c r=>
  cases e:D5 c with
  |true=>rw[Ek e] at h;rw[II r x t h] at ha;cases ha
  |false=>exact Is e
theorem Gf {ap:Bool} {s:Tx} (h:B4 s≠[]):Az ap s=(Az false (BS s)).map (⟨B4 s,true,false,ap⟩:: ·):=by
 cases s with
 |nil=>exact absurd rfl h
 |cons c r=>
  cases e:CV c with
  |true=>exact Fe e
  |false=>rw[Ka e] at h;exact absurd rfl h
theorem MS {ap:Bool} {s:Tx} {l:List Bt} (h:Az ap s=some l) {a:Ad} {t:List Bt} (hp:BT l=some (a,t)):∃r,C4 (B4 (A5 s)) (BS (A5 s))=some (a,r)/\Az false r=some t:=by
 unfold BT at hp
 split at hp
 ·rename_i x y z t'
  split at hp
  ·rename_i hc
   obtain⟨c1,c2,c3,c4,c5,c6⟩:=hc
   injection hp with hp;injection hp with hp1 hp2;subst hp2
   obtain⟨h1,h2,h3⟩:=Rt _ _ _ h c1
   obtain⟨q,h4,h5⟩:=Ol Vg _ _ _ h3 c2 c4
   obtain⟨h6,h7,h8⟩:=Rt _ _ _ h5 c3
   have h9:=Nd _ _ _ h5 c5
   rw[h9] at h7 h8
   refine⟨BS q,?_,h8⟩
   rw[h4,C4,if_pos ⟨rfl,by rw[<-h2,<-h7];exact c6⟩,<-hp1,h2,h7]
  ·cases hp
 ·cases hp
theorem Hk {w q:Tx} {a:Ad} {r:Tx} (h:C4 w q=some (a,r)):∃p,q=64::p/\Cc w (B4 p)=0/\a=(w,B4 p)/\r=BS p/\w≠[]/\B4 p≠[]:=by
 cases q with
 |nil=>simp[C4] at h
 | cons c p=>
  simp only[C4] at h
  split at h
  ·rename_i hc
   injection h with h;injection h with h1 h2
   refine⟨p,by rw[hc.1],hc.2,h1.symm,h2.symm,λe=>?_,λe=>?_⟩
   ·rw[e] at hc;exact SJ _ hc.2
   ·rw[e] at hc;exact SI _ hc.2
  ·cases h
theorem NR {w q:Tx} {a:Ad} {r:Tx} (h:C4 w q=some (a,r)):Az false q=(Az false r).map (λt=>⟨[64],false,false,false⟩::⟨a.2,true,false,false⟩::t):=by
 obtain⟨p,rfl,h2,rfl,rfl,h5,h6⟩:=Hk h
 rw[Ck Yl Vg ZD,Gf h6]
 cases Az false (BS p)<;>rfl
theorem Aas {ap:Bool} {s:Tx} {a:Ad} {r:Tx} (hb:C4 (B4 (A5 s)) (BS (A5 s))=some (a,r)):∃ap',Az ap s=(Az false r).map (λt=>⟨a.1,true,false,ap'⟩::⟨[64],false,false,false⟩::⟨a.2,true,false,false⟩::t)/\∀t,BT (⟨a.1,true,false,ap'⟩::⟨[64],false,false,false⟩::⟨a.2,true,false,false⟩::t)=some (a,t):=by
 obtain⟨ap',h'⟩:=Ff s ap
 obtain⟨p,h1,h2,h3,h4,h5,h6⟩:=Hk hb
 refine⟨ap',?_,λt=>?_⟩
 ·rw[h',Gf h5,NR hb,h3]
  cases Az false r<;>rfl
 ·rw[h3];simp[BT,h2]
theorem Ace {q:Tx} {a:Ad} {r:Tx} (h:Xu (C4 (B4 q) (BS q))=some (a,r)):C4 (B4 q) (BS q)=some (a,62::r):=by
 obtain⟨p,h1,h2⟩:=YQ h
 rw[h1,h2]
theorem Ae9 {q:Tx} {ap:Bool} {a:Ad} {r:Tx} (h:Xu (C4 (B4 q) (BS q))=some (a,r)):∃pre,Az ap (60::q)=(Az false r).map (pre++ ·)/\∀t,EE (pre++t)=some (a,t)/\(pre++t).dropWhile C0=pre++t:=by
 have hb:=Ace h
 obtain⟨p,h1,h2,h3,h4,h5,h6⟩:=Hk hb
 refine⟨[⟨[60],false,false,ap⟩,⟨a.1,true,false,false⟩,⟨[64],false,false,false⟩,⟨a.2,true,false,false⟩,⟨[62],false,false,false⟩],?_,λt=>?_⟩
 ·rw[Ck Yk Vf ZD,Gf h5,NR hb,Ck AgA AdP ZD,h3]
  cases Az false r<;>rfl
 ·rw[h3];simp[EE,BT,h2,C0]
theorem AeA {q:Tx} {ap:Bool} {l:List Bt} (h:Az ap (60::q)=some l) {a:Ad} {t:List Bt} (ha:EE l=some (a,t)):∃r,Xu (C4 (B4 q) (BS q))=some (a,r)/\Az false r=some t:=by
 rw[Ck Yk Vf ZD] at h
 cases e:Az false q with
 |none=>rw[e] at h;cases h
 | some l'=>
  rw[e] at h
  injection h with h
  subst h
  simp only[EE,if_true] at ha
  split at ha
  ·rename_i a' y t' hp
   split at ha
   ·rename_i hc
    obtain⟨c1,c2,c3⟩:=hc
    injection ha with ha;injection ha with h1 h2
    subst h1;subst h2
    obtain⟨r,hr1,hr2⟩:=MS e hp
    have hsk:A5 q=q:=by
     cases l' with
     |nil=>simp at c1
     |cons z l''=>simp at c1;exact Nd _ _ _ e c1
    rw[hsk] at hr1
    obtain⟨r2,hr3,hr4⟩:=Ol AdP _ _ _ hr2 c2 c3
    refine⟨r2,?_,hr4⟩
    rw[hr1,hr3];simp[Xu]
   ·cases ha
  ·cases ha
theorem J0 {first:Bool} {s r:Tx} (h:A5 s=34::r):B5 first s=match Cs r with|none=>none|some q=>B5 false q:=by
 rw[B5]
 simp only[h,List.head?_cons,if_true,List.tail_cons]
 split<;>rename_i e<;>simp only[h,List.tail_cons] at e<;>rw[e]
theorem J1 {first:Bool} {s r:Tx} (h:A5 s=60::r):B5 first s=Xu (C4 (B4 r) (BS r)):=by
 rw[B5]
 simp only[h,List.head?_cons,List.tail_cons]
 rw[if_neg ZD,if_true]
theorem EO {first:Bool} {s:Tx} (h1:(A5 s).head?≠some 34) (h2:(A5 s).head?≠some 60):B5 first s=if first=true/\(BS (A5 s)).head?=some 64 then C4 (B4 (A5 s)) (BS (A5 s)) else if B4 (A5 s)=[] then none else B5 false (BS (A5 s)):=by
 rw[B5,if_neg h1,if_neg h2]
 rfl
theorem SH (n:Nat):∀(s:Tx) (ap:Bool),s.length<=n->
  (∀a r,B5 false s=some (a,r)->∃pre,Az ap s=(Az false r).map (pre++ ·)/\∀t,EE ((pre++t).dropWhile C0)=some (a,t))/\
  (∀l a t,Az ap s=some l->EE (l.dropWhile C0)=some (a,t)->∃r,B5 false s=some (a,r)):=by
 induction n with
 |zero=>
  intro s ap hs
  have:s=[]:=List.eq_nil_of_length_eq_zero ZO
  subst this
  refine⟨λa r h=>?_,λl a t h h2=>?_⟩
  ·unfold B5 at h;simp[A5,BS,B4] at h
  ·rw[Dt] at h;injection h with h;subst h;simp[EE] at h2
 | succ n ih=>
  intro s ap hs
  obtain⟨ap',h'⟩:=Ff s ap
  have hk:=FD s
  have hh:=Ir s
  rw[h']
  cases e:A5 s with
  |nil=>
   rw[EO (by rw[e];simp) (by rw[e];simp),e]
   refine⟨λa r h=>?_,λl a t h h2=>?_⟩
   ·simp[Aa4,RW] at h
   ·rw[Dt] at h;injection h with h;subst h;simp[EE] at h2
  | cons c r=>
   have hb:=hh c r e
   rw[e] at hk
   simp only[List.length_cons] at hk
   by_cases c1:c=34
   ·subst c1
    rw[J0 e]
    cases e4:Cs r with
    |none=>
     dsimp only
     refine⟨λa r h=>(by cases h),λl a t h h2=>?_⟩
     rw[El e4] at h;cases h
    | some q=>
     dsimp only
     have hq:=H4 _ _ e4
     obtain⟨i1,i2⟩:=ih q false ZO
     rw[Em e4]
     refine⟨λa r h=>?_,λl a t h h2=>?_⟩
     ·obtain⟨pre,p1,p2⟩:=i1 a r h
      refine⟨⟨[],false,true,ap'⟩::pre,?_,λt=>?_⟩
      ·rw[p1];cases Az false r<;>rfl
      ·rw[List.cons_append,List.dropWhile_cons,if_pos (by rfl)];exact p2 t
     ·cases e5:Az false q with
      |none=>rw[e5] at h;cases h
      |some l'=>
       rw[e5] at h;injection h with h;subst h
       rw[List.dropWhile_cons,if_pos (by rfl)] at h2
       exact i2 l' a t e5 h2
   ·by_cases c2:c=60
    ·subst c2
     rw[J1 e]
     refine⟨λa r h=>?_,λl a t h h2=>?_⟩
     ·obtain⟨pre,p1,p2⟩:=Ae9 (ap:=ap') h
      refine⟨pre,p1,λt=>?_⟩
      rw[(p2 t).2];exact(p2 t).1
     ·have hne:l.dropWhile C0=l:=by
       rw[Ck Yk Vf ZD] at h
       cases e5:Az false r with
       |none=>rw[e5] at h;cases h
       |some l'=>rw[e5] at h;injection h with h;subst h;rw[List.dropWhile_cons,if_neg (by simp[C0])]
      rw[hne] at h2
      obtain⟨r2,h3,_⟩:=AeA h h2
      exact⟨r2,h3⟩
    ·rw[EO (by rw[e];simpa using c1) (by rw[e];simpa using c2),e]
     simp only[Bool.false_eq_true,false_and,if_false]
     cases e2:CV c with
     | false=>
      rw[Ka e2,if_pos rfl]
      refine⟨λa r h=>(by cases h),λl a t h h2=>?_⟩
      rw[Ck hb e2 c1] at h
      cases e5:Az false r with
      |none=>rw[e5] at h;cases h
      |some l'=>
       rw[e5] at h;injection h with h;subst h
       rw[List.dropWhile_cons,if_neg (by simp[C0])] at h2
       simp[EE,c2] at h2
     | true=>
      have hrun:B4 (c::r)≠[]:=by rw[Es e2];simp
      rw[if_neg hrun]
      have ho:=IX _ hrun
      simp only[List.length_cons] at ho
      obtain⟨i1,i2⟩:=ih (BS (c::r)) false ZO
      rw[Fe e2]
      refine⟨λa r' h=>?_,λl a t h h2=>?_⟩
      ·obtain⟨pre,p1,p2⟩:=i1 a r' h
       refine⟨⟨B4 (c::r),true,false,ap'⟩::pre,?_,λt=>?_⟩
       ·rw[p1];cases Az false r'<;>rfl
       ·rw[List.cons_append,List.dropWhile_cons,if_pos (by rfl)];exact p2 t
      ·cases e5:Az false (BS (c::r)) with
       |none=>rw[e5] at h;cases h
       |some l'=>
        rw[e5] at h;injection h with h;subst h
        rw[List.dropWhile_cons,if_pos (by rfl)] at h2
        exact i2 l' a t e5 h2
theorem XU {s:Tx} (h:(A5 s).head?=some 34\/(A5 s).head?=some 60\/(BS (A5 s)).head?≠some 64):B5 true s=B5 false s:=by
 cases e:A5 s with
 |nil=>
  have h1:=EO (first:=true) (s:=s) (by rw[e];simp) (by rw[e];simp)
  have h2:=EO (first:=false) (s:=s) (by rw[e];simp) (by rw[e];simp)
  rw[h1,h2,e];simp[RW]
 | cons c r=>
  by_cases c1:c=34
  ·subst c1;rw[J0 e,J0 e]
  ·by_cases c2:c=60
   ·subst c2;rw[J1 e,J1 e]
   ·have h1:=EO (first:=true) (s:=s) (by rw[e];simpa using c1) (by rw[e];simpa using c2)
    have h2:=EO (first:=false) (s:=s) (by rw[e];simpa using c1) (by rw[e];simpa using c2)
    rw[h1,h2]
    rw[e] at h
    simp only[List.head?_cons,Option.some.injEq,c1,c2,false_or] at h
    rw[e,if_neg (λhh:true=true/\_=>h hh.2),if_neg (λhh:false=true/\_=>h hh.2)]
theorem Wi (s:Tx) (ap:Bool):
  (∀a r,B5 true s=some (a,r)->∃pre,Az ap s=(Az false r).map (pre++ ·)/\∀t,Az false r=some t->Da (pre++t)=some (a,t))/\
  (∀l a t,Az ap s=some l->Da l=some (a,t)->∃r,B5 true s=some (a,r)):=by
 obtain⟨f1,f2⟩:=SH s.length s ap (Nat.le_refl _)
 by_cases hc:(A5 s).head?=some 34\/(A5 s).head?=some 60\/(BS (A5 s)).head?≠some 64
 ·rw[XU hc]
  have hnb:∀a r,C4 (B4 (A5 s)) (BS (A5 s))=some (a,r)->False:=by
   intro a r hb
   obtain⟨p,h1,_,_,_,h5,_⟩:=Hk hb
   rw[h1] at hc
   simp only[List.head?_cons,ne_eq,not_true_eq_false,or_false] at hc
   cases e:A5 s with
   |nil=>rw[e] at h5;exact h5 rfl
   |cons c r=>
    rw[e] at hc h5
    simp only[List.head?_cons,Option.some.injEq] at hc
    rcases hc with rfl|rfl
    ·exact h5 (Ka AdO)
    ·exact h5 (Ka Vf)
  have hpl:∀l,Az ap s=some l->BT l=none:=by
   intro l hl
   cases e:BT l with
   |none=>rfl
   |some x=>obtain⟨a,t⟩:=x;obtain⟨r,h1,_⟩:=MS hl e;exact(hnb _ _ h1).elim
  refine⟨λa r h=>?_,λl a t h h2=>?_⟩
  ·obtain⟨pre,p1,p2⟩:=f1 a r h
   refine⟨pre,p1,λt ht=>?_⟩
   unfold Da
   rw[hpl (pre++t) (by rw[p1,ht];rfl)]
   exact p2 t
  ·unfold Da at h2
   rw[hpl l h] at h2
   exact f2 l a t h h2
 ·simp only[not_or,ne_eq,Classical.not_not] at hc
  obtain⟨c1,c2,c3⟩:=hc
  rw[EO c1 c2,if_pos ⟨rfl,c3⟩]
  refine⟨λa r h=>?_,λl a t h h2=>?_⟩
  ·obtain⟨ap',p1,p2⟩:=Aas (ap:=ap) h
   refine⟨[⟨a.1,true,false,ap'⟩,⟨[64],false,false,false⟩,⟨a.2,true,false,false⟩],p1,λt _=>?_⟩
   have:=p2 t
   unfold Da
   simp only[List.cons_append,List.nil_append]
   rw[this]
  ·unfold Da at h2
   split at h2
   ·rename_i x hp
    obtain⟨a',t'⟩:=x
    obtain⟨r,h3,_⟩:=MS h hp
    injection h2 with h2;injection h2 with h4 h5
    exact⟨r,by rw[<-h4];exact h3⟩
   ·exfalso
    obtain⟨ap',h'⟩:=Ff s ap
    rw[h'] at h
    by_cases hr:B4 (A5 s)=[]
    ·have:BS (A5 s)=A5 s:=by
      have:=Vj (A5 s);rw[hr] at this;exact this
     rw[this] at c3
     cases e:A5 s with
     |nil=>rw[e] at c3;simp at c3
     | cons c r=>
      rw[e] at c3 h
      simp only[List.head?_cons,Option.some.injEq] at c3
      subst c3
      rw[Ck Yl Vg ZD] at h
      cases e5:Az false r with
      |none=>rw[e5] at h;cases h
      |some l'=>
       rw[e5] at h;injection h with h;subst h
       rw[List.dropWhile_cons,if_neg (by simp[C0])] at h2
       simp[EE] at h2
    ·rw[Gf hr] at h
     cases e:BS (A5 s) with
     |nil=>rw[e] at c3;simp at c3
     | cons c r=>
      rw[e] at c3 h
      simp only[List.head?_cons,Option.some.injEq] at c3
      subst c3
      rw[Ck Yl Vg ZD] at h
      cases e5:Az false r with
      |none=>rw[e5] at h;cases h
      |some l'=>
       rw[e5] at h
       simp only[Option.map_some,Option.some.injEq] at h
       subst h
       rw[List.dropWhile_cons,if_pos (by rfl),List.dropWhile_cons,if_neg (by simp[C0])] at h2
       simp[EE] at h2
theorem GC {l:List Bt} (h:Da l=none):listB l=none:=by
 unfold listB;split<;>rename_i e<;>rw[h] at e<;>first|rfl|cases e
theorem Ot {l:List Bt} {a:Ad} (h:Da l=some (a,[])):listB l=some [a]:=by
 unfold listB;split<;>rename_i e<;>rw[h] at e
 ·cases e
 ·injection e with e;injection e with e1 e2;rw[e1]
 ·injection e with e;injection e with e1 e2;cases e2
theorem GB {l t:List Bt} {x:Bt} {a:Ad} (h:Da l=some (a,x::t)):listB l=if x.text=[44] then(listB t).map (a:: ·) else none:=by
 rw[listB];split<;>rename_i e<;>rw[h] at e
 ·cases e
 ·injection e with e;injection e with e1 e2;cases e2
 ·injection e with e;injection e with e1 e2;injection e2 with e2 e3;rw[e1,e2,e3]
theorem Fo {s:Tx} (h:B5 true s=none):B6 s=none:=by
 unfold B6;split<;>rename_i e<;>rw[h] at e<;>first|rfl|cases e
theorem IT {s r:Tx} {a:Ad} (h:B5 true s=some (a,r)):B6 s=match A5 r with|[]=>some [a]|c::q=>if c=44 then(B6 q).map (a:: ·) else none:=by
 rw[B6];split<;>rename_i e<;>rw[h] at e
 ·cases e
 ·injection e with e;injection e with e1 e2
  subst e1;subst e2
  split<;>rename_i e3<;>rw[e3]
theorem Ov (n:Nat):∀(s:Tx) (ap:Bool),s.length<=n->(Az ap s).bind listB=B6 s:=by
 induction n with
 |zero=>
  intro s ap hs
  have:s=[]:=List.eq_nil_of_length_eq_zero ZO
  subst this
  rw[Dt,Fo (by unfold B5;simp[A5,BS,B4])]
  exact GC (by simp[Da,BT,EE])
 | succ n ih=>
  intro s ap hs
  obtain⟨f1,f2⟩:=Wi s ap
  cases e:B5 true s with
  | none=>
   rw[Fo e]
   cases e1:Az ap s with
   |none=>rfl
   |some l=>
    refine GC ?_
    cases e2:Da l with
    |none=>rfl
    |some x=>obtain⟨a,t⟩:=x;obtain⟨r,h⟩:=f2 l a t e1 e2;rw[e] at h;cases h
  | some x=>
   obtain⟨a,r⟩:=x
   have hlt:=Pe s.length true s a r (Nat.le_refl _) e
   rw[IT e]
   obtain⟨pre,p1,p2⟩:=f1 a r e
   rw[p1]
   obtain⟨ap',h'⟩:=Ff r false
   have hh:=Ir r
   have hk:=FD r
   generalize A5 r=q at h' hh hk
   cases q with
   |nil=>
    rw[Dt] at h'
    rw[h']
    exact Ot (p2 [] h')
   | cons c q=>
    have hb:=hh c q rfl
    simp only[List.length_cons] at hk
    dsimp only
    by_cases c1:c=44
    ·subst c1
     rw[if_pos rfl]
     rw[Ck Ag9 Ah4 ZD] at h'
     cases e5:Az false q with
     |none=>
      rw[h',e5]
      have:=ih q false ZO
      rw[e5] at this
      rw[<-this];rfl
     |some t=>
      rw[e5] at h'
      have h2:=p2 _ h'
      rw[h']
      show listB _=_
      rw[GB h2,if_pos rfl]
      have:=ih q false ZO
      rw[e5] at this
      rw[<-this];rfl
    ·rw[if_neg c1]
     cases e5:Az false r with
     |none=>rfl
     | some l=>
      rw[h'] at e5
      have hx:∃x t,l=x::t/\x.text≠[44]:=by
       cases e2:CV c with
       | true=>
        rw[Fe e2] at e5
        cases e6:Az false (BS (c::q)) with
        |none=>rw[e6] at e5;cases e5
        |some l'=>
         rw[e6] at e5;injection e5 with e5
         exact⟨_,_,e5.symm,by rw[Es e2];simp;intro h;exact absurd h c1⟩
       | false=>
        by_cases c3:c=34
        ·subst c3
         cases e4:Cs q with
         |none=>rw[El e4] at e5;cases e5
         |some q'=>
          rw[Em e4] at e5
          cases e6:Az false q' with
          |none=>rw[e6] at e5;cases e5
          |some l'=>rw[e6] at e5;injection e5 with e5;exact⟨_,_,e5.symm,by simp⟩
        ·rw[Ck hb e2 c3] at e5
         cases e6:Az false q with
         |none=>rw[e6] at e5;cases e5
         |some l'=>rw[e6] at e5;injection e5 with e5;exact⟨_,_,e5.symm,by simpa using c1⟩
      obtain⟨x,t,rfl,hx⟩:=hx
      have h2:=p2 _ (h'.trans e5)
      show listB _=_
      rw[GB h2,if_neg hx]
def Ba (s:Tx):List Ad×Int:=if 2000<s.length then([],1) else match B6 s with|none=>([],3)|some l=>if 20<l.length then([],5) else(l,0)
end
section
structure OpS where
 kind:Int
 dst:Int
 test:AM
 what:Ax
end
section
open Go.RowKit
section
variable {P:Program} {T:Ap} {h:AH} {sl:List AV} {ops:Array Oper} {rest:List Oper} {o:Oper} {K:List AV->AH->Prop} {X:AV->AH->Prop}
end
end
section
section
variable {P:Program} {T:Ap} {Q:AQ} {sl:List AV} {c:Code} {L:List Nat} {H H':Af}
theorem BO.pm (p:H.Perm H'):BO ⟨H,L⟩ ⟨H',L⟩:=BO.perm ⟨p,.refl _⟩
theorem Aa.pm (p:H.Perm H') (K:Aa P T c Q sl ⟨H',L⟩):Aa P T c Q sl ⟨H,L⟩:=Aa.leH (BO.pm p) K
theorem AC.leH {f:FuncId} {args:List AV} {h h':AH} {R:AR->AH->Prop} (p:BO h h') (C:AC P T f args h' R):AC P T f args h R:=⟨C.call,λG w vs S Rs=>C.run G w vs (p _ _ _ S) Rs⟩
end
theorem AY {x y:Nat} (h:x≠y):(x==y)=false:=by simpa using h
theorem AZ {x y:Nat} (h:x≠y):(y==x)=false:=by simpa using λe=>h e.symm
theorem UR {x y:Nat} {o o':Ob} {F:Af} (h:(List.map Prod.fst ((x,o)::(y,o')::F)).Nodup):x≠y:=by
 simp only[List.map_cons,List.nodup_cons,List.mem_cons,not_or] at h
 exact h.1.1
end
section
end
section
abbrev Hb:List UInt8:=[101,110,118,101,108,111,112,101]
abbrev Rq:List UInt8:=[102,114,111,109]
abbrev toT:List UInt8:=[116,111]
def Cp (ks:List (List UInt8)) (s:List UInt8):Int:=if s∈ks then 0 else 8
theorem PN (T:Ap) (bj t:Nat) (ks:List (List UInt8)) (s:List UInt8) (F:Af) (L:List Nat):AC prog T 200 [.ptr bj 1 0 0,.d (.str s)] (⟨(bj,⟨1,1,[[.mp t ks]]⟩)::F,t::L⟩) (λx h=>x= .ret (.d (.int .i64 (Cp ks s)))/\h=⟨(bj,⟨1,1,[[.mp t ks]]⟩)::F,t::L⟩):=by
 refine⟨call200,Ao.enterS func200 rfl ntmps200 rfl λhb=>?_⟩
 simp only[go_sem,results200]
 refine Zp 3 ?_
 refine Zs (Zx (Zy ?_))
 refine X8 (t:=t) (ks:=ks) (s:=s) rfl rfl underlying119 underlying9 (λw=>rfl) rfl rfl ZX ?_
 refine Zy ?_
 intro b5
 first|intro fb5|have fb5:=True.intro
 try simp only[Ab] at fb5
 refine VJ rfl rfl (λw=>rfl) rfl rfl ?_
 refine Zy ?_
 refine Zm 8 ?_
 refine Zp 4 ?_
 refine Zc (λhc0=>?_) λhc0=>?_
 ·refine Zp 1 (Aa.ret ?_)
  simp only[Am]
  apply Ah [b5] [] [bj] [] ZH
  · rw [Cp,if_neg (by simpa using hc0)]
    exact⟨rfl,by first|rfl|(simp only[go_sem,fb5];done)|(simp only[go_sem,fb5];rfl)⟩
  · simp [Aj,Ay]
 refine Zk ?_
 refine Zp 1 (Aa.ret ?_)
 apply Ah [b5] [] [bj] [] ZH
 · rw [Cp,if_pos (by simpa using hc0)]
   exact⟨rfl,by first|rfl|(simp only[go_sem,fb5];done)|(simp only[go_sem,fb5];rfl)⟩
 · simp [Aj,Ay]
end
section
def Cn:List (List UInt8)->Int
 |[]=>0
 |s::l=>if¬s=Rq/\¬s=toT then 7 else Cn l
def Bg:List (List UInt8)->Int
 |[]=>0
 |s::l=>if 100<s.length then 1 else Bg l
mutual
def CW (ks:List (List UInt8)):AM->Int
 | .mk k _ _ ns ky _ _ kids=>if k=8/\¬Hb∈ks then 8 else if k=8/\¬Cn ns=0 then 7 else if¬Bg ns=0 then 1 else if¬Bg ky=0 then 1 else CL ks kids
def CL (ks:List (List UInt8)):List AM->Int
 |[]=>0
 |t::l=>if¬CW ks t=0 then CW ks t else CL ks l
end
theorem B1 (ks:List (List UInt8)) (t:AM):CW ks t=if t.kind=8/\¬Hb∈ks then 8 else if t.kind=8/\¬Cn t.names=0 then 7 else if¬Bg t.names=0 then 1 else if¬Bg t.keys=0 then 1 else CL ks t.kids:=by cases t;rw[CW];rfl
theorem RT {l:List (List UInt8)} {k:Nat} (h:k<l.length) (hc:¬l[k]=Rq/\¬l[k]=toT):Cn (l.drop k)=7:=by rw[List.drop_eq_getElem_cons h,Cn,if_pos hc]
theorem RS {l:List (List UInt8)} {k:Nat} (h:k<l.length) (hc:¬(¬l[k]=Rq/\¬l[k]=toT)):Cn (l.drop k)=Cn (l.drop (k+1)):=by rw[List.drop_eq_getElem_cons h,Cn,if_neg hc]
theorem ML {l:List (List UInt8)} {k:Nat} (h:l.length<=k):Cn (l.drop k)=0:=by rw[List.drop_eq_nil_of_le h];rfl
theorem Ez {l:List (List UInt8)} {k:Nat} (h:k<l.length) (hc:100<(l[k]).length):Bg (l.drop k)=1:=by rw[List.drop_eq_getElem_cons h,Bg,if_pos hc]
theorem Ey {l:List (List UInt8)} {k:Nat} (h:k<l.length) (hc:¬100<(l[k]).length):Bg (l.drop k)=Bg (l.drop (k+1)):=by rw[List.drop_eq_getElem_cons h,Bg,if_neg hc]
theorem Ex {l:List (List UInt8)} {k:Nat} (h:l.length<=k):Bg (l.drop k)=0:=by rw[List.drop_eq_nil_of_le h];rfl
theorem Kj {ks:List (List UInt8)} {l:List AM} {k:Nat} (h:k<l.length) (hc:¬CW ks (l[k])=0):CL ks (l.drop k)=CW ks (l[k]):=by rw[List.drop_eq_getElem_cons h,CL,if_pos hc]
theorem Ki {ks:List (List UInt8)} {l:List AM} {k:Nat} (h:k<l.length) (hc:CW ks (l[k])=0):CL ks (l.drop k)=CL ks (l.drop (k+1)):=by rw[List.drop_eq_getElem_cons h,CL,if_neg (λh9=>h9 hc)]
theorem Kh {ks:List (List UInt8)} {l:List AM} {k:Nat} (h:l.length<=k):CL ks (l.drop k)=0:=by rw[List.drop_eq_nil_of_le h];rfl
attribute [local go_sem] AJ Bi Aq Ef in
theorem Acm (T:Ap) (bj t:Nat) (ks:List (List UInt8)) (tt:AM) (ok:tt.Ok) (ih:∀y∈tt.kids,∀(F:Af) (L:List Nat),AC prog T 199 [.ptr bj 1 0 0,.agg (AJ y)] ⟨(bj,⟨1,1,[[.mp t ks]]⟩)::F,t::L⟩ (λx h=>x= .ret (.d (.int .i64 (CW ks y)))/\h=⟨(bj,⟨1,1,[[.mp t ks]]⟩)::F,t::L⟩)) (F:Af) (L:List Nat):AC prog T 199 [.ptr bj 1 0 0,.agg (AJ tt)] (⟨(bj,⟨1,1,[[.mp t ks]]⟩)::F,t::L⟩) (λx h=>x= .ret (.d (.int .i64 (CW ks tt)))/\h=⟨(bj,⟨1,1,[[.mp t ks]]⟩)::F,t::L⟩):=by
 refine⟨call199,Ao.enterS func199 rfl ntmps199 rfl λhb=>?_⟩
 obtain⟨s1,s2,s3,s4⟩:=ok.inv
 simp only[go_sem,results199]
 refine Zx (Zy ?_)
 intro b3 fb3
 try simp only[Ab] at fb3
 refine Zs (Zp 69 ?_)
 refine Zc (λhc0=>?_) λhc0=>?_
 ·refine Zs (Zx (Zy ?_))
  refine ZA [bj] [t] (PN T bj t ks Hb _ _) ?_
  rintro _ _ ⟨rfl,rfl⟩
  refine Zy ?_
  refine Zp 135 ?_
  refine Zc (λhc1=>?_) λhc1=>?_
  ·have he:tt.kind=8/\¬Hb∈ks:=⟨hc0,λh9=>hc1 (if_pos h9)⟩
   refine Zp 4 (Aa.ret ?_)
   simp only[Am]
   apply Ah [b3] [] [bj] [t] ZH
   · rw [B1,if_pos he]
     exact⟨rfl,ZR⟩
   · simp [Aj,Ay,Cp,he.2]
  have he:Hb∈ks:=Decidable.byContradiction λh9=>by rw[Cp,if_neg h9] at hc1;omega
  refine Zk ?_
  refine Zp 227 ?_
  refine Aa.block (Zy ?_)
  refine Zl 15 16 (λn lc hc=> ∃(k:Nat),n=tt.names.length-k/\Av lc [(26,.d (.int .i64 (k:Nat)))]/\Av hc (⟨(bj,⟨1,1,[[.mp t ks]]⟩)::(b3,⟨8,1,[[.d (.int .i64 tt.kind),.d (.int .i64 tt.mat),.d (.int .i64 tt.part),.d (.slc 1 (tt.names.map Aq)),.d (.slc 1 (tt.keys.map Aq)),.d (.bool tt.over),.d (.int .i64 tt.limit),.d (.slc 8 (Cr tt))]]⟩)::F,t::L⟩)/\(k<=tt.names.length)/\(Cn tt.names=Cn (tt.names.drop k))) ?_ ?_
  · refine ⟨_,0,rfl,ZE,ZE,?_,?_⟩
    all_goals(first|omega|rfl)
  rintro _ _ _ ⟨k,rfl,⟨rfl⟩,⟨rfl⟩,m1,m2⟩
  refine Zy ?_
  refine Zp 63 ?_
  refine Zs (Zc (λhc2=>?_) λhc2=>?_)
  ·have hlt:k<tt.names.length:=by omega
   have hki:(k:Int)<(tt.names.length:Int):=by omega
   have zf1:=λd0_=>Al Aq tt.names k d0_ hlt
   refine Zk ?_
   refine Zs (Aa.block (Zp 63 ?_))
   refine Zp 2107 ?_
   refine Zc (λhc3=>?_) λhc3=>?_
   ·refine Zp 4 (Aa.ret ?_)
    simp only[Am,Bo]
    apply Ah [b3] [] [bj] [t] ZH
    · rw [B1,if_neg (λh9=>h9.2 he),if_pos ⟨hc0,by rw[m2,RT hlt hc3];decide⟩]
      exact⟨rfl,ZR⟩
    · simp [Aj,Ay]
   have hbad:¬(¬tt.names[k]=Rq/\¬tt.names[k]=toT):=by rintro⟨h8,h9⟩;first|exact hc3 ⟨h8,h9⟩|exact hc3 h8 h9|exact hc3.elim (λh7=>h8 h7) (λh7=>h9 h7)|(simp[h8,h9] at hc3)
   refine Z5 ?_
   refine Z6 ?_
   refine Ze 15 16 [] [] [bj,b3] [] (.e ⟨_,ZM,k+1,rfl,ZE,ZE,?_,?_⟩)
   · omega
   · rw [m2,RS hlt hbad]
  have hn:Cn tt.names=0:=by rw[m2,ML ZO]
  clear m1 m2
  refine Z4 ?_
  refine Zm 3 ?_
  refine Zs (Zp 195 ?_)
  refine Zy ?_
  refine Aa.ord [] [] [bj] [] (by(try simp only[go_sem,fb3]);rfl) ?_
  refine Aa.block (Zl 7 8 (λn lc hc=> ∃(k:Nat),n=2-k/\Av lc [(42,.d (.int .i64 (k:Nat)))]/\Av hc (⟨(bj,⟨1,1,[[.mp t ks]]⟩)::(b3,⟨8,1,[[.d (.int .i64 tt.kind),.d (.int .i64 tt.mat),.d (.int .i64 tt.part),.d (.slc 1 (tt.names.map Aq)),.d (.slc 1 (tt.keys.map Aq)),.d (.bool tt.over),.d (.int .i64 tt.limit),.d (.slc 8 (Cr tt))]]⟩)::F,t::L⟩)/\(k<=2)/\(1<=k->Bg tt.names=0)/\(2<=k->Bg tt.keys=0)) ?_ ?_)
  · refine ⟨_,0,rfl,ZE,ZE,?_,?_,?_⟩
    all_goals(first|omega|(intro h9;omega))
  rintro _ _ _ ⟨k,rfl,⟨rfl⟩,⟨rfl⟩,z0,z1,z2⟩
  refine Zy ?_
  refine Zp 31 ?_
  refine Zs (Zc (λhc4=>?_) λhc4=>?_)
  ·refine Zk ?_
   refine Zs (Aa.block ?_)
   obtain rfl|rfl:k=0\/k=1:=by omega
   ·refine Zp 31 ?_
    refine Zp 251 ?_
    refine Aa.block (Zy ?_)
    refine Zl 63 64 (λn lc hc=> ∃(q:Nat),n=tt.names.length-q/\Av lc [(47,.d (.int .i64 (q:Nat)))]/\Av hc (⟨(bj,⟨1,1,[[.mp t ks]]⟩)::(b3,⟨8,1,[[.d (.int .i64 tt.kind),.d (.int .i64 tt.mat),.d (.int .i64 tt.part),.d (.slc 1 (tt.names.map Aq)),.d (.slc 1 (tt.keys.map Aq)),.d (.bool tt.over),.d (.int .i64 tt.limit),.d (.slc 8 (Cr tt))]]⟩)::F,t::L⟩)/\(q<=tt.names.length)/\(Bg tt.names=Bg (tt.names.drop q))) ?_ ?_
    · refine ⟨_,0,rfl,ZE,ZE,?_,?_⟩
      all_goals(first|omega|rfl)
    rintro _ _ _ ⟨q,rfl,⟨rfl⟩,⟨rfl⟩,m1,m2⟩
    refine Zy ?_
    refine Zp 255 ?_
    refine Zs (Zc (λhc5=>?_) λhc5=>?_)
    ·have hlt:q<tt.names.length:=by omega
     have hqi:(q:Int)<(tt.names.length:Int):=by omega
     have zf2:=λd0_=>Al Aq tt.names q d0_ hlt
     refine Zk ?_
     refine Zs (Aa.block (Zp 255 ?_))
     refine Zp 1275 ?_
     refine Zc (λhc6=>?_) λhc6=>?_
     ·have hsz:¬Bg tt.names=0:=by rw[m2,Ez hlt ZO];decide
      refine Zp 4 (Aa.ret ?_)
      simp only[Am,Bo]
      apply Ah [b3] [] [bj] [t] ZH
      · rw [B1,if_neg (λh9=>h9.2 he),if_neg (λh9=>h9.2 hn),if_pos hsz]
        exact⟨rfl,ZR⟩
      · simp [Aj,Ay]
     have hs:¬100<(tt.names[q]).length:=by omega
     refine Z5 ?_
     refine Z6 ?_
     refine Ze 63 64 [] [] [bj,b3] [] (.e ⟨_,ZM,q+1,rfl,ZE,ZE,?_,?_⟩)
     · omega
     · rw [m2,Ey hlt hs]
    have hsz:Bg tt.names=0:=by rw[m2,Ex ZO]
    refine Aa.exit (Ak (Ak (Bh (Ai (Ac ?_)))))
    refine Zm 15 ?_
    refine Z6 ?_
    refine Ze 7 8 [] [] [bj,b3] [] (.e ⟨_,ZM,1,rfl,ZE,ZE,?_,?_,?_⟩)
    · omega
    · intro h9;exact hsz
    · intro h9;omega
   refine Zp 31 ?_
   refine Zp 251 ?_
   refine Aa.block (Zy ?_)
   refine Zl 63 64 (λn lc hc=> ∃(q:Nat),n=tt.keys.length-q/\Av lc [(47,.d (.int .i64 (q:Nat)))]/\Av hc (⟨(bj,⟨1,1,[[.mp t ks]]⟩)::(b3,⟨8,1,[[.d (.int .i64 tt.kind),.d (.int .i64 tt.mat),.d (.int .i64 tt.part),.d (.slc 1 (tt.names.map Aq)),.d (.slc 1 (tt.keys.map Aq)),.d (.bool tt.over),.d (.int .i64 tt.limit),.d (.slc 8 (Cr tt))]]⟩)::F,t::L⟩)/\(q<=tt.keys.length)/\(Bg tt.keys=Bg (tt.keys.drop q))) ?_ ?_
   · refine ⟨_,0,rfl,ZE,ZE,?_,?_⟩
     all_goals(first|omega|rfl)
   rintro _ _ _ ⟨q,rfl,⟨rfl⟩,⟨rfl⟩,m1,m2⟩
   refine Zy ?_
   refine Zp 255 ?_
   refine Zs (Zc (λhc5=>?_) λhc5=>?_)
   ·have hlt:q<tt.keys.length:=by omega
    have hqi:(q:Int)<(tt.keys.length:Int):=by omega
    have zf3:=λd0_=>Al Aq tt.keys q d0_ hlt
    refine Zk ?_
    refine Zs (Aa.block (Zp 255 ?_))
    refine Zp 1275 ?_
    refine Zc (λhc6=>?_) λhc6=>?_
    ·have hsz:¬Bg tt.keys=0:=by rw[m2,Ez hlt ZO];decide
     refine Zp 4 (Aa.ret ?_)
     simp only[Am,Bo]
     apply Ah [b3] [] [bj] [t] ZH
     · rw [B1,if_neg (λh9=>h9.2 he),if_neg (λh9=>h9.2 hn),if_neg (λh9=>h9 (z1 ZO)),if_pos hsz]
       exact⟨rfl,ZR⟩
     · simp [Aj,Ay]
    have hs:¬100<(tt.keys[q]).length:=by omega
    refine Z5 ?_
    refine Z6 ?_
    refine Ze 63 64 [] [] [bj,b3] [] (.e ⟨_,ZM,q+1,rfl,ZE,ZE,?_,?_⟩)
    · omega
    · rw [m2,Ey hlt hs]
   have hsz:Bg tt.keys=0:=by rw[m2,Ex ZO]
   refine Aa.exit (Ak (Ak (Bh (Ai (Ac ?_)))))
   refine Zm 15 ?_
   refine Z6 ?_
   refine Ze 7 8 [] [] [bj,b3] [] (.e ⟨_,ZM,2,rfl,ZE,ZE,?_,?_,?_⟩)
   · omega
   · intro h9;exact z1 ZO
   · intro h9;exact hsz
  have hs1:=z1 ZO
  have hs2:=z2 ZO
  refine Z4 ?_
  refine Zs (Zp 449 ?_)
  refine Aa.block (Zy ?_)
  refine Zl 7 8 (λn lc hc=> ∃(q:Nat),n=tt.kids.length-q/\Av lc [(59,.d (.int .i64 (q:Nat)))]/\Av hc (⟨(bj,⟨1,1,[[.mp t ks]]⟩)::(b3,⟨8,1,[[.d (.int .i64 tt.kind),.d (.int .i64 tt.mat),.d (.int .i64 tt.part),.d (.slc 1 (tt.names.map Aq)),.d (.slc 1 (tt.keys.map Aq)),.d (.bool tt.over),.d (.int .i64 tt.limit),.d (.slc 8 (Cr tt))]]⟩)::F,t::L⟩)/\(q<=tt.kids.length)/\(CL ks tt.kids=CL ks (tt.kids.drop q))) ?_ ?_
  · refine ⟨_,0,rfl,ZE,ZE,?_,?_⟩
    all_goals(first|omega|rfl)
  rintro _ _ _ ⟨q,rfl,⟨rfl⟩,⟨rfl⟩,m3,m4⟩
  refine Zy ?_
  refine Zp 31 ?_
  refine Zs (Zc (λhc7=>?_) λhc7=>?_)
  ·have hlt:q<tt.kids.length:=by omega
   have hqi:(q:Int)<(tt.kids.length:Int):=by omega
   have zf4:=λd0_=>BJ tt q d0_ hlt
   refine Zk ?_
   refine Zs (Aa.block (Zx ?_))
   simp only[go_sem,zf4,hqi]
   intro b13 fb13
   try simp only[Ab] at fb13
   refine Zx ?_
   simp only[go_sem,fb13]
   refine ZA [bj] [t] (ih _ (List.getElem_mem hlt) _ _) ?_
   rintro _ _ ⟨rfl,rfl⟩
   refine Zy ?_
   refine Zm 61 ?_
   refine Zp 95 ?_
   refine Zc (λhc8=>?_) λhc8=>?_
   ·refine Zp 2 (Aa.ret ?_)
    simp only[Am,Bo]
    apply Ah [b3,b13] [] [bj] [t] ZH
    · rw [B1,if_neg (λh9=>h9.2 he),if_neg (λh9=>h9.2 hn),if_neg (λh9=>h9 hs1),if_neg (λh9=>h9 hs2),m4,Kj hlt hc8]
      exact⟨rfl,ZR⟩
    · simp [Aj,Ay]
   have hz8:CW ks (tt.kids[q])=0:=by omega
   refine Z5 ?_
   refine Z6 ?_
   refine Ze 13 16 [b13] [] [bj,b3] [] (.e ⟨_,ZM,q+1,rfl,ZE,ZE,?_,?_⟩)
   · omega
   · rw [m4,Ki hlt hz8]
  refine Z4 ?_
  refine Zm 0 ?_
  refine Zp 1 (Aa.ret ?_)
  apply Ah [b3] [] [bj] [t] ZH
  · rw [B1,if_neg (λh9=>h9.2 he),if_neg (λh9=>h9.2 hn),if_neg (λh9=>h9 hs1),if_neg (λh9=>h9 hs2),m4,Kh ZO]
    exact⟨rfl,ZR⟩
  · simp [Aj,Ay]
 refine Zk ?_
 refine Zs (Zp 387 ?_)
 refine Zy ?_
 refine Aa.ord [] [] [bj] [] (by(try simp only[go_sem,fb3]);rfl) ?_
 refine Aa.block (Zl 7 8 (λn lc hc=> ∃(k:Nat),n=2-k/\Av lc [(42,.d (.int .i64 (k:Nat)))]/\Av hc (⟨(bj,⟨1,1,[[.mp t ks]]⟩)::(b3,⟨8,1,[[.d (.int .i64 tt.kind),.d (.int .i64 tt.mat),.d (.int .i64 tt.part),.d (.slc 1 (tt.names.map Aq)),.d (.slc 1 (tt.keys.map Aq)),.d (.bool tt.over),.d (.int .i64 tt.limit),.d (.slc 8 (Cr tt))]]⟩)::F,t::L⟩)/\(k<=2)/\(1<=k->Bg tt.names=0)/\(2<=k->Bg tt.keys=0)) ?_ ?_)
 · refine ⟨_,0,rfl,ZE,ZE,?_,?_,?_⟩
   all_goals(first|omega|(intro h9;omega))
 rintro _ _ _ ⟨k,rfl,⟨rfl⟩,⟨rfl⟩,z0,z1,z2⟩
 refine Zy ?_
 refine Zp 31 ?_
 refine Zs (Zc (λhc4=>?_) λhc4=>?_)
 ·refine Zk ?_
  refine Zs (Aa.block ?_)
  obtain rfl|rfl:k=0\/k=1:=by omega
  ·refine Zp 31 ?_
   refine Zp 251 ?_
   refine Aa.block (Zy ?_)
   refine Zl 63 64 (λn lc hc=> ∃(q:Nat),n=tt.names.length-q/\Av lc [(47,.d (.int .i64 (q:Nat)))]/\Av hc (⟨(bj,⟨1,1,[[.mp t ks]]⟩)::(b3,⟨8,1,[[.d (.int .i64 tt.kind),.d (.int .i64 tt.mat),.d (.int .i64 tt.part),.d (.slc 1 (tt.names.map Aq)),.d (.slc 1 (tt.keys.map Aq)),.d (.bool tt.over),.d (.int .i64 tt.limit),.d (.slc 8 (Cr tt))]]⟩)::F,t::L⟩)/\(q<=tt.names.length)/\(Bg tt.names=Bg (tt.names.drop q))) ?_ ?_
   · refine ⟨_,0,rfl,ZE,ZE,?_,?_⟩
     all_goals(first|omega|rfl)
   rintro _ _ _ ⟨q,rfl,⟨rfl⟩,⟨rfl⟩,m1,m2⟩
   refine Zy ?_
   refine Zp 255 ?_
   refine Zs (Zc (λhc5=>?_) λhc5=>?_)
   ·have hlt:q<tt.names.length:=by omega
    have hqi:(q:Int)<(tt.names.length:Int):=by omega
    have zf5:=λd0_=>Al Aq tt.names q d0_ hlt
    refine Zk ?_
    refine Zs (Aa.block (Zp 255 ?_))
    refine Zp 1275 ?_
    refine Zc (λhc6=>?_) λhc6=>?_
    ·have hsz:¬Bg tt.names=0:=by rw[m2,Ez hlt ZO];decide
     refine Zp 4 (Aa.ret ?_)
     simp only[Am,Bo]
     apply Ah [b3] [] [bj] [t] ZH
     · rw [B1,if_neg (λh9=>hc0 h9.1),if_neg (λh9=>hc0 h9.1),if_pos hsz]
       exact⟨rfl,ZR⟩
     · simp [Aj,Ay]
    have hs:¬100<(tt.names[q]).length:=by omega
    refine Z5 ?_
    refine Z6 ?_
    refine Ze 63 64 [] [] [bj,b3] [] (.e ⟨_,ZM,q+1,rfl,ZE,ZE,?_,?_⟩)
    · omega
    · rw [m2,Ey hlt hs]
   have hsz:Bg tt.names=0:=by rw[m2,Ex ZO]
   refine Aa.exit (Ak (Ak (Bh (Ai (Ac ?_)))))
   refine Zm 15 ?_
   refine Z6 ?_
   refine Ze 7 8 [] [] [bj,b3] [] (.e ⟨_,ZM,1,rfl,ZE,ZE,?_,?_,?_⟩)
   · omega
   · intro h9;exact hsz
   · intro h9;omega
  refine Zp 31 ?_
  refine Zp 251 ?_
  refine Aa.block (Zy ?_)
  refine Zl 63 64 (λn lc hc=> ∃(q:Nat),n=tt.keys.length-q/\Av lc [(47,.d (.int .i64 (q:Nat)))]/\Av hc (⟨(bj,⟨1,1,[[.mp t ks]]⟩)::(b3,⟨8,1,[[.d (.int .i64 tt.kind),.d (.int .i64 tt.mat),.d (.int .i64 tt.part),.d (.slc 1 (tt.names.map Aq)),.d (.slc 1 (tt.keys.map Aq)),.d (.bool tt.over),.d (.int .i64 tt.limit),.d (.slc 8 (Cr tt))]]⟩)::F,t::L⟩)/\(q<=tt.keys.length)/\(Bg tt.keys=Bg (tt.keys.drop q))) ?_ ?_
  · refine ⟨_,0,rfl,ZE,ZE,?_,?_⟩
    all_goals(first|omega|rfl)
  rintro _ _ _ ⟨q,rfl,⟨rfl⟩,⟨rfl⟩,m1,m2⟩
  refine Zy ?_
  refine Zp 255 ?_
  refine Zs (Zc (λhc5=>?_) λhc5=>?_)
  ·have hlt:q<tt.keys.length:=by omega
   have hqi:(q:Int)<(tt.keys.length:Int):=by omega
   have zf6:=λd0_=>Al Aq tt.keys q d0_ hlt
   refine Zk ?_
   refine Zs (Aa.block (Zp 255 ?_))
   refine Zp 1275 ?_
   refine Zc (λhc6=>?_) λhc6=>?_
   ·have hsz:¬Bg tt.keys=0:=by rw[m2,Ez hlt ZO];decide
    refine Zp 4 (Aa.ret ?_)
    simp only[Am,Bo]
    apply Ah [b3] [] [bj] [t] ZH
    · rw [B1,if_neg (λh9=>hc0 h9.1),if_neg (λh9=>hc0 h9.1),if_neg (λh9=>h9 (z1 ZO)),if_pos hsz]
      exact⟨rfl,ZR⟩
    · simp [Aj,Ay]
   have hs:¬100<(tt.keys[q]).length:=by omega
   refine Z5 ?_
   refine Z6 ?_
   refine Ze 63 64 [] [] [bj,b3] [] (.e ⟨_,ZM,q+1,rfl,ZE,ZE,?_,?_⟩)
   · omega
   · rw [m2,Ey hlt hs]
  have hsz:Bg tt.keys=0:=by rw[m2,Ex ZO]
  refine Aa.exit (Ak (Ak (Bh (Ai (Ac ?_)))))
  refine Zm 15 ?_
  refine Z6 ?_
  refine Ze 7 8 [] [] [bj,b3] [] (.e ⟨_,ZM,2,rfl,ZE,ZE,?_,?_,?_⟩)
  · omega
  · intro h9;exact z1 ZO
  · intro h9;exact hsz
 have hs1:=z1 ZO
 have hs2:=z2 ZO
 refine Z4 ?_
 refine Zs (Zp 449 ?_)
 refine Aa.block (Zy ?_)
 refine Zl 7 8 (λn lc hc=> ∃(q:Nat),n=tt.kids.length-q/\Av lc [(59,.d (.int .i64 (q:Nat)))]/\Av hc (⟨(bj,⟨1,1,[[.mp t ks]]⟩)::(b3,⟨8,1,[[.d (.int .i64 tt.kind),.d (.int .i64 tt.mat),.d (.int .i64 tt.part),.d (.slc 1 (tt.names.map Aq)),.d (.slc 1 (tt.keys.map Aq)),.d (.bool tt.over),.d (.int .i64 tt.limit),.d (.slc 8 (Cr tt))]]⟩)::F,t::L⟩)/\(q<=tt.kids.length)/\(CL ks tt.kids=CL ks (tt.kids.drop q))) ?_ ?_
 · refine ⟨_,0,rfl,ZE,ZE,?_,?_⟩
   all_goals(first|omega|rfl)
 rintro _ _ _ ⟨q,rfl,⟨rfl⟩,⟨rfl⟩,m3,m4⟩
 refine Zy ?_
 refine Zp 31 ?_
 refine Zs (Zc (λhc7=>?_) λhc7=>?_)
 ·have hlt:q<tt.kids.length:=by omega
  have hqi:(q:Int)<(tt.kids.length:Int):=by omega
  have zf7:=λd0_=>BJ tt q d0_ hlt
  refine Zk ?_
  refine Zs (Aa.block (Zx ?_))
  simp only[go_sem,zf7,hqi]
  intro b13 fb13
  try simp only[Ab] at fb13
  refine Zx ?_
  simp only[go_sem,fb13]
  refine ZA [bj] [t] (ih _ (List.getElem_mem hlt) _ _) ?_
  rintro _ _ ⟨rfl,rfl⟩
  refine Zy ?_
  refine Zm 61 ?_
  refine Zp 95 ?_
  refine Zc (λhc8=>?_) λhc8=>?_
  ·refine Zp 2 (Aa.ret ?_)
   simp only[Am,Bo]
   apply Ah [b3,b13] [] [bj] [t] ZH
   · rw [B1,if_neg (λh9=>hc0 h9.1),if_neg (λh9=>hc0 h9.1),if_neg (λh9=>h9 hs1),if_neg (λh9=>h9 hs2),m4,Kj hlt hc8]
     exact⟨rfl,ZR⟩
   · simp [Aj,Ay]
  have hz8:CW ks (tt.kids[q])=0:=by omega
  refine Z5 ?_
  refine Z6 ?_
  refine Ze 13 16 [b13] [] [bj,b3] [] (.e ⟨_,ZM,q+1,rfl,ZE,ZE,?_,?_⟩)
  · omega
  · rw [m4,Ki hlt hz8]
 refine Z4 ?_
 refine Zm 0 ?_
 refine Zp 1 (Aa.ret ?_)
 apply Ah [b3] [] [bj] [t] ZH
 · rw [B1,if_neg (λh9=>hc0 h9.1),if_neg (λh9=>hc0 h9.1),if_neg (λh9=>h9 hs1),if_neg (λh9=>h9 hs2),m4,Kh ZO]
   exact⟨rfl,ZR⟩
 · simp [Aj,Ay]
end
section
theorem Ack (T:Ap) (bj t:Nat) (ks:List (List UInt8)) (tt:AM) (ok:tt.Ok) (F:Af) (L:List Nat):AC prog T 199 [.ptr bj 1 0 0,.agg (AJ tt)] ⟨(bj,⟨1,1,[[.mp t ks]]⟩)::F,t::L⟩ (λx h=>x= .ret (.d (.int .i64 (CW ks tt)))/\h=⟨(bj,⟨1,1,[[.mp t ks]]⟩)::F,t::L⟩):=by
 induction tt using AM.ind generalizing F L with
 |h tt ih=>exact Acm T bj t ks tt ok (λy hy F L=>ih y hy (ok.inv.2.2.2 y hy) F L) F L
def VY {α:Type} (l:List α) (a:α) (k:Nat):Prop:=∀(j:Nat) (h:j<l.length),j<k->¬l[j]=a
theorem VY.s {α:Type} {l:List α} {a:α} {k:Nat} (h:k<l.length) (H:VY l a k) (hc:¬l[k]=a):VY l a (k+1):=λj hj hk=>by
 rcases Nat.lt_or_ge j k with h9|h9
 ·exact H j hj h9
 ·obtain rfl:j=k:=by omega
  exact hc
theorem VY.e {α:Type} {l:List α} {a:α} {k:Nat} (H:VY l a k) (h:l.length<=k):¬a∈l:=λh9=>by
 obtain⟨i,h8,h7⟩:=List.mem_iff_getElem.1 h9
 exact H i h8 ZO h7
attribute [local go_sem] Bi Aq in
theorem GM (T:Ap) (ks:List (List UInt8)) (s:List UInt8) (hl:ks.length<=1048576):PC prog T 120 [.d (.slc 1 (ks.map Aq)),.d (.str s)] (.d (.int .i64 (Cp ks s))):=by
 refine⟨call120,Ar.enterS func120 rfl ntmps120 rfl λhb=>?_⟩
 simp only[go_sem,results120]
 refine Zp 3 ?_
 refine Zs (Zp 7 ?_)
 refine Aa.block (Zy ?_)
 refine Zl 3 4 (λn lc hc=> ∃(k:Nat),n=ks.length-k/\Av lc [(5,.d (.int .i64 (k:Nat)))]/\Av hc (⟨[],[]⟩)/\(k<=ks.length)/\(VY ks s k)) ?_ ?_
 · refine ⟨_,0,rfl,ZE,ZE,?_,?_⟩
   all_goals(first|omega|exact λj h h9=>absurd h9 ZO)
 rintro _ _ _ ⟨k,rfl,⟨rfl⟩,⟨rfl⟩,h1,h2⟩
 refine Zy ?_
 refine Zs (Zp 71 ?_)
 refine Zc (λhc0=>?_) λhc0=>?_
 ·have hlt:k<ks.length:=by omega
  have hki:(k:Int)<(ks.length:Int):=by omega
  have zf1:=λd0_=>Al Aq ks k d0_ hlt
  refine Zk ?_
  refine Zs (Aa.block (Zp 519 ?_))
  refine Zc (λhc1=>?_) λhc1=>?_
  ·refine Zp 4 (Aa.ret ?_)
   refine Zy ?_
   have hm:s∈ks:=hc1▸List.getElem_mem hlt
   simp[Cp,hm]
  refine Z5 ?_
  refine Z6 ?_
  refine Zf 3 4 (.e ⟨_,ZM,k+1,rfl,ZE,ZE,?_,?_⟩)
  · omega
  · exact h2.s hlt hc1
 refine Z4 ?_
 refine Zm 0 ?_
 refine Zp 1 (Aa.ret ?_)
 refine Zy ?_
 have hm:=h2.e ZO
 simp[Cp,hm]
attribute [local go_sem] AJ Bi decide_true Aq Ef decide_false in
theorem AaH (T:Ap) (ks:List (List UInt8)) (hkn:ks.length<=1048576) (tt:AM) (ok:tt.Ok) (ih:∀y∈tt.kids,PC prog T 119 [.d (.slc 1 (ks.map Aq)),.agg (AJ y)] (.d (.int .i64 (CW ks y)))):PC prog T 119 [.d (.slc 1 (ks.map Aq)),.agg (AJ tt)] (.d (.int .i64 (CW ks tt))):=by
 refine⟨call119,Ar.enterS func119 rfl ntmps119 rfl λhb=>?_⟩
 obtain⟨s1,s2,s3,s4⟩:=ok.inv
 simp only[go_sem,results119]
 refine Zx (Zy ?_)
 intro b3
 first|intro fb3|have fb3:=True.intro
 try simp only[Ab] at fb3
 refine Zs (Zp 69 ?_)
 refine Zc (λhc0=>?_) λhc0=>?_
 ·refine Zx (Zy ?_)
  refine ZP (GM T ks _ hkn) ?_
  refine Zy ?_
  refine Zs (Zp 15 ?_)
  refine Aa.block (Zy ?_)
  refine Zl 3 12 (λn lc hc=> ∃(k:Nat) (e:Int),n=tt.names.length-k/\Av lc [(5,.d (.int .i64 e)),(6,.d (.int .i64 (k:Nat)))]/\Av hc (⟨[(b3,⟨8,1,[[.d (.int .i64 tt.kind),.d (.int .i64 tt.mat),.d (.int .i64 tt.part),.d (.slc 1 (tt.names.map Aq)),.d (.slc 1 (tt.keys.map Aq)),.d (.bool tt.over),.d (.int .i64 tt.limit),.d (.slc 8 (Cr tt))]]⟩)],[]⟩)/\(k<=tt.names.length)/\((e=0/\Hb∈ks/\Cn tt.names=Cn (tt.names.drop k))\/(e=8/\¬Hb∈ks)\/(e=7/\Hb∈ks/\¬Cn tt.names=0))) ?_ ?_
  · refine ⟨_,0,Cp ks Hb,rfl,ZE,ZE,?_,?_⟩
    all_goals(first|omega|(by_cases h9:Hb∈ks;exact .inl ⟨if_pos h9,h9,rfl⟩;exact .inr (.inl ⟨if_neg h9,h9⟩)))
  rintro _ _ _ ⟨k,e,rfl,⟨rfl⟩,⟨rfl⟩,m1,m2⟩
  refine Zy ?_
  refine Zs ?_
  rcases Nat.lt_or_ge k tt.names.length with hkl|hkl
  ·have hkL:((k:Int)<(tt.names.length:Int))=True:=by simp;omega
   refine Zp 4111 ?_
   refine Zc (λhc1=>?_) λhc1=>?_
   ·have hlt:=hkl
    have hki:(k:Int)<(tt.names.length:Int):=by omega
    have he0:e=0:=by first|exact hc1|exact hc1.2
    have m3:Hb∈ks/\Cn tt.names=Cn (tt.names.drop k):=by rcases m2 with⟨_,y2,y3⟩|⟨y1,_⟩|⟨y1,_⟩;exact⟨y2,y3⟩;omega;omega
    have zf1:=λd0_=>Al Aq tt.names k d0_ hlt
    refine Zk ?_
    refine Zs (Aa.block (Zp 262159 ?_))
    refine Zc (λhc2=>?_) λhc2=>?_
    ·refine Zr (Ai (Ac ?_))
     refine Z6 ?_
     refine Ze 3 12 [] [] [b3] [] (.e ⟨_,ZM,k+1,7,rfl,ZE,ZE,?_,?_⟩)
     · omega
     · exact .inr (.inr ⟨rfl,m3.1,by rw[m3.2,RT hlt hc2];decide⟩)
    have hbad:¬(¬tt.names[k]=Rq/\¬tt.names[k]=toT):=by rintro⟨h8,h9⟩;first|exact hc2 ⟨h8,h9⟩|exact hc2 h8 h9|exact hc2.elim (λh7=>h8 h7) (λh7=>h9 h7)|(simp[h8,h9] at hc2)
    refine Z5 ?_
    refine Z6 ?_
    refine Ze 3 12 [] [] [b3] [] (.e ⟨_,ZM,k+1,e,rfl,ZE,ZE,?_,?_⟩)
    · omega
    · exact .inl ⟨he0,m3.1,by rw[m3.2,RS hlt hbad]⟩
   refine Z4 ?_
   refine Zp 71 ?_
   refine Zc (λhc3=>?_) λhc3=>?_
   ·refine Zp 4 (Aa.ret ?_)
    refine Zy ?_
    have hv:CW ks tt=e:=by
      rcases m2 with⟨y1,_⟩|⟨y1,y2⟩|⟨y1,y2,y3⟩
      · exact absurd y1 hc3
      · rw [B1,if_pos ⟨hc0,y2⟩,y1]
      · rw [B1,if_neg (λh9=>h9.2 y2),if_pos ⟨hc0,y3⟩,y1]
    rw[hv];try simp[Aj,Ay]
   have m4:Hb∈ks/\Cn tt.names=Cn (tt.names.drop k):=by rcases m2 with⟨_,y2,y3⟩|⟨y1,_⟩|⟨y1,_⟩;exact⟨y2,y3⟩;omega;omega
   have he:=m4.1
   have hn:Cn tt.names=0:=by rw[m4.2,ML ZO]
   clear m1 m2
   refine Zk ?_
   refine Zs (Zp 11 ?_)
   refine Aa.block (Zy ?_)
   refine Zl 3 4 (λn lc hc=> ∃(q:Nat),n=tt.names.length-q/\Av lc [(7,.d (.int .i64 (q:Nat)))]/\Av hc (⟨[(b3,⟨8,1,[[.d (.int .i64 tt.kind),.d (.int .i64 tt.mat),.d (.int .i64 tt.part),.d (.slc 1 (tt.names.map Aq)),.d (.slc 1 (tt.keys.map Aq)),.d (.bool tt.over),.d (.int .i64 tt.limit),.d (.slc 8 (Cr tt))]]⟩)],[]⟩)/\(q<=tt.names.length)/\(Bg tt.names=Bg (tt.names.drop q))) ?_ ?_
   · refine ⟨_,0,rfl,ZE,ZE,?_,?_⟩
     all_goals(first|omega|rfl)
   rintro _ _ _ ⟨q,rfl,⟨rfl⟩,⟨rfl⟩,m1,m2⟩
   refine Zy ?_
   refine Zs (Zp 135 ?_)
   refine Zc (λhc4=>?_) λhc4=>?_
   ·have hlt:q<tt.names.length:=by omega
    have hqi:(q:Int)<(tt.names.length:Int):=by omega
    have zf2:=λd0_=>Al Aq tt.names q d0_ hlt
    refine Zk ?_
    refine Zs (Aa.block (Zp 1031 ?_))
    refine Zc (λhc5=>?_) λhc5=>?_
    ·have hsz:¬Bg tt.names=0:=by rw[m2,Ez hlt ZO];decide
     refine Zp 4 (Aa.ret ?_)
     refine Zy ?_
     rw[B1,if_neg (λh9=>h9.2 he),if_neg (λh9=>h9.2 hn),if_pos hsz];try simp[Aj,Ay]
    have hs:¬100<(tt.names[q]).length:=by omega
    refine Z5 ?_
    refine Z6 ?_
    refine Ze 3 4 [] [] [b3] [] (.e ⟨_,ZM,q+1,rfl,ZE,ZE,?_,?_⟩)
    · omega
    · rw [m2,Ey hlt hs]
   have hs1:Bg tt.names=0:=by rw[m2,Ex ZO]
   clear m1 m2
   refine Z4 ?_
   refine Zs (Zp 11 ?_)
   refine Aa.block (Zy ?_)
   refine Zl 3 4 (λn lc hc=> ∃(q:Nat),n=tt.keys.length-q/\Av lc [(8,.d (.int .i64 (q:Nat)))]/\Av hc (⟨[(b3,⟨8,1,[[.d (.int .i64 tt.kind),.d (.int .i64 tt.mat),.d (.int .i64 tt.part),.d (.slc 1 (tt.names.map Aq)),.d (.slc 1 (tt.keys.map Aq)),.d (.bool tt.over),.d (.int .i64 tt.limit),.d (.slc 8 (Cr tt))]]⟩)],[]⟩)/\(q<=tt.keys.length)/\(Bg tt.keys=Bg (tt.keys.drop q))) ?_ ?_
   · refine ⟨_,0,rfl,ZE,ZE,?_,?_⟩
     all_goals(first|omega|rfl)
   rintro _ _ _ ⟨q,rfl,⟨rfl⟩,⟨rfl⟩,m1,m2⟩
   refine Zy ?_
   refine Zs (Zp 135 ?_)
   refine Zc (λhc6=>?_) λhc6=>?_
   ·have hlt:q<tt.keys.length:=by omega
    have hqi:(q:Int)<(tt.keys.length:Int):=by omega
    have zf3:=λd0_=>Al Aq tt.keys q d0_ hlt
    refine Zk ?_
    refine Zs (Aa.block (Zp 1031 ?_))
    refine Zc (λhc7=>?_) λhc7=>?_
    ·have hsz:¬Bg tt.keys=0:=by rw[m2,Ez hlt ZO];decide
     refine Zp 4 (Aa.ret ?_)
     refine Zy ?_
     rw[B1,if_neg (λh9=>h9.2 he),if_neg (λh9=>h9.2 hn),if_neg (λh9=>h9 hs1),if_pos hsz];try simp[Aj,Ay]
    have hs:¬100<(tt.keys[q]).length:=by omega
    refine Z5 ?_
    refine Z6 ?_
    refine Ze 3 4 [] [] [b3] [] (.e ⟨_,ZM,q+1,rfl,ZE,ZE,?_,?_⟩)
    · omega
    · rw [m2,Ey hlt hs]
   have hs2:Bg tt.keys=0:=by rw[m2,Ex ZO]
   clear m1 m2
   refine Z4 ?_
   refine Zs (Zp 11 ?_)
   refine Aa.block (Zy ?_)
   refine Zl 3 4 (λn lc hc=> ∃(q:Nat),n=tt.kids.length-q/\Av lc [(9,.d (.int .i64 (q:Nat)))]/\Av hc (⟨[(b3,⟨8,1,[[.d (.int .i64 tt.kind),.d (.int .i64 tt.mat),.d (.int .i64 tt.part),.d (.slc 1 (tt.names.map Aq)),.d (.slc 1 (tt.keys.map Aq)),.d (.bool tt.over),.d (.int .i64 tt.limit),.d (.slc 8 (Cr tt))]]⟩)],[]⟩)/\(q<=tt.kids.length)/\(CL ks tt.kids=CL ks (tt.kids.drop q))) ?_ ?_
   · refine ⟨_,0,rfl,ZE,ZE,?_,?_⟩
     all_goals(first|omega|rfl)
   rintro _ _ _ ⟨q,rfl,⟨rfl⟩,⟨rfl⟩,m3,m4⟩
   refine Zy ?_
   refine Zs (Zp 135 ?_)
   refine Zc (λhc8=>?_) λhc8=>?_
   ·have hlt:q<tt.kids.length:=by omega
    have hqi:(q:Int)<(tt.kids.length:Int):=by omega
    have zf4:=λd0_=>BJ tt q d0_ hlt
    refine Zk ?_
    refine Zs (Aa.block (Zx ?_))
    simp only[go_sem,zf4,hqi]
    refine ZP (ih _ (List.getElem_mem hlt)) ?_
    refine Zy ?_
    refine Zm 15 ?_
    refine Zp 47 ?_
    refine Zc (λhc9=>?_) λhc9=>?_
    ·refine Zp 4 (Aa.ret ?_)
     refine Zy ?_
     rw[B1 ks tt,if_neg (λh9=>h9.2 he),if_neg (λh9=>h9.2 hn),if_neg (λh9=>h9 hs1),if_neg (λh9=>h9 hs2),m4,Kj hlt hc9];try simp[Aj,Ay]
    have hz8:CW ks (tt.kids[q])=0:=by omega
    refine Z5 ?_
    refine Z6 ?_
    refine Ze 3 4 [] [] [b3] [] (.e ⟨_,ZM,q+1,rfl,ZE,ZE,?_,?_⟩)
    · omega
    · rw [m4,Ki hlt hz8]
   refine Z4 ?_
   refine Zm 0 ?_
   refine Zp 1 (Aa.ret ?_)
   refine Zy ?_
   rw[B1,if_neg (λh9=>h9.2 he),if_neg (λh9=>h9.2 hn),if_neg (λh9=>h9 hs1),if_neg (λh9=>h9 hs2),m4,Kh ZO];try simp[Aj,Ay]
  have hkL:((k:Int)<(tt.names.length:Int))=False:=by simp;omega
  refine Zp 4111 ?_
  refine Zc (λhc1=>?_) λhc1=>?_
  ·exact absurd hc1 (by first|(simp;done)|omega|(simp[*];done))
  refine Z4 ?_
  refine Zp 71 ?_
  refine Zc (λhc3=>?_) λhc3=>?_
  ·refine Zp 4 (Aa.ret ?_)
   refine Zy ?_
   have hv:CW ks tt=e:=by
     rcases m2 with⟨y1,_⟩|⟨y1,y2⟩|⟨y1,y2,y3⟩
     · exact absurd y1 hc3
     · rw [B1,if_pos ⟨hc0,y2⟩,y1]
     · rw [B1,if_neg (λh9=>h9.2 y2),if_pos ⟨hc0,y3⟩,y1]
   rw[hv];try simp[Aj,Ay]
  have m4:Hb∈ks/\Cn tt.names=Cn (tt.names.drop k):=by rcases m2 with⟨_,y2,y3⟩|⟨y1,_⟩|⟨y1,_⟩;exact⟨y2,y3⟩;omega;omega
  have he:=m4.1
  have hn:Cn tt.names=0:=by rw[m4.2,ML ZO]
  clear m1 m2
  refine Zk ?_
  refine Zs (Zp 11 ?_)
  refine Aa.block (Zy ?_)
  refine Zl 3 4 (λn lc hc=> ∃(q:Nat),n=tt.names.length-q/\Av lc [(7,.d (.int .i64 (q:Nat)))]/\Av hc (⟨[(b3,⟨8,1,[[.d (.int .i64 tt.kind),.d (.int .i64 tt.mat),.d (.int .i64 tt.part),.d (.slc 1 (tt.names.map Aq)),.d (.slc 1 (tt.keys.map Aq)),.d (.bool tt.over),.d (.int .i64 tt.limit),.d (.slc 8 (Cr tt))]]⟩)],[]⟩)/\(q<=tt.names.length)/\(Bg tt.names=Bg (tt.names.drop q))) ?_ ?_
  · refine ⟨_,0,rfl,ZE,ZE,?_,?_⟩
    all_goals(first|omega|rfl)
  rintro _ _ _ ⟨q,rfl,⟨rfl⟩,⟨rfl⟩,m1,m2⟩
  refine Zy ?_
  refine Zs (Zp 135 ?_)
  refine Zc (λhc4=>?_) λhc4=>?_
  ·have hlt:q<tt.names.length:=by omega
   have hqi:(q:Int)<(tt.names.length:Int):=by omega
   have zf5:=λd0_=>Al Aq tt.names q d0_ hlt
   refine Zk ?_
   refine Zs (Aa.block (Zp 1031 ?_))
   refine Zc (λhc5=>?_) λhc5=>?_
   ·have hsz:¬Bg tt.names=0:=by rw[m2,Ez hlt ZO];decide
    refine Zp 4 (Aa.ret ?_)
    refine Zy ?_
    rw[B1,if_neg (λh9=>h9.2 he),if_neg (λh9=>h9.2 hn),if_pos hsz];try simp[Aj,Ay]
   have hs:¬100<(tt.names[q]).length:=by omega
   refine Z5 ?_
   refine Z6 ?_
   refine Ze 3 4 [] [] [b3] [] (.e ⟨_,ZM,q+1,rfl,ZE,ZE,?_,?_⟩)
   · omega
   · rw [m2,Ey hlt hs]
  have hs1:Bg tt.names=0:=by rw[m2,Ex ZO]
  clear m1 m2
  refine Z4 ?_
  refine Zs (Zp 11 ?_)
  refine Aa.block (Zy ?_)
  refine Zl 3 4 (λn lc hc=> ∃(q:Nat),n=tt.keys.length-q/\Av lc [(8,.d (.int .i64 (q:Nat)))]/\Av hc (⟨[(b3,⟨8,1,[[.d (.int .i64 tt.kind),.d (.int .i64 tt.mat),.d (.int .i64 tt.part),.d (.slc 1 (tt.names.map Aq)),.d (.slc 1 (tt.keys.map Aq)),.d (.bool tt.over),.d (.int .i64 tt.limit),.d (.slc 8 (Cr tt))]]⟩)],[]⟩)/\(q<=tt.keys.length)/\(Bg tt.keys=Bg (tt.keys.drop q))) ?_ ?_
  · refine ⟨_,0,rfl,ZE,ZE,?_,?_⟩
    all_goals(first|omega|rfl)
  rintro _ _ _ ⟨q,rfl,⟨rfl⟩,⟨rfl⟩,m1,m2⟩
  refine Zy ?_
  refine Zs (Zp 135 ?_)
  refine Zc (λhc6=>?_) λhc6=>?_
  ·have hlt:q<tt.keys.length:=by omega
   have hqi:(q:Int)<(tt.keys.length:Int):=by omega
   have zf6:=λd0_=>Al Aq tt.keys q d0_ hlt
   refine Zk ?_
   refine Zs (Aa.block (Zp 1031 ?_))
   refine Zc (λhc7=>?_) λhc7=>?_
   ·have hsz:¬Bg tt.keys=0:=by rw[m2,Ez hlt ZO];decide
    refine Zp 4 (Aa.ret ?_)
    refine Zy ?_
    rw[B1,if_neg (λh9=>h9.2 he),if_neg (λh9=>h9.2 hn),if_neg (λh9=>h9 hs1),if_pos hsz];try simp[Aj,Ay]
   have hs:¬100<(tt.keys[q]).length:=by omega
   refine Z5 ?_
   refine Z6 ?_
   refine Ze 3 4 [] [] [b3] [] (.e ⟨_,ZM,q+1,rfl,ZE,ZE,?_,?_⟩)
   · omega
   · rw [m2,Ey hlt hs]
  have hs2:Bg tt.keys=0:=by rw[m2,Ex ZO]
  clear m1 m2
  refine Z4 ?_
  refine Zs (Zp 11 ?_)
  refine Aa.block (Zy ?_)
  refine Zl 3 4 (λn lc hc=> ∃(q:Nat),n=tt.kids.length-q/\Av lc [(9,.d (.int .i64 (q:Nat)))]/\Av hc (⟨[(b3,⟨8,1,[[.d (.int .i64 tt.kind),.d (.int .i64 tt.mat),.d (.int .i64 tt.part),.d (.slc 1 (tt.names.map Aq)),.d (.slc 1 (tt.keys.map Aq)),.d (.bool tt.over),.d (.int .i64 tt.limit),.d (.slc 8 (Cr tt))]]⟩)],[]⟩)/\(q<=tt.kids.length)/\(CL ks tt.kids=CL ks (tt.kids.drop q))) ?_ ?_
  · refine ⟨_,0,rfl,ZE,ZE,?_,?_⟩
    all_goals(first|omega|rfl)
  rintro _ _ _ ⟨q,rfl,⟨rfl⟩,⟨rfl⟩,m3,m4⟩
  refine Zy ?_
  refine Zs (Zp 135 ?_)
  refine Zc (λhc8=>?_) λhc8=>?_
  ·have hlt:q<tt.kids.length:=by omega
   have hqi:(q:Int)<(tt.kids.length:Int):=by omega
   have zf7:=λd0_=>BJ tt q d0_ hlt
   refine Zk ?_
   refine Zs (Aa.block (Zx ?_))
   simp only[go_sem,zf7,hqi]
   refine ZP (ih _ (List.getElem_mem hlt)) ?_
   refine Zy ?_
   refine Zm 15 ?_
   refine Zp 47 ?_
   refine Zc (λhc9=>?_) λhc9=>?_
   ·refine Zp 4 (Aa.ret ?_)
    refine Zy ?_
    rw[B1 ks tt,if_neg (λh9=>h9.2 he),if_neg (λh9=>h9.2 hn),if_neg (λh9=>h9 hs1),if_neg (λh9=>h9 hs2),m4,Kj hlt hc9];try simp[Aj,Ay]
   have hz8:CW ks (tt.kids[q])=0:=by omega
   refine Z5 ?_
   refine Z6 ?_
   refine Ze 3 4 [] [] [b3] [] (.e ⟨_,ZM,q+1,rfl,ZE,ZE,?_,?_⟩)
   · omega
   · rw [m4,Ki hlt hz8]
  refine Z4 ?_
  refine Zm 0 ?_
  refine Zp 1 (Aa.ret ?_)
  refine Zy ?_
  rw[B1,if_neg (λh9=>h9.2 he),if_neg (λh9=>h9.2 hn),if_neg (λh9=>h9 hs1),if_neg (λh9=>h9 hs2),m4,Kh ZO];try simp[Aj,Ay]
 refine Zk ?_
 refine Zs (Zp 7 ?_)
 refine Aa.block (Zy ?_)
 refine Zl 3 4 (λn lc hc=> ∃(q:Nat),n=tt.names.length-q/\Av lc [(7,.d (.int .i64 (q:Nat)))]/\Av hc (⟨[(b3,⟨8,1,[[.d (.int .i64 tt.kind),.d (.int .i64 tt.mat),.d (.int .i64 tt.part),.d (.slc 1 (tt.names.map Aq)),.d (.slc 1 (tt.keys.map Aq)),.d (.bool tt.over),.d (.int .i64 tt.limit),.d (.slc 8 (Cr tt))]]⟩)],[]⟩)/\(q<=tt.names.length)/\(Bg tt.names=Bg (tt.names.drop q))) ?_ ?_
 · refine ⟨_,0,rfl,ZE,ZE,?_,?_⟩
   all_goals(first|omega|rfl)
 rintro _ _ _ ⟨q,rfl,⟨rfl⟩,⟨rfl⟩,m1,m2⟩
 refine Zy ?_
 refine Zs (Zp 135 ?_)
 refine Zc (λhc4=>?_) λhc4=>?_
 ·have hlt:q<tt.names.length:=by omega
  have hqi:(q:Int)<(tt.names.length:Int):=by omega
  have zf8:=λd0_=>Al Aq tt.names q d0_ hlt
  refine Zk ?_
  refine Zs (Aa.block (Zp 1031 ?_))
  refine Zc (λhc5=>?_) λhc5=>?_
  ·have hsz:¬Bg tt.names=0:=by rw[m2,Ez hlt ZO];decide
   refine Zp 4 (Aa.ret ?_)
   refine Zy ?_
   rw[B1,if_neg (λh9=>hc0 h9.1),if_neg (λh9=>hc0 h9.1),if_pos hsz];try simp[Aj,Ay]
  have hs:¬100<(tt.names[q]).length:=by omega
  refine Z5 ?_
  refine Z6 ?_
  refine Ze 3 4 [] [] [b3] [] (.e ⟨_,ZM,q+1,rfl,ZE,ZE,?_,?_⟩)
  · omega
  · rw [m2,Ey hlt hs]
 have hs1:Bg tt.names=0:=by rw[m2,Ex ZO]
 clear m1 m2
 refine Z4 ?_
 refine Zs (Zp 11 ?_)
 refine Aa.block (Zy ?_)
 refine Zl 3 4 (λn lc hc=> ∃(q:Nat),n=tt.keys.length-q/\Av lc [(8,.d (.int .i64 (q:Nat)))]/\Av hc (⟨[(b3,⟨8,1,[[.d (.int .i64 tt.kind),.d (.int .i64 tt.mat),.d (.int .i64 tt.part),.d (.slc 1 (tt.names.map Aq)),.d (.slc 1 (tt.keys.map Aq)),.d (.bool tt.over),.d (.int .i64 tt.limit),.d (.slc 8 (Cr tt))]]⟩)],[]⟩)/\(q<=tt.keys.length)/\(Bg tt.keys=Bg (tt.keys.drop q))) ?_ ?_
 · refine ⟨_,0,rfl,ZE,ZE,?_,?_⟩
   all_goals(first|omega|rfl)
 rintro _ _ _ ⟨q,rfl,⟨rfl⟩,⟨rfl⟩,m1,m2⟩
 refine Zy ?_
 refine Zs (Zp 135 ?_)
 refine Zc (λhc6=>?_) λhc6=>?_
 ·have hlt:q<tt.keys.length:=by omega
  have hqi:(q:Int)<(tt.keys.length:Int):=by omega
  have zf9:=λd0_=>Al Aq tt.keys q d0_ hlt
  refine Zk ?_
  refine Zs (Aa.block (Zp 1031 ?_))
  refine Zc (λhc7=>?_) λhc7=>?_
  ·have hsz:¬Bg tt.keys=0:=by rw[m2,Ez hlt ZO];decide
   refine Zp 4 (Aa.ret ?_)
   refine Zy ?_
   rw[B1,if_neg (λh9=>hc0 h9.1),if_neg (λh9=>hc0 h9.1),if_neg (λh9=>h9 hs1),if_pos hsz];try simp[Aj,Ay]
  have hs:¬100<(tt.keys[q]).length:=by omega
  refine Z5 ?_
  refine Z6 ?_
  refine Ze 3 4 [] [] [b3] [] (.e ⟨_,ZM,q+1,rfl,ZE,ZE,?_,?_⟩)
  · omega
  · rw [m2,Ey hlt hs]
 have hs2:Bg tt.keys=0:=by rw[m2,Ex ZO]
 clear m1 m2
 refine Z4 ?_
 refine Zs (Zp 11 ?_)
 refine Aa.block (Zy ?_)
 refine Zl 3 4 (λn lc hc=> ∃(q:Nat),n=tt.kids.length-q/\Av lc [(9,.d (.int .i64 (q:Nat)))]/\Av hc (⟨[(b3,⟨8,1,[[.d (.int .i64 tt.kind),.d (.int .i64 tt.mat),.d (.int .i64 tt.part),.d (.slc 1 (tt.names.map Aq)),.d (.slc 1 (tt.keys.map Aq)),.d (.bool tt.over),.d (.int .i64 tt.limit),.d (.slc 8 (Cr tt))]]⟩)],[]⟩)/\(q<=tt.kids.length)/\(CL ks tt.kids=CL ks (tt.kids.drop q))) ?_ ?_
 · refine ⟨_,0,rfl,ZE,ZE,?_,?_⟩
   all_goals(first|omega|rfl)
 rintro _ _ _ ⟨q,rfl,⟨rfl⟩,⟨rfl⟩,m3,m4⟩
 refine Zy ?_
 refine Zs (Zp 135 ?_)
 refine Zc (λhc8=>?_) λhc8=>?_
 ·have hlt:q<tt.kids.length:=by omega
  have hqi:(q:Int)<(tt.kids.length:Int):=by omega
  have zf10:=λd0_=>BJ tt q d0_ hlt
  refine Zk ?_
  refine Zs (Aa.block (Zx ?_))
  simp only[go_sem,zf10,hqi]
  refine ZP (ih _ (List.getElem_mem hlt)) ?_
  refine Zy ?_
  refine Zm 15 ?_
  refine Zp 47 ?_
  refine Zc (λhc9=>?_) λhc9=>?_
  ·refine Zp 4 (Aa.ret ?_)
   refine Zy ?_
   rw[B1 ks tt,if_neg (λh9=>hc0 h9.1),if_neg (λh9=>hc0 h9.1),if_neg (λh9=>h9 hs1),if_neg (λh9=>h9 hs2),m4,Kj hlt hc9];try simp[Aj,Ay]
  have hz8:CW ks (tt.kids[q])=0:=by omega
  refine Z5 ?_
  refine Z6 ?_
  refine Ze 3 4 [] [] [b3] [] (.e ⟨_,ZM,q+1,rfl,ZE,ZE,?_,?_⟩)
  · omega
  · rw [m4,Ki hlt hz8]
 refine Z4 ?_
 refine Zm 0 ?_
 refine Zp 1 (Aa.ret ?_)
 refine Zy ?_
 rw[B1,if_neg (λh9=>hc0 h9.1),if_neg (λh9=>hc0 h9.1),if_neg (λh9=>h9 hs1),if_neg (λh9=>h9 hs2),m4,Kh ZO];try simp[Aj,Ay]
theorem AaG (T:Ap) (ks:List (List UInt8)) (hkn:ks.length<=1048576) (tt:AM) (ok:tt.Ok):PC prog T 119 [.d (.slc 1 (ks.map Aq)),.agg (AJ tt)] (.d (.int .i64 (CW ks tt))):=by
 induction tt using AM.ind with
 |h tt ih=>exact AaH T ks hkn tt ok λy hy=>ih y hy (ok.inv.2.2.2 y hy)
end
section
def Ih {α:Type} [DecidableEq α]:List α->α->Int
 |[],_=> -1
 |x::r,t=>if t=x then 0 else if Ih r t<0 then -1 else Ih r t+1
section
variable {α:Type} [DecidableEq α]
theorem PE:∀(l:List α) (t:α),-1<=Ih l t
 |[],_=>by simp[Ih]
 |x::r,t=>by have:=PE r t;unfold Ih;split;omega;split<;>omega
theorem Ii:∀(l:List α) (t:α),0<=Ih l t↔t∈l
 |[],t=>by simp[Ih]
 | x::r,t=>by
  have h1:=Ii r t
  have h2:=PE r t
  unfold Ih
  rw[List.mem_cons]
  split
  ·rename_i h;simp[h]
  ·rename_i h
   split
   ·rename_i h3;simp[h,<-h1];omega
   ·rename_i h3;simp[h,<-h1];omega
def ixQ (l:List α) (t:α) (k:Nat):Prop:=Ih l t=if Ih (l.drop k) t<0 then -1 else Ih (l.drop k) t+k
theorem Ahk (l:List α) (t:α):ixQ l t 0:=by
 have:=PE l t
 unfold ixQ;rw[List.drop_zero];split<;>omega
theorem Ahm {l:List α} {t:α} {k:Nat} (h:k<l.length) (hR:ixQ l t k) (he:t=l[k]'h):Ih l t=k:=by
 unfold ixQ at hR
 rw[List.drop_eq_getElem_cons h,Ih,if_pos he] at hR
 rw[hR];simp
theorem Ahl {l:List α} {t:α} {k:Nat} (h:k<l.length) (hR:ixQ l t k) (he:¬t=l[k]'h):ixQ l t (k+1):=by
 unfold ixQ at hR⊢
 rw[List.drop_eq_getElem_cons h,Ih,if_neg he] at hR
 have:=PE (l.drop (k+1)) t
 rw[hR]
 split<;>split<;>omega
theorem Aci {l:List α} {t:α} {k:Nat} (h:l.length<=k) (hR:ixQ l t k):Ih l t= -1:=by
 unfold ixQ at hR
 rw[List.drop_eq_nil_of_le h] at hR
 simpa[Ih] using hR
end
attribute [local go_sem] Bi Aq in
theorem LU (T:Ap) (l:List Tx) (t:Tx) (hl:l.length<=1048576):PC prog T 114 [.d (.slc 1 (l.map Aq)),.d (.str t)] (.d (.int .i64 (Ih l t))):=by
 refine⟨call114,Ar.enterS func114 rfl ntmps114 rfl λhb=>?_⟩
 simp only[go_sem,results114]
 refine Zp 3 ?_
 refine Zs (Zp 27 ?_)
 refine Aa.block (Zy ?_)
 refine Zl 7 8 (λn lc hc=> ∃(k:Nat),n=l.length-k/\Av lc [(8,.d (.int .i64 (k:Nat)))]/\Av hc (⟨[],[]⟩)/\(k<=l.length)/\(ixQ l t k)) ?_ ?_
 · refine ⟨_,0,rfl,ZE,ZE,?_,?_⟩
   all_goals(first|omega|exact Ahk _ _)
 rintro _ _ _ ⟨k,rfl,⟨rfl⟩,⟨rfl⟩,h1,h2⟩
 refine Zy ?_
 refine Zp 31 ?_
 refine Zs (Zc (λhc0=>?_) λhc0=>?_)
 ·have hlt:k<l.length:=by omega
  have hki:(k:Int)<(l.length:Int):=by omega
  have zf1:=λd0_=>Al Aq l k d0_ hlt
  refine Zk ?_
  refine Zs (Aa.block (Zp 31 ?_))
  refine Zp 1055 ?_
  refine Zc (λhc1=>?_) λhc1=>?_
  ·refine Zp 4 (Aa.ret ?_)
   refine Zy ?_
   rw[Ahm hlt h2 hc1];try simp[Aj,Ay]
  refine Z5 ?_
  refine Z6 ?_
  refine Zf 11 16 (.e ⟨_,ZM,k+1,rfl,ZE,ZE,?_,?_⟩)
  · omega
  · exact Ahl hlt h2 hc1
 refine Z4 ?_
 refine Zm 0 ?_
 refine Zp 1 (Aa.ret ?_)
 refine Zy ?_
 rw[Aci ZO h2];try simp[Aj,Ay]
theorem TX (T:Ap) (l:List Tx) (t:Tx) (hl:l.length<=1048576):PC prog T 57 [.d (.slc 1 (l.map Aq)),.d (.str t)] (.d (.bool (decide (t∈l)))):=by
 refine⟨call57,Ar.enterS func57 rfl ntmps57 rfl λhb=>?_⟩
 simp only[go_sem,results57]
 refine Zp 3 ?_
 refine Z1 4 (LU T l t hl) ?_
 refine Aa.ret ?_
 simp only[go_sem]
 simp[Ii]
end
section
def adT (a:Ad):Tx:=a.1++64::a.2
theorem LF:∀(l:Tx) (d:Bool),CI d l=true->∀c∈l,CV c=true
 |[],d,h,c,hc=>absurd hc (List.not_mem_nil)
 | x::r,d,h,c,hc=>by
  unfold CI at h
  split at h
  ·rename_i hx
   rw[Bool.and_eq_true] at h
   rcases List.mem_cons.1 hc with rfl|h9
   ·subst hx;decide
   ·exact LF r _ h.2 c h9
  ·rw[Bool.and_eq_true] at h
   rcases List.mem_cons.1 hc with rfl|h9
   ·simp[CV,h.1]
   ·exact LF r _ h.2 c h9
theorem G5 {l d:Tx} (h:Cc l d=0):(∀c∈l,CV c=true)/\(∀c∈d,CV c=true)/\l.length+d.length<=99:=by
 unfold Cc at h
 split at h
 ·cases h
 ·rename_i h1
  split at h
  ·cases h
  ·refine⟨LF l true ?_,LF d true ?_,by omega⟩
   ·cases h9:CI true l with
    |true=>rfl
    |false=>exact absurd (.inl h9) h1
   ·cases h9:CI true d with
    |true=>rfl
    |false=>exact absurd (.inr h9) h1
theorem QL {l s:Tx} {a:Ad} {r:Tx} (h:C4 l s=some (a,r)):Cc a.1 a.2=0:=by
 obtain⟨p,_,h2,rfl,_⟩:=Hk h
 exact h2
theorem Wg (n:Nat):∀(first:Bool) (s:Tx) (a:Ad) (r:Tx),s.length<=n->B5 first s=some (a,r)->Cc a.1 a.2=0:=by
 induction n with
 |zero=>
  intro first s a r hs h
  have:s=[]:=List.eq_nil_of_length_eq_zero ZO
  subst this
  unfold B5 at h
  simp[A5,BS,B4] at h
 | succ n ih=>
  intro first s a r hs h
  have hk:=FD s
  unfold B5 at h
  split at h
  ·rename_i h0
   split at h
   ·cases h
   ·rename_i q hq
    have h1:=H4 _ _ hq
    have h2:(A5 s).tail.length+1=(A5 s).length:=by
     cases e:A5 s with
     |nil=>rw[e] at h0;simp at h0
     |cons c t=>simp
    exact ih false q a r ZO h
  ·split at h
   ·obtain⟨q,h1,rfl⟩:=YQ h
    exact QL h1
   ·split at h
    ·exact QL h
    ·split at h
     ·cases h
     ·rename_i h0
      have h1:=IX _ h0
      exact ih false _ a r ZO h
theorem WL (n:Nat):∀(s:Tx) (l:List Ad),s.length<=n->B6 s=some l->∀a∈l,Cc a.1 a.2=0:=by
 induction n with
 |zero=>
  intro s l hs h
  have:s=[]:=List.eq_nil_of_length_eq_zero ZO
  subst this
  rw[Fo (by unfold B5;simp[A5,BS,B4])] at h
  cases h
 | succ n ih=>
  intro s l hs h
  cases ha:B5 true s with
  |none=>rw[Fo ha] at h;cases h
  | some p=>
   obtain⟨a,r⟩:=p
   have h0:=Wg _ true s a r (Nat.le_refl _) ha
   have h1:=Pe _ true s a r (Nat.le_refl _) ha
   have h3:=FD r
   rw[IT ha] at h
   split at h
   ·injection h with h;subst h
    intro x hx
    rw[List.mem_singleton] at hx;subst hx;exact h0
   ·rename_i c q hq
    rw[hq] at h3
    simp at h3
    split at h
    ·cases h5:B6 q with
     |none=>rw[h5] at h;cases h
     |some l2=>
      rw[h5] at h
      injection h with h;subst h
      intro x hx
      rcases List.mem_cons.1 hx with rfl|hx
      ·exact h0
      ·exact ih q l2 ZO h5 x hx
    ·cases h
end
end Go.Proofs.YtidldcfpmehpiaaGreatDoor
