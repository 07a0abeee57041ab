/- Texts that the law DeliverDelivers rests on, packed. -/
import Derived.Test.YtidldcfpmehpiaaGreatDoorDeliverDeliversK0
import Derived.Test.YtidldcfpmehpiaaGreatDoorGB
import Derived.Test.YtidldcfpmehpiaaGreatDoorGT
set_option linter.unusedSimpArgs false
set_option linter.unusedVariables false
set_option maxRecDepth 20000
set_option maxHeartbeats 4000000
namespace Go.Proofs.YtidldcfpmehpiaaGreatDoor
open Tryz
section
open Go.RowKit
def Ks:List D->List D->Prop
 |[],[]=>True
 |x::l,y::l'=>Ay x y/\Ks l l'
 |_,_=>False
def Kr:List (List D)->List (List D)->Prop
 |[],[]=>True
 |x::l,y::l'=>Ks x y/\Kr l l'
 |_,_=>False
theorem Ks.rfl':∀l:List D,Ks l l
 |[]=>trivial
 |x::l=>⟨Ay.rfl' x,Ks.rfl' l⟩
theorem Kr.rfl':∀l:List (List D),Kr l l
 |[]=>trivial
 |x::l=>⟨Ks.rfl' x,Kr.rfl' l⟩
theorem Ks.len:∀{a b:List D},Ks a b->b.length=a.length
 |[],[],_=>rfl
 |x::a,y::b,h=>by rw[List.length_cons,List.length_cons,Ks.len h.2]
theorem Kr.len:∀{a b:List (List D)},Kr a b->b.length=a.length
 |[],[],_=>rfl
 |x::a,y::b,h=>by rw[List.length_cons,List.length_cons,Kr.len h.2]
theorem Ks.at_:∀{a b:List D},Ks a b->∀{j:Nat} {y:D},b[j]?=some y->∃x,a[j]?=some x/\Ay x y
 |[],[],_,j,y,e=>by simp at e
 |x::a,z::b,h,0,y,e=>by simp at e;subst e;exact⟨x,rfl,h.1⟩
 |x::a,z::b,h,j+1,y,e=>by
  obtain⟨u,h1,h2⟩:=Ks.at_ h.2 (j:=j) (y:=y) (by simpa using e)
  exact⟨u,by simpa using h1,h2⟩
theorem Kr.at_:∀{a b:List (List D)},Kr a b->∀{j:Nat} {y:List D},b[j]?=some y->∃x,a[j]?=some x/\Ks x y
 |[],[],_,j,y,e=>by simp at e
 |x::a,z::b,h,0,y,e=>by simp at e;subst e;exact⟨x,rfl,h.1⟩
 |x::a,z::b,h,j+1,y,e=>by
  obtain⟨u,h1,h2⟩:=Kr.at_ h.2 (j:=j) (y:=y) (by simpa using e)
  exact⟨u,by simpa using h1,h2⟩
theorem VD.deep {F:Js} {k:Nat} {rows rows':List (List D)} {v:Value} (h:VD F (.slc k rows) v) (hr:Kr rows rows'):VD F (.slc k rows') v:=by
 cases h with
 |slc0 _ A c h hm=>
  cases rows' with
  |nil=>exact .slc0 k A c h hm
  |cons a b=>exact hr.elim
 | slc _ _ b off c val h0 hc hm hk hf hv=>
  have hl:=hr.len
  rw[<-hl]
  refine .slc k rows' b off c val ZO ZO hm (λr h9=>?_) (λi r j x h1 h2=>?_) λi r j x h1 h2=>?_
  ·obtain⟨i,hi⟩:=List.getElem?_of_mem h9
   obtain⟨x,h1,h2⟩:=hr.at_ hi
   rw[h2.len]
   exact hk x (List.mem_of_getElem? h1)
  ·obtain⟨y,h3,h4⟩:=hr.at_ h1
   obtain⟨z,h5,h6⟩:=h4.at_ h2
   exact hf i y j z h3 h5
  ·obtain⟨y,h3,h4⟩:=hr.at_ h1
   obtain⟨z,h5,h6⟩:=h4.at_ h2
   exact h6.ok (hv i y j z h3 h5)
theorem X3 {P:Program} {T:Ap} {Q:AQ} {code:Code} {h:AH} {df:AV} {l:SL} {N t k:Nat} {rows rows':List (List D)} (i:Nat) (hi:Bd df i l= .own t k rows) (hr:Kr rows rows') (hN:Nat.blt i N=true) (H:Aa P T code Q (Ct df (EI i (.d (.slc k rows')) l) N 0) h):Aa P T code Q (Ct df l N 0) h:=by
 intro G w act S R
 refine H G w act S ?_
 have hlt:i<N:=by simpa[Nat.blt_eq] using hN
 rw[<-GH]
 refine⟨by simpa using R.1,λj x e=>?_⟩
 by_cases hj:i=j
 ·subst hj
  rw[List.getElem?_set_self (by rw[Dn];exact hlt)] at e
  injection e with e
  subst e
  obtain⟨v,h1,h2⟩:=R.2 i (.own t k rows) (by rw[CS _ _ _ _ _ hlt,Nat.zero_add,hi])
  refine⟨v,h1,?_⟩
  cases h2 with
  |own hd ht=>exact .d (hd.deep hr)
 ·rw[List.getElem?_set_ne hj] at e
  exact R.2 j x e
end
section
theorem Qe (T:Ap) (l:List Gy) (hl:l.length*16<=140737488355328):PC prog T 33 [.d (TO l)] (.d (TO l)):=by
 refine⟨call33,Ar.enter func33 rfl ntmps33 λhb=>?_⟩
 simp only[go_sem,results33]
 refine A6 λK1 hK1=>?_
 refine Zy ?_
 refine hK1 _ _ ?_
 refine A6 λK2 hK2=>?_
 refine Zy ?_
 refine Ko rfl rfl rfl rfl (show BL prog 31=some (9,1,16) by simp only[go_sem]) rfl rfl ZJ (by first|omega|(simp only[go_sem];omega)|(simp only[go_sem,List.length_take,List.length_map];omega)) (by first|omega|(simp only[go_sem];omega)|(simp only[go_sem,List.length_take,List.length_map];omega)) λt1 ft1=>?_
 try simp only[Ae] at ft1
 refine Zy ?_
 refine hK2 _ _ ?_
 refine Aa.ret ?_
 simp only[go_sem]
 skip
theorem TQ (T:Ap) (t:AM) (ok:t.Ok) (ih:∀x∈t.kids,PC prog T 13 [.agg (AJ x)] (.agg (AJ x))):PC prog T 13 [.agg (AJ t)] (.agg (AJ t)):=by
 refine⟨call13,Ar.enter func13 rfl ntmps13 λhb=>?_⟩
 obtain⟨s1,s2,s3,s4⟩:=ok.inv
 simp only[go_sem,results13]
 refine A6 λK1 hK1=>?_
 refine Zy ?_
 intro b1 fb1
 try simp only[Ab] at fb1
 intro b2 fb2
 try simp only[Ab] at fb2
 refine hK1 _ _ ?_
 refine A6 λK4 hK4=>?_
 simp only[go_sem,fb2]
 refine Aw rfl rfl rfl rfl (Qe T _ ZO) rfl rfl ?_
 simp only[go_sem,fb2]
 refine hK4 _ _ ?_
 refine A6 λK5 hK5=>?_
 simp only[go_sem,fb2]
 refine Aw rfl rfl rfl rfl (Qe T _ ZO) rfl rfl ?_
 simp only[go_sem,fb2]
 refine hK5 _ _ ?_
 refine A6 λK6 hK6=>?_
 refine Zy ?_
 refine hK6 _ _ ?_
 refine Aa.seq λK7 hK7=>?_
 refine A6 λK8 hK8=>?_
 refine Zy ?_
 refine hK8 _ _ ?_
 refine Aa.block (IG 3 8 rfl ZD λu=>?_)
 refine Zy ?_
 refine Aa.loop [1,2,3,4] (λn s h=> ∃(k u:Nat),k<=t.kids.length/\n=t.kids.length-k/\s=[.any,.ptr b1 8 0 0,.ptr b2 8 0 0,.own u 8 ((Cr t).take k),.d (.int .i64 k),.any,.any,.any,.any,.any,.any,.any,.any,.any,.any,.any,.any,.any,.any,.any,.any,.any,.any,.any,.any,.any,.any,.any,.any,.any,.any,.any,.any,.any]/\h=⟨[(b2,⟨8,1,[[.d (.int .i64 0),.d (.int .i64 0),.d (.int .i64 0),.nils,.nils,.d (.bool false),.d (.int .i64 0),.nils]]⟩),(b1,⟨8,1,[AJ t]⟩)],[u]⟩) ⟨_,0,_,Nat.zero_le _,rfl,rfl,by simp only[go_sem]⟩ ?_
 rintro n s h ⟨k,u,hk,rfl,rfl,rfl⟩
 refine Zy ?_
 refine Aa.seq λK9 hK9=>?_
 refine A6 λK10 hK10=>?_
 simp only[go_sem,fb2]
 refine hK10 _ _ ?_
 refine Aa.cond _ rfl (λhc0=>?_) (λhc0=>?_)
 ·skip
  have hlt:k<t.kids.length:=by simpa using hc0
  refine Aa.skip ?_
  refine Ac ?_
  refine hK9 _ _ ?_
  refine Aa.seq λK11 hK11=>?_
  refine Aa.block (A6 λK12 hK12=>?_)
  simp only[go_sem,fb2,BJ t k _ hlt]
  (repeat(with_reducible refine And.intro ?_ ?_;omega))
  refine Aw rfl rfl rfl rfl (ih _ (List.getElem_mem hlt)) rfl rfl ?_
  refine Zy ?_
  intro b13 fb13
  try simp only[Ab] at fb13
  refine hK12 _ _ ?_
  refine ED λK14 hK14=>?_
  simp only[go_sem,fb13]
  refine BF rfl rfl rfl rfl (show BL prog 32=some (34,8,112) by simp only[go_sem]) rfl rfl (by simp only[go_sem]) ZJ (by first|omega|(simp only[go_sem];omega)|(simp only[go_sem,List.length_take];omega)) (by first|omega|(simp only[go_sem];omega)|(simp only[go_sem,List.length_take];omega)) λt1 ft1=>?_
  try simp only[Ae] at ft1
  refine Zy ?_
  refine hK14 _ _ ?_
  refine Ai (Ac ?_)
  refine hK11 _ _ ?_
  refine ED λK15 hK15=>?_
  refine Zy ?_
  (repeat(with_reducible refine And.intro ?_ ?_;omega))
  refine hK15 _ _ ?_
  refine Ac ?_
  refine⟨_,1,0,?_,k+1,t1,by omega,rfl,?_,rfl⟩
  ·omega
  ·rw[<-Tz t k hlt];rfl
 ·skip
  refine Aa.exit ?_
  refine Ak (Ak (Bh (Ac ?_)))
  refine hK7 _ _ ?_
  refine A6 λK16 hK16=>?_
  simp only[go_sem,fb2]
  refine hK16 _ _ ?_
  refine A6 λK17 hK17=>?_
  simp only[go_sem,fb2]
  refine hK17 _ _ ?_
  refine Aa.ret ?_
  simp only[go_sem,fb2]
  exact WJ t k (by simp at hc0;omega)
theorem AcK (T:Ap) (t:AM) (ok:t.Ok):PC prog T 13 [.agg (AJ t)] (.agg (AJ t)):=by
 induction t using AM.ind with
 |h t ih=>exact TQ T t ok λx hx=>ih x hx (ok.inv.2.2.2 x hx)
theorem Sd (T:Ap) (a b:List (List UInt8)):PC prog T 38 [.d (TO a),.d (TO b)] (.d (.bool (decide (a=b)))):=by
 refine⟨call38,Ar.enter func38 rfl ntmps38 λhb=>?_⟩
 have ha:a.length<=9223372036854775807:=by
  have:=(DB.slc_inv (hb _ (List.mem_cons_self ..))).1
  rw[List.length_map] at this
  exact this
 simp only[go_sem,results38]
 refine A6 λK1 hK1=>?_
 refine Zy ?_
 refine hK1 _ _ ?_
 refine Aa.seq λK2 hK2=>?_
 refine A6 λK3 hK3=>?_
 refine Zy ?_
 refine hK3 _ _ ?_
 refine Aa.cond _ rfl (λhc0=>?_) (λhc0=>?_)
 ·skip
  refine A6 λK4 hK4=>?_
  refine Zy ?_
  refine hK4 _ _ ?_
  refine Aa.ret ?_
  simp only[go_sem]
  rw[eq_comm,decide_eq_false_iff_not]
  rintro rfl
  simp at hc0
 ·skip
  have hlen:a.length=b.length:=by simp at hc0;omega
  refine Aa.skip ?_
  refine Ac ?_
  refine hK2 _ _ ?_
  refine Aa.seq λK5 hK5=>?_
  refine A6 λK6 hK6=>?_
  refine Zy ?_
  refine hK6 _ _ ?_
  refine Aa.block (Aa.loop [0,1,4,5] (λn s h=> ∃k:Nat,k<=a.length/\a.take k=b.take k/\n=a.length-k/\s=[.d (TO a),.d (TO b),.any,.any,.d (.bool false),.d (.int .i64 k),.any,.any,.any,.any,.any,.any,.any,.any,.any,.any,.any,.any,.any,.any,.any,.any,.any,.any,.any,.any]/\h=⟨[],[]⟩) ⟨_,0,Nat.zero_le _,rfl,rfl,rfl,rfl⟩ ?_)
  rintro n s h ⟨k,hk,htk,rfl,rfl,rfl⟩
  refine Aa.seq λK7 hK7=>?_
  refine A6 λK8 hK8=>?_
  refine Zy ?_
  refine hK8 _ _ ?_
  refine Aa.cond _ rfl (λhc1=>?_) (λhc1=>?_)
  ·skip
   have hlt:k<a.length:=by simpa using hc1
   have hlt2:k<b.length:=by omega
   refine Aa.skip ?_
   refine Ac ?_
   refine hK7 _ _ ?_
   refine Aa.seq λK9 hK9=>?_
   refine Aa.block (OM true [0,1,2,3,4,5,6,7,8] rfl (by kernel_rfl) λK10 hK10=>?_)
   simp only[go_sem,Al Aq _ _ _ hlt,Al Aq _ _ _ hlt2]
   (repeat(with_reducible refine And.intro ?_ ?_;omega))
   refine hK10 _ _ ?_
   refine Aa.cond _ rfl (λhc2=>?_) (λhc2=>?_)
   ·skip
    refine A6 λK11 hK11=>?_
    refine Zy ?_
    refine hK11 _ _ ?_
    refine Aa.ret ?_
    simp only[go_sem]
    rw[eq_comm,decide_eq_false_iff_not]
    rintro rfl
    simp at hc2
   ·skip
    refine Aa.skip ?_
    refine Ai (Ac ?_)
    refine hK9 _ _ ?_
    refine ED λK12 hK12=>?_
    refine Zy ?_
    (repeat(with_reducible refine And.intro ?_ ?_;omega))
    refine hK12 _ _ ?_
    refine Ac ?_
    have heq:a[k]=b[k]:=by simpa using hc2
    refine⟨_,0,0,?_,k+1,by omega,?_,rfl,rfl,rfl⟩
    ·omega
    ·rw[List.take_succ_eq_append_getElem hlt,List.take_succ_eq_append_getElem hlt2,htk,heq]
  ·skip
   refine Aa.exit ?_
   refine Ak (Ak (Bh (Ac ?_)))
   refine hK5 _ _ ?_
   refine A6 λK13 hK13=>?_
   refine Zy ?_
   refine hK13 _ _ ?_
   refine Aa.ret ?_
   simp only[go_sem]
   rw[eq_comm,decide_eq_true_iff]
   have hk2:k=a.length:=by simp at hc1;omega
   subst hk2
   rw[List.take_length,hlen,List.take_length] at htk
   exact htk
theorem H8 (T:Ap) (l:List Gy):PC prog T 38 [.d (.slc 1 (l.map Aq)),.d (.slc 1 (l.map Aq))] (.d (.bool true)):=by
 have:=Sd T l l
 rwa [decide_eq_true rfl] at this
theorem NC (T:Ap) (t:AM) (ok:t.Ok) (ih:∀x∈t.kids,PC prog T 16 [.agg (AJ x),.agg (AJ x)] (.d (.bool true))):PC prog T 16 [.agg (AJ t),.agg (AJ t)] (.d (.bool true)):=by
 refine⟨call16,Ar.enter func16 rfl ntmps16 λhb=>?_⟩
 obtain⟨s1,s2,s3,s4⟩:=ok.inv
 simp only[go_sem,results16]
 refine A6 λK1 hK1=>?_
 refine Zy ?_
 intro b1 fb1
 try simp only[Ab] at fb1
 intro b2 fb2
 try simp only[Ab] at fb2
 refine hK1 _ _ ?_
 refine Aa.seq λK4 hK4=>?_
 refine A6 λK5 hK5=>?_
 simp only[go_sem,fb2]
 (repeat(with_reducible refine And.intro ?_ ?_;decide))
 refine ZQ (λhg=>H8 T _) ?_
 simp only[go_sem,fb2]
 (repeat(with_reducible refine And.intro ?_ ?_;decide))
 refine ZQ (λhg=>H8 T _) ?_
 simp only[go_sem,fb2]
 (repeat(with_reducible refine And.intro ?_ ?_;decide))
 refine hK5 _ _ ?_
 refine Aa.cond _ rfl (λhc0=>?_) (λhc0=>?_)
 ·skip
  simp at hc0
 ·skip
  refine Aa.skip ?_
  refine Ac ?_
  refine hK4 _ _ ?_
  refine Aa.seq λK6 hK6=>?_
  refine A6 λK7 hK7=>?_
  refine Zy ?_
  refine hK7 _ _ ?_
  refine Aa.block (Aa.loop [2,3,5] (λn s h=> ∃(k:Nat),k<=t.kids.length/\n=t.kids.length-k/\s=[.any,.any,.ptr b1 8 0 0,.ptr b2 8 0 0,.any,.d (.int .i64 k),.any,.any,.any,.any,.any,.any,.any,.any,.any,.any,.any,.any,.any,.any,.any,.any,.any,.any,.any,.any,.any,.any,.any,.any,.any,.any,.any,.any,.any,.any,.any,.any,.any,.any,.any,.any,.any,.any,.any,.any,.any,.any,.any,.any,.any,.any,.any,.any,.any,.any,.any,.any,.any,.any,.any,.any,.any,.any,.any,.any,.any,.any,.any,.any,.any,.any,.any,.any,.any,.any,.any,.any,.any,.any,.any,.any,.any]/\h=⟨[(b2,⟨8,1,[AJ t]⟩),(b1,⟨8,1,[AJ t]⟩)],[]⟩) ⟨_,0,Nat.zero_le _,rfl,rfl,rfl⟩ ?_)
  rintro n s h ⟨k,hk,rfl,rfl,rfl⟩
  refine Zy ?_
  refine Aa.seq λK8 hK8=>?_
  refine A6 λK9 hK9=>?_
  simp only[go_sem,fb2]
  refine hK9 _ _ ?_
  refine Aa.cond _ rfl (λhc1=>?_) (λhc1=>?_)
  ·skip
   have hlt:k<t.kids.length:=by simpa using hc1
   refine Aa.skip ?_
   refine Ac ?_
   refine hK8 _ _ ?_
   refine Aa.seq λK10 hK10=>?_
   refine Aa.block (OM true [0,1,2,3,4,5,6,7,8,9,10,11] rfl (by kernel_rfl) λK11 hK11=>?_)
   simp only[go_sem,fb2,BJ t k _ hlt]
   (repeat(with_reducible refine And.intro ?_ ?_;omega))
   refine ZP (ih _ (List.getElem_mem hlt)) ?_
   refine Zy ?_
   refine hK11 _ _ ?_
   refine Aa.cond _ rfl (λhc2=>?_) (λhc2=>?_)
   ·skip
    simp at hc2
   ·skip
    refine Aa.skip ?_
    refine Ai (Ac ?_)
    refine hK10 _ _ ?_
    refine ED λK12 hK12=>?_
    refine Zy ?_
    (repeat(with_reducible refine And.intro ?_ ?_;omega))
    refine hK12 _ _ ?_
    refine Ac ?_
    refine⟨_,0,0,?_,k+1,by omega,rfl,rfl,rfl⟩
    omega
  ·skip
   refine Aa.exit ?_
   refine Ak (Ak (Bh (Ac ?_)))
   refine hK6 _ _ ?_
   refine A6 λK13 hK13=>?_
   refine Zy ?_
   refine hK13 _ _ ?_
   refine Aa.ret ?_
   simp only[go_sem]
   all_goals done
theorem TI (T:Ap) (t:AM) (ok:t.Ok):PC prog T 16 [.agg (AJ t),.agg (AJ t)] (.d (.bool true)):=by
 induction t using AM.ind with
 |h t ih=>exact NC T t ok λx hx=>ih x hx (ok.inv.2.2.2 x hx)
theorem FO (T:Ap) (l:List Ax) (hl:l.length*208<=140737488355328) (ih:∀x∈l,PC prog T 27 [.agg (BW x)] (.agg (BW x))):PC prog T 8 [.d (.slc 12 (l.map AW))] (.d (.slc 12 (l.map AW))):=by
 refine⟨call8,Ar.enter func8 rfl ntmps8 λhb=>?_⟩
 simp only[go_sem,results8]
 refine A6 λK1 hK1=>?_
 refine Zy ?_
 refine hK1 _ _ ?_
 refine A6 λK2 hK2=>?_
 refine Zy ?_
 refine hK2 _ _ ?_
 refine Aa.seq λK3 hK3=>?_
 refine A6 λK4 hK4=>?_
 refine Zy ?_
 refine hK4 _ _ ?_
 refine Aa.block (IG 3 12 rfl ZD λu=>?_)
 refine Zy ?_
 refine Aa.loop [0,3,4] (λn s h=> ∃(k u:Nat),k<=l.length/\n=l.length-k/\s=[.d (.slc 12 (l.map AW)),.any,.any,.own u 12 ((l.map AW).take k),.d (.int .i64 k),.any,.any,.any,.any,.any,.any,.any,.any,.any,.any,.any,.any,.any,.any,.any,.any,.any]/\h=⟨[],[u]⟩) ⟨_,0,_,Nat.zero_le _,rfl,rfl,by simp only[go_sem]⟩ ?_
 rintro n s h ⟨k,u,hk,rfl,rfl,rfl⟩
 refine Aa.seq λK5 hK5=>?_
 refine A6 λK6 hK6=>?_
 refine Zy ?_
 refine hK6 _ _ ?_
 refine Aa.cond _ rfl (λhc0=>?_) (λhc0=>?_)
 ·skip
  have hlt:k<l.length:=by simpa using hc0
  refine Aa.skip ?_
  refine Ac ?_
  refine hK5 _ _ ?_
  refine Aa.seq λK7 hK7=>?_
  refine Aa.block (A6 λK8 hK8=>?_)
  simp only[go_sem,Al AW _ _ _ hlt]
  (repeat(with_reducible refine And.intro ?_ ?_;omega))
  refine ZP (ih _ (List.getElem_mem hlt)) ?_
  refine Zy ?_
  intro b9 fb9
  try simp only[Ab] at fb9
  refine hK8 _ _ ?_
  refine ED λK10 hK10=>?_
  refine Zy ?_
  refine ZW λt1 ft1=>?_
  try simp only[Ae] at ft1
  refine Zy ?_
  refine hK10 _ _ ?_
  refine Ai (Ac ?_)
  refine hK7 _ _ ?_
  refine ED λK11 hK11=>?_
  refine Zy ?_
  (repeat(with_reducible refine And.intro ?_ ?_;omega))
  refine hK11 _ _ ?_
  refine Ac ?_
  refine⟨_,1,0,?_,k+1,t1,by omega,rfl,?_,rfl⟩
  ·omega
  ·rw[<-ZF AW l k hlt];rfl
 ·skip
  refine Aa.exit ?_
  refine Ak (Ak (Bh (Ac ?_)))
  refine hK3 _ _ ?_
  refine A6 λK12 hK12=>?_
  refine Zy ?_
  refine hK12 _ _ ?_
  refine Aa.ret ?_
  simp only[go_sem]
  exact Acs AW l k (by simp at hc0;omega)
theorem Ps (T:Ap) (c:Ax) (ok:c.Ok) (i1:PC prog T 8 [.d (.slc 12 (Fw c))] (.d (.slc 12 (Fw c)))) (i2:PC prog T 8 [.d (.slc 12 (E6 c))] (.d (.slc 12 (E6 c)))):PC prog T 27 [.agg (BW c)] (.agg (BW c)):=by
 refine⟨call27,Ar.enter func27 rfl ntmps27 λhb=>?_⟩
 obtain⟨s1,s2,s3,s4,s5,s6⟩:=ok.inv
 simp only[go_sem,results27]
 refine A6 λK1 hK1=>?_
 refine Zy ?_
 intro b1 fb1
 try simp only[Ab] at fb1
 intro b2 fb2
 try simp only[Ab] at fb2
 refine hK1 _ _ ?_
 refine OM true [0,1,2,3,4,5,6,7,8,9,10,11,12,13,14,15] rfl (by kernel_rfl) λK4 hK4=>?_
 simp only[go_sem,fb2]
 refine Aw rfl rfl rfl rfl (Qe T _ ZO) rfl rfl ?_
 simp only[go_sem,fb2]
 refine Aw rfl rfl rfl rfl (AcK T _ (by assumption)) rfl rfl ?_
 simp only[go_sem,fb2]
 refine Aw rfl rfl rfl rfl (i1) rfl rfl ?_
 simp only[go_sem,fb2]
 refine Aw rfl rfl rfl rfl (i2) rfl rfl ?_
 simp only[go_sem,fb2]
 refine hK4 _ _ ?_
 refine Aa.ret ?_
 simp only[go_sem,fb2]
 skip
theorem Nw (T:Ap) (c:Ax) (ok:c.Ok):PC prog T 27 [.agg (BW c)] (.agg (BW c)):=by
 induction c using Ax.ind with
 |h c i1 i2=>
  obtain⟨s1,s2,s3,s4,s5,s6⟩:=ok.inv
  refine Ps T c ok ?_ ?_
  ·rw[D2];exact FO T _ s3 λx hx=>i1 x hx (s5 x hx)
  ·rw[C1];exact FO T _ s4 λx hx=>i2 x hx (s6 x hx)
theorem Tc (T:Ap) (l:List Ax) (hl:l.length*208<=140737488355328) (ok:∀x∈l,x.Ok):PC prog T 8 [.d (.slc 12 (l.map AW))] (.d (.slc 12 (l.map AW))):=FO T l hl λx hx=>Nw T x (ok x hx)
theorem DZ (T:Ap) (l:List Ax) (hl:l.length*208<=140737488355328) (ih:∀x∈l,PC prog T 32 [.agg (BW x),.agg (BW x)] (.d (.bool true))):PC prog T 12 [.d (.slc 12 (l.map AW)),.d (.slc 12 (l.map AW))] (.d (.bool true)):=by
 refine⟨call12,Ar.enter func12 rfl ntmps12 λhb=>?_⟩
 simp only[go_sem,results12]
 refine A6 λK1 hK1=>?_
 refine Zy ?_
 refine hK1 _ _ ?_
 refine Aa.seq λK2 hK2=>?_
 refine A6 λK3 hK3=>?_
 refine Zy ?_
 refine hK3 _ _ ?_
 refine Aa.cond _ rfl (λhc0=>?_) (λhc0=>?_)
 ·skip
  simp at hc0
 ·skip
  refine Aa.skip ?_
  refine Ac ?_
  refine hK2 _ _ ?_
  refine Aa.seq λK4 hK4=>?_
  refine A6 λK5 hK5=>?_
  refine Zy ?_
  refine hK5 _ _ ?_
  refine Aa.block (Aa.loop [0,1,5] (λn s h=> ∃(k:Nat),k<=l.length/\n=l.length-k/\s=[.d (.slc 12 (l.map AW)),.d (.slc 12 (l.map AW)),.any,.any,.any,.d (.int .i64 k),.any,.any,.any,.any,.any,.any,.any,.any,.any,.any,.any,.any,.any,.any,.any,.any,.any,.any,.any,.any,.any]/\h=⟨[],[]⟩) ⟨_,0,Nat.zero_le _,rfl,rfl,rfl⟩ ?_)
  rintro n s h ⟨k,hk,rfl,rfl,rfl⟩
  refine Aa.seq λK6 hK6=>?_
  refine A6 λK7 hK7=>?_
  refine Zy ?_
  refine hK7 _ _ ?_
  refine Aa.cond _ rfl (λhc1=>?_) (λhc1=>?_)
  ·skip
   have hlt:k<l.length:=by simpa using hc1
   refine Aa.skip ?_
   refine Ac ?_
   refine hK6 _ _ ?_
   refine Aa.seq λK8 hK8=>?_
   refine Aa.block (OM true [0,1,2,3,4,5,6,7,8,9] rfl (by kernel_rfl) λK9 hK9=>?_)
   simp only[go_sem,Al AW _ _ _ hlt]
   (repeat(with_reducible refine And.intro ?_ ?_;omega))
   refine ZP (ih _ (List.getElem_mem hlt)) ?_
   refine Zy ?_
   refine hK9 _ _ ?_
   refine Aa.cond _ rfl (λhc2=>?_) (λhc2=>?_)
   ·skip
    simp at hc2
   ·skip
    refine Aa.skip ?_
    refine Ai (Ac ?_)
    refine hK8 _ _ ?_
    refine ED λK10 hK10=>?_
    refine Zy ?_
    (repeat(with_reducible refine And.intro ?_ ?_;omega))
    refine hK10 _ _ ?_
    refine Ac ?_
    refine⟨_,0,0,?_,k+1,by omega,rfl,rfl,rfl⟩
    omega
  ·skip
   refine Aa.exit ?_
   refine Ak (Ak (Bh (Ac ?_)))
   refine hK4 _ _ ?_
   refine A6 λK11 hK11=>?_
   refine Zy ?_
   refine hK11 _ _ ?_
   refine Aa.ret ?_
   simp only[go_sem]
   all_goals done
theorem KQ (T:Ap) (c:Ax) (ok:c.Ok) (i1:PC prog T 12 [.d (.slc 12 (Fw c)),.d (.slc 12 (Fw c))] (.d (.bool true))) (i2:PC prog T 12 [.d (.slc 12 (E6 c)),.d (.slc 12 (E6 c))] (.d (.bool true))):PC prog T 32 [.agg (BW c),.agg (BW c)] (.d (.bool true)):=by
 refine⟨call32,Ar.enter func32 rfl ntmps32 λhb=>?_⟩
 obtain⟨s1,s2,s3,s4,s5,s6⟩:=ok.inv
 simp only[go_sem,results32]
 refine A6 λK1 hK1=>?_
 refine Zy ?_
 intro b1 fb1
 try simp only[Ab] at fb1
 intro b2 fb2
 try simp only[Ab] at fb2
 refine hK1 _ _ ?_
 refine A6 λK4 hK4=>?_
 simp only[go_sem,fb2]
 refine ZQ (λhg=>H8 T _) ?_
 simp only[go_sem,fb2]
 refine ZQ (λhg=>TI T _ (by assumption)) ?_
 simp only[go_sem,fb2]
 refine ZQ (λhg=>i1) ?_
 simp only[go_sem,fb2]
 refine ZQ (λhg=>i2) ?_
 refine Zy ?_
 refine hK4 _ _ ?_
 refine Aa.ret ?_
 simp only[go_sem]
 all_goals simp
theorem NB (T:Ap) (c:Ax) (ok:c.Ok):PC prog T 32 [.agg (BW c),.agg (BW c)] (.d (.bool true)):=by
 induction c using Ax.ind with
 |h c i1 i2=>
  obtain⟨s1,s2,s3,s4,s5,s6⟩:=ok.inv
  refine KQ T c ok ?_ ?_
  ·rw[D2];exact DZ T _ s3 λx hx=>i1 x hx (s5 x hx)
  ·rw[C1];exact DZ T _ s4 λx hx=>i2 x hx (s6 x hx)
theorem Nb (T:Ap) (l:List Ax) (hl:l.length*208<=140737488355328) (ok:∀x∈l,x.Ok):PC prog T 12 [.d (.slc 12 (l.map AW)),.d (.slc 12 (l.map AW))] (.d (.bool true)):=DZ T l hl λx hx=>NB T x (ok x hx)
end
end Go.Proofs.YtidldcfpmehpiaaGreatDoor
