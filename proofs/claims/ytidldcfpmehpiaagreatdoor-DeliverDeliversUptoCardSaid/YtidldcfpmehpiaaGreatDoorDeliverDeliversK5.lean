/- Texts that the law DeliverDelivers rests on, packed. -/
import Derived.Test.YtidldcfpmehpiaaGreatDoorGB
import Derived.Test.YtidldcfpmehpiaaGreatDoorDeliverDeliversK4
import Derived.Test.YtidldcfpmehpiaaGreatDoorGC
import Derived.Test.YtidldcfpmehpiaaGreatDoorDeliverDeliversK3
import Derived.Test.YtidldcfpmehpiaaGreatDoorDeliverDeliversK1
import Derived.Test.YtidldcfpmehpiaaGreatDoorDeliverDeliversK2
import Derived.Test.YtidldcfpmehpiaaGreatDoorGD
set_option linter.unusedSimpArgs false
set_option linter.unusedVariables false
set_option maxRecDepth 20000
set_option maxHeartbeats 4000000
namespace Go.Proofs.YtidldcfpmehpiaaGreatDoor
open _root_.Go.Proofs.Tryz _root_.Go.Proofs.YtidldcfpmehpiaaGreatDoor.Tryz
section
theorem Pu (T:Ap) (s:St) (hb:s.boxes.length<=1000) (hm:∀y∈s.boxes,y.mails.length<=1000) (hs:s.spool.length<=1000) (A F:Af) (L:List Nat):AC prog T 101 [.agg (An s)] ⟨A++F,L⟩ (λr h=> ∃(l:List BM) (bb cb u:Nat),CM l=s.boxes/\(cb=0->l=[])/\Ae u L/\r= .ret (.agg [mA bb 3 cb l.length,.own u 6 (At s.spool)])/\h=⟨A++mO bb 3 cb (Au l) (A8 l F),u::L⟩):=
 (AeP T s hb hm hs (A++F) L).leR λx h' ⟨l,bb,cb,u,h1,h2,h3,h4,h5⟩=>⟨_,by rw[h5];exact BO.pm (AdK A ..),l,bb,cb,u,h1,h2,h3,h4,rfl⟩
theorem GY.b {s:St} (h:GY s):StB s:=by
 have:=Mj s.boxes h.al
 have:=h.bx
 exact⟨by omega,λy hy=>Nat.le_trans (h.al y hy).1 ZD,by omega⟩
theorem Ia {P:Program} {T:Ap} {Q:AQ} {sl:List AV} {code:Code} {L:List Nat} {F:Af} {b7 bb cb n:Nat} {l:List BM} {v:AV} (A:Af) (h0:0<cb) (hn:n=l.length) (H:Aa P T code Q sl ⟨(b7,⟨2,1,[[.d (.slc 3 (A3 (CM l))),v]]⟩)::(A++F),L⟩):Aa P T code Q sl ⟨(b7,⟨2,1,[[.arr bb 3 n cb,v]]⟩)::(A++(bb,⟨3,cb,Au l⟩)::A8 l F),L⟩:=by
 subst hn
 have:=Cj (bb:=bb) A (λe=>absurd e (Nat.ne_of_gt h0)) H
 rwa [AG h0,Bk h0] at this
theorem nd6 {x a b c d e:Nat} {o oa ob oc od oe:Ob} {F:Af} (h:(List.map Prod.fst ((x,o)::(a,oa)::(b,ob)::(c,oc)::(d,od)::(e,oe)::F)).Nodup):x≠a/\x≠b/\x≠c/\x≠d/\x≠e:=by
 simp only[List.map_cons,List.nodup_cons,List.mem_cons,not_or] at h
 exact⟨h.1.1,h.1.2.1,h.1.2.2.1,h.1.2.2.2.1,h.1.2.2.2.2.1⟩
theorem nd5 {x a b c d:Nat} {o oa ob oc od:Ob} {F:Af} (h:(List.map Prod.fst ((a,oa)::(b,ob)::(c,oc)::(d,od)::(x,o)::F)).Nodup):a≠x/\b≠x/\c≠x/\d≠x:=by
 simp only[List.map_cons,List.nodup_cons,List.mem_cons,not_or] at h
 exact⟨h.1.2.2.2.1,h.2.1.2.2.1,h.2.2.1.2.1,h.2.2.2.1.1⟩
attribute [local go_sem] Bc EQ AA AF List.set_set Xb CF in
theorem AaC (T:Ap) (s:St) (i:Nat) (fl:Int) (tx:Tx) (inv:GY s) (hi:i<s.boxes.length) (htx:tx.length<=2000) (F:Af) (L:List Nat):AC prog T 161 [.agg (An s),.d (.int .i64 (i:Nat)),.d (.int .i64 fl),.d (.str tx)] (⟨F,L⟩) (λr h=>r= .ret (.tup [.agg (An ⟨(Hh s.boxes i fl tx).1,s.spool⟩),.d (.int .i64 ((Hh s.boxes i fl tx).2))])/\h=⟨F,L⟩):=by
 refine⟨call161,Ao.enterS func161 rfl ntmps161 rfl λhb=>?_⟩
 have hI:=inv.al _ (List.getElem_mem hi)
 have hI1:=hI.1
 have hI2:=hI.2.1
 have hgi:s.boxes[i]?=some (s.boxes[i]'hi):=List.getElem?_eq_getElem hi
 have hby:=inv.b.by_
 have hii:(i:Int)<(s.boxes.length:Int):=by omega
 have zf1:=λd0_=>BG s.boxes i d0_ hi
 simp only[go_sem,results161]
 refine Zx (Zy ?_)
 intro b4 fb4
 try simp only[Ab] at fb4
 intro b8 fb8
 try simp only[Ab] at fb8
 refine Zx (Z3 ?_)
 intro b10 fb10
 try simp only[Ab] at fb10
 refine Zm 190 ?_
 refine Zs (Zx ?_)
 simp only[go_sem,fb8,fb10]
 (repeat(with_reducible refine And.intro ZS ?_))
 refine B7 rfl rfl rfl rfl rfl (λhg=>NH T s inv.b) (λhg=>by(try simp only[go_sem])<;>first|exact hg|(exfalso;simp at hg;done)|(simpa using hg)|grind) rfl rfl ?_
 refine Zy ?_
 (repeat(with_reducible refine And.intro ZS ?_))
 refine Zm 4194367 ?_
 refine Zc (λhc0=>?_) λhc0=>?_
 ·refine Zp 48 (Aa.ret ?_)
  simp only[Am]
  apply Ah [b4,b8,b10] [] [] [] ZH
  · exact ⟨rfl,by simp[go_sem]⟩
  · rw [G4 hgi ZO];simp[Aj,Bj,Ay,A3,At]
 refine Zk ?_
 refine Zx ?_
 simp only[go_sem,fb8,fb10]
 refine ZA [] [] (Pu T s (Nat.le_trans inv.bx ZD) (λy hy=>Nat.le_trans (inv.al y hy).1 ZD) (Nat.le_trans inv.sp ZD) [_,_,_] _ _) ?_
 rintro _ _ ⟨l,bb,cb,u,hl,hcb,hu,rfl,rfl⟩
 simp only[List.cons_append,List.nil_append]
 have e1:=Fs
 simp only[AV.plain,AV.one] at e1
 have e2:=Fj
 unfold AV.cells at e2
 try simp only[Ae,Ab] at e1
 try simp only[Ae,Ab] at e2
 refine Zy ?_
 intro b11 fb11
 try simp only[Ab] at fb11
 refine Zm 119 ?_
 have hlen:s.boxes.length=l.length:=by rw[<-hl];simp[CM]
 have hil:i<l.length:=by omega
 have hcb0:0<cb:=Nat.pos_of_ne_zero λe=>by have:=hcb e;rw[this] at hil;exact absurd hil (Nat.not_lt_zero _)
 simp only[AG hcb0,Bk hcb0]
 refine Aa.nd λhnd=>?_
 obtain⟨n1,n2,n3,n4⟩:=nd5 hnd
 clear hnd
 obtain⟨x,hx⟩:∃x,l[i]?=some x:=⟨_,List.getElem?_eq_getElem hil⟩
 have hxb:x.b=s.boxes[i]:=by have h1:=Mg hx;rw[hl,hgi] at h1;exact(Option.some.inj h1).symm
 have hgx:s.boxes[i]?=some x.b:=by rw[hxb];exact hgi
 simp only[<-hxb] at hc0 hI1 hI2⊢
 replace hxb:=hxb.symm
 rcases Nat.eq_zero_or_pos x.c with hz|hz
 ·have hm0:=x.ok hz
  refine Aa.pm (YN [_,_,_,_,_] hx hz) ?_
  simp only[List.cons_append,List.nil_append]
  have zf2:=AY n1
  have zf3:=AZ n1
  have zf4:=AY n2
  have zf5:=AZ n2
  have zf6:=AY n3
  have zf7:=AZ n3
  have zf8:=AY n4
  have zf9:=AZ n4
  have zf10:=Db hx
  have zf11:=λa=>List.getElem?_set_self (a:=a) (show i<(Au l).length by rw[AF];exact hil)
  refine L4 false [0,2,3,5,9,10,11,12,13] [1,4,6,7,8] [14,15,16,17] 18 [] rfl (by kernel_rfl) rfl λK_ hK_=>?_
  simp only[go_sem, *]
  refine Exists.intro (λh':AH=>A9 b11 h'.objs=some ⟨2,1,[[.arr bb 3 l.length cb,.own u 6 (At s.spool)]]⟩/\A9 bb h'.objs=some ⟨3,cb,Au l⟩) (And.intro ⟨by simp[A9],by simp[A9,zf2,zf4,zf6,zf8]⟩ ?_)
  refine Zy ?_
  refine FF rfl rfl (λh' ⟨m1,m2⟩=>(by first|rfl|(simp only[go_sem,m1];first|done|rfl|exact⟨by omega,rfl⟩))) ?_
  refine Zy ?_
  refine FF rfl rfl (λh' ⟨m1,m2⟩=>(by first|rfl|(simp only[go_sem,m1];first|done|rfl|exact⟨by omega,rfl⟩))) ?_
  refine Zy ?_
  refine Fb.op rfl (λh'=>(by first|rfl|(simp only[go_sem];first|done|rfl|exact⟨by omega,rfl⟩))) ?_
  refine Zy ?_
  refine Fb.op rfl (λh'=>(by first|rfl|(simp only[go_sem];first|done|rfl|exact⟨by omega,rfl⟩))) ?_
  refine Zy ?_
  refine FF rfl rfl (λh' ⟨m1,m2⟩=>(by first|rfl|(simp only[go_sem,zf10,hz,m2];first|done|rfl|exact⟨by omega,rfl⟩))) ?_
  refine Zy ?_
  refine Fb.nil ?_
  refine AN _ _ _ ?_
  simp only[go_sem, *]
  first|with_reducible refine And.intro ⟨by simp[A9,fb11,zf1,fb4,fb8,fb10,fb11,zf2,zf3,zf4,zf5,zf6,zf7,zf8,zf9,zf10,zf11,hil,hz],by simp[A9,zf1,fb4,fb8,fb10,fb11,zf2,zf3,zf4,zf5,zf6,zf7,zf8,zf9,zf10,zf11,hil,hz]⟩ ?_|with_reducible refine⟨by simp[A9,fb11,zf1,fb4,fb8,fb10,fb11,zf2,zf3,zf4,zf5,zf6,zf7,zf8,zf9,zf10,zf11,hil,hz],by simp[A9,zf1,fb4,fb8,fb10,fb11,zf2,zf3,zf4,zf5,zf6,zf7,zf8,zf9,zf10,zf11,hil,hz],?_⟩|with_reducible refine And.intro (by simp[A9,fb11,zf1,fb4,fb8,fb10,fb11,zf2,zf3,zf4,zf5,zf6,zf7,zf8,zf9,zf10,zf11,hil,hz]) ?_|with_reducible refine And.intro (by simp[A9,zf1,fb4,fb8,fb10,fb11,zf2,zf3,zf4,zf5,zf6,zf7,zf8,zf9,zf10,zf11,hil,hz]) ?_|skip
  refine Di (b0:=0) (c0:=0) (rows:=[]) rfl rfl rfl rfl (λ_=>rfl) rfl (show BL prog 92=some (112,3,32) by simp only[go_sem]) rfl rfl ZX rfl (by first|decide|(simp;done)|omega) (by first|omega|(simp only[go_sem]<;>omega)|(simp only[go_sem,List.length_take,List.length_map,List.length_append,List.length_cons,List.length_nil]<;>omega)|(simp<;>omega)) (by first|omega|(simp only[go_sem]<;>omega)|(simp only[go_sem,List.length_take,List.length_map,List.length_append,List.length_cons,List.length_nil]<;>omega)|(simp<;>omega)) λbm1 cm1 hcm1 fbm1=>?_
  try simp only[Ab] at fbm1
  simp only[go_sem, *]
  first|with_reducible refine And.intro ⟨by simp[A9,fb11,zf1,fb4,fb8,fb10,fb11,zf2,zf3,zf4,zf5,zf6,zf7,zf8,zf9,zf10,zf11,hil,hz,fbm1],by simp[A9,zf1,fb4,fb8,fb10,fb11,zf2,zf3,zf4,zf5,zf6,zf7,zf8,zf9,zf10,zf11,hil,hz,fbm1]⟩ ?_|with_reducible refine⟨by simp[A9,fb11,zf1,fb4,fb8,fb10,fb11,zf2,zf3,zf4,zf5,zf6,zf7,zf8,zf9,zf10,zf11,hil,hz,fbm1],by simp[A9,zf1,fb4,fb8,fb10,fb11,zf2,zf3,zf4,zf5,zf6,zf7,zf8,zf9,zf10,zf11,hil,hz,fbm1],?_⟩|with_reducible refine And.intro (by simp[A9,fb11,zf1,fb4,fb8,fb10,fb11,zf2,zf3,zf4,zf5,zf6,zf7,zf8,zf9,zf10,zf11,hil,hz,fbm1]) ?_|with_reducible refine And.intro (by simp[A9,zf1,fb4,fb8,fb10,fb11,zf2,zf3,zf4,zf5,zf6,zf7,zf8,zf9,zf10,zf11,hil,hz,fbm1]) ?_|skip
  refine AN _ _ _ ?_
  simp only[go_sem,fb11,zf2,zf3,zf4,zf6,zf8,fbm1]
  (repeat(with_reducible refine And.intro ZS ?_))
  first|with_reducible refine And.intro ⟨by simp[A9,fb11,zf1,fb4,fb8,fb10,fb11,zf2,zf3,zf4,zf5,zf6,zf7,zf8,zf9,zf10,zf11,hil,hz,fbm1],by simp[A9,zf1,fb4,fb8,fb10,fb11,zf2,zf3,zf4,zf5,zf6,zf7,zf8,zf9,zf10,zf11,hil,hz,fbm1]⟩ ?_|with_reducible refine⟨by simp[A9,fb11,zf1,fb4,fb8,fb10,fb11,zf2,zf3,zf4,zf5,zf6,zf7,zf8,zf9,zf10,zf11,hil,hz,fbm1],by simp[A9,zf1,fb4,fb8,fb10,fb11,zf2,zf3,zf4,zf5,zf6,zf7,zf8,zf9,zf10,zf11,hil,hz,fbm1],?_⟩|with_reducible refine And.intro (by simp[A9,fb11,zf1,fb4,fb8,fb10,fb11,zf2,zf3,zf4,zf5,zf6,zf7,zf8,zf9,zf10,zf11,hil,hz,fbm1]) ?_|with_reducible refine And.intro (by simp[A9,zf1,fb4,fb8,fb10,fb11,zf2,zf3,zf4,zf5,zf6,zf7,zf8,zf9,zf10,zf11,hil,hz,fbm1]) ?_|skip
  refine AN _ _ _ ?_
  simp only[go_sem, *]
  first|with_reducible refine And.intro ⟨by simp[A9,fb11,zf1,fb4,fb8,fb10,fb11,zf2,zf3,zf4,zf5,zf6,zf7,zf8,zf9,zf10,zf11,hil,hz,fbm1],by simp[A9,zf1,fb4,fb8,fb10,fb11,zf2,zf3,zf4,zf5,zf6,zf7,zf8,zf9,zf10,zf11,hil,hz,fbm1]⟩ ?_|with_reducible refine⟨by simp[A9,fb11,zf1,fb4,fb8,fb10,fb11,zf2,zf3,zf4,zf5,zf6,zf7,zf8,zf9,zf10,zf11,hil,hz,fbm1],by simp[A9,zf1,fb4,fb8,fb10,fb11,zf2,zf3,zf4,zf5,zf6,zf7,zf8,zf9,zf10,zf11,hil,hz,fbm1],?_⟩|with_reducible refine And.intro (by simp[A9,fb11,zf1,fb4,fb8,fb10,fb11,zf2,zf3,zf4,zf5,zf6,zf7,zf8,zf9,zf10,zf11,hil,hz,fbm1]) ?_|with_reducible refine And.intro (by simp[A9,zf1,fb4,fb8,fb10,fb11,zf2,zf3,zf4,zf5,zf6,zf7,zf8,zf9,zf10,zf11,hil,hz,fbm1]) ?_|skip
  refine AN _ _ _ ?_
  simp only[go_sem, *]
  refine hK_ _ _ ?_
  refine Zm 57 ?_
  refine Zp 10 ?_
  refine Zy ?_
  refine Aa.leH (Dj (h':=⟨Qk (⟨E1 x.b fl tx,bm1,cm1,λh=>absurd h ZO⟩:BM)::(b11,⟨2,1,[[.arr bb 3 l.length cb,.own u 6 (At s.spool)]]⟩)::(b10,⟨3,1,[[.d (.str x.b.name),.d (.int .i64 x.b.next),.d (.slc 3 (A4 x.b.mails))]]⟩)::(b8,⟨2,1,[[.nils,.nils]]⟩)::(b4,⟨2,1,[An s]⟩)::(bb,⟨3,cb,Au (l.set i (⟨E1 x.b fl tx,bm1,cm1,λh=>absurd h ZO⟩:BM))⟩)::A8 (l.eraseIdx i) F,u::L⟩) ?_) ?_
  · rw [<-Dc];simp[Qk,CP,E1,AG hcm1,A4,As,CJ,An,hm0]
  refine Aa.pm (Md [_,_,_,_,_] (⟨E1 x.b fl tx,bm1,cm1,λh=>absurd h ZO⟩:BM) hil hcm1) ?_
  simp only[List.cons_append,List.nil_append]
  refine Ia (F:=F) [_,_,_] hcb0 ZX ?_
  rw[EP,hl]
  simp only[List.cons_append,List.nil_append]
  refine Zp 3 (Aa.ret ?_)
  apply Ah [b4,b8,b10,b11] [u] [] [] ZH
  · exact ⟨rfl,by simp[go_sem]⟩
  · rw [Kx hgx ZO];simp[Aj,Bj,Ay,A3,At]
 refine Aa.pm (IR [_,_,_,_,_] hx hz) ?_
 simp only[List.cons_append,List.nil_append]
 refine Aa.nd λhnd=>?_
 obtain⟨q1,q2,q3,q4,q5⟩:=nd6 hnd
 clear hnd
 have zf12:=AY n1
 have zf13:=AZ n1
 have zf14:=AY n2
 have zf15:=AZ n2
 have zf16:=AY n3
 have zf17:=AZ n3
 have zf18:=AY n4
 have zf19:=AZ n4
 have zf20:=Db hx
 have zf21:=λa=>List.getElem?_set_self (a:=a) (show i<(Au l).length by rw[AF];exact hil)
 have zf22:=λb k n=>AG (b:=b) (k:=k) (n:=n) hz
 have zf23:=AY q1
 have zf24:=AZ q1
 have zf25:=AY q2
 have zf26:=AZ q2
 have zf27:=AY q3
 have zf28:=AZ q3
 have zf29:=AY q4
 have zf30:=AZ q4
 have zf31:=AY q5
 have zf32:=AZ q5
 refine L4 false [0,2,3,5,9,10,11,12,13] [1,4,6,7,8] [14,15,16,17] 18 [] rfl (by kernel_rfl) rfl λK_ hK_=>?_
 simp only[go_sem, *]
 refine Exists.intro (λh':AH=>A9 b11 h'.objs=some ⟨2,1,[[.arr bb 3 l.length cb,.own u 6 (At s.spool)]]⟩/\A9 bb h'.objs=some ⟨3,cb,Au l⟩) (And.intro ⟨by simp[A9,zf23],by simp[A9,zf12,zf14,zf16,zf18,zf31]⟩ ?_)
 refine Zy ?_
 refine FF rfl rfl (λh' ⟨m1,m2⟩=>(by first|rfl|(simp only[go_sem,m1];first|done|rfl|exact⟨by omega,rfl⟩))) ?_
 refine Zy ?_
 refine FF rfl rfl (λh' ⟨m1,m2⟩=>(by first|rfl|(simp only[go_sem,m1];first|done|rfl|exact⟨by omega,rfl⟩))) ?_
 refine Zy ?_
 refine Fb.op rfl (λh'=>(by first|rfl|(simp only[go_sem];first|done|rfl|exact⟨by omega,rfl⟩))) ?_
 refine Zy ?_
 refine Fb.op rfl (λh'=>(by first|rfl|(simp only[go_sem];first|done|rfl|exact⟨by omega,rfl⟩))) ?_
 refine Zy ?_
 refine FF rfl rfl (λh' ⟨m1,m2⟩=>(by first|rfl|(simp only[go_sem,zf20,zf22,m2];first|done|rfl|exact⟨by omega,rfl⟩))) ?_
 refine Zy ?_
 refine Fb.nil ?_
 refine AN _ _ _ ?_
 simp only[go_sem, *]
 first|with_reducible refine And.intro ⟨by simp[A9,fb11,zf1,fb4,fb8,fb10,fb11,zf12,zf13,zf14,zf15,zf16,zf17,zf18,zf19,zf20,zf21,hil,zf22,zf23,zf24,zf25,zf26,zf27,zf28,zf29,zf30,zf31,zf32],by simp[A9,zf1,fb4,fb8,fb10,fb11,zf12,zf13,zf14,zf15,zf16,zf17,zf18,zf19,zf20,zf21,hil,zf22,zf23,zf24,zf25,zf26,zf27,zf28,zf29,zf30,zf31,zf32]⟩ ?_|with_reducible refine⟨by simp[A9,fb11,zf1,fb4,fb8,fb10,fb11,zf12,zf13,zf14,zf15,zf16,zf17,zf18,zf19,zf20,zf21,hil,zf22,zf23,zf24,zf25,zf26,zf27,zf28,zf29,zf30,zf31,zf32],by simp[A9,zf1,fb4,fb8,fb10,fb11,zf12,zf13,zf14,zf15,zf16,zf17,zf18,zf19,zf20,zf21,hil,zf22,zf23,zf24,zf25,zf26,zf27,zf28,zf29,zf30,zf31,zf32],?_⟩|with_reducible refine And.intro (by simp[A9,fb11,zf1,fb4,fb8,fb10,fb11,zf12,zf13,zf14,zf15,zf16,zf17,zf18,zf19,zf20,zf21,hil,zf22,zf23,zf24,zf25,zf26,zf27,zf28,zf29,zf30,zf31,zf32]) ?_|with_reducible refine And.intro (by simp[A9,zf1,fb4,fb8,fb10,fb11,zf12,zf13,zf14,zf15,zf16,zf17,zf18,zf19,zf20,zf21,hil,zf22,zf23,zf24,zf25,zf26,zf27,zf28,zf29,zf30,zf31,zf32]) ?_|skip
 refine Di (b0:=x.m) (c0:=x.c) (rows:=As (A4 x.b.mails)) rfl rfl (Eq.trans (b:= .arr x.m 3 x.b.mails.length x.c) rfl (by rw[AG hz,AB,AA])) (by rw[Bk hz]) (λh=>absurd h ZO) rfl (show BL prog 92=some (112,3,32) by simp only[go_sem]) rfl rfl (Fq _) rfl (by first|decide|(simp;done)|omega) (by(try simp only[go_sem,AB,AA]);omega) (by(try simp only[go_sem,AB,AA]);omega) λbm2 cm2 hcm2 fbm2=>?_
 try simp only[Ab] at fbm2
 simp only[go_sem, *]
 first|with_reducible refine And.intro ⟨by simp[A9,fb11,zf1,fb4,fb8,fb10,fb11,zf12,zf13,zf14,zf15,zf16,zf17,zf18,zf19,zf20,zf21,hil,zf22,zf23,zf24,zf25,zf26,zf27,zf28,zf29,zf30,zf31,zf32,fbm2],by simp[A9,zf1,fb4,fb8,fb10,fb11,zf12,zf13,zf14,zf15,zf16,zf17,zf18,zf19,zf20,zf21,hil,zf22,zf23,zf24,zf25,zf26,zf27,zf28,zf29,zf30,zf31,zf32,fbm2]⟩ ?_|with_reducible refine⟨by simp[A9,fb11,zf1,fb4,fb8,fb10,fb11,zf12,zf13,zf14,zf15,zf16,zf17,zf18,zf19,zf20,zf21,hil,zf22,zf23,zf24,zf25,zf26,zf27,zf28,zf29,zf30,zf31,zf32,fbm2],by simp[A9,zf1,fb4,fb8,fb10,fb11,zf12,zf13,zf14,zf15,zf16,zf17,zf18,zf19,zf20,zf21,hil,zf22,zf23,zf24,zf25,zf26,zf27,zf28,zf29,zf30,zf31,zf32,fbm2],?_⟩|with_reducible refine And.intro (by simp[A9,fb11,zf1,fb4,fb8,fb10,fb11,zf12,zf13,zf14,zf15,zf16,zf17,zf18,zf19,zf20,zf21,hil,zf22,zf23,zf24,zf25,zf26,zf27,zf28,zf29,zf30,zf31,zf32,fbm2]) ?_|with_reducible refine And.intro (by simp[A9,zf1,fb4,fb8,fb10,fb11,zf12,zf13,zf14,zf15,zf16,zf17,zf18,zf19,zf20,zf21,hil,zf22,zf23,zf24,zf25,zf26,zf27,zf28,zf29,zf30,zf31,zf32,fbm2]) ?_|skip
 refine AN _ _ _ ?_
 simp only[go_sem,fb11,zf12,zf13,zf14,zf16,zf18,fbm2]
 (repeat(with_reducible refine And.intro ZS ?_))
 first|with_reducible refine And.intro ⟨by simp[A9,fb11,zf1,fb4,fb8,fb10,fb11,zf12,zf13,zf14,zf15,zf16,zf17,zf18,zf19,zf20,zf21,hil,zf22,zf23,zf24,zf25,zf26,zf27,zf28,zf29,zf30,zf31,zf32,fbm2],by simp[A9,zf1,fb4,fb8,fb10,fb11,zf12,zf13,zf14,zf15,zf16,zf17,zf18,zf19,zf20,zf21,hil,zf22,zf23,zf24,zf25,zf26,zf27,zf28,zf29,zf30,zf31,zf32,fbm2]⟩ ?_|with_reducible refine⟨by simp[A9,fb11,zf1,fb4,fb8,fb10,fb11,zf12,zf13,zf14,zf15,zf16,zf17,zf18,zf19,zf20,zf21,hil,zf22,zf23,zf24,zf25,zf26,zf27,zf28,zf29,zf30,zf31,zf32,fbm2],by simp[A9,zf1,fb4,fb8,fb10,fb11,zf12,zf13,zf14,zf15,zf16,zf17,zf18,zf19,zf20,zf21,hil,zf22,zf23,zf24,zf25,zf26,zf27,zf28,zf29,zf30,zf31,zf32,fbm2],?_⟩|with_reducible refine And.intro (by simp[A9,fb11,zf1,fb4,fb8,fb10,fb11,zf12,zf13,zf14,zf15,zf16,zf17,zf18,zf19,zf20,zf21,hil,zf22,zf23,zf24,zf25,zf26,zf27,zf28,zf29,zf30,zf31,zf32,fbm2]) ?_|with_reducible refine And.intro (by simp[A9,zf1,fb4,fb8,fb10,fb11,zf12,zf13,zf14,zf15,zf16,zf17,zf18,zf19,zf20,zf21,hil,zf22,zf23,zf24,zf25,zf26,zf27,zf28,zf29,zf30,zf31,zf32,fbm2]) ?_|skip
 refine AN _ _ _ ?_
 simp only[go_sem, *]
 first|with_reducible refine And.intro ⟨by simp[A9,fb11,zf1,fb4,fb8,fb10,fb11,zf12,zf13,zf14,zf15,zf16,zf17,zf18,zf19,zf20,zf21,hil,zf22,zf23,zf24,zf25,zf26,zf27,zf28,zf29,zf30,zf31,zf32,fbm2],by simp[A9,zf1,fb4,fb8,fb10,fb11,zf12,zf13,zf14,zf15,zf16,zf17,zf18,zf19,zf20,zf21,hil,zf22,zf23,zf24,zf25,zf26,zf27,zf28,zf29,zf30,zf31,zf32,fbm2]⟩ ?_|with_reducible refine⟨by simp[A9,fb11,zf1,fb4,fb8,fb10,fb11,zf12,zf13,zf14,zf15,zf16,zf17,zf18,zf19,zf20,zf21,hil,zf22,zf23,zf24,zf25,zf26,zf27,zf28,zf29,zf30,zf31,zf32,fbm2],by simp[A9,zf1,fb4,fb8,fb10,fb11,zf12,zf13,zf14,zf15,zf16,zf17,zf18,zf19,zf20,zf21,hil,zf22,zf23,zf24,zf25,zf26,zf27,zf28,zf29,zf30,zf31,zf32,fbm2],?_⟩|with_reducible refine And.intro (by simp[A9,fb11,zf1,fb4,fb8,fb10,fb11,zf12,zf13,zf14,zf15,zf16,zf17,zf18,zf19,zf20,zf21,hil,zf22,zf23,zf24,zf25,zf26,zf27,zf28,zf29,zf30,zf31,zf32,fbm2]) ?_|with_reducible refine And.intro (by simp[A9,zf1,fb4,fb8,fb10,fb11,zf12,zf13,zf14,zf15,zf16,zf17,zf18,zf19,zf20,zf21,hil,zf22,zf23,zf24,zf25,zf26,zf27,zf28,zf29,zf30,zf31,zf32,fbm2]) ?_|skip
 refine AN _ _ _ ?_
 simp only[go_sem, *]
 refine hK_ _ _ ?_
 refine Zm 57 ?_
 refine Zp 10 ?_
 refine Zy ?_
 refine Aa.leH (Dj (h':=⟨Qk (⟨E1 x.b fl tx,bm2,cm2,λh=>absurd h ZO⟩:BM)::(b11,⟨2,1,[[.arr bb 3 l.length cb,.own u 6 (At s.spool)]]⟩)::(b10,⟨3,1,[[.d (.str x.b.name),.d (.int .i64 x.b.next),.d (.slc 3 (A4 x.b.mails))]]⟩)::(b8,⟨2,1,[[.nils,.nils]]⟩)::(b4,⟨2,1,[An s]⟩)::(bb,⟨3,cb,Au (l.set i (⟨E1 x.b fl tx,bm2,cm2,λh=>absurd h ZO⟩:BM))⟩)::A8 (l.eraseIdx i) F,u::L⟩) ?_) ?_
 · rw [<-Dc];simp[Qk,CP,E1,AG hcm2,A4,As,CJ,An,List.map_append]
 refine Aa.pm (Md [_,_,_,_,_] (⟨E1 x.b fl tx,bm2,cm2,λh=>absurd h ZO⟩:BM) hil hcm2) ?_
 simp only[List.cons_append,List.nil_append]
 refine Ia (F:=F) [_,_,_] hcb0 ZX ?_
 rw[EP,hl]
 simp only[List.cons_append,List.nil_append]
 refine Zp 3 (Aa.ret ?_)
 apply Ah [b4,b8,b10,b11] [u] [] [] ZH
 · exact ⟨rfl,by simp[go_sem]⟩
 · rw [Kx hgx ZO];simp[Aj,Bj,Ay,A3,At]
end
section
def I0 (y:AL):Prop:=(y.mails.map (·.uid)).Pairwise (· < ·)/\∀m∈y.mails,m.uid<y.next
def Wc (s:St):Prop:=∀y∈s.boxes,I0 y
theorem Afy {nx:Int} :∀(l:List B2) (la:Int),O1 nx la l=true->(l.map (·.uid)).Pairwise (· < ·)/\(∀m∈l,la<m.uid)/\∀m∈l,m.uid<nx
 |[],_,_=>⟨.nil,λm hm=>(by cases hm),λm hm=>(by cases hm)⟩
 | m::r,la,h=>by
  rw[O1,Bool.and_eq_true] at h
  obtain⟨h1,h2,h3⟩:=Afy r _ h.2
  have h0:=h.1
  simp only[Bool.and_eq_true,decide_eq_true_eq] at h0
  refine⟨?_,λm' hm=>?_,λm' hm=>?_⟩
  ·rw[List.map_cons,List.pairwise_cons]
   refine⟨λa ha=>?_,h1⟩
   obtain⟨m',hm',rfl⟩:=List.mem_map.1 ha
   exact h2 m' hm'
  ·rcases List.mem_cons.1 hm with rfl|hm
   ·exact h0.1.1.1.1
   ·have:=h2 m' hm
    omega
  ·rcases List.mem_cons.1 hm with rfl|hm
   ·exact h0.1.1.1.2
   ·exact h3 m' hm
theorem AbF {b:AL} (h:Fg b=true):I0 b:=by
 unfold Fg at h
 split at h
 ·cases h
 ·exact⟨(Afy _ _ h).1,(Afy _ _ h).2.2⟩
theorem AgE:∀(l pre:List AL),Ll pre l=true->∀y∈l,I0 y
 |[],_,_,y,hy=>by cases hy
 |b::r,pre,h,y,hy=>by
  rw[Ll,Bool.and_eq_true,Bool.and_eq_true] at h
  rcases List.mem_cons.1 hy with rfl|hy
  ·exact AbF h.1.1
  ·exact AgE r _ h.2 y hy
theorem AhA {s:St} (h:Ft s=0):Wc s:=by
 unfold Ft at h
 split at h
 ·cases h
 split at h
 ·cases h
 rename_i h1 h2
 exact AgE _ [] (by simpa using h2)
theorem Aa8 {l:List AL} {i:Nat} {z:AL} (h:∀y∈l,I0 y) (hz:I0 z):∀y∈l.set i z,I0 y:=λy hy=>by
 rcases List.mem_or_eq_of_mem_set hy with hy|rfl
 ·exact h y hy
 ·exact hz
theorem Aev {x:AL} {fl:Int} {tx:Tx} (h:I0 x):I0 (E1 x fl tx):=by
 refine⟨?_,λm hm=>?_⟩
 ·simp only[E1,List.map_append,List.map_cons,List.map_nil]
  rw[List.pairwise_append]
  refine⟨h.1,List.pairwise_singleton ..,λa ha b hb=>?_⟩
  obtain⟨m',hm',rfl⟩:=List.mem_map.1 ha
  rw[List.mem_singleton.1 hb]
  exact h.2 m' hm'
 ·simp only[E1,List.mem_append,List.mem_singleton] at hm⊢
  rcases hm with hm|rfl
  ·have:=h.2 m hm
   omega
  ·show x.next<x.next+1
   omega
theorem XT {l:List AL} {i:Nat} {fl:Int} {tx:Tx} (h:∀y∈l,I0 y):∀y∈(Hh l i fl tx).1,I0 y:=by
 unfold Hh
 split
 ·exact h
 ·rename_i x hx
  split
  ·exact h
  ·exact Aa8 h (Aev (h x (List.mem_of_getElem? hx)))
theorem AcD {y:AL} {k:Nat} {fl:Int} (h:I0 y):I0 (EB y k fl):=by
 unfold EB
 split
 ·rename_i m hm
  obtain⟨hk,he⟩:=List.getElem?_eq_some_iff.1 hm
  refine⟨?_,λm' hm'=>?_⟩
  ·show((y.mails.set k _).map _).Pairwise _
   rw[List.map_set]
   have:(y.mails.map (·.uid)).set k m.uid=y.mails.map (·.uid):=by
    have h1:(y.mails.map (·.uid))[k]'(by simpa using hk)=m.uid:=by rw[List.getElem_map,he]
    rw[<-h1,List.set_getElem_self]
   rw[this]
   exact h.1
  ·rcases List.mem_or_eq_of_mem_set hm' with hm'|rfl
   ·exact h.2 m' hm'
   ·exact h.2 m (List.mem_of_getElem? hm)
 ·exact h
theorem Afv {y:AL} (h:I0 y):I0 ⟨y.name,y.next,BU y.mails⟩:=⟨h.1.sublist (List.filter_sublist.map _),λm hm=>h.2 m (List.mem_filter.1 hm).1⟩
theorem Ag1 {l:List AL} {i:Nat} {x:BN} (h:∀y∈l,I0 y):∀y∈(NQ l i x).1,I0 y:=by
 unfold NQ
 split
 ·exact XT h
 split
 ·exact h
 rename_i y hy
 have hyI:=h y (List.mem_of_getElem? hy)
 split
 ·exact Aa8 h (Afv hyI)
 split
 ·exact h
 split
 ·exact Aa8 h (AcD hyI)
 split
 ·exact h
 split
 ·exact h
 ·exact XT h
theorem Ag3 {s:St} {x:BN} (h:Wc s):Wc (Iv s x).1:=by
 unfold Iv
 split
 ·split
  ·exact h
  ·exact h
 split
 ·split
  ·exact h
  split
  ·exact h
  ·intro y hy
   rcases List.mem_append.1 hy with hy|hy
   ·exact h y hy
   ·rw[List.mem_singleton.1 hy]
    exact⟨.nil,λm hm=>(by cases hm)⟩
 split
 ·exact h
 ·exact Ag1 h
theorem AaO {l:List B2} {k:Nat} {u:Int} (hs:(l.map (·.uid)).Pairwise (· < ·)) (h:k<l.length) (he:(l[k]'h).uid=u):Cl (λm:B2=>decide (m.uid=u)) (l.take (k+1))=k:=by
 have hall:∀m∈l.take k,m.uid≠u:=λm hm hu=>by
  obtain⟨j,hj,e⟩:=List.mem_iff_getElem.1 hm
  rw[List.length_take] at hj
  have hjk:j<k:=by omega
  rw[List.getElem_take] at e
  have:=List.pairwise_iff_getElem.1 hs j k (by simp;omega) (by simpa using h) hjk
  simp only[List.getElem_map,e,he] at this
  omega
 rw[CH h]
 have hl:(l.take k).length=k:=by simp;omega
 generalize l.take k=a at hall hl
 subst hl
 clear hs
 revert he
 generalize l[a.length]=m
 intro he
 clear h
 induction a with
 |nil=>simp[Cl,he]
 |cons y r ih=>
  have h1:=ih λm hm=>hall m (List.mem_cons_of_mem _ hm)
  have h2:=hall y (List.mem_cons_self ..)
  rw[List.cons_append,Cl,h1,if_neg (by simpa using h2),if_neg ZO]
  simp
theorem AaP {l:List B2} {k:Nat} {u:Int} (h:k<l.length) (he:¬(l[k]'h).uid=u):Cl (λm:B2=>decide (m.uid=u)) (l.take (k+1))=Cl (λm:B2=>decide (m.uid=u)) (l.take k):=by
 rw[CH h]
 generalize l.take k=a
 revert he
 generalize l[k]=m
 intro he
 induction a with
 |nil=>simp[Cl,he]
 |cons y r ih=>rw[List.cons_append,Cl,Cl,ih]
end
section
theorem Qq {P:Program} {T:Ap} {Q:AQ} {code:Code} {h:AH} {df:AV} {l:SL} {N:Nat} (i k:Nat) (hi:Bd df i l= .nils) (hN:Nat.blt i N=true) (H:Aa P T code Q (Ct df (EI i (.full k []) l) N 0) h):Aa P T code Q (Ct df l N 0) h:=by
 intro G w act S R
 refine H G w act S ?_
 have hlt:i<N:=by simpa[Nat.blt_eq] using hN
 rw[<-GH]
 refine⟨by simpa using R.1,λj x e=>?_⟩
 by_cases hj:i=j
 ·subst hj
  rw[List.getElem?_set_self (by rw[Dn];exact hlt)] at e
  injection e with e
  subst e
  obtain⟨v,h1,h2⟩:=R.2 i .nils (by rw[CS _ _ _ _ _ hlt,Nat.zero_add,hi])
  refine⟨v,h1,?_⟩
  cases h2
  exact VR.full (rows:=[]) (A:=none) (.slc0 k none 0 (λ_=>rfl) (Nat.zero_le _))
 ·rw[List.getElem?_set_ne hj] at e
  exact R.2 j x e
theorem BO.tl (p:Nat×Ob) (F:Af) (L:List Nat):BO ⟨p::F,L⟩ ⟨F,L⟩:=λT G w S=>S.drop (h':=⟨F,L⟩) (List.sublist_cons_self ..) (List.Sublist.refl _)
theorem NJ (A:Af) (b k c:Nat) (r:List (List AV)) (F:Af) (L:List Nat):BO ⟨A++mO b k c r F,L⟩ ⟨A++F,L⟩:=by
 refine(BO.pm (DT A ..).symm).trans ?_
 rcases Nat.eq_zero_or_pos c with h|h
 ·subst h
  rw[D9];exact BO.refl _
 ·rw[Bk h]
  intro T G w S
  exact S.drop (h':=⟨A++F,L⟩) (List.sublist_cons_self ..) (List.Sublist.refl _)
theorem XI (A:Af) {l:List BM} {i:Nat} {z:BM} (Y:BM) (F:Af) (L:List Nat) (h:l[i]?=some z):BO ⟨A++mO Y.m 3 Y.c (As (A4 Y.b.mails)) (A8 l F),L⟩ ⟨A++A8 (l.set i Y) F,L⟩:=by
 have hi:i<l.length:=(List.getElem?_eq_some_iff.1 h).1
 have p1:(A++mO Y.m 3 Y.c (As (A4 Y.b.mails)) (A8 l F)).Perm (A++mO z.m 3 z.c (As (A4 z.b.mails)) (mO Y.m 3 Y.c (As (A4 Y.b.mails)) (A8 (l.eraseIdx i) F))):=
  List.Perm.append_left A ((FA (FB F h)).trans (RD ..))
 exact((BO.pm p1).trans (NJ A _ _ _ _ _ _)).trans (BO.pm (List.Perm.append_left A (KH Y F hi)))
theorem AgH {m:B2} (h:0<=m.flags) (hc:(m.flags.tdiv 8).tmod 2=0):Kz m=false:=by
 rw[Int.tdiv_eq_ediv_of_nonneg h,Int.tmod_eq_emod_of_nonneg ZO] at hc
 simp[Kz,hc]
theorem AgG {m:B2} (h:0<=m.flags) (hc:¬(m.flags.tdiv 8).tmod 2=0):Kz m=true:=by
 rw[Int.tdiv_eq_ediv_of_nonneg h,Int.tmod_eq_emod_of_nonneg ZO] at hc
 simp[Kz,hc]
attribute [local go_sem] Bc C7 EQ AA CJ AF List.set_set Xb in
theorem Wz (T:Ap) (s:St) (x:BN) (inv:GY s) (iu:Wc s) (hx:En x=0) (F:Af) (L:List Nat):AC prog T 102 [.agg (An s),.agg (C7 x)] (⟨F,L⟩) (λr h=>r= .ret (.tup [.agg (An (Iv s x).1),.d (.int .i64 ((Iv s x).2))])/\h=⟨F,L⟩):=by
 refine⟨call102,Ao.enterS func102 rfl ntmps102 rfl λhb=>?_⟩
 have h0:=YF hx
 have ibx:=inv.bx
 have isp:=inv.sp
 simp only[go_sem,results102]
 refine Zx (Zy ?_)
 intro b2 fb2
 try simp only[Ab] at fb2
 intro b3 fb3
 try simp only[Ab] at fb3
 intro b4 fb4
 try simp only[Ab] at fb4
 refine Zx ?_
 simp only[go_sem,fb3,fb4]
 refine ZA [] [] (Pu T s (Nat.le_trans inv.bx ZD) (λy hy=>Nat.le_trans (inv.al y hy).1 ZD) (Nat.le_trans inv.sp ZD) [_,_,_] _ _) ?_
 rintro _ _ ⟨l,bb,cb,u,hl,hcb,hu,rfl,rfl⟩
 simp only[List.cons_append,List.nil_append]
 have e1:=Fs
 simp only[AV.plain,AV.one] at e1
 have e2:=Fj
 unfold AV.cells at e2
 have hlen:l.length<=s.boxes.length/\s.boxes.length<=l.length:=by rw[<-hl];simp[CM]
 try simp only[Ae,Ab] at e1
 try simp only[Ae,Ab] at e2
 refine Zy ?_
 intro b6 fb6
 try simp only[Ab] at fb6
 refine Zm 92 ?_
 refine Z1 31 (L7 T s.boxes x.box (Nat.le_trans ibx ZD)) ?_
 refine Zs (Zp 159 ?_)
 refine Zc (λhc0=>?_) λhc0=>?_
 ·refine Zs (Zp 527 ?_)
  refine Zc (λhc1=>?_) λhc1=>?_
  ·refine Zy ?_
   refine Cj (b7:=b6) (l:=l) (F:=F) [_,_,_] hcb ?_
   simp only[List.cons_append,List.nil_append]
   rw[hl]
   refine Zp 12 (Aa.ret ?_)
   simp only[Am]
   apply Ah [b2,b3,b4,b6] [u] [] [] ZH
   · exact ⟨rfl,by simp[go_sem]⟩
   · rw [SR hc0 ZO];simp[Aj,Bj,Ay,A3,At]
  refine Zk ?_
  refine Zx ?_
  simp only[go_sem, *]
  refine ZW λt1 ft1=>?_
  try simp only[Ae] at ft1
  simp only[go_sem,fb6]
  refine Zn 12 ?_
  refine Cj (b7:=b6) (l:=l) (F:=F) [_,_,_] hcb ?_
  simp only[List.cons_append,List.nil_append]
  rw[hl]
  refine Zp 3 (Aa.ret ?_)
  simp only[Am]
  apply Ah [b2,b3,b4,b6] [t1] [] [] ZH
  · exact ⟨rfl,by simp[go_sem]⟩
  · rw [SQ hc0 ZO];simp[hc0,Aj,Bj,Ay,A3,At,D8]
 refine Zk ?_
 refine Zs (Zp 287 ?_)
 refine Zc (λhc2=>?_) λhc2=>?_
 ·refine Zs (Zp 143 ?_)
  refine Zc (λhc3=>?_) λhc3=>?_
  ·refine Zy ?_
   refine Cj (b7:=b6) (l:=l) (F:=F) [_,_,_] hcb ?_
   simp only[List.cons_append,List.nil_append]
   rw[hl]
   refine Zp 12 (Aa.ret ?_)
   simp only[Am]
   apply Ah [b2,b3,b4,b6] [u] [] [] ZH
   · exact ⟨rfl,by simp[go_sem]⟩
   · rw [Yc hc2 hc3];simp[Aj,Bj,Ay,A3,At]
  refine Zk ?_
  refine Zs (Zp 271 ?_)
  refine Zc (λhc4=>?_) λhc4=>?_
  ·refine Zy ?_
   refine Cj (b7:=b6) (l:=l) (F:=F) [_,_,_] hcb ?_
   simp only[List.cons_append,List.nil_append]
   rw[hl]
   refine Zp 12 (Aa.ret ?_)
   simp only[Am]
   apply Ah [b2,b3,b4,b6] [u] [] [] ZH
   · exact ⟨rfl,by simp[go_sem]⟩
   · rw [Adi hc2 ZO ZO];simp[Aj,Bj,Ay,A3,At]
  refine Zk ?_
  refine Aa.cut 5 λK_ hK_=>?_
  simp only[List.take_succ_cons,List.take_zero,List.drop_succ_cons,List.drop_zero]
  simp only[go_sem, *]
  refine Kp (he:=by first|rfl|kernel_rfl) (rows:=[[.d (.str x.box),.d (.int .i64 1),.nils]]) rfl rfl (show BL prog 51=some (94,3,48) by simp only[go_sem]) (by rfl) rfl ZD (Nat.zero_lt_succ _) λbn fbn=>?_
  try simp only[Ab] at fbn
  refine Zy ?_
  refine Fx rfl (BO.pm (DT [_,_,_,_,_] ..).symm) ?_
  refine FY (b0:=bb) (c0:=cb) (rows:=Au l) (b1:=bn) (ob1:=⟨3,1,[[.d (.str x.box),.d (.int .i64 1),.nils]]⟩) rfl rfl (by rw[AF];rfl) rfl (λh=>by rw[hcb h];rfl) rfl (by simp[A9]) rfl rfl ZX (show BL prog 51=some (94,3,48) by simp only[go_sem]) (by first|(simp only[go_sem];done)|rfl) rfl (E3 l) rfl (Nat.zero_lt_succ _) (by simp only[AF,List.length_cons,List.length_nil];omega) (by simp only[AF,List.length_cons,List.length_nil];omega) λbm cm hcm fbm=>?_
  simp only[List.cons_append,List.nil_append,Ab] at fbm⊢
  simp only[go_sem, *]
  refine hK_ _ _ ?_
  refine Zn 12 ?_
  refine CA (b:=bm) (i:=l.length) (j:=2) (k:=3) (ob:=⟨3,cm,Au l++[[.d (.str x.box),.d (.int .i64 1),.nils]]⟩) (r:=[.d (.str x.box),.d (.int .i64 1),.nils]) (by simp[A9]) (by simp[Au]) rfl ?_
  refine Aa.leH (BO.ord [bn] [] [b6,b4,b3,b2,bm] [] _) ?_
  simp only[go_sem, *]
  refine Aa.leH (Dj (h':=⟨(b6,⟨2,1,[[mA bm 3 cm (l++[(⟨⟨x.box,1,[]⟩,0,0,λ_=>rfl⟩:BM)]).length,.own u 6 (At (s.spool))]]⟩)::(b4,⟨2,1,[[.nils,.nils]]⟩)::(b3,⟨6,1,[C7 x]⟩)::(b2,⟨2,1,[An s]⟩)::mO bm 3 cm (Au (l++[(⟨⟨x.box,1,[]⟩,0,0,λ_=>rfl⟩:BM)])) (A8 (l++[(⟨⟨x.box,1,[]⟩,0,0,λ_=>rfl⟩:BM)]) F),u::L⟩) ?_) ?_
  · rw [<-Hm,MG _ _ _ rfl,Bk hcm,AG hcm];simp[CP,CF,Au,C7,An,hc2]
  refine Cj (b7:=b6) (l:=(l++[(⟨⟨x.box,1,[]⟩,0,0,λ_=>rfl⟩:BM)])) (F:=F) [_,_,_] (λh=>absurd h ZO) ?_
  simp only[List.cons_append,List.nil_append]
  rw[Hl,hl]
  refine Zp 3 (Aa.ret ?_)
  simp only[Am]
  apply Ah [b2,b3,b4,b6] [u] [] [] ZH
  · exact ⟨rfl,by simp[go_sem]⟩
  · rw [Yb hc2 ZO ZO];simp[Aj,Bj,Ay,A3,At]
 refine Zk ?_
 refine Zs (Zp 159 ?_)
 refine Zc (λhc5=>?_) λhc5=>?_
 ·refine Zy ?_
  refine Cj (b7:=b6) (l:=l) (F:=F) [_,_,_] hcb ?_
  simp only[List.cons_append,List.nil_append]
  rw[hl]
  refine Zp 12 (Aa.ret ?_)
  simp only[Am]
  apply Ah [b2,b3,b4,b6] [u] [] [] ZH
  · exact ⟨rfl,by simp[go_sem]⟩
  · rw [Yd hc0 hc2 ZO];simp[Aj,Bj,Ay,A3,At]
 obtain⟨i,hfi⟩:=Int.eq_ofNat_of_zero_le hc5
 have hi:i<s.boxes.length:=Hr hfi
 have hii:(i:Int)<(s.boxes.length:Int):=by omega
 have hgi:s.boxes[i]?=some (s.boxes[i]'hi):=List.getElem?_eq_getElem hi
 have hI:=inv.al _ (List.getElem_mem hi)
 have hI1:=hI.1
 have hU:=iu _ (List.getElem_mem hi)
 have zf1:=λd0_=>BG s.boxes i d0_ hi
 refine Zk ?_
 refine Zs (Zp 287 ?_)
 refine Zc (λhc6=>?_) λhc6=>?_
 ·refine Zy ?_
  refine Cj (b7:=b6) (l:=l) (F:=F) [_,_,_] hcb ?_
  simp only[List.cons_append,List.nil_append]
  rw[hl]
  refine Zx ?_
  simp only[go_sem, *]
  refine ZA [] [] (AaC T s i x.flags x.text inv hi h0.2.2 _ _) ?_
  rintro _ _ ⟨rfl,rfl⟩
  refine Zy ?_
  intro bz1 fbz1
  try simp only[Ab] at fbz1
  refine Zm 100 ?_
  refine Zp 3 (Aa.ret ?_)
  simp only[Am]
  apply Ah [b2,b3,b4,b6,bz1] [u] [] [] ZH
  · exact ⟨rfl,by simp[go_sem]⟩
  · rw [J3 hc0 hc2 hfi,XO hc6];simp[Aj,Bj,Ay,A3,At]
 refine Zk ?_
 refine Zp 63 ?_
 refine Zp 127 ?_
 refine Zs (Zp 255 ?_)
 refine Aa.block (Zy ?_)
 refine Qq 10 3 rfl rfl ?_
 refine Zy ?_
 refine Zl 31 224 (λn lc hc=> ∃(k m c:Nat),n=(s.boxes[i]'hi).mails.length-k/\Av lc [(10,mA m 3 c (BU ((s.boxes[i]'hi).mails.take k)).length),(11,.d (.int .i64 (Cl (λm:B2=>decide (m.uid=x.uid)) ((s.boxes[i]'hi).mails.take k)))),(12,.d (.int .i64 k))]/\Av hc (⟨(b6,⟨2,1,[[mA bb 3 cb l.length,.own u 6 (At (s.spool))]]⟩)::(b4,⟨2,1,[[.nils,.nils]]⟩)::(b3,⟨6,1,[C7 x]⟩)::(b2,⟨2,1,[An s]⟩)::mO m 3 c (As (A4 (BU ((s.boxes[i]'hi).mails.take k)))) (mO bb 3 cb (Au l) (A8 l F)),u::L⟩)/\(k<=(s.boxes[i]'hi).mails.length)/\(c=0->BU ((s.boxes[i]'hi).mails.take k)=[])) ?_ ?_
 · refine ⟨_,0,0,0,rfl,?_,?_,?_,?_⟩
   · (try simp only[go_sem])<;>first|exact⟨rfl⟩|(constructor;simp[BU,Cl,CF])
   · (try simp only[go_sem])<;>first|exact⟨rfl⟩|(constructor;simp[BU,D9,A4,As])
   all_goals(first|omega|(simp[BU]))
 rintro _ _ _ ⟨k,m,c,rfl,⟨rfl⟩,⟨rfl⟩,h1,hmc⟩
 refine Zy ?_
 refine Zs (Zp 65791 ?_)
 refine Zc (λhc7=>?_) λhc7=>?_
 ·have hkl:k<(s.boxes[i]'hi).mails.length:=by omega
  have hki:(k:Int)<((s.boxes[i]'hi).mails.length:Int):=by omega
  have hfm:=hI.2.2 _ (List.getElem_mem hkl)
  have hf2:=hfm.1
  have hf3:=hfm.2.1
  have hkm:(BU ((s.boxes[i]'hi).mails.take k)).length<=k:=Nat.le_trans (List.length_filter_le _ _) (by simp;omega)
  have zf2:=λd0_=>CG _ _ d0_ hkl
  refine Zk ?_
  refine Zs (Aa.block (Zx ?_))
  simp only[go_sem, *]
  intro b13 fb13
  try simp only[Ab] at fb13
  refine Zm 511 ?_
  refine Zs (Zx ?_)
  simp only[go_sem,fb13]
  refine⟨⟨by decide,by rw[Int.tdiv_eq_ediv_of_nonneg hfm.1];omega,by rw[Int.tdiv_eq_ediv_of_nonneg hfm.1];omega⟩,by decide,?_⟩
  refine Zm 8703 ?_
  refine Zc (λhc8=>?_) λhc8=>?_
  ·have hk8:=R4 hkl (AgH hfm.1 hc8)
   refine Zq λK_ k_=>?_
   simp only[go_sem,fb13]
   refine Fx rfl (BO.pm (DT [_,_,_,_,_] ..).symm) ?_
   refine Di (b0:=m) (c0:=c) (rows:=As (A4 (BU ((s.boxes[i]'hi).mails.take k)))) rfl rfl (by rw[AB,AA];rfl) rfl (λh=>by rw[hmc h];rfl) rfl (show BL prog 92=some (112,3,32) by simp only[go_sem]) rfl rfl (Fq _) rfl ZX (by simp only[AB,AA,List.length_cons,List.length_nil];omega) (by simp only[AB,AA,List.length_cons,List.length_nil];omega) λbm cm hcm fbm=>?_
   simp only[AB,AA,List.length_cons,List.length_nil,List.cons_append,List.nil_append,Ab] at fbm⊢
   refine Zy ?_
   refine k_ _ _ (Ac ?_)
   refine Zm 511 ?_
   refine Zp 8447 ?_
   refine Zc (λhc9=>?_) λhc9=>?_
   ·have hk9:=AaO hU.1 hkl hc9
    refine Zr (Ai (Ac ?_))
    refine Z6 ?_
    refine Ze 31 224 [b13] [] [b6,b4,b3,b2] [u] (.e ⟨_,ZM,k+1,bm,cm,rfl,?_,?_,?_,?_⟩)
    · (try simp only[go_sem,hk8,hk9])<;>first|exact⟨rfl⟩|(constructor;simp[AG hcm])
    · (try simp only[go_sem,fb3,fb4,fb6,fb13,hk8,fbm])<;>first|exact⟨rfl⟩|(constructor;rw[Bk hcm];first|(simp only[As,A4,List.map_append,List.map_cons,List.map_nil,CJ];done)|(simp only[As,A4,List.map_append,List.map_cons,List.map_nil,CJ,hc9];done))
    · omega
    · exact λh=>absurd h ZO
   have hk9:=AaP hkl hc9
   refine Z5 ?_
   refine Z6 ?_
   refine Ze 31 224 [b13] [] [b6,b4,b3,b2] [u] (.e ⟨_,ZM,k+1,bm,cm,rfl,?_,?_,?_,?_⟩)
   · (try simp only[go_sem,hk8,hk9])<;>first|exact⟨rfl⟩|(constructor;simp[AG hcm])
   · (try simp only[go_sem,fb3,fb4,fb6,fb13,hk8,fbm])<;>first|exact⟨rfl⟩|(constructor;rw[Bk hcm];first|(simp only[As,A4,List.map_append,List.map_cons,List.map_nil,CJ];done)|(simp only[As,A4,List.map_append,List.map_cons,List.map_nil,CJ,hc9];done))
   · omega
   · exact λh=>absurd h ZO
  have hk8:=UF hkl (AgG hfm.1 hc8)
  refine Zk ?_
  refine Zp 16639 ?_
  refine Zc (λhc9=>?_) λhc9=>?_
  ·have hk9:=AaO hU.1 hkl hc9
   refine Zr (Ai (Ac ?_))
   refine Z6 ?_
   refine Ze 31 224 [b13] [] [b6,b4,b3,b2] [u] (.e ⟨_,ZM,k+1,m,c,rfl,?_,?_,?_,?_⟩)
   · (try simp only[go_sem,hk8,hk9])<;>first|exact⟨rfl⟩|(constructor;rfl)
   · (try simp only[go_sem,fb3,fb4,fb6,fb13,hk8])<;>first|exact⟨rfl⟩|(constructor;rfl)
   · omega
   · rw [hk8];exact hmc
  have hk9:=AaP hkl hc9
  refine Z5 ?_
  refine Z6 ?_
  refine Ze 31 224 [b13] [] [b6,b4,b3,b2] [u] (.e ⟨_,ZM,k+1,m,c,rfl,?_,?_,?_,?_⟩)
  · (try simp only[go_sem,hk8,hk9])<;>first|exact⟨rfl⟩|(constructor;rfl)
  · (try simp only[go_sem,fb3,fb4,fb6,fb13,hk8])<;>first|exact⟨rfl⟩|(constructor;rfl)
  · omega
  · rw [hk8];exact hmc
 have hk:k=(s.boxes[i]'hi).mails.length:=by omega
 subst hk
 simp only[List.take_length] at hmc⊢
 refine Z4 ?_
 refine Zs (Zp 2175 ?_)
 refine Zc (λhc10=>?_) λhc10=>?_
 ·have hlen:l.length<=s.boxes.length/\s.boxes.length<=l.length:=by rw[<-hl];simp[CM]
  have hil:i<l.length:=by omega
  have hcb0:0<cb:=Nat.pos_of_ne_zero λe=>by have:=hcb e;rw[this] at hil;exact absurd hil (Nat.not_lt_zero _)
  obtain⟨z,hz⟩:∃z,l[i]?=some z:=⟨_,List.getElem?_eq_getElem hil⟩
  have hzb:z.b=s.boxes[i]:=by have h1:=Mg hz;rw[hl,hgi] at h1;exact(Option.some.inj h1).symm
  have hgz:s.boxes[i]?=some z.b:=by rw[hzb];exact hgi
  rw[<-hzb] at hmc
  simp only[AG hcb0,Bk hcb0]
  refine Aa.pm (List.Perm.append_left [_,_,_,_] (PH ..).symm) ?_
  simp only[List.cons_append,List.nil_append]
  refine Aa.nd λhnd=>?_
  obtain⟨n1,n2,n3,n4⟩:=nd5 hnd
  clear hnd
  have zf3:=AY n1
  have zf4:=AZ n1
  have zf5:=AY n2
  have zf6:=AZ n2
  have zf7:=AY n3
  have zf8:=AZ n3
  have zf9:=AY n4
  have zf10:=AZ n4
  have zf11:=Db hz
  have zf12:=λa=>List.getElem?_set_self (a:=a) (show i<(Au l).length by rw[AF];exact hil)
  have zf13:=λb k n=>AG (b:=b) (k:=k) (n:=n) hcb0
  refine Zp 12 ?_
  refine Zy ?_
  refine Aa.leH (Dj (h':=⟨(b6,⟨2,1,[[mA bb 3 cb l.length,.own u 6 (At (s.spool))]]⟩)::(b4,⟨2,1,[[.nils,.nils]]⟩)::(b3,⟨6,1,[C7 x]⟩)::(b2,⟨2,1,[An s]⟩)::(bb,⟨3,cb,Au (l.set i (⟨⟨z.b.name,z.b.next,BU z.b.mails⟩,m,c,hmc⟩:BM))⟩)::mO m 3 c (As (A4 (BU z.b.mails))) (A8 l F),u::L⟩) ?_) ?_
  · rw [<-Dc];simp[CP,AG hcb0,C7,An,hzb,hc10]
  refine Aa.leH (XI [_,_,_,_,_] (⟨⟨z.b.name,z.b.next,BU z.b.mails⟩,m,c,hmc⟩:BM) F _ hz) ?_
  simp only[List.cons_append,List.nil_append,AG hcb0]
  refine Ia (F:=F) [_,_,_] hcb0 ZX ?_
  rw[EP,hl]
  simp only[List.cons_append,List.nil_append]
  refine Zp 3 (Aa.ret ?_)
  simp only[Am]
  apply Ah [b2,b3,b4,b6] [u] [] [] ZH
  · exact ⟨rfl,by simp[go_sem]⟩
  · rw [J3 hc0 hc2 hfi,SD hc10 hgi];simp[List.map_set,Aj,Bj,Ay,A3,At]
 refine Aa.leH (NJ [_,_,_,_] _ _ _ _ _ _) ?_
 simp only[List.cons_append,List.nil_append]
 refine Zk ?_
 refine Zs (Zp 607 ?_)
 refine Zc (λhc11=>?_) λhc11=>?_
 ·refine Zy ?_
  refine Cj (b7:=b6) (l:=l) (F:=F) [_,_,_] hcb ?_
  simp only[List.cons_append,List.nil_append]
  rw[hl]
  refine Zp 12 (Aa.ret ?_)
  simp only[Am]
  apply Ah [b2,b3,b4,b6] [u] [] [] ZH
  · exact ⟨rfl,by simp[go_sem]⟩
  · rw [J3 hc0 hc2 hfi,Aen hc6 hc10 hgi hc11];simp[Aj,Bj,Ay,A3,At]
 obtain⟨k,hki⟩:=Int.eq_ofNat_of_zero_le hc11
 have hkl:=PA hki
 have hkk:(k:Int)<((s.boxes[i]'hi).mails.length:Int):=by omega
 have hmk:(s.boxes[i]'hi).mails[k]?=some ((s.boxes[i]'hi).mails[k]'hkl):=List.getElem?_eq_getElem hkl
 have zf14:=λd0_=>CG _ _ d0_ hkl
 refine Zk ?_
 refine Zx ?_
 simp only[go_sem, *]
 intro b14 fb14
 try simp only[Ab] at fb14
 refine Zm 127 ?_
 refine Zs (Zp 639 ?_)
 refine Zc (λhc12=>?_) λhc12=>?_
 ·refine Zy ?_
  refine Aa.leH (BO.tl _ _ _) ?_
  have hlen:l.length<=s.boxes.length/\s.boxes.length<=l.length:=by rw[<-hl];simp[CM]
  have hil:i<l.length:=by omega
  have hcb0:0<cb:=Nat.pos_of_ne_zero λe=>by have:=hcb e;rw[this] at hil;exact absurd hil (Nat.not_lt_zero _)
  obtain⟨z,hz⟩:∃z,l[i]?=some z:=⟨_,List.getElem?_eq_getElem hil⟩
  have hzb:z.b=s.boxes[i]:=by have h1:=Mg hz;rw[hl,hgi] at h1;exact(Option.some.inj h1).symm
  have hgz:s.boxes[i]?=some z.b:=by rw[hzb];exact hgi
  simp only[AG hcb0,Bk hcb0]
  refine Aa.nd λhnd=>?_
  obtain⟨n1,n2,n3,n4⟩:=nd5 hnd
  clear hnd
  have hzc:0<z.c:=Nat.pos_of_ne_zero λe=>by have:=z.ok e;rw[hzb] at this;rw[this] at hkl;exact absurd hkl (Nat.not_lt_zero _)
  have hkz:(k:Int)<(z.b.mails.length:Int):=by rw[hzb];exact hkk
  have hmz:z.b.mails[k]?=some ((s.boxes[i]'hi).mails[k]'hkl):=by rw[hzb];exact hmk
  refine Aa.pm (IR [_,_,_,_,_] hz hzc) ?_
  simp only[List.cons_append,List.nil_append]
  refine Aa.nd λhnd=>?_
  obtain⟨q1,q2,q3,q4,q5⟩:=nd6 hnd
  clear hnd
  have zf15:=AY n1
  have zf16:=AZ n1
  have zf17:=AY n2
  have zf18:=AZ n2
  have zf19:=AY n3
  have zf20:=AZ n3
  have zf21:=AY n4
  have zf22:=AZ n4
  have zf23:=Db hz
  have zf24:=λa=>List.getElem?_set_self (a:=a) (show i<(Au l).length by rw[AF];exact hil)
  have zf25:=λb k n=>AG (b:=b) (k:=k) (n:=n) hcb0
  have zf26:=λb k n=>AG (b:=b) (k:=k) (n:=n) hzc
  have zf27:=IU hmz
  have zf28:=AY q1
  have zf29:=AZ q1
  have zf30:=AY q2
  have zf31:=AZ q2
  have zf32:=AY q3
  have zf33:=AZ q3
  have zf34:=AY q4
  have zf35:=AZ q4
  have zf36:=AY q5
  have zf37:=AZ q5
  refine Zd true [0,1,2,3,4,5,6,7,8,9,10,11] ?_
  simp only[go_sem,fb3,fb4,fb6,zf15,zf16,zf17,zf19,zf20,zf21,zf23,hkz,zf26,zf27,zf28,zf29,zf31,zf32,zf33,zf35,zf36,zf37]
  (repeat(with_reducible refine And.intro ZS ?_))
  refine Zm 12 ?_
  refine Zy ?_
  refine Aa.leH (Dj (h':=⟨Qk (⟨EB z.b k x.flags,z.m,z.c,λh=>absurd h ZO⟩:BM)::(b6,⟨2,1,[[mA bb 3 cb l.length,.own u 6 (At (s.spool))]]⟩)::(b4,⟨2,1,[[.nils,.nils]]⟩)::(b3,⟨6,1,[C7 x]⟩)::(b2,⟨2,1,[An s]⟩)::(bb,⟨3,cb,Au (l.set i (⟨EB z.b k x.flags,z.m,z.c,λh=>absurd h ZO⟩:BM))⟩)::A8 (l.eraseIdx i) F,u::L⟩) ?_) ?_
  · rw [Lj hz (by simp[CP,EB,hmz])];simp[Qk,EB,hmz,A4,As,CJ,List.map_set,C7,An,AG hcb0]
  refine Aa.pm (Md [_,_,_,_,_] (⟨EB z.b k x.flags,z.m,z.c,λh=>absurd h ZO⟩:BM) hil hzc) ?_
  simp only[List.cons_append,List.nil_append,AG hcb0]
  refine Ia (F:=F) [_,_,_] hcb0 ZX ?_
  rw[EP,hl]
  simp only[List.cons_append,List.nil_append]
  refine Zp 3 (Aa.ret ?_)
  simp only[Am]
  apply Ah [b2,b3,b4,b6] [u] [] [] ZH
  · exact ⟨rfl,by simp[go_sem]⟩
  · rw [J3 hc0 hc2 hfi,Adc hc12 hgi hki];simp[List.map_set,Aj,Bj,Ay,A3,At]
 refine Zk ?_
 refine Zn 71 ?_
 refine Aa.pm (List.Perm.swap ..) ?_
 refine Cj (b7:=b6) (l:=l) (F:=F) [_,_,_,_] hcb ?_
 simp only[List.cons_append,List.nil_append]
 rw[hl]
 refine Z1 29 (L7 T s.boxes x.dest (Nat.le_trans ibx ZD)) ?_
 refine Zs (Zp 47 ?_)
 refine Zc (λhc13=>?_) λhc13=>?_
 ·refine Zp 6 (Aa.ret ?_)
  simp only[Am]
  apply Ah [b2,b3,b4,b6,b14] [u] [] [] ZH
  · exact ⟨rfl,by simp[go_sem,fb14]⟩
  · rw [J3 hc0 hc2 hfi,Ada hc6 hc10 hc12 hgi hki hc13];simp[Aj,Bj,Ay,A3,At]
 obtain⟨j,hfj⟩:=Int.eq_ofNat_of_zero_le hc13
 have hjl:j<s.boxes.length:=Hr hfj
 refine Zk ?_
 refine Zx ?_
 simp only[go_sem, *]
 refine ZA [] [] (AaC T s j ((s.boxes[i]'hi).mails[k]'hkl).flags ((s.boxes[i]'hi).mails[k]'hkl).text inv hjl (hI.2.2 _ (List.getElem_mem hkl)).2.2 _ _) ?_
 rintro _ _ ⟨rfl,rfl⟩
 refine Zy ?_
 intro bz2 fbz2
 try simp only[Ab] at fbz2
 refine Zm 50 ?_
 refine Zp 3 (Aa.ret ?_)
 apply Ah [b2,b3,b4,b6,b14,bz2] [u] [] [] ZH
 · exact ⟨rfl,by simp[go_sem,fb14]⟩
 · rw [J3 hc0 hc2 hfi,Adb hc6 hc10 hc12 hgi hki hfj hmk];simp[Aj,Bj,Ay,A3,At]
end
section
theorem WA (T:Ap) (s:St) (x:BN) (inv:GY s) (iu:Wc s) (hx:En x=0):PC prog T 102 [.agg (An s),.agg (C7 x)] (.tup [.agg (An (Iv s x).1),.d (.int .i64 (Iv s x).2)]):=
 PC.of_ac ((Wz T s x inv iu hx [] []).mono λr h hh=>hh.1) (by simp[Aj,Bj,Ay,An])
theorem Abg {P:Program} {T:Ap} {Q:AQ} {sl:List AV} {code:Code} {L:List Nat} {p q:Nat×Ob} {F:Af} (hl:Cy [p] [q]) (H:Aa P T code Q sl ⟨q::F,L⟩):Aa P T code Q sl ⟨p::F,L⟩:=by
 have e:p.1=q.1:=by unfold Cy at hl;exact hl.1
 have ef:(p::F).map Prod.fst=(q::F).map Prod.fst:=by simp[e]
 refine Aa.leH (h':=⟨q::F,L⟩) (λT G w S=>⟨S.below,S.glob,S.frz,S.fin,λx hx=>?_,?_,S.liv,S.tdis,?_,S.lnd⟩) H
 ·rcases List.mem_cons.1 hx with rfl|hx
  ·exact Cy.obj hl (λy hy=>S.obj y (by rw[List.mem_singleton.1 hy];exact List.mem_cons_self ..)) _ (List.mem_singleton.2 rfl)
  ·exact S.obj x (List.mem_cons_of_mem _ hx)
 ·have:=S.nd
  rw[ef] at this
  exact this
 ·intro t ht g hg
  have:=S.todis t ht g
  rw[ef] at this
  exact this hg
theorem Ae4 {s:St} {l:List BN} (h:¬(if Ft s=0/\10<l.length then(1:Int) else Ft s)=0):E2 s l=(⟨[],[]⟩,if Ft s=0/\10<l.length then(1:Int) else Ft s):=by
 unfold E2
 by_cases h0:Ft s=0
 ·by_cases h1:10<l.length
  ·simp[h0,h1]
  ·simp[h0,h1] at h
 ·simp[h0]
theorem Ae8 {s:St} {l:List BN} (h:(if Ft s=0/\10<l.length then(1:Int) else Ft s)=0):Ft s=0/\¬10<l.length:=by
 by_cases h0:Ft s=0
 ·by_cases h1:10<l.length
  ·simp[h0,h1] at h
  ·exact⟨h0,h1⟩
 ·simp[h0] at h
theorem SO {s:St} {l:List BN} (h:Ft s=0/\¬10<l.length):E2 s l=Ha s l:=by rw[E2,if_neg (by simp[h.1]),if_neg h.2]
theorem XW:∀(l:List BN) {s:St},GY s->GY (Ha s l).1
 |[],s,h=>h
 |x::r,s,h=>by
  rw[Ha]
  split
  ·exact⟨by simp,by simp,λy hy=>by cases hy⟩
  rename_i hx
  split
  ·exact⟨by simp,by simp,λy hy=>by cases hy⟩
  ·exact XW r (Ya h ZO)
theorem Ae7 (s:St) (l:List BN):GY (E2 s l).1:=by
 unfold E2
 split
 ·exact⟨by simp,by simp,λy hy=>by cases hy⟩
 rename_i h
 split
 ·exact⟨by simp,by simp,λy hy=>by cases hy⟩
 ·exact XW l (Sh ZO)
attribute [local go_sem] Bc D8 C7 in
theorem VN (T:Ap) (hL:Bw T) (s:St) (l:List BN) (ok:LY s) (okl:∀x∈l,Fy x) (F:Af) (L:List Nat):AC prog T 51 [.agg (An s),.d (.slc 6 (At l))] (⟨F,L⟩) (λr h=>r= .ret (.tup [.agg (An (E2 s l).1),.d (.int .i64 ((E2 s l).2))])/\h=⟨F,L⟩):=by
 refine⟨call51,Ao.enterS func51 rfl ntmps51 rfl λhb=>?_⟩
 simp only[go_sem,results51]
 refine Zx (Zy ?_)
 intro b2 fb2
 try simp only[Ab] at fb2
 intro b4 fb4
 try simp only[Ab] at fb4
 refine Z1 46 (Jw T hL s ok) ?_
 refine Zs (Zp 1039 ?_)
 refine Zy ?_
 refine Zi 7 (λlc hc=>Av lc [(6,.d (.int .i64 (if Ft s=0/\10<l.length then(1:Int) else Ft s)))]/\Av hc (⟨(b4,⟨2,1,[[.nils,.nils]]⟩)::(b2,⟨2,1,[An s]⟩)::F,L⟩)) ?_ ?_
 ·refine Zc (λhc0=>?_) λhc0=>?_
  ·refine Z6 ?_
   refine Ze 7 8 [] [] [b4,b2] [] (.e ⟨?_,ZG⟩)
   · (try simp only[go_sem])<;>first|exact⟨rfl⟩|(constructor;first|(rw[if_pos (show Ft s=0/\10<l.length from⟨by omega,by omega⟩)];done)|(rw[if_neg (show¬(Ft s=0/\10<l.length) by omega)];done))
  refine Zk ?_
  refine Ze 7 8 [] [] [b4,b2] [] (.e ⟨?_,ZG⟩)
  · (try simp only[go_sem])<;>first|exact⟨rfl⟩|(constructor;first|(rw[if_pos (show Ft s=0/\10<l.length from⟨by omega,by omega⟩)];done)|(rw[if_neg (show¬(Ft s=0/\10<l.length) by omega)];done))
 rintro _ _ ⟨⟨rfl⟩,⟨rfl⟩⟩
 refine Zy ?_
 refine Zs (Zp 47 ?_)
 refine Zc (λhc1=>?_) λhc1=>?_
 ·refine Zp 12 (Aa.ret ?_)
  simp only[Am]
  apply Ah [b2,b4] [] [] [] ZH
  · exact ⟨rfl,by simp[go_sem]⟩
  · rw [Ae4 hc1];simp[Aj,Bj,Ay,A3,At]
 have hok:=Ae8 hc1
 have inv0:=Sh hok.1
 have iu0:=AhA hok.1
 refine Zk ?_
 refine Zx ?_
 simp only[go_sem,fb4]
 refine ZA [] [] (Pu T s (Nat.le_trans inv0.bx ZD) (λy hy=>Nat.le_trans (inv0.al y hy).1 ZD) (Nat.le_trans inv0.sp ZD) [_,_] _ _) ?_
 rintro _ _ ⟨l0,bb0,cb0,u,hl0,hcb0,hu0,rfl,rfl⟩
 simp only[List.cons_append,List.nil_append]
 have e1:=Fs
 simp only[AV.plain,AV.one] at e1
 have e2:=Fj
 unfold AV.cells at e2
 try simp only[Ae,Ab] at e1
 try simp only[Ae,Ab] at e2
 refine Zy ?_
 intro b7 fb7
 try simp only[Ab] at fb7
 refine Zm 21 ?_
 refine Zs (Zy ?_)
 refine Cj (b7:=b7) (l:=l0) (F:=F) [_,_] hcb0 ?_
 simp only[List.cons_append,List.nil_append]
 rw[hl0]
 refine Abg (q:=(b7,⟨2,1,[An s]⟩)) (by simp[Cy,Cv,Aj,Bj,Ay,AV.one,An]) ?_
 refine Zp 15 ?_
 refine Aa.block (Zy ?_)
 refine Zl 7 8 (λn lc hc=> ∃(k:Nat) (s2:St),n=l.length-k/\Av lc [(8,.d (.int .i64 k))]/\Av hc (⟨(b7,⟨2,1,[An s2]⟩)::(b4,⟨2,1,[[.nils,.nils]]⟩)::(b2,⟨2,1,[An s]⟩)::F,u::L⟩)/\(k<=l.length)/\(GY s2)/\(Wc s2)/\(Ha s l=Ha s2 (l.drop k))) ?_ ?_
 · refine ⟨_,0,s,rfl,ZE,ZE,?_,?_,?_,?_⟩
   all_goals(first|omega|assumption|rfl)
 rintro _ _ _ ⟨k,s2,rfl,⟨rfl⟩,⟨rfl⟩,h1,h2,h3,h5⟩
 refine Zy ?_
 refine Zs (Zp 143 ?_)
 refine Zc (λhc2=>?_) λhc2=>?_
 ·have hlt:k<l.length:=by omega
  have zf1:=λd0_=>DG l k d0_ hlt
  refine Zk ?_
  refine Zs (Aa.block (Zx ?_))
  simp only[go_sem,zf1]
  (repeat(with_reducible refine And.intro ZS ?_))
  refine Aw rfl rfl rfl rfl (Jq T hL (okl _ (List.getElem_mem hlt))) rfl rfl ?_
  refine Zy ?_
  refine Zm 31 ?_
  refine Zs (Zp 95 ?_)
  refine Zc (λhc3=>?_) λhc3=>?_
  ·refine Zp 6 (Aa.ret ?_)
   simp only[Am,Bo]
   apply Ah [b2,b4,b7] [u] [] [] (by(try simp only[go_sem,fb4,fb7])<;>rfl)
   · exact ⟨rfl,by simp[go_sem]⟩
   · rw [SO hok,h5,Adf hlt hc3];simp[Aj,Bj,Ay,A3,At]
  refine Zk ?_
  refine L4 true [] [0,1,2,3,4,5,6,7,8] [9] 10 [11] rfl (by kernel_rfl) rfl λK_ hK_=>?_
  refine Zy ?_
  refine Exists.intro (λh':AH=>A9 b7 h'.objs=some ⟨2,1,[An s2]⟩) (And.intro (by simp[A9,An]) ?_)
  refine Zy ?_
  refine FF rfl rfl (λh' m1=>(by first|rfl|(simp only[go_sem,m1];first|done|rfl|exact⟨by omega,rfl⟩))) ?_
  refine Zy ?_
  refine Fb.op rfl (λh'=>(by first|rfl|(simp only[go_sem];first|done|rfl|exact⟨by omega,rfl⟩))) ?_
  refine Zy ?_
  refine Fb.op rfl (λh'=>(by first|rfl|(simp only[go_sem];first|done|rfl|exact⟨by omega,rfl⟩))) ?_
  refine Zy ?_
  refine Fb.op rfl (λh'=>(by first|rfl|(simp only[go_sem];first|done|rfl|exact⟨by omega,rfl⟩))) ?_
  refine Zy ?_
  refine FF rfl rfl (λh' m1=>(by first|rfl|(simp only[go_sem,zf1];first|done|rfl|exact⟨by omega,rfl⟩))) ?_
  refine Zy ?_
  refine Fb.call rfl rfl rfl rfl (WA T s2 (l[k]'hlt) h2 h3 ZO) rfl rfl ?_
  refine Zy ?_
  refine Fb.op rfl (λh'=>(by first|rfl|(simp only[go_sem];first|done|rfl|exact⟨by omega,rfl⟩))) ?_
  refine Zy ?_
  refine Fb.op rfl (λh'=>(by first|rfl|(simp only[go_sem];first|done|rfl|exact⟨by omega,rfl⟩))) ?_
  refine Zy ?_
  refine Fb.op rfl (λh'=>(by first|rfl|(simp only[go_sem];first|done|rfl|exact⟨by omega,rfl⟩))) ?_
  refine Zy ?_
  refine Fb.nil ?_
  refine AN _ _ _ ?_
  simp only[go_sem,fb7]
  intro b10
  first|intro fb10|have fb10:=True.intro
  try simp only[Ab] at fb10
  simp only[go_sem,fb10]
  first|with_reducible refine And.intro (by simp[A9,An,fb2,fb4,fb7,zf1,fb10]) ?_|skip
  refine AN _ _ _ ?_
  simp only[go_sem,fb10]
  refine hK_ _ _ ?_
  refine Zm 111 ?_
  refine Zs (Zp 191 ?_)
  refine Zc (λhc4=>?_) λhc4=>?_
  ·refine Zp 6 (Aa.ret ?_)
   simp only[Am,Bo]
   apply Ah [b2,b4,b7,b10] [u] [] [] (by(try simp only[go_sem,fb4,fb7,fb10])<;>rfl)
   · exact ⟨rfl,by simp[go_sem]⟩
   · rw [SO hok,h5,Ade hlt ZO hc4];simp[Aj,Bj,Ay,A3,At]
  refine Zk ?_
  refine Zr (Ai (Ac ?_))
  refine Zm 15 ?_
  refine Z6 ?_
  refine Ze 7 8 [b10] [] [b7,b4,b2] [u] (.e ⟨_,ZM,k+1,(Iv s2 (l[k]'hlt)).1,rfl,ZE,ZE,?_,?_,?_,?_⟩)
  · omega
  · exact Ya h2 ZO
  · exact Ag3 h3
  · rw [h5,Adg hlt ZO hc4]
 refine Z4 ?_
 refine Zp 6 (Aa.ret ?_)
 apply Ah [b2,b4,b7] [u] [] [] ZH
 · exact ⟨rfl,by simp[go_sem]⟩
 · rw [SO hok,h5,Uj ZO];simp[Aj,Bj,Ay,A3,At]
theorem VO (T:Ap) (hL:Bw T) (s:St) (l:List BN) (ok:LY s) (okl:∀x∈l,Fy x):PC prog T 51 [.agg (An s),.d (.slc 6 (At l))] (.tup [.agg (An (E2 s l).1),.d (.int .i64 (E2 s l).2)]):=
 PC.of_ac ((VN T hL s l ok okl [] []).mono λr h hh=>hh.1) (by simp[Aj,Bj,Ay,An])
end
section
theorem EU:∀(l:List AL) (t:Tx),0<=Bu l t↔t∈l.map AL.name
 |[],t=>by simp[Bu]
 | b::r,t=>by
  have:=JG r t
  rw[Bu,List.map_cons,List.mem_cons]
  by_cases h:b.name=t
  ·simp[h]
  ·rw[if_neg h]
   have h2:¬t=b.name:=λe=>h e.symm
   by_cases h3:Bu r t<0
   ·rw[if_pos h3]
    have h4:¬t∈r.map AL.name:=λh9=>absurd ((EU r t).2 h9) ZO
    simp only[h2,h4,or_self,iff_false]
    omega
   ·rw[if_neg h3]
    have h4:t∈r.map AL.name:=(EU r t).1 ZO
    simp only[h4,or_true,iff_true]
    omega
def nmP (a:Eb):Tx:=if a.k=5 then a.t else YW
theorem Ahx {bx:List Tx} {a:Eb} (h:a.k=5) (h2:a.t∈bx):Dp bx (nmP a)=a.t:=by rw[nmP,if_pos h,Dp,if_pos h2]
theorem Ahw {bx:List Tx} {a:Eb} (h:¬(a.k=5/\a.t∈bx)):Dp bx (nmP a)=YW:=by
 unfold nmP
 split
 ·rename_i h5
  rw[Dp,if_neg (λh9=>h ⟨h5,h9⟩)]
 ·unfold Dp;split<;>rfl
theorem NN {x:Lr} {bx:List Tx} {out:List BN} {a:Eb} (h:a.k=3\/a.k=5):EN x bx out a=ID bx x.s out (nmP a) a.f:=by
 rcases h with h|h
 ·rw[EN,if_pos h,nmP,if_neg ZO]
 ·rw[EN,if_neg ZO,if_pos h,nmP,if_pos h]
theorem Aep {x:Lr} {bx:List Tx} {out:List BN} {a:Eb} (h:a.k=6):EN x bx out a=out++[⟨6,[],0,0,a.t,x.s⟩]:=by rw[EN,if_neg ZO,if_neg ZO,if_pos h]
theorem Aeq {x:Lr} {bx:List Tx} {out:List BN} {a:Eb} (h:a.k=7):EN x bx out a=out++[⟨6,[],0,0,C6 1 (x.a1,x.a2),a.t⟩]:=by rw[EN,if_neg ZO,if_neg ZO,if_neg ZO,if_pos h]
theorem Aer {x:Lr} {bx:List Tx} {out:List BN} {a:Eb} (h:¬(a.k=3\/a.k=5)) (h6:¬a.k=6) (h7:¬a.k=7):EN x bx out a=out:=by rw[EN,if_neg ZO,if_neg ZO,if_neg h6,if_neg h7]
attribute [local go_sem] Bi Bn in
theorem Aes (T:Ap) (l:List Eb) (hl:l.length<=1000):PC prog T 85 [.d (.slc 3 (By l))] (.d (.slc 3 (By l))):=by
 refine⟨call85,Ar.enterS func85 rfl ntmps85 rfl λhb=>?_⟩
 simp only[go_sem,results85]
 refine Zp 1 ?_
 refine Zp 3 ?_
 refine Zs (Zp 7 ?_)
 refine Aa.block (Zy ?_)
 refine Bs 3 3 rfl rfl ZD λw0 fw0=>?_
 try simp only[Ae] at fw0
 refine Zy ?_
 refine Zl 1 6 (λn lc hc=> ∃(k w:Nat),n=l.length-k/\Av lc [(3,.own w 3 (By (l.take k))),(4,.d (.int .i64 (k:Nat)))]/\Av hc (⟨[],[w]⟩)/\(k<=l.length)) ⟨_,0,w0,rfl,ZE,ZE,ZI⟩ ?_
 rintro _ _ _ ⟨k,w,rfl,⟨rfl⟩,⟨rfl⟩,h1⟩
 refine Zy ?_
 refine Zs (Zp 71 ?_)
 refine Zc (λhc0=>?_) λhc0=>?_
 ·have hlt:k<l.length:=by omega
  have hki:(k:Int)<(l.length:Int):=by omega
  have zf1:=λd0_=>Jy l k d0_ hlt
  refine Zk ?_
  refine Zs (Aa.block (Zq λK_ k_=>?_))
  simp only[go_sem,zf1,hki]
  refine ZW λt1 ft1=>?_
  try simp only[Ae] at ft1
  refine Zy ?_
  refine k_ _ _ (Ai (Ac ?_))
  refine Zm 7 ?_
  refine Z6 ?_
  refine Ze 1 6 [] [] [] [t1] (.e ⟨_,ZM,k+1,t1,rfl,?_,ZE,ZN⟩)
  · (try simp only[go_sem])<;>first|exact⟨rfl⟩|(constructor;rw[Add hlt])
 have htk:l.take k=l:=List.take_of_length_le ZO
 rw[htk]
 refine Z4 ?_
 refine Zp 2 (Aa.ret ?_)
 simp only[go_sem]
 try simp[Aj,Ay]
attribute [local go_sem] No Bn in
theorem Aav (T:Ap) (c:Co) (h:c.a.length<=1000):PC prog T 49 [.agg (No c)] (.d (.slc 3 (By (C5 c)))):=by
 refine⟨call49,Ar.enterS func49 rfl ntmps49 rfl λhb=>?_⟩
 simp only[go_sem,results49]
 refine Zx (Zy ?_)
 intro b1
 first|intro fb1|have fb1:=True.intro
 try simp only[Ab] at fb1
 refine Zs (Zp 34 ?_)
 refine Zc (λhc0=>?_) λhc0=>?_
 ·refine Zp 2 (Aa.ret ?_)
  simp only[go_sem]
  rw[Y7 hc0];try simp[By,Qi]
 refine Zk ?_
 refine Zs (Zp 9 ?_)
 refine Zc (λhc1=>?_) λhc1=>?_
 ·refine Z1 2 (Aes T c.a h) ?_
  refine Aa.ret ?_
  simp only[go_sem]
  rw[Y9 ZO (by rw[hc1];decide)];try simp[Aj,Ay]
 refine Zk ?_
 refine Zp 2 (Aa.ret ?_)
 simp only[go_sem]
 rw[Y8 ZO (by simpa using hc1)];try simp[By,Qi]
attribute [local go_sem] Dw Bi Gk Bn An D8 in
theorem WX (T:Ap) (s:St) (x:Lr) (l:List Eb) (hbl:s.boxes.length<=1000) (hll:l.length<=1000) (hr:Cc x.a1 x.a2=0):PC prog T 50 [.agg (An s),.agg (Dw x),.d (.slc 3 (By l))] (.d (.slc 6 (At (BI s x l)))):=by
 refine⟨call50,Ar.enterS func50 rfl ntmps50 rfl λhb=>?_⟩
 obtain⟨_,_,hrl⟩:=G5 hr
 simp only[go_sem,results50]
 refine Zx (Zy ?_)
 intro b3
 first|intro fb3|have fb3:=True.intro
 try simp only[Ab] at fb3
 intro b4
 first|intro fb4|have fb4:=True.intro
 try simp only[Ab] at fb4
 refine Zp 92 ?_
 refine Zy ?_
 refine Bs 7 6 rfl rfl ZD λo0 fo0=>?_
 try simp only[Ae] at fo0
 refine Zy ?_
 refine Zs (Zp 31 ?_)
 refine Aa.block (Zy ?_)
 refine Zl 7 24 (λn lc hc=> ∃(q v:Nat),n=l.length-q/\Av lc [(7,.own v 6 (At (BI s x (l.take q)))),(8,.d (.int .i64 (q:Nat)))]/\Av hc (⟨(b4,⟨5,1,[[.d (.str x.a1),.d (.str x.a2),.d (.str x.c1),.d (.str x.c2),.d (.str x.s)]]⟩)::(b3,⟨2,1,[An s]⟩)::[],[v]⟩)/\(q<=l.length)/\((BI s x (l.take q)).length<=q)) ?_ ?_
 · refine ⟨_,0,o0,rfl,?_,ZE,?_,?_⟩
   · (try simp only[go_sem])<;>first|exact⟨rfl⟩|(constructor;rfl)
   all_goals(first|omega|exact Nat.zero_le _|(simp[BI];done))
 rintro _ _ _ ⟨q,v,rfl,⟨rfl⟩,⟨rfl⟩,g1,g3⟩
 refine Zy ?_
 refine Zs (Zp 287 ?_)
 refine Zc (λhc0=>?_) λhc0=>?_
 ·have hlt:q<l.length:=by omega
  have hqi:(q:Int)<(l.length:Int):=by omega
  have zf1:=λd0_=>Jy l q d0_ hlt
  refine Zk ?_
  refine Zs (Aa.block (Zx ?_))
  simp only[go_sem,zf1,hqi]
  intro b9 fb9
  try simp only[Ab] at fb9
  refine Zm 63 ?_
  refine Zs (Zp 319 ?_)
  refine Zc (λhc1=>?_) λhc1=>?_
  ·refine Zq λK_ k_=>?_
   simp only[go_sem,fb4,fb9]
   refine ZW λt1 ft1=>?_
   try simp only[Ae] at ft1
   refine Zy ?_
   refine k_ _ _ (Ac ?_)
   refine Zm 63 ?_
   refine Zs (Zp 319 ?_)
   refine Zc (λhc2=>?_) λhc2=>?_
   ·omega
   refine Zk ?_
   refine Zs (Zp 16447 ?_)
   refine Zc (λhc3=>?_) λhc3=>?_
   ·refine Aa.exit (Ak (Bh (Ac ?_)))
    refine Z6 ?_
    refine Ze 7 24 [b9] [] [b4,b3] [t1] (.e ⟨_,ZM,q+1,t1,rfl,?_,ZE,?_,?_⟩)
    · (try simp only[go_sem])<;>first|exact⟨rfl⟩|(constructor;rw[D1 hlt,Aep hc1];simp only[At,List.map_append,List.map_cons,List.map_nil,D8])
    · omega
    · rw [D1 hlt];have:=Fc x (s.boxes.map AL.name) (BI s x (l.take q)) l[q];omega
   omega
  refine Zk ?_
  refine Zs (Zp 575 ?_)
  refine Zc (λhc2=>?_) λhc2=>?_
  ·refine Zt true [0,1,2,3,4,5,6,7,8,9] λK_ k_=>?_
   simp only[go_sem,fb4,fb9]
   refine ZP (JZ T 1 x.a1 x.a2 ZO) ?_
   simp only[go_sem,fb9]
   refine ZW λt2 ft2=>?_
   try simp only[Ae] at ft2
   refine Zy ?_
   refine k_ _ _ (Ac ?_)
   refine Zm 63 ?_
   refine Zs (Zp 8255 ?_)
   refine Zc (λhc3=>?_) λhc3=>?_
   ·refine Aa.exit (Ak (Bh (Ac ?_)))
    refine Z6 ?_
    refine Ze 7 24 [b9] [] [b4,b3] [t2] (.e ⟨_,ZM,q+1,t2,rfl,?_,ZE,?_,?_⟩)
    · (try simp only[go_sem])<;>first|exact⟨rfl⟩|(constructor;rw[D1 hlt,Aeq hc2];simp only[At,List.map_append,List.map_cons,List.map_nil,D8])
    · omega
    · rw [D1 hlt];have:=Fc x (s.boxes.map AL.name) (BI s x (l.take q)) l[q];omega
   omega
  refine Zk ?_
  refine Zs (Zp 16447 ?_)
  refine Zc (λhc3=>?_) λhc3=>?_
  ·refine Aa.exit (Ak (Bh (Ac ?_)))
   refine Z6 ?_
   refine Ze 7 24 [b9] [] [b4,b3] [v] (.e ⟨_,ZM,q+1,v,rfl,?_,ZE,?_,?_⟩)
   · (try simp only[go_sem])<;>first|exact⟨rfl⟩|(constructor;rw[D1 hlt,Aer ZO ZO ZO];skip)
   · omega
   · rw [D1 hlt];have:=Fc x (s.boxes.map AL.name) (BI s x (l.take q)) l[q];omega
  have hk:l[q].k=3\/l[q].k=5:=by omega
  refine Zk ?_
  refine Zp 127 ?_
  refine Zs (Zx ?_)
  simp only[go_sem,fb4,fb9]
  refine ZQ (λhg=>L7 T s.boxes l[q].t hbl) ?_
  refine Zy ?_
  refine Zn 131199 ?_
  refine Zi 63 (λlc hc=>Av lc [(10,.d (.str (Dp (s.boxes.map AL.name) (nmP l[q]))))]/\Av hc (⟨(b9,⟨3,1,[[.d (.int .i64 l[q].k),.d (.str l[q].t),.d (.int .i64 l[q].f)]]⟩)::(b4,⟨5,1,[[.d (.str x.a1),.d (.str x.a2),.d (.str x.c1),.d (.str x.c2),.d (.str x.s)]]⟩)::(b3,⟨2,1,[An s]⟩)::[],[v]⟩)) ?_ ?_
  ·refine Zc (λhc4=>?_) λhc4=>?_
   ·refine Z6 ?_
    refine Ze 63 64 [] [] [b9,b4,b3] [v] (.e ⟨?_,ZG⟩)
    · (try simp only[go_sem])<;>first|exact⟨rfl⟩|(constructor;first|(rw[Ahx hc4.1 ((EU _ _).1 hc4.2)];done)|(rw[Ahw (by rintro⟨h7,h8⟩;have h8:=(EU _ _).2 h8;first|exact hc4 ⟨h7,h8⟩|(have:=hc4 h7;omega)|(rcases hc4 with h9|h9<;>omega))];first|done|rfl))
   refine Zk ?_
   refine Ze 63 64 [] [] [b9,b4,b3] [v] (.e ⟨?_,ZG⟩)
   · (try simp only[go_sem])<;>first|exact⟨rfl⟩|(constructor;first|(rw[Ahx hc4.1 ((EU _ _).1 hc4.2)];done)|(rw[Ahw (by rintro⟨h7,h8⟩;have h8:=(EU _ _).2 h8;first|exact hc4 ⟨h7,h8⟩|(have:=hc4 h7;omega)|(rcases hc4 with h9|h9<;>omega))];first|done|rfl))
  rintro _ _ ⟨⟨rfl⟩,⟨rfl⟩⟩
  refine Zy ?_
  refine Zp 255 ?_
  refine Zs (Zp 511 ?_)
  refine Aa.block (Zy ?_)
  refine Zl 127 384 (λn lc hc=> ∃(j:Nat),n=(BI s x (l.take q)).length-j/\Av lc [(11,.d (.bool (((BI s x (l.take q)).take j).any (QF (Dp (s.boxes.map AL.name) (nmP l[q])))))),(12,.d (.int .i64 (j:Nat)))]/\Av hc (⟨(b9,⟨3,1,[[.d (.int .i64 l[q].k),.d (.str l[q].t),.d (.int .i64 l[q].f)]]⟩)::(b4,⟨5,1,[[.d (.str x.a1),.d (.str x.a2),.d (.str x.c1),.d (.str x.c2),.d (.str x.s)]]⟩)::(b3,⟨2,1,[An s]⟩)::[],[v]⟩)/\(j<=(BI s x (l.take q)).length)) ⟨_,0,rfl,ZE,ZE,ZI⟩ ?_
  rintro _ _ _ ⟨j,rfl,⟨rfl⟩,⟨rfl⟩,j1⟩
  refine Zy ?_
  refine Zs (Zp 4607 ?_)
  refine Zc (λhc5=>?_) λhc5=>?_
  ·have hjt:j<(BI s x (l.take q)).length:=by omega
   have hji:(j:Int)<((BI s x (l.take q)).length:Int):=by omega
   have zf2:=λd0_=>DG (BI s x (l.take q)) j d0_ hjt
   refine Zk ?_
   refine Zs (Aa.block (Zr (Ai (Ac ?_))))
   refine Zm 511 ?_
   refine Z6 ?_
   refine Ze 127 384 [] [] [b9,b4,b3] [v] (.e ⟨_,ZM,j+1,rfl,?_,ZE,ZN⟩)
   · (try simp only[go_sem])<;>first|exact⟨rfl⟩|(constructor;rw[List.take_succ_eq_append_getElem hjt,List.any_append];simp[QF])
  have htj:(BI s x (l.take q)).take j=(BI s x (l.take q)):=List.take_of_length_le ZO
  rw[htj]
  refine Z4 ?_
  refine Zp 2175 ?_
  refine Zc (λhc6=>?_) λhc6=>?_
  ·refine Zq λK_ k_=>?_
   simp only[go_sem,fb4,fb9]
   refine ZW λt3 ft3=>?_
   try simp only[Ae] at ft3
   refine Zy ?_
   refine k_ _ _ (Ai (Ac ?_))
   refine Zm 31 ?_
   refine Z6 ?_
   refine Ze 7 24 [b9] [] [b4,b3] [t3] (.e ⟨_,ZM,q+1,t3,rfl,?_,ZE,?_,?_⟩)
   · (try simp only[go_sem])<;>first|exact⟨rfl⟩|(constructor;rw[D1 hlt,NN hk,P1 (by simpa using hc6)];simp only[At,List.map_append,List.map_cons,List.map_nil,D8])
   · omega
   · rw [D1 hlt];have:=Fc x (s.boxes.map AL.name) (BI s x (l.take q)) l[q];omega
  refine Z5 ?_
  refine Z6 ?_
  refine Ze 7 24 [b9] [] [b4,b3] [v] (.e ⟨_,ZM,q+1,v,rfl,?_,ZE,?_,?_⟩)
  · (try simp only[go_sem])<;>first|exact⟨rfl⟩|(constructor;rw[D1 hlt,NN hk,P2 (by simpa using hc6)];skip)
  · omega
  · rw [D1 hlt];have:=Fc x (s.boxes.map AL.name) (BI s x (l.take q)) l[q];omega
 have htq:l.take q=l:=List.take_of_length_le ZO
 rw[htq]
 refine Z4 ?_
 refine Zm 8 ?_
 refine Zp 1 (Aa.ret ?_)
 simp only[go_sem]
 try simp[Aj,Ay]
end
section
theorem Acn (l:List Ax) (x:Lr):(BR l x).1.a.length<=1048576:=by
 unfold BR
 split
 ·simp[GR]
 split
 ·simp[GR]
 ·have:=Id x (BA x) l (c:=GR) (by simp[GR])
  dsimp only
  omega
end
section
theorem OA (s:St) (x:Lr):∀(l:List Eb) (out:List BN),(l.foldl (EN x (s.boxes.map AL.name)) out).length<=out.length+l.length
 |[],out=>by simp
 |a::l,out=>by
  have h1:=OA s x l (EN x (s.boxes.map AL.name) out a)
  have h2:=Fc x (s.boxes.map AL.name) out a
  simp only[List.foldl_cons,List.length_cons]
  omega
theorem AeS (s:St) (x:Lr) (l:List Ax):(Pz s x l).1.length<=1048580:=by
 unfold Pz
 split
 ·simp
 split
 ·simp
 split
 ·simp
 ·have h1:=OA s x (C5 (BR l x).1) []
  have h2:=Acn l x
  have h3:(C5 (BR l x).1).length<=1048576:=by
   unfold C5
   split
   ·simp
   split
   ·simp
   ·exact h2
  show(BI s x (C5 (BR l x).1)).length<=_
  rw[BI]
  simp only[List.length_nil] at h1
  omega
theorem Yz (s:St) (x:Lr) (l:List Ax):GY (Pz s x l).2.1:=by
 have h0:GY ⟨[],[]⟩:=⟨by simp,by simp,λy hy=>by cases hy⟩
 unfold Pz
 split
 ·exact h0
 split
 ·exact h0
 split
 ·exact h0
 ·exact Ae7 s _
attribute [local go_sem] Dw No An in
theorem Qx (T:Ap) (hL:Bw T) (s:St) (x:Lr) (l:List Ax) (ok:LY s) (hz:DI l<=1048576) (zz:Szd l) (xo:XK x):PC prog T 22 [.agg (An s),.agg (Dw x),.d (.slc 12 (l.map AW))] (.tup [.d (.slc 6 (At (Pz s x l).1)),.agg (An (Pz s x l).2.1),.d (.int .i64 ((Pz s x l).2.2))]):=by
 refine⟨call22,Ar.enterS func22 rfl ntmps22 rfl λhb=>?_⟩
 simp only[go_sem,results22]
 refine Zx (Zy ?_)
 intro b3
 first|intro fb3|have fb3:=True.intro
 try simp only[Ab] at fb3
 intro b4
 first|intro fb4|have fb4:=True.intro
 try simp only[Ab] at fb4
 intro b7
 first|intro fb7|have fb7:=True.intro
 try simp only[Ab] at fb7
 refine Zm 92 ?_
 refine Z1 31 (Jw T hL s ok) ?_
 refine Zs (Zp 95 ?_)
 refine Zc (λhc0=>?_) λhc0=>?_
 ·refine Zp 56 (Aa.ret ?_)
  simp only[go_sem,fb7]
  rw[Ado hc0];try simp[A3,At]
 have hs0:Ft s=0:=by omega
 have hbn:s.boxes.length<=5:=(Sh hs0).bx
 refine Zk ?_
 refine Zx ?_
 simp only[go_sem,fb4,fb7]
 refine ZP (SA T hL l x hz zz xo) ?_
 refine Zy ?_
 intro b10 fb10
 try simp only[Ab] at fb10
 refine Zm 62 ?_
 refine Zs (Zp 95 ?_)
 refine Zc (λhc1=>?_) λhc1=>?_
 ·refine Zp 28 (Aa.ret ?_)
  simp only[go_sem,fb7,fb10]
  rw[Adp hs0 hc1];try simp[A3,At]
 have hj0:(BR l x).2=0:=by omega
 obtain⟨hcg,hr⟩:=Zg zz hj0
 obtain⟨hen,het⟩:=YA hcg
 have hcn:=hcg.n
 refine Zk ?_
 refine Z1 39 (Aav T (BR l x).1 ZO) ?_
 refine Z1 21 (WX T s x (C5 (BR l x).1) ZO ZO hr) ?_
 refine Zx ?_
 simp only[go_sem, *]
 refine ZP (VO T hL s (BI s x (C5 (BR l x).1)) ok (MT ok xo.hs hr _ _ het λy hy=>by cases hy)) ?_
 refine Zy ?_
 intro b13 fb13
 try simp only[Ab] at fb13
 refine Zm 30 ?_
 refine Zs (Zp 47 ?_)
 refine Zc (λhc2=>?_) λhc2=>?_
 ·refine Zp 7 (Aa.ret ?_)
  simp only[go_sem, *]
  rw[Adq hs0 hj0 hc2];try simp[A3,At]
 refine Zk ?_
 refine Zd true [0,1,2,3,4] ?_
 simp only[go_sem, *]
 refine Zm 7 ?_
 refine Aa.ret ?_
 simp only[go_sem, *]
 rw[Adn hs0 hj0 ZO];try simp[A3,At]
attribute [local go_sem] Dw An decide_true in
theorem JE (T:Ap) (hL:Bw T) (hF:T 2=Bf.map D.str) (hE:T 0=Gl.map D.str) (tb:LZ T) (s:St) (x:Lr) (l:List Ax) (ok:LY s) (sm:Ael s) (hz:DI l<=1048576) (xo:XK x):PC prog T 6 [.agg (An s),.agg (Dw x),.d (.slc 12 (l.map AW))] (.d (.bool true)):=by
 refine⟨call6,Ar.enterS func6 rfl ntmps6 rfl λhb=>?_⟩
 have zz:=Szd.of hz
 simp only[go_sem,results6]
 refine Zx (Zy ?_)
 intro b3
 first|intro fb3|have fb3:=True.intro
 try simp only[Ab] at fb3
 intro b4
 first|intro fb4|have fb4:=True.intro
 try simp only[Ab] at fb4
 refine Zx ?_
 simp only[go_sem,beq_self_eq_true,fb4]
 refine ZP (AaD T s sm) ?_
 simp only[go_sem,beq_self_eq_true]
 intro b7 fb7
 try simp only[Ab] at fb7
 refine Zm 92 ?_
 refine Z1 31 (Tc T l zz.hll zz.ok) ?_
 refine Zx ?_
 simp only[go_sem, *]
 refine ZP (VM T hL hF hE tb s x l ok zz xo) ?_
 simp only[go_sem,beq_self_eq_true]
 intro b10 fb10
 try simp only[Ab] at fb10
 refine Zm 255 ?_
 refine Zx ?_
 simp only[go_sem, *]
 refine ZP (Qx T hL s x l ok hz zz xo) ?_
 simp only[go_sem,beq_self_eq_true]
 intro b13 fb13
 try simp only[Ab] at fb13
 refine Zm 2043 ?_
 refine Zx ?_
 simp only[go_sem,beq_self_eq_true]
 refine ZQ (λhg=>IE T (Pz s x l).1 (Nat.le_trans (AeS s x l) ZD)) ?_
 simp only[go_sem, *]
 refine ZQ (λhg=>(Lu T (Pz s x l).2.1 (Nat.le_trans (Yz s x l).bx ZD) (λy hy=>Nat.le_trans ((Yz s x l).al y hy).1 ZD) (Nat.le_trans (Yz s x l).sp ZD))) ?_
 simp only[go_sem, *]
 refine ZQ (λhg=>(Lu T s (by have:=sm.bx;omega) (λy hy=>by have:=sm.ml y hy;omega) (by have:=sm.sp;omega))) ?_
 simp only[go_sem,beq_self_eq_true]
 refine ZQ (λhg=>Nb T l zz.hll zz.ok) ?_
 simp only[go_sem,beq_self_eq_true]
 refine Zm 4 ?_
 refine Aa.ret ?_
 simp only[go_sem]
 try simp[Aj,Ay]
end
section
open Go.RowKit Go.ChangeShapes Go.WideShapes Go.ChangeAt
open Go.ChangeShapes Go.WideShapes Go.ChangeAt
set_option maxRecDepth 100000
theorem Aa3 {H:Type} {α:Type} {R:α->DataW H->Prop} {l:List α} {z:DataW H} (h:RL R l z) (ht:Ga z):l.length<=1048576:=by
 cases h with
 |nil=>simp
 |slice _ elems spare hl _=>have:=Ga.len ht;omega
theorem AhD {H:Type} {s:St} {d:DataW H} (h:RSt s d) (t0:Ga d):Ael s:=by
 obtain⟨ds,z1,z2,rfl,e1,e2,r1,r2⟩:=h
 have p1:=Ga.part t0 e1
 have p2:=Ga.part t0 e2
 refine⟨by have:=Aa3 r1 p1;omega,λb hb=>?_,by have:=Aa3 r2 p2;omega⟩
 obtain⟨elems,spare,y,rfl,hy,ds2,z,rfl,hz,hr⟩:=AfC r1 hb
 have p3:=Wb p1 hy
 have:=Aa3 hr (Ga.part p3 hz)
 omega
theorem Iw {H:Type} {enc:TypeId×Value->H} (W:World) (base:Nat) (v0 v1 v2:Value) (d0:DataW H) (p0:List MemPlace) (d1:DataW H) (p1:List MemPlace) (d2:DataW H) (p2:List MemPlace)
  (k0:Value.okWide prog W .any base 54 v0) (h0:DataW.Trod enc prog W 0 (λ_=>true) true 54 v0 d0 p0)
  (k1:Value.okWide prog W .any base 38 v1) (h1:DataW.Trod enc prog W 0 (λ_=>true) true 38 v1 d1 p1)
  (k2:Value.okWide prog W .any base 22 v2) (h2:DataW.Trod enc prog W 0 (λ_=>true) true 22 v2 d2 p2) (t0:Ga d0) (t1:Ga d1) (t2:Ga d2)
  (hL:laidMetH prog Rows.deliverDeliversRow.laid W) (hsh:W.ShapedOpen prog):
  Calls prog 6 #[v0,v1,v2] W λe W'=>e= .returned (.bool true)/\Below W.heap.size W W':=by
 obtain⟨cs0,rfl,hsz0⟩:=okWide_struct underlying54 k0
 obtain⟨st,hx0,hr0⟩:=Cu.open_ AeR h0
 have hx0:Sv (Fv W) [.slc 3 (A3 st.boxes),.slc 6 (At st.spool)] cs0.toList:=hx0
 obtain⟨v8,_,hv1⟩:=hx0.2 0 _ rfl
 obtain⟨v9,_,hv2⟩:=hx0.2 1 _ rfl
 obtain⟨a,n,c,rfl⟩:=okWide_slice underlying22 k2
 obtain⟨cs,rfl,hsz⟩:=okWide_struct underlying38 k1
 obtain⟨l,ht,hz⟩:=CX.open_ Yw h2 t2
 obtain⟨⟨⟨a1,a2⟩,⟨c1,c2⟩,s⟩,hx,hr⟩:=CX.open_ AbP h1 t1
 dsimp only at hr
 have hx:Sv (Fv W) [.str a1,.str a2,.str c1,.str c2,.str s] cs.toList:=hx
 obtain⟨q0,_⟩:=CO (zs:=Dv) (g:=1) (name:= "postroom/script.commands") (by kernel_rfl) (by kernel_rfl) underlying243 underlying9 (by kernel_rfl) (by kernel_rfl) (List.mem_cons_of_mem _ (List.mem_cons_self ..)) (by kernel_rfl) hL
 obtain⟨q1,_⟩:=CO (zs:=Dh) (g:=4) (name:= "postroom/script.tests") (by kernel_rfl) (by kernel_rfl) underlying243 underlying9 (by kernel_rfl) (by kernel_rfl) (List.mem_cons_of_mem _ (List.mem_cons_of_mem _ (List.mem_cons_self ..))) (by kernel_rfl) hL
 obtain⟨q2,_⟩:=CO (zs:=Gq) (g:=6) (name:= "postroom/script.matches") (by kernel_rfl) (by kernel_rfl) underlying123 underlying9 (by kernel_rfl) (by kernel_rfl) (List.mem_cons_of_mem _ (List.mem_cons_of_mem _ (List.mem_cons_of_mem _ (List.mem_cons_self ..)))) (by kernel_rfl) hL
 obtain⟨q3,_⟩:=CO (zs:=Gs) (g:=5) (name:= "postroom/script.parts") (by kernel_rfl) (by kernel_rfl) underlying123 underlying9 (by kernel_rfl) (by kernel_rfl) (List.mem_cons_of_mem _ (List.mem_cons_of_mem _ (List.mem_cons_of_mem _ (List.mem_cons_of_mem _ (List.mem_cons_self ..))))) (by kernel_rfl) hL
 obtain⟨q4,_⟩:=CO (zs:=Gl) (g:=0) (name:= "postroom/rule.extensions") (by kernel_rfl) (by kernel_rfl) underlying123 underlying9 (by kernel_rfl) (by kernel_rfl) (List.mem_cons_of_mem _ (List.mem_cons_of_mem _ (List.mem_cons_of_mem _ (List.mem_cons_of_mem _ (List.mem_cons_of_mem _ (List.mem_cons_self ..)))))) (by kernel_rfl) hL
 obtain⟨q5,_⟩:=CO (zs:=Bf) (g:=2) (name:= "postroom/rule.names") (by kernel_rfl) (by kernel_rfl) underlying281 underlying9 (by kernel_rfl) (by kernel_rfl) (List.mem_cons_of_mem _ (List.mem_cons_of_mem _ (List.mem_cons_of_mem _ (List.mem_cons_of_mem _ (List.mem_cons_of_mem _ (List.mem_cons_of_mem _ (List.mem_cons_self ..))))))) (by kernel_rfl) hL
 obtain⟨_,m,hm⟩:=FG.open_ hsh
 let tb:List (Nat×List D):=[(1,Dv.map D.str),(4,Dh.map D.str),(6,Gq.map D.str),(5,Gs.map D.str),(0,Gl.map D.str),(2,Bf.map D.str),(3,[.int .i64 m])]
 have hT:∀p∈tb,NM W p:=by
  intro p hp
  simp only[tb,List.mem_cons,List.not_mem_nil,or_false] at hp
  rcases hp with rfl|rfl|rfl|rfl|rfl|rfl|rfl
  ·exact .texts q0 ZD
  ·exact .texts q1 ZD
  ·exact .texts q2 ZD
  ·exact .texts q3 ZD
  ·exact .texts q4 ZD
  ·exact .texts q5 ZD
  ·exact .int hm
 refine WK (T:=Xg tb) (JE (Xg tb) ⟨m,rfl⟩ rfl rfl ⟨rfl,rfl,rfl,rfl⟩ st ⟨a1,a2,c1,c2,s⟩ l (AhC (v:=v8) ⟨_,hv1⟩ ⟨_,hv2⟩) (AhD hr0 t0) hz ⟨⟨show a1.length<=_ by omega,show a2.length<=_ by omega,show c1.length<=_ by omega,show c2.length<=_ by omega⟩,show s.length<=_ by omega⟩) (Vu hT) ⟨rfl,λi x hx9=>?_⟩
 match i,hx9 with
 |0,hx9=>
  simp at hx9
  subst hx9
  exact⟨_,rfl,hx0.agg (G:=Qj W (Fv W))⟩
 |1,hx9=>
  simp at hx9
  subst hx9
  exact⟨_,rfl,hx.agg (G:=Qj W (Fv W))⟩
 |2,hx9=>
  simp at hx9
  subst hx9
  exact⟨_,rfl,.d (Wr ht rfl)⟩
 |i+3,hx9=>simp at hx9
end
end Go.Proofs.YtidldcfpmehpiaaGreatDoor
