/- Texts that the law DeliverDelivers rests on, packed. -/
import Derived.Test.YtidldcfpmehpiaaGreatDoorGB
import Derived.Test.YtidldcfpmehpiaaGreatDoorDeliverDeliversK3
import Derived.Test.YtidldcfpmehpiaaGreatDoorDeliverDeliversK0
import Derived.Test.YtidldcfpmehpiaaGreatDoorDeliverDeliversK2
import Derived.Test.YtidldcfpmehpiaaGreatDoorGC
import Derived.Test.YtidldcfpmehpiaaGreatDoorDeliverDeliversK1
set_option linter.unusedSimpArgs false
set_option linter.unusedVariables false
set_option maxRecDepth 20000
set_option maxHeartbeats 4000000
namespace Go.Proofs.YtidldcfpmehpiaaGreatDoor
open _root_.Go.Proofs.Tryz _root_.Go.Proofs.YtidldcfpmehpiaaGreatDoor.Tryz
section
def Gl:List (List UInt8):=[[102,105,108,101,105,110,116,111],[114,101,106,101,99,116],[101,110,118,101,108,111,112,101],[105,109,97,112,52,102,108,97,103,115]]
@[go_sem] theorem Ag7:Me prog 121=some ([.any],[(0,1)]):=by kernel_rfl
def Iz:List (List UInt8)->List Ax->Int
 |_,[]=>0
 |ks,c::l=>if c.kind=1 then(if∀s∈c.texts,s∈Gl then Iz (ks++c.texts) l else 7) else B9 ks (c::l)
def CU (l:List Ax):Int:=if¬FM l=0 then FM l else Iz [] l
theorem Aaw {ks:List (List UInt8)} {l:List Ax} {k:Nat} (h:l.length<=k):Iz ks (l.drop k)=B9 ks (l.drop k):=by rw[List.drop_eq_nil_of_le h];rfl
theorem Aay {ks:List (List UInt8)} {l:List Ax} {k:Nat} (h:k<l.length) (hc:¬(l[k]).kind=1):Iz ks (l.drop k)=B9 ks (l.drop k):=by rw[List.drop_eq_getElem_cons h,Iz,if_neg hc]
theorem Aax {ks:List (List UInt8)} {l:List Ax} {k q:Nat} (h:k<l.length) (hc:(l[k]).kind=1) (hq:q<(l[k]).texts.length) (hn:¬(l[k]).texts[q]∈Gl):Iz ks (l.drop k)=7:=by
 rw[List.drop_eq_getElem_cons h,Iz,if_pos hc,if_neg λh9=>hn (h9 _ (List.getElem_mem hq))]
theorem Aaz {ks:List (List UInt8)} {l:List Ax} {k:Nat} (h:k<l.length) (hc:(l[k]).kind=1) (ha:∀s∈(l[k]).texts,s∈Gl):Iz ks (l.drop k)=Iz (ks++(l[k]).texts) (l.drop (k+1)):=by
 rw[List.drop_eq_getElem_cons h,Iz,if_pos hc,if_pos ha]
theorem Ww {α β:Type} (f:α->β) (l:List α) (k:Nat) (d:β) (h:k<l.length):((l.drop k).map f).getD 0 d=f (l[k]):=by
 rw[List.drop_eq_getElem_cons h];rfl
def S5 (l:List (List UInt8)):Prop:=∀s∈l,s∈Gl
theorem S5.s {l:List (List UInt8)} {q:Nat} (hq:q<l.length) (h:S5 (l.take q)) (hn:l[q]∈Gl):S5 (l.take (q+1)):=λs hs=>by
 rw[List.take_succ_eq_append_getElem hq,List.mem_append,List.mem_singleton] at hs
 rcases hs with h9|rfl
 ·exact h s h9
 ·exact hn
theorem S5.e {l:List (List UInt8)} {q:Nat} (hq:l.length<=q) (h:S5 (l.take q)):∀s∈l,s∈Gl:=by rwa [List.take_of_length_le hq] at h
theorem Dr.nil:Dr [] []:=λ_=>Iff.rfl
theorem Dr.st {kz ks l:List (List UInt8)} {q:Nat} (hq:q<l.length) (h:Dr kz (ks++l.take q)):Dr (Ns l[q] kz) (ks++l.take (q+1)):=by
 have:=h.add l[q]
 rwa [List.append_assoc,<-List.take_succ_eq_append_getElem hq] at this
theorem Dr.en {kz ks l:List (List UInt8)} {q:Nat} (hq:l.length<=q) (h:Dr kz (ks++l.take q)):Dr kz (ks++l):=by rwa [List.take_of_length_le hq] at h
attribute [local go_sem] AW Bi decide_true Aq decide_false in
theorem YY (T:Ap) (hL:Bw T) (hF:T 2=Bf.map D.str) (hE:T 0=Gl.map D.str) (tb:LZ T) (l:List Ax) (hll:l.length*208<=140737488355328) (ok:∀x∈l,x.Ok) (hl:(Ee l).length<=4398046511104) (rd:FM l=0->∀x∈l,x.Rd):PC prog T 28 [.d (.slc 12 (l.map AW))] (.d (.int .i64 (CU l))):=by
 refine⟨call28,Ar.enterS func28 rfl ntmps28 rfl λhb=>?_⟩
 simp only[go_sem,results28]
 refine Zp 1 ?_
 refine Zs (Z1 3 (Abl T l hll ok hl tb) ?_)
 refine Zp 11 ?_
 refine Zc (λhc0=>?_) λhc0=>?_
 ·refine Zp 2 (Aa.ret ?_)
  simp only[go_sem]
  rw[CU,if_pos hc0];try simp[Aj,Ay]
 have hz:FM l=0:=by omega
 have rd:=rd hz
 refine Zk ?_
 refine Zx (Zy ?_)
 refine X9 rfl rfl λtk ftk=>?_
 refine Zy ?_
 intro b4
 first|intro fb4|have fb4:=True.intro
 try simp only[Ab] at fb4
 refine Zm 5 ?_
 refine Zs (Aa.block (Zy ?_))
 refine Zl 2 1 (λn lc hc=> ∃(k t:Nat) (ks kz:List (List UInt8)),n=l.length-k/\Av lc [(0,.d (.slc 12 ((l.drop k).map AW)))]/\Av hc (⟨[(b4,⟨1,1,[[.mp t kz]]⟩)],[t]⟩)/\(k<=l.length)/\(Dr kz ks)/\(Iz [] l=Iz ks (l.drop k))) ?_ ?_
 · refine ⟨_,0,tk,[],[],rfl,ZE,ZE,?_,?_,?_⟩
   all_goals(first|omega|rfl|exact Dr.nil)
 rintro _ _ _ ⟨k,t,ks,kz,rfl,⟨rfl⟩,⟨rfl⟩,m1,m2,m3⟩
 refine Zy ?_
 refine Zs ?_
 rcases Nat.lt_or_ge k l.length with hkl|hkl
 ·have hkL:(0<l.length-k)=True:=by simp;omega
  have hdg:=λd=>Ww AW l k d hkl
  have htk:List.take (l.length-k) (List.drop k (List.map AW l))=List.drop k (List.map AW l):=List.take_of_length_le ZX
  have hr2:=(rd _ (List.getElem_mem hkl)).inv.2.1
  refine Zp 2051 ?_
  refine Zc (λhc1=>?_) λhc1=>?_
  ·have hk1:(l[k]).kind=1:=by omega
   refine Zk ?_
   refine Aa.block (Zs (Zp 451 ?_))
   refine Aa.block (Zy ?_)
   refine Zl 15 16 (λn lc hc=> ∃(q u:Nat) (kz2:List (List UInt8)),n=(l[k]).texts.length-q/\Av lc [(30,.d (.int .i64 (q:Nat)))]/\Av hc (⟨[(b4,⟨1,1,[[.mp u kz2]]⟩)],[u]⟩)/\(q<=(l[k]).texts.length)/\(Dr kz2 (ks++(l[k]).texts.take q))/\(S5 ((l[k]).texts.take q))) ?_ ?_
   · refine ⟨_,0,t,kz,rfl,ZE,ZE,?_,?_,?_⟩
     all_goals(first|omega|(simpa using m2)|exact λs h9=>by simp at h9)
   rintro _ _ _ ⟨q,u,kz2,rfl,⟨rfl⟩,⟨rfl⟩,q1,q2,q3⟩
   refine Zy ?_
   refine Zp 63 ?_
   refine Zs (Zc (λhc2=>?_) λhc2=>?_)
   ·have hqt:q<(l[k]).texts.length:=by omega
    have hqi:(q:Int)<((l[k]).texts.length:Int):=by omega
    have zf1:=λd0_=>Al Aq (l[k]).texts q d0_ hqt
    refine Zk ?_
    refine Zs (Aa.block (Zp 63 ?_))
    refine Zs (Gz 0 λK_ hK_=>?_)
    simp only[List.take_zero,List.drop_zero]
    refine Zy ?_
    refine SB ?_
    refine DW.sliceG (n:=4) (e:=9) rfl rfl rfl (by first|rfl|kernel_rfl) (by first|rfl|kernel_rfl) (by rw[hE];rfl) ZD ZD ?_
    refine DW.nil ?_
    rw[hE,ZC]
    refine LV.lvc ?_
    refine Zy ?_
    refine ZP (TX T Gl _ ZD) ?_
    refine Zy ?_
    refine hK_ _ _ ?_
    refine Zc (λhc3=>?_) λhc3=>?_
    ·have hx:¬(l[k]).texts[q]∈Gl:=by simpa using hc3
     refine Zp 2 (Aa.ret ?_)
     simp only[go_sem]
     rw[CU,if_neg (λh9=>h9 hz),m3,Aax hkl hk1 hqt hx];try simp[Aj,Ay]
    have hx:(l[k]).texts[q]∈Gl:=by simpa using hc3
    refine Zk ?_
    refine Zm 63 ?_
    refine Zq λK_ k_=>?_
    refine Zy ?_
    refine VI (b:=b4) (i:=0) (j:=0) (t:=u) (ks:=kz2) (s:=(l[k]).texts[q]) (ob:=⟨1,1,[[.mp u kz2]]⟩) (r:=[.mp u kz2]) rfl rfl underlying119 underlying9 rfl rfl rfl ZX (by simp[A9]) rfl rfl λt2 ft2=>?_
    refine Zy ?_
    refine k_ _ _ (Ai (Ac ?_))
    refine Zm 59 ?_
    refine Z6 ?_
    refine Ze 15 16 [] [] [b4] [t2] (.e ⟨_,ZM,q+1,t2,(Ns (l[k]).texts[q] kz2),rfl,ZE,ZE,?_,?_,?_⟩)
    · omega
    · exact q2.st hqt
    · exact q3.s hqt hx
   have ha:=q3.e ZO
   refine Z4 ?_
   refine Zm 3 ?_
   refine Zr (Ai (Ac ?_))
   refine Ze 2 1 [] [] [b4] [u] (.e ⟨_,ZM,k+1,u,(ks++(l[k]).texts),kz2,rfl,?_,ZE,?_,?_,?_⟩)
   · (try simp only[go_sem])<;>first|exact⟨rfl⟩|(constructor;first|(simp;done)|(simp[htk];done))
   · omega
   · exact q2.en ZO
   · rw [m3,Aaz hkl hk1 ha]
  refine Z4 ?_
  refine Zx (Zy ?_)
  refine ZA [b4] [t] (Zb T hL hF b4 t kz (l.drop k) (by simp only[List.length_drop];omega) (λx hx=>ok x (List.mem_of_mem_drop hx)) (λx hx=>rd x (List.mem_of_mem_drop hx)) _ _) ?_
  rintro _ _ ⟨rfl,rfl⟩
  refine Zy ?_
  refine Zm 2 ?_
  refine Aa.ret ?_
  simp only[go_sem]
  rw[CU,if_neg (λh9=>h9 hz),m3,Aay hkl (by simp at hc1;omega),m2.cmdL];try simp[Aj,Ay]
 have hkL:(0<l.length-k)=False:=by simp;omega
 refine Zp 2051 ?_
 refine Zc (λhc1=>?_) λhc1=>?_
 ·exact absurd hc1 (by first|(simp;done)|omega|(simp[*];done))
 refine Z4 ?_
 refine Zx (Zy ?_)
 refine ZA [b4] [t] (Zb T hL hF b4 t kz (l.drop k) (by simp only[List.length_drop];omega) (λx hx=>ok x (List.mem_of_mem_drop hx)) (λx hx=>rd x (List.mem_of_mem_drop hx)) _ _) ?_
 rintro _ _ ⟨rfl,rfl⟩
 refine Zy ?_
 refine Zm 2 ?_
 refine Aa.ret ?_
 simp only[go_sem]
 rw[CU,if_neg (λh9=>h9 hz),m3,Aaw hkl,m2.cmdL];try simp[Aj,Ay]
end
section
def Iy (l:List Ax):Nat:=(l.map λc=>c.texts.length).sum
theorem Aah (a c:List Ax):Iy (a++c)=Iy a+Iy c:=by simp[Iy]
theorem Aai {l:List Ax} {k:Nat} (h:k<l.length):Iy (l.take (k+1))=Iy (l.take k)+(l[k]).texts.length:=by rw[List.take_succ_eq_append_getElem h,Aah];simp[Iy]
theorem PO (l:List Ax) (k:Nat):Iy (l.take k)<=Iy l:=by
 have:=Aah (l.take k) (l.drop k)
 rw[List.take_append_drop] at this
 omega
theorem AeZ {s:List UInt8} (h:s=GS\/s=TG\/s=Hb\/s=GU):s∈Gl:=by
 rcases h with rfl|rfl|rfl|rfl<;>decide
theorem Afa {s:List UInt8} (h1:¬s=GS) (h2:¬s=TG) (h3:¬s=Hb) (h4:¬s=GU):¬s∈Gl:=by
 intro h
 simp only[Gl,List.mem_cons,List.not_mem_nil,or_false] at h
 rcases h with h|h|h|h
 ·exact h1 h
 ·exact h2 h
 ·exact h3 h
 ·exact h4 h
attribute [local go_sem] AW Bi Aq in
theorem L2 (T:Ap) (hL:Bw T) (l:List Ax) (hll:l.length*208<=140737488355328) (ok:∀x∈l,x.Ok) (hl:(Ee l).length<=4398046511104) (rd:FM l=0->∀x∈l,x.Rd) (hsum:Iy l<=1048576):PC prog T 30 [.d (.slc 12 (l.map AW))] (.d (.int .i64 (CU l))):=by
 refine⟨call30,Ar.enterS func30 rfl ntmps30 rfl λhb=>?_⟩
 simp only[go_sem,results30]
 refine Zp 1 ?_
 refine Z1 3 (QZ T l hll ok hl) ?_
 refine Zs (Zp 11 ?_)
 refine Zc (λhc0=>?_) λhc0=>?_
 ·refine Zp 2 (Aa.ret ?_)
  simp only[go_sem]
  rw[CU,if_pos hc0];try simp[Aj,Ay]
 have hz:FM l=0:=by omega
 have rd:=rd hz
 refine Zk ?_
 refine Zp 5 ?_
 refine Zp 7 ?_
 refine Zs (Aa.block (Zy ?_))
 refine Bs 4 1 rfl rfl ZD λw0 fw0=>?_
 try simp only[Ae] at fw0
 refine Zy ?_
 refine Zl 1 6 (λn lc hc=> ∃(k w:Nat) (ks:List (List UInt8)),n=l.length-k/\Av lc [(4,.own w 1 (ks.map Aq)),(5,.d (.int .i64 (k:Nat)))]/\Av hc (⟨[],[w]⟩)/\(k<=l.length)/\(ks.length=Iy (l.take k))/\(Iz [] l=Iz ks (l.drop k))) ?_ ?_
 · refine ⟨_,0,w0,[],rfl,ZE,ZE,?_,?_,?_⟩
   all_goals(first|omega|rfl|(simp[Iy];done))
 rintro _ _ _ ⟨k,w,ks,rfl,⟨rfl⟩,⟨rfl⟩,m1,m2,m3⟩
 refine Zy ?_
 refine Zs ?_
 rcases Nat.lt_or_ge k l.length with hkl|hkl
 ·have htl:List.take l.length (List.map AW l)=List.map AW l:=List.take_of_length_le ZX
  have hdm:List.drop k (List.map AW l)=List.map AW (l.drop k):=List.map_drop.symm
  have hkn:ks.length<=1048576:=by have:=PO l k;omega
  have hki:((k:Int)<(l.length:Int))=True:=by simp;omega
  have hr2:=(rd _ (List.getElem_mem hkl)).inv.2.1
  have hsl:=Aai hkl
  have hsl2:=PO l (k+1)
  have zf1:=λd0_=>Al AW l k d0_ hkl
  refine Zp 16391 ?_
  refine Zc (λhc1=>?_) λhc1=>?_
  ·have hk1:(l[k]).kind=1:=by first|omega|(simp at hc1;omega)
   refine Zk ?_
   refine Aa.block (Zs (Zp 15 ?_))
   refine Aa.block (Zy ?_)
   refine Zl 5 10 (λn lc hc=> ∃(q u:Nat),n=(l[k]).texts.length-q/\Av lc [(4,.own u 1 ((ks++(l[k]).texts.take q).map Aq)),(6,.d (.int .i64 (q:Nat)))]/\Av hc (⟨[],[u]⟩)/\(q<=(l[k]).texts.length)/\(S5 ((l[k]).texts.take q))) ?_ ?_
   · refine ⟨_,0,w,rfl,ZE,ZE,?_,?_⟩
     all_goals(first|omega|exact λs h9=>by simp at h9)
   rintro _ _ _ ⟨q,u,rfl,⟨rfl⟩,⟨rfl⟩,q1,q3⟩
   refine Zy ?_
   refine Zs (Zp 2063 ?_)
   refine Zc (λhc2=>?_) λhc2=>?_
   ·have hqt:q<(l[k]).texts.length:=by omega
    have hqi:(q:Int)<((l[k]).texts.length:Int):=by omega
    have zf2:=λd0_=>Al Aq (l[k]).texts q d0_ hqt
    refine Zk ?_
    refine Zs (Aa.block (Zp 31 ?_))
    refine Zs (Zp 262175 ?_)
    refine Zc (λhc3=>?_) λhc3=>?_
    ·have hx:¬(l[k]).texts[q]∈Gl:=by obtain⟨⟨⟨h1,h2⟩,h3⟩,h4⟩:=hc3;exact Afa h1 h2 h3 h4
     refine Zp 2 (Aa.ret ?_)
     simp only[go_sem]
     rw[CU,if_neg (λh9=>h9 hz),m3,Aax hkl hk1 hqt hx];try simp[Aj,Ay]
    have hx:(l[k]).texts[q]∈Gl:=AeZ (by grind)
    refine Zk ?_
    refine Zq λK_ k_=>?_
    refine Zy ?_
    refine ZW λt1 ft1=>?_
    try simp only[Ae] at ft1
    refine Zy ?_
    refine k_ _ _ (Ai (Ac ?_))
    refine Zm 15 ?_
    refine Z6 ?_
    refine Ze 5 10 [] [] [] [t1] (.e ⟨_,ZM,q+1,t1,rfl,?_,ZE,?_,?_⟩)
    · (try simp only[go_sem])<;>first|exact⟨rfl⟩|(constructor;simp only[List.take_succ_eq_append_getElem hqt,List.map_append,List.map_cons,List.map_nil,Aq,List.append_assoc])
    · omega
    · exact q3.s hqt hx
   have ha:=q3.e ZO
   have htq:(l[k]).texts.take q=(l[k]).texts:=List.take_of_length_le ZO
   rw[htq]
   refine Z4 ?_
   refine Zr (Ai (Ac ?_))
   refine Ze 1 6 [] [] [] [u] (.e ⟨_,ZM,k+1,u,(ks++(l[k]).texts),rfl,ZE,ZE,?_,?_,?_⟩)
   · omega
   · rw [List.length_append,m2,Aai hkl]
   · rw [m3,Aaz hkl hk1 ha]
  refine Z4 ?_
  refine Z1 2 (R7 T hL ks hkn (l.drop k) (by simp only[List.length_drop];omega) (λx hx=>ok x (List.mem_of_mem_drop hx)) (λx hx=>rd x (List.mem_of_mem_drop hx))) ?_
  refine Aa.ret ?_
  simp only[go_sem]
  rw[CU,if_neg (λh9=>h9 hz),m3,Aay hkl (by first|omega|(simp at hc1;omega))];try simp[Aj,Ay]
 have htl:List.take l.length (List.map AW l)=List.map AW l:=List.take_of_length_le ZX
 have hdm:List.drop k (List.map AW l)=List.map AW (l.drop k):=List.map_drop.symm
 have hkn:ks.length<=1048576:=by have:=PO l k;omega
 have hki:((k:Int)<(l.length:Int))=False:=by simp;omega
 refine Zp 16391 ?_
 refine Zc (λhc1=>?_) λhc1=>?_
 ·exact absurd hc1 (by first|(simp;done)|omega|(simp[*];done))
 refine Z4 ?_
 refine Z1 2 (R7 T hL ks hkn (l.drop k) (by simp only[List.length_drop];omega) (λx hx=>ok x (List.mem_of_mem_drop hx)) (λx hx=>rd x (List.mem_of_mem_drop hx))) ?_
 refine Aa.ret ?_
 simp only[go_sem]
 rw[CU,if_neg (λh9=>h9 hz),m3,Aaw hkl];try simp[Aj,Ay]
end
section
open Go.RowKit
theorem AcG {α:Type} (f:α->Nat) {l:List α} {x:α} (h:x∈l):f x<=(l.map f).sum:=by
 induction l with
 |nil=>simp at h
 |cons a l ih=>
  rw[List.map_cons,List.sum_cons]
  rcases List.mem_cons.1 h with rfl|h
  ·omega
  ·have:=ih h;omega
theorem WV {c:Ax} (h:Xv c=true) (hk:c.kind=5\/c.kind=6):0<c.texts.length:=by
 rw[MN] at h
 simp only[Bool.and_eq_true] at h
 have h:=h.2
 rw[if_neg ZO,if_pos (by simp[A7];omega)] at h
 simp at h
 omega
theorem RX {c:Ax} (h:Xv c=true):c.thn=[]/\c.els=[]:=by
 rw[MN] at h
 simp only[Bool.and_eq_true,decide_eq_true_eq] at h
 exact⟨List.eq_nil_of_length_eq_zero h.1.1.2,List.eq_nil_of_length_eq_zero h.1.2⟩
theorem VH (c:Ax):Rc c<=1048576->∀d:Int,cF c d=0->c.Rd:=by
 induction c using Ax.ind with
 | h c i1 i2=>
  intro h d hc
  rw[Mq] at h
  have h1:=EC c.texts
  obtain⟨_,hif,hno⟩:=I9 hc
  have hs:∀s∈c.texts,s.length<=1048576:=λs hs=>by
   have:=AcG (λs:Gy=>s.length+1) hs
   omega
  by_cases hk:c.kind=2
  ·obtain⟨_,ha,hb,he⟩:=hif hk
   refine⟨λh9=>by omega,by omega,hs,λx hx=>i1 x hx (by have:=CQ hx;omega) _ (ha x hx),λx hx=>?_⟩
   cases hel:BQ c with
   |true=>exact i2 x hx (by have:=CQ hx;omega) _ (hb hel x hx)
   |false=>exact i2 x hx (by have:=CQ hx;omega) _ (he hel x hx)
  ·have ho:=hno hk
   obtain⟨e1,e2⟩:=RX ho
   exact⟨WV ho,by omega,hs,λx hx=>by rw[e1] at hx;simp at hx,λx hx=>by rw[e2] at hx;simp at hx⟩
theorem Acz (l:List Ax):Iy l<=DI l:=by
 induction l with
 |nil=>simp[Iy,DI]
 |cons c l ih=>
  have h1:=EC c.texts
  have h2:=Mq c
  rw[DI]
  simp only[Iy,List.map_cons,List.sum_cons] at ih⊢
  omega
structure Szd (l:List Ax):Prop where
 hll:l.length*208<=140737488355328
 ok:∀x∈l,x.Ok
 hl:(Ee l).length<=4398046511104
 rd:FM l=0->∀x∈l,x.Rd
 hx:Iy l<=1048576
theorem Szd.of {l:List Ax} (h:DI l<=1048576):Szd l:=by
 have hn:=Mo l
 have hs:=Acr l
 have hx:=Acz l
 refine⟨by omega,λx hx=>Ax.ok_of x (by have:=CQ hx;omega),by omega,λhz x hx=>?_,by omega⟩
 unfold FM at hz
 split at hz
 ·rename_i h9
  exact VH x (by have:=CQ hx;omega) 0 (F1 _ _ h9 x hx)
 ·omega
end
section
inductive JC:Ax->Prop where
 |mk {c:Ax} (h5:c.kind=5\/c.kind=7->∃s,c.texts=[s]) (h6:c.kind=6->∃s p,c.texts=[s]/\(Ba s).1=[p]/\Cc p.1 p.2=0/\s.length<=1048576) (h0:¬(c.kind=1\/c.kind=2\/c.kind=5\/c.kind=6\/c.kind=7\/c.kind=8\/c.kind=9)->c.texts=[]) (hn:c.texts.length<=1048576) (ht:c.kind=2->JT c.test) (ha:∀x∈c.thn,JC x) (he:∀x∈c.els,JC x):JC c
theorem JC.inv {c:Ax} (h:JC c):(c.kind=5\/c.kind=7->∃s,c.texts=[s])/\(c.kind=6->∃s p,c.texts=[s]/\(Ba s).1=[p]/\Cc p.1 p.2=0/\s.length<=1048576)/\(¬(c.kind=1\/c.kind=2\/c.kind=5\/c.kind=6\/c.kind=7\/c.kind=8\/c.kind=9)->c.texts=[])/\c.texts.length<=1048576/\(c.kind=2->JT c.test)/\(∀x∈c.thn,JC x)/\∀x∈c.els,JC x:=by
 cases h;exact⟨by assumption,by assumption,by assumption,by assumption,by assumption,by assumption,by assumption⟩
theorem JA {ks:List Tx} :∀{l:List Ax},B9 ks l=0->∀x∈l,BZ ks x=0
 |[],_,x,hx=>by cases hx
 | c::l,h,x,hx=>by
  rw[B9] at h
  split at h
  ·contradiction
  ·rename_i h9
   rcases List.mem_cons.1 hx with rfl|hx
   ·omega
   ·exact JA h x hx
theorem JC.of (ks:List Tx) (c:Ax):c.Rd->∀d:Int,cF c d=0->(c.kind=1\/BZ ks c=0)->JC c:=by
 induction c using Ax.ind with
 | h c i1 i2=>
  intro rd d hc hk
  obtain⟨hr1,hr2,hr3,hr4,hr5⟩:=rd.inv
  obtain⟨_,hif,hno⟩:=I9 hc
  by_cases h2:c.kind=2
  ·obtain⟨ht,ha,hb,he⟩:=hif h2
   have hk:BZ ks c=0:=by rcases hk with h9|h9;omega;exact h9
   rw[Dk,if_neg ZO,if_pos h2] at hk
   split at hk
   ·contradiction
   rename_i k1
   split at hk
   ·contradiction
   rename_i k2
   have k1:CW ks c.test=0:=by omega
   have k2:B9 ks c.thn=0:=by omega
   refine⟨λh9=>by omega,λh9=>by omega,λh9=>by omega,hr2,λ_=>JT.of ks _ 1 ht k1,λx hx=>i1 x hx (hr4 x hx) _ (ha x hx) (.inr (JA k2 x hx)),λx hx=>?_⟩
   cases hel:BQ c with
   |true=>exact i2 x hx (hr5 x hx) _ (hb hel x hx) (.inr (JA hk x hx))
   |false=>exact i2 x hx (hr5 x hx) _ (he hel x hx) (.inr (JA hk x hx))
  ·have ho:=hno h2
   obtain⟨e1,e2⟩:=RX ho
   rw[MN] at ho
   simp only[Bool.and_eq_true] at ho
   have ho:=ho.2
   have one:c.kind=5\/c.kind=6\/c.kind=7->∃s,c.texts=[s]:=λh9=>by
    rw[if_neg ZO,if_pos (by simp[A7];omega)] at ho
    exact List.length_eq_one_iff.1 (of_decide_eq_true ho)
   refine⟨λh9=>one ZO,λh9=>?_,λh9=>?_,hr2,λh9=>by omega,λx hx=>by rw[e1] at hx;simp at hx,λx hx=>by rw[e2] at hx;simp at hx⟩
   ·obtain⟨s,hs⟩:=one ZO
    have hk:BZ ks c=0:=by rcases hk with h9|h9;omega;exact h9
    rw[Dk,if_neg ZO,if_neg h2,if_neg ZO,if_neg ZO,if_neg ZO,if_pos h9,hs,toE] at hk
    split at hk
    ·rename_i h8
     obtain⟨p,hp⟩:=List.length_eq_one_iff.1 h8.2
     exact⟨s,p,hs,hp,MC s p (by rw[show(Ba s).1=[p] from hp];exact List.mem_singleton.2 rfl),hr3 s (by rw[hs];exact List.mem_singleton.2 rfl)⟩
    ·omega
   ·rw[if_neg ZO,if_neg (by simp[A7];omega)] at ho
    exact List.eq_nil_of_length_eq_zero (of_decide_eq_true ho)
def DE (fl:Int) (x:Ax):Eb:=
 if x.kind=5 then⟨x.kind,x.texts.headD [],fl⟩
 else if x.kind=3 then⟨x.kind,[],fl⟩
 else if x.kind=6 then⟨x.kind,C6 1 ((Ba (x.texts.headD [])).1.headD ([],[])),0⟩
 else if x.kind=7 then⟨x.kind,x.texts.headD [],0⟩
 else⟨x.kind,[],0⟩
def Dl (c:Co) (x:Ax):Co×Bool:=
 if x.kind=10 then(c,false)
 else if x.kind=8 then(⟨c.a,(Sw x.texts).1,c.ak,c.ft⟩,true)
 else if x.kind=9 then(⟨c.a,orF c.fl (Sw x.texts).1,c.ak,c.ft⟩,true)
 else if x.kind=1 then(c,true)
 else DN c (DE c.fl x)
theorem Td {c:Co} {x:Ax} (h:x.kind=10):Dl c x=(c,false):=if_pos h
theorem Y1 {c:Co} {x:Ax} (h:x.kind=8):Dl c x=(⟨c.a,(Sw x.texts).1,c.ak,c.ft⟩,true):=by rw[Dl,if_neg ZO,if_pos h]
theorem Y2 {c:Co} {x:Ax} (h:x.kind=9):Dl c x=(⟨c.a,orF c.fl (Sw x.texts).1,c.ak,c.ft⟩,true):=by rw[Dl,if_neg ZO,if_neg ZO,if_pos h]
theorem Y0 {c:Co} {x:Ax} (h:x.kind=1):Dl c x=(c,true):=by rw[Dl,if_neg ZO,if_neg ZO,if_neg ZO,if_pos h]
theorem Mr {c:Co} {x:Ax} (h1:¬x.kind=10) (h2:¬x.kind=8) (h3:¬x.kind=9) (h4:¬x.kind=1):Dl c x=DN c (DE c.fl x):=by rw[Dl,if_neg h1,if_neg h2,if_neg h3,if_neg h4]
theorem Aby {fl:Int} {x:Ax} {s:Tx} (h:x.kind=5) (hs:x.texts=[s]):DE fl x=⟨5,s,fl⟩:=by rw[DE,if_pos h,hs,h];rfl
theorem Abx {fl:Int} {x:Ax} (h:x.kind=3):DE fl x=⟨3,[],fl⟩:=by rw[DE,if_neg ZO,if_pos h,h]
theorem Abz {fl:Int} {x:Ax} {s:Tx} {p:Ad} (h:x.kind=6) (hs:x.texts=[s]) (hp:(Ba s).1=[p]):DE fl x=⟨6,C6 1 p,0⟩:=by
 rw[DE,if_neg ZO,if_neg ZO,if_pos h,hs,h,show([s]:List Tx).headD []=s from rfl,hp];rfl
theorem Ab0 {fl:Int} {x:Ax} {s:Tx} (h:x.kind=7) (hs:x.texts=[s]):DE fl x=⟨7,s,0⟩:=by rw[DE,if_neg ZO,if_neg ZO,if_neg ZO,if_pos h,hs,h];rfl
theorem Ab1 {fl:Int} {x:Ax} (h1:¬x.kind=5) (h2:¬x.kind=3) (h3:¬x.kind=6) (h4:¬x.kind=7):DE fl x=⟨x.kind,[],0⟩:=by rw[DE,if_neg h1,if_neg h2,if_neg h3,if_neg h4]
end
section
attribute [local go_sem] BW AW AJ Ef List.map_cons List.map_nil List.cons_append List.nil_append Q8 Bi Aq Ds Xp Gd in
theorem Air (T:Ap) (hL:Bw T) (hF:T 2=Bf.map D.str) (w bb cc:Nat) (c:Co) (F:Af) (L:List Nat) (hX:cc=0->c.a=[]) (hlX:c.a.length<=1000000) (z:Ax) (ok:z.Ok) (jc:JC z) (hif:¬z.kind=2):AC prog T 79 [.ptr w 4 0 0,.agg (BW z)] (⟨FP w bb cc c F,L⟩) (λx h=> ∃b2 c2,(c2=0->(Dl c z).1.a=[])/\x= .ret (.d (.bool (Dl c z).2))/\h=⟨FP w b2 c2 (Dl c z).1 F,L⟩):=by
 refine⟨call79,Ao.enterS func79 rfl ntmps79 rfl λhb=>?_⟩
 obtain⟨X,fl,ak,ft⟩:=c
 dsimp only at hX hlX
 obtain⟨s1,s2,s3,s4,s5,s6⟩:=ok.inv
 obtain⟨j5,j6,j0,jn,jt,ja,je⟩:=jc.inv
 simp only[FP]
 simp only[go_sem,results79]
 refine Zx (Zy ?_)
 intro b3 fb3
 try simp only[Ab] at fb3
 refine Zx ?_
 simp only[go_sem,fb3]
 intro b5 fb5
 try simp only[Ab] at fb5
 refine Zm 21 ?_
 refine Zs (Zp 23 ?_)
 refine Aa.block (Zp 31 ?_)
 refine Zc (λhc0=>?_) λhc0=>?_
 ·have e:Dl ⟨X,fl,ak,ft⟩ z=(⟨X,fl,ak,ft⟩,false):=Td hc0
  refine Zp 4 (Aa.ret ?_)
  simp only[Am,Bo]
  apply Ah [b3,b5] [] [w] [] ZH
  · exact ⟨bb,cc,by rw[e];exact hX,rfl,by rw[e];first|rfl|(simp only[go_sem,fb3,fb5];done)|(simp only[go_sem,FP,fb3,fb5];rfl)⟩
  · simp [Aj,Ay,e]
 refine Zp 47 ?_
 refine Zc (λhc1=>?_) λhc1=>?_
 ·have e:Dl ⟨X,fl,ak,ft⟩ z=(⟨X,(Sw z.texts).1,ak,ft⟩,true):=Y1 hc1
  refine Z1 0 (U5 T hF z.texts jn) ?_
  refine Zp 1 (Aa.ret ?_)
  simp only[Am,Bo]
  apply Ah [b3,b5] [] [w] [] ZH
  · exact ⟨bb,cc,by rw[e];exact hX,rfl,by rw[e];first|rfl|(simp only[go_sem,fb3,fb5];done)|(simp only[go_sem,FP,fb3,fb5];rfl)⟩
  · simp [Aj,Ay,e]
 refine Zp 47 ?_
 refine Zc (λhc2=>?_) λhc2=>?_
 ·have e:Dl ⟨X,fl,ak,ft⟩ z=(⟨X,orF fl (Sw z.texts).1,ak,ft⟩,true):=Y2 hc2
  refine Z1 9 (U5 T hF z.texts jn) ?_
  refine Zp 0 ?_
  refine Zp 1 (Aa.ret ?_)
  simp only[Am,Bo]
  apply Ah [b3,b5] [] [w] [] ZH
  · exact ⟨bb,cc,by rw[e];exact hX,rfl,by rw[e];first|rfl|(simp only[go_sem,fb3,fb5];done)|(simp only[go_sem,fb3,fb5];rfl)⟩
  · simp [Aj,Ay,e]
 refine Zp 47 ?_
 refine Zc (λhc3=>?_) λhc3=>?_
 ·have e:Dl ⟨X,fl,ak,ft⟩ z=(⟨X,fl,ak,ft⟩,true):=Y0 hc3
  refine Zp 4 (Aa.ret ?_)
  simp only[Am,Bo]
  apply Ah [b3,b5] [] [w] [] ZH
  · exact ⟨bb,cc,by rw[e];exact hX,rfl,by rw[e];first|rfl|(simp only[go_sem,fb3,fb5];done)|(simp only[go_sem,FP,fb3,fb5];rfl)⟩
  · simp [Aj,Ay,e]
 refine Zp 47 ?_
 refine Zc (λhc4=>?_) λhc4=>?_
 ·obtain⟨s,hs⟩:=j5 ZO
  have e:Dl ⟨X,fl,ak,ft⟩ z=DN ⟨X,fl,ak,ft⟩ ⟨5,s,fl⟩:=(Mr hc0 hc1 hc2 hc3).trans (by rw[Aby hc4 hs])
  refine DL true (.seg 0 (.seg 1 (.seg 2 (.seg 3 (.seg 4 (.seg 5 (.seg 6 (.seg 7 (.seg 9 (.many (.alt 8 (.seg 10 (.seg 11 (.seg 12 (.done)))) (.alt 10 (.seg 8 (.seg 11 (.seg 12 (.done)))) (.nil))))))))))))) rfl (by kernel_rfl) λK_ hK_=>?_
  simp only[go_sem,fb3,fb5,hs,hc4]
  (repeat(with_reducible refine And.intro ZS ?_))
  refine hK_ _ _ ?_
  refine Ai (Ac ?_)
  refine Zm 5 ?_
  refine Zx ?_
  simp only[go_sem,fb5]
  refine Fa rfl rfl rfl rfl (BO.pm (IB [_,_] w bb cc ⟨X,fl,ak,ft⟩ F)) (ZR) (Q9 T w bb cc ⟨X,fl,ak,ft⟩ _ _ hX hlX (⟨5,s,fl⟩:Eb)) ?_
  rintro _ _ ⟨BB1,CC2,hCC2,rfl,rfl⟩
  refine Zy ?_
  refine Zn 2 ?_
  refine Aa.pm (G7 [_,_] ..) ?_
  simp only[List.cons_append,List.nil_append]
  refine Aa.ret ?_
  apply Ah [b3,b5] [] [w] [] ZH
  · exact ⟨BB1,CC2,by rw[e];exact hCC2,rfl,by rw[e];first|rfl|(simp only[go_sem,FP,fb3,fb5];done)|(simp only[go_sem,FP,fb3,fb5,hs,hc4];rfl)⟩
  · simp [Aj,Ay,e]
 refine Zp 47 ?_
 refine Zc (λhc5=>?_) λhc5=>?_
 ·have e:Dl ⟨X,fl,ak,ft⟩ z=DN ⟨X,fl,ak,ft⟩ ⟨3,[],fl⟩:=(Mr hc0 hc1 hc2 hc3).trans (by rw[Abx hc5])
  refine Zr (Ai (Ac ?_))
  refine Zm 5 ?_
  refine Zx ?_
  simp only[go_sem,fb5]
  refine Fa rfl rfl rfl rfl (BO.pm (IB [_,_] w bb cc ⟨X,fl,ak,ft⟩ F)) (ZR) (Q9 T w bb cc ⟨X,fl,ak,ft⟩ _ _ hX hlX (⟨3,[],fl⟩:Eb)) ?_
  rintro _ _ ⟨BB3,CC4,hCC4,rfl,rfl⟩
  refine Zy ?_
  refine Zn 2 ?_
  refine Aa.pm (G7 [_,_] ..) ?_
  simp only[List.cons_append,List.nil_append]
  refine Aa.ret ?_
  apply Ah [b3,b5] [] [w] [] ZH
  · exact ⟨BB3,CC4,by rw[e];exact hCC4,rfl,by rw[e];first|rfl|(simp only[go_sem,FP,fb3,fb5];done)|(simp only[go_sem,FP,fb3,fb5,hc5];rfl)⟩
  · simp [Aj,Ay,e]
 refine Zp 47 ?_
 refine Zc (λhc6=>?_) λhc6=>?_
 ·obtain⟨s,⟨al,ad⟩,hs,hp,ha0,hsl⟩:=j6 hc6
  have e:Dl ⟨X,fl,ak,ft⟩ z=DN ⟨X,fl,ak,ft⟩ ⟨6,C6 1 (al,ad),0⟩:=(Mr hc0 hc1 hc2 hc3).trans (by rw[Abz hc6 hs hp])
  refine Z1 13 (OU T hL s) ?_
  refine Zq λK_ k_=>?_
  refine Zy ?_
  (repeat(with_reducible refine And.intro ZS ?_))
  refine Aw rfl rfl rfl rfl (Pb T hL 1 al ad ha0 ZD) rfl rfl ?_
  simp only[go_sem,fb5]
  refine k_ _ _ (Ai (Ac ?_))
  refine Zm 3 ?_
  refine Zx ?_
  simp only[go_sem,fb5]
  refine Fa rfl rfl rfl rfl (BO.pm (IB [_,_] w bb cc ⟨X,fl,ak,ft⟩ F)) (ZR) (Q9 T w bb cc ⟨X,fl,ak,ft⟩ _ _ hX hlX (⟨6,C6 1 (al,ad),0⟩:Eb)) ?_
  rintro _ _ ⟨BB5,CC6,hCC6,rfl,rfl⟩
  refine Zy ?_
  refine Zn 2 ?_
  refine Aa.pm (G7 [_,_] ..) ?_
  simp only[List.cons_append,List.nil_append]
  refine Aa.ret ?_
  apply Ah [b3,b5] [] [w] [] ZH
  · exact ⟨BB5,CC6,by rw[e];exact hCC6,rfl,by rw[e];first|rfl|(simp only[go_sem,FP,fb3,fb5];done)|(simp only[go_sem,FP,fb3,fb5,hs,hp,hc6];rfl)⟩
  · simp [Aj,Ay,e]
 refine Zp 39 ?_
 refine Zc (λhc7=>?_) λhc7=>?_
 ·obtain⟨s,hs⟩:=j5 ZO
  have e:Dl ⟨X,fl,ak,ft⟩ z=DN ⟨X,fl,ak,ft⟩ ⟨7,s,0⟩:=(Mr hc0 hc1 hc2 hc3).trans (by rw[Ab0 hc7 hs])
  refine Zr (Ai (Ac ?_))
  refine Zm 5 ?_
  refine Zx ?_
  simp only[go_sem,fb5]
  refine Fa rfl rfl rfl rfl (BO.pm (IB [_,_] w bb cc ⟨X,fl,ak,ft⟩ F)) (ZR) (Q9 T w bb cc ⟨X,fl,ak,ft⟩ _ _ hX hlX (⟨7,s,0⟩:Eb)) ?_
  rintro _ _ ⟨BB7,CC8,hCC8,rfl,rfl⟩
  refine Zy ?_
  refine Zn 2 ?_
  refine Aa.pm (G7 [_,_] ..) ?_
  simp only[List.cons_append,List.nil_append]
  refine Aa.ret ?_
  apply Ah [b3,b5] [] [w] [] ZH
  · exact ⟨BB7,CC8,by rw[e];exact hCC8,rfl,by rw[e];first|rfl|(simp only[go_sem,FP,fb3,fb5];done)|(simp only[go_sem,FP,fb3,fb5,hs,hc7];rfl)⟩
  · simp [Aj,Ay,e]
 have e:Dl ⟨X,fl,ak,ft⟩ z=DN ⟨X,fl,ak,ft⟩ ⟨z.kind,[],0⟩:=(Mr hc0 hc1 hc2 hc3).trans (by rw[Ab1 hc4 hc5 hc6 hc7])
 refine Z5 ?_
 refine Zx ?_
 simp only[go_sem,fb5]
 refine Fa rfl rfl rfl rfl (BO.pm (IB [_,_] w bb cc ⟨X,fl,ak,ft⟩ F)) (ZR) (Q9 T w bb cc ⟨X,fl,ak,ft⟩ _ _ hX hlX (⟨z.kind,[],0⟩:Eb)) ?_
 rintro _ _ ⟨BB9,CC10,hCC10,rfl,rfl⟩
 refine Zy ?_
 refine Zn 4 ?_
 refine Aa.pm (G7 [_,_] ..) ?_
 simp only[List.cons_append,List.nil_append]
 refine Aa.ret ?_
 apply Ah [b3,b5] [] [w] [] ZH
 · exact ⟨BB9,CC10,by rw[e];exact hCC10,rfl,by rw[e];first|rfl|(simp only[go_sem,FP,fb3,fb5];done)|(simp only[go_sem,FP,fb3,fb5];rfl)⟩
 · simp [Aj,Ay,e]
end
section
theorem Ej {P:Program} {T:Ap} {Q:AQ} {sl:List AV} {code:Code} {b i j t k:Nat} {rows:List (List D)} {h:AH} {ob:Ob} {r:List AV} (hg:A9 b h.objs=some ob) (hr:ob.rows[i]?=some r) (hj:r[j]?=some (.own t k rows)) (H:Aa P T code Q sl ⟨C8 b ⟨ob.k,ob.c,ob.rows.set i (r.set j (.d (.slc k rows)))⟩ h.objs,h.live⟩):Aa P T code Q sl h:=by
 intro G w a S R
 exact H G w a (S.recell hg hr hj (a':= .d (.slc k rows)) rfl λv hv=>by cases hv with|own hd _=>exact .d hd) R
theorem Add {l:List Eb} {k:Nat} (h:k<l.length):By (l.take (k+1))=By (l.take k)++[[.int .i64 l[k].k,.str l[k].t,.int .i64 l[k].f]]:=by rw[List.take_succ_eq_append_getElem h,By,List.map_append];rfl
theorem Jy (l:List Eb) (i:Nat) (d:List D) (h:i<l.length):(By l).getD i d=[.int .i64 l[i].k,.str l[i].t,.int .i64 l[i].f]:=Al Qi _ _ _ h
def No (c:Co):List AV:=[.d (.slc 3 (By c.a)),.d (.int .i64 c.fl),.d (.bool c.ak),.d (.int .i64 c.ft)]
theorem Zw (T:Ap) (hL:Bw T) (s:Tx) (p:Ad) (h:(Ba s).1=[p]):PC prog T 82 [.d (.str s)] (.tup [.d (.slc 2 [[.str p.1,.str p.2]]),.d (.bool true)]):=by
 unfold Ba at h
 split at h
 ·simp at h
 split at h
 ·simp at h
 rename_i l hl
 split at h
 ·simp at h
 dsimp only at h
 subst h
 have:=MB T hL s ZO
 rw[hl] at this
 exact this
def U3 (z:Ax) (fl:Int):Int:=if z.kind=3\/z.kind=5 then fl else 0
def Vz (z:Ax):Tx:=if z.kind=6 then C6 1 ((Ba (z.texts.headD [])).1.headD ([],[])) else z.texts.headD []
def aR (fl:Int) (z:Ax):Eb:=⟨z.kind,Vz z,U3 z fl⟩
theorem Aha {l:List Tx} (h:0<l.length):l.headD []=l[0]:=by cases l with|nil=>simp at h|cons a l=>rfl
theorem AgZ {l:List Tx} (h:¬0<l.length):l.headD []=[]:=by cases l with|nil=>rfl|cons a l=>simp at h
theorem Agw {z:Ax} {fl:Int} (jc:JC z) (h2:¬z.kind=2) (h1:¬z.kind=1) (h8:¬z.kind=8) (h9:¬z.kind=9):aR fl z=DE fl z:=by
 have j0:=jc.inv.2.2.1
 by_cases k5:z.kind=5
 ·rw[aR,U3,if_pos (.inr k5),Vz,if_neg ZO,DE,if_pos k5]
 by_cases k3:z.kind=3
 ·rw[aR,U3,if_pos (.inl k3),Vz,if_neg ZO,DE,if_neg k5,if_pos k3,j0 ZO];rfl
 by_cases k6:z.kind=6
 ·rw[aR,U3,if_neg ZO,Vz,if_pos k6,DE,if_neg k5,if_neg k3,if_pos k6]
 by_cases k7:z.kind=7
 ·rw[aR,U3,if_neg ZO,Vz,if_neg k6,DE,if_neg k5,if_neg k3,if_neg k6,if_pos k7]
 ·rw[aR,U3,if_neg ZO,Vz,if_neg k6,DE,if_neg k5,if_neg k3,if_neg k6,if_neg k7,j0 ZO];rfl
theorem AcQ {z:Ax} {s:Tx} {p:Ad} (h:z.kind=6) (hs:z.texts=[s]) (hp:(Ba s).1=[p]):Vz z=C6 1 p:=by
 rw[Vz,if_pos h,hs,show([s]:List Tx).headD []=s from rfl,hp];rfl
theorem Adh {A:List Eb} {k:Nat} (g:Eb->Bool) (h:k<A.length):(A.take (k+1)).any g=((A.take k).any g||g A[k]):=by rw[List.take_succ_eq_append_getElem h,List.any_append];simp
attribute [local go_sem] Bi Bn in
theorem Kw (T:Ap) (l:List Eb) (hl:l.length<=1000) (F:Af) (L:List Nat):AC prog T 85 [.d (.slc 3 (By l))] (⟨F,L⟩) (λx h=> ∃v,Ae v L/\x= .ret (.own v 3 (By l))/\h=⟨F,v::L⟩):=by
 refine⟨call85,Ao.enterS func85 rfl ntmps85 rfl λhb=>?_⟩
 simp only[go_sem,results85]
 refine Zp 1 ?_
 refine Zp 3 ?_
 refine Zs (Zp 7 ?_)
 refine Aa.block (Zy ?_)
 refine Bs 3 3 rfl rfl ZD λw0 fw0=>?_
 try simp only[Ae] at fw0
 refine Zy ?_
 refine Zl 1 6 (λn lc hc=> ∃(k w:Nat),n=l.length-k/\Av lc [(3,.own w 3 (By (l.take k))),(4,.d (.int .i64 (k:Nat)))]/\Av hc (⟨F,w::L⟩)/\(k<=l.length)/\(Ae w L)) ?_ ?_
 · refine ⟨_,0,w0,rfl,ZE,ZE,?_,?_⟩
   all_goals(first|omega|exact fw0|assumption)
 rintro _ _ _ ⟨k,w,rfl,⟨rfl⟩,⟨rfl⟩,h1,h2⟩
 refine Zy ?_
 refine Zs (Zp 71 ?_)
 refine Zc (λhc0=>?_) λhc0=>?_
 ·have hlt:k<l.length:=by omega
  have hki:(k:Int)<(l.length:Int):=by omega
  have zf1:=λd0_=>Jy l k d0_ hlt
  refine Zk ?_
  refine Zs (Aa.block (Zq λK_ k_=>?_))
  simp only[go_sem,zf1,hki]
  refine ZW λt1 ft1=>?_
  try simp only[Ae] at ft1
  refine Zy ?_
  refine k_ _ _ (Ai (Ac ?_))
  refine Zm 7 ?_
  refine Z6 ?_
  refine Ze 1 6 [] [] [] [t1] (.e ⟨_,ZM,k+1,t1,rfl,?_,ZE,?_,?_⟩)
  · (try simp only[go_sem])<;>first|exact⟨rfl⟩|(constructor;rw[Add hlt])
  · omega
  · first|exact ft1|exact ft1.2|exact ft1.2.2|exact ft1.1|trivial|assumption
 have htk:l.take k=l:=List.take_of_length_le ZO
 rw[htk]
 refine Z4 ?_
 refine Zp 2 (Aa.ret ?_)
 apply Ah [] [] [] [] ZH
 · exact ⟨w,h2,rfl,ZR⟩
 · simp [Aj]
attribute [local go_sem] BW AW AJ Ef List.map_cons List.map_nil List.cons_append List.nil_append Bi Aq No Bn in
theorem Aaj (T:Ap) (hL:Bw T) (c:Co) (z:Ax) (ok:z.Ok) (jc:JC z) (hif:¬z.kind=2) (h0:c.ft=0) (h5:Q0 c.fl) (h6:c.a.length<=6):PC prog T 41 [.agg (No c),.agg (BW z)] (.tup [.agg (No (Dl c z).1),.d (.bool (Dl c z).2)]):=by
 refine⟨call41,Ar.enterS func41 rfl ntmps41 rfl λhb=>?_⟩
 obtain⟨A,fl,ak,ft⟩:=c
 dsimp only at h0 h5 h6
 subst h0
 obtain⟨s1,s2,s3,s4,s5,s6⟩:=ok.inv
 obtain⟨j5,j6,j0,jn,jt,ja,je⟩:=jc.inv
 simp only[go_sem,results41]
 refine Zx (Zy ?_)
 intro b2
 first|intro fb2|have fb2:=True.intro
 try simp only[Ab] at fb2
 intro b3
 first|intro fb3|have fb3:=True.intro
 try simp only[Ab] at fb3
 intro b4
 first|intro fb4|have fb4:=True.intro
 try simp only[Ab] at fb4
 refine Zs (Zp 8220 ?_)
 refine Zc (λhc0=>?_) λhc0=>?_
 ·have hk:z.kind=10:=by simpa using hc0
  have e:=Td (c:=⟨A,fl,ak,0⟩) hk
  refine Zp 12 (Aa.ret ?_)
  simp only[go_sem,fb4]
  rw[e];simp[]
 have k10:¬z.kind=10:=by simpa using hc0
 refine Zk ?_
 refine Zs (Zp 71 ?_)
 refine Zc (λhc1=>?_) λhc1=>?_
 ·have e:=Y0 (c:=⟨A,fl,ak,0⟩) hc1
  refine Zp 12 (Aa.ret ?_)
  simp only[go_sem,fb4]
  rw[e];simp[]
 refine Zk ?_
 refine Zs (Zp 2055 ?_)
 refine Zc (λhc2=>?_) λhc2=>?_
 ·have hk89:z.kind=8\/z.kind=9:=by first|exact hc2|omega
  refine Z1 15 (WE T z.texts jn) ?_
  refine Zs (Zp 77 ?_)
  refine Zc (λhc3=>?_) λhc3=>?_
  ·have e:=Y2 (c:=⟨A,fl,ak,0⟩) (show z.kind=9 by first|exact hc3|omega)
   refine Zq λK_ k_=>?_
   simp only[go_sem,fb3,fb4]
   refine ZP (Afu T _ _ (My z.texts) h5) ?_
   refine Zy ?_
   refine k_ _ _ (Ac ?_)
   refine Zm 7 ?_
   refine Zp 3 ?_
   refine Zp 6 (Aa.ret ?_)
   simp only[go_sem,fb4]
   rw[e];simp[]
  have e:=Y1 (c:=⟨A,fl,ak,0⟩) (show z.kind=8 by omega)
  refine Zk ?_
  refine Zp 3 ?_
  refine Zp 6 (Aa.ret ?_)
  simp only[go_sem,fb4]
  rw[e];simp[]
 have k8:¬z.kind=8:=by omega
 have k9:¬z.kind=9:=by omega
 have ea:=(Mr (c:=⟨A,fl,ak,0⟩) k10 k8 k9 hc1).trans (by rw[<-Agw jc hif hc1 k8 k9])
 refine Zk ?_
 refine Zx ?_
 simp only[go_sem,fb3,fb4]
 intro b8 fb8
 try simp only[Ab] at fb8
 refine Zm 15 ?_
 refine Zs (Zp 2063 ?_)
 refine Zy ?_
 refine Zi 15 (λlc hc=>Av lc []/\Av hc (⟨[(b8,⟨3,1,[[.d (.int .i64 z.kind),.d (.str []),.d (.int .i64 (U3 z fl))]]⟩),(b4,⟨4,1,[[.nils,.d (.int .i64 0),.d (.bool false),.d (.int .i64 0)]]⟩),(b3,⟨12,1,[BW z]⟩),(b2,⟨4,1,[[.d (.slc 3 (By A)),.d (.int .i64 fl),.d (.bool ak),.d (.int .i64 0)]]⟩)],[]⟩)) ?_ ?_
 ·refine Zc (λhc4=>?_) λhc4=>?_
  ·refine Z6 ?_
   refine Ze 15 0 [] [] [b8,b4,b3,b2] [] (.e ⟨ZG,?_⟩)
   · (try simp only[go_sem,fb3,fb4,fb8])<;>first|exact⟨rfl⟩|(constructor;first|(rw[U3,if_pos ZO];done)|(rw[U3,if_neg ZO];done))
  refine Zk ?_
  refine Ze 15 0 [] [] [b8,b4,b3,b2] [] (.e ⟨ZG,?_⟩)
  · (try simp only[go_sem,fb3,fb4,fb8])<;>first|exact⟨rfl⟩|(constructor;first|(rw[U3,if_pos ZO];done)|(rw[U3,if_neg ZO];done))
 rintro _ _ ⟨⟨rfl⟩,⟨rfl⟩⟩
 refine Zy ?_
 refine Zs (Zp 143 ?_)
 refine Zy ?_
 refine Zi 15 (λlc hc=>Av lc []/\Av hc (⟨[(b8,⟨3,1,[[.d (.int .i64 z.kind),.d (.str (z.texts.headD [])),.d (.int .i64 (U3 z fl))]]⟩),(b4,⟨4,1,[[.nils,.d (.int .i64 0),.d (.bool false),.d (.int .i64 0)]]⟩),(b3,⟨12,1,[BW z]⟩),(b2,⟨4,1,[[.d (.slc 3 (By A)),.d (.int .i64 fl),.d (.bool ak),.d (.int .i64 0)]]⟩)],[]⟩)) ?_ ?_
 ·refine Zc (λhc5=>?_) λhc5=>?_
  ·have hl0:0<z.texts.length:=by omega
   have zf1:=λd0_=>Al Aq z.texts 0 d0_ hl0
   refine Z6 ?_
   refine Ze 15 0 [] [] [b8,b4,b3,b2] [] (.e ⟨ZG,?_⟩)
   · (try simp only[go_sem,fb3,fb4,fb8])<;>first|exact⟨rfl⟩|(constructor;first|(rw[Aha hl0];done)|(rw[AgZ ZO];done))
  refine Zk ?_
  refine Ze 15 0 [] [] [b8,b4,b3,b2] [] (.e ⟨ZG,?_⟩)
  · (try simp only[go_sem,fb3,fb4,fb8])<;>first|exact⟨rfl⟩|(constructor;first|(rw[Aha hl0];done)|(rw[AgZ ZO];done))
 rintro _ _ ⟨⟨rfl⟩,⟨rfl⟩⟩
 refine Zy ?_
 refine Zs (Zp 77 ?_)
 refine Zy ?_
 refine Zi 7 (λlc hc=>Av lc []/\Av hc (⟨[(b8,⟨3,1,[[.d (.int .i64 z.kind),.d (.str (Vz z)),.d (.int .i64 (U3 z fl))]]⟩),(b4,⟨4,1,[[.nils,.d (.int .i64 0),.d (.bool false),.d (.int .i64 0)]]⟩),(b3,⟨12,1,[BW z]⟩),(b2,⟨4,1,[[.d (.slc 3 (By A)),.d (.int .i64 fl),.d (.bool ak),.d (.int .i64 0)]]⟩)],[]⟩)) ?_ ?_
 ·refine Zc (λhc6=>?_) λhc6=>?_
  ·obtain⟨s,⟨al,ad⟩,hs,hp,ha0,hsl⟩:=j6 hc6
   have hsd:z.texts.headD []=s:=by rw[hs];rfl
   refine Z1 15 (Zw T hL s (al,ad) hp) ?_
   refine Zq λK_ k_=>?_
   refine Zy ?_
   (repeat(with_reducible refine And.intro ZS ?_))
   refine Aw rfl rfl rfl rfl (JZ T 1 al ad (by obtain⟨_,_,hll⟩:=G5 ha0;dsimp only at hll;omega)) rfl rfl ?_
   simp only[go_sem,fb8]
   refine k_ _ _ (Ac ?_)
   refine Ze 7 0 [] [] [b8,b4,b3,b2] [] (.e ⟨ZG,?_⟩)
   · (try simp only[go_sem,fb3,fb4,fb8])<;>first|exact⟨rfl⟩|(constructor;first|(rw[Vz,if_neg (show¬z.kind=6 from hc6)];done)|(rw[AcQ hc6 hs hp,hc6,hs];done)|(rw[AcQ hc6 hs hp,hc6,hs];rfl))
  refine Zk ?_
  refine Ze 7 0 [] [] [b8,b4,b3,b2] [] (.e ⟨ZG,?_⟩)
  · (try simp only[go_sem,fb3,fb4,fb8])<;>first|exact⟨rfl⟩|(constructor;first|(rw[Vz,if_neg (show¬z.kind=6 from hc6)];done)|(rw[AcQ hc6 hs hp,hc6,hs];done)|(rw[AcQ hc6 hs hp,hc6,hs];rfl))
 rintro _ _ ⟨⟨rfl⟩,⟨rfl⟩⟩
 refine Zy ?_
 refine Zp 7 ?_
 refine Zp 15 ?_
 refine Zs (Zp 31 ?_)
 refine Aa.block (Zy ?_)
 refine Zl 7 24 (λn lc hc=> ∃(k:Nat),n=A.length-k/\Av lc [(11,.d (.bool ((A.take k).any (Gv (aR fl z))))),(12,.d (.int .i64 (k:Nat)))]/\Av hc (⟨[(b8,⟨3,1,[[.d (.int .i64 z.kind),.d (.str (Vz z)),.d (.int .i64 (U3 z fl))]]⟩),(b4,⟨4,1,[[.nils,.d (.int .i64 0),.d (.bool false),.d (.int .i64 0)]]⟩),(b3,⟨12,1,[BW z]⟩),(b2,⟨4,1,[[.d (.slc 3 (By A)),.d (.int .i64 fl),.d (.bool true),.d (.int .i64 0)]]⟩)],[]⟩)/\(k<=A.length)/\((A.take k).any (D6 (aR fl z))=false)) ?_ ?_
 · refine ⟨_,0,rfl,?_,ZE,?_,?_⟩
   · (try simp only[go_sem])<;>first|exact⟨rfl⟩|(constructor;first|rfl|(simp;done))
   all_goals(first|omega|rfl|(simp;done))
 rintro _ _ _ ⟨k,rfl,⟨rfl⟩,⟨rfl⟩,h1,h2⟩
 refine Zy ?_
 refine Zs (Zp 543 ?_)
 refine Zc (λhc7=>?_) λhc7=>?_
 ·have hlt:k<A.length:=by omega
  have hki:(k:Int)<(A.length:Int):=by omega
  have hsm:Gv (aR fl z) A[k]=(decide (A[k].k=z.kind)&&decide (A[k].t=Vz z)):=by
    simp only[Gv,aR]
    by_cases q1:A[k].k=z.kind<;>by_cases q2:A[k].t=Vz z<;>simp[q1,q2]
  have zf2:=λd0_=>Jy A k d0_ hlt
  refine Zk ?_
  refine Zs (Aa.block (Zx ?_))
  simp only[go_sem,fb3,fb4,fb8,zf2,hki]
  intro b13
  first|intro fb13|have fb13:=True.intro
  try simp only[Ab] at fb13
  refine Zm 63 ?_
  refine Zs (Zx ?_)
  simp only[go_sem,fb8,fb13]
  refine B7 rfl rfl rfl rfl rfl (λhg=>AaA T _) (λhg=>by(try simp only[go_sem])<;>first|exact hg|(exfalso;simp at hg;done)|(simpa using hg)|grind) rfl rfl ?_
  simp only[go_sem,fb8,fb13]
  (repeat(with_reducible refine And.intro ZS ?_))
  refine B7 rfl rfl rfl rfl rfl (λhg=>AaA T _) (λhg=>by(try simp only[go_sem])<;>first|exact hg|(exfalso;simp at hg;done)|(simpa using hg)|grind) rfl rfl ?_
  refine Zy ?_
  (repeat(with_reducible refine And.intro ZS ?_))
  refine Zm 1073741887 ?_
  refine Zc (λhc8=>?_) λhc8=>?_
  ·have hcl:A.any (D6 (aR fl z))=true:=List.any_eq_true.2 ⟨A[k],List.getElem_mem hlt,by simp only[D6,aR,JK] at*;simp at hc8⊢;grind⟩
   have e:Dl ⟨A,fl,ak,0⟩ z=(⟨A,fl,true,9⟩,false):=ea.trans (SE hcl)
   refine Zp 3 ?_
   refine Zp 6 (Aa.ret ?_)
   simp only[go_sem,fb4,fb8,fb13]
   rw[e];simp[]
  have hcl:D6 (aR fl z) A[k]=false:=by simp only[D6,aR,JK] at*;simp at hc8⊢;grind
  refine Zk ?_
  refine Zr (Ai (Ac ?_))
  refine Zm 31 ?_
  refine Z6 ?_
  refine Ze 7 24 [b13] [] [b8,b4,b3,b2] [] (.e ⟨_,ZM,k+1,rfl,?_,ZE,?_,?_⟩)
  · (try simp only[go_sem])<;>first|exact⟨rfl⟩|(constructor;rw[Adh _ hlt,hsm])
  · omega
  · rw [Adh _ hlt,h2,hcl];rfl
 have htk:A.take k=A:=List.take_of_length_le ZO
 rw[htk] at h2
 refine Z4 ?_
 refine Zs (Zp 71 ?_)
 refine Zc (λhc9=>?_) λhc9=>?_
 ·rw[htk] at hc9
  have e:Dl ⟨A,fl,ak,0⟩ z=(⟨A,fl,true,0⟩,true):=ea.trans (SF h2 hc9)
  refine Zp 6 (Aa.ret ?_)
  simp only[go_sem,fb4,fb8]
  rw[e];simp[]<;>simp[By,Qi,aR]
 rw[htk] at hc9
 have h9:A.any (Gv (aR fl z))=false:=by simpa using hc9
 refine Zk ?_
 refine Zs (Zp 135 ?_)
 refine Zc (λhc10=>?_) λhc10=>?_
 ·have e:Dl ⟨A,fl,ak,0⟩ z=(⟨A,fl,true,5⟩,false):=ea.trans (SG h2 h9 (show A.length=6 by omega))
  refine Zp 3 ?_
  refine Zp 6 (Aa.ret ?_)
  simp only[go_sem,fb4,fb8]
  rw[e];simp[]<;>simp[By,Qi,aR]
 have e:Dl ⟨A,fl,ak,0⟩ z=(⟨A++[aR fl z],fl,true,0⟩,true):=ea.trans (Pd h2 h9 (show¬A.length=6 by omega))
 refine Zk ?_
 refine Kn false (.seg 0 (.many (.alt 1 (.many (.alt 2 (.seg 3 (.seg 4 (.seg 5 (.seg 6 (.seg 7 .done))))) (.alt 3 (.many (.alt 2 (.seg 4 (.seg 5 (.seg 6 (.seg 7 .done)))) (.alt 4 (.seg 2 (.seg 5 (.seg 6 (.seg 7 .done)))) .nil))) .nil))) (.alt 3 (.many (.alt 1 (.many (.alt 2 (.seg 4 (.seg 5 (.seg 6 (.seg 7 .done)))) (.alt 4 (.seg 2 (.seg 5 (.seg 6 (.seg 7 .done)))) .nil))) (.alt 4 (.seg 1 (.seg 2 (.seg 5 (.seg 6 (.seg 7 .done))))) .nil))) .nil)))) rfl (by kernel_rfl) λK_ hK_=>?_
 simp only[go_sem, *]
 refine⟨?_,?_⟩
 ·refine⟨?_,?_⟩
  ·refine ZA [] [] (Kw T A ZO _ _) ?_
   rintro _ _ ⟨tc,ftc,rfl,rfl⟩
   try simp only[Ae] at ftc
   simp only[go_sem,fb8]
   refine BF (tk:=tc) rfl rfl rfl rfl (show BL prog 44=some (103,3,32) by simp only[go_sem]) rfl rfl (by simp[ftc]) ZJ (by(try simp only[go_sem,Bn,List.length_cons,List.length_nil]);first|done|omega) (by(try simp only[go_sem,Bn,List.length_cons,List.length_nil]);first|done|omega) λt9 ft9=>?_
   try simp only[Ae] at ft9
   simp only[go_sem, *]
   refine hK_ _ _ ?_
   refine Zn 3 ?_
   refine Ej (b:=b2) (i:=0) (j:=0) (by(try simp only[go_sem,fb3,fb4,fb8]);rfl) rfl rfl ?_
   simp only[go_sem,C8,fb3,fb4,fb8]
   refine Zp 6 (Aa.ret ?_)
   simp only[go_sem,fb4,fb8]
   rw[e];simp[]<;>simp[By,Qi,aR]
  ·refine⟨?_,?_⟩
   ·refine ZA [] [] (Kw T A ZO _ _) ?_
    rintro _ _ ⟨tc,ftc,rfl,rfl⟩
    try simp only[Ae] at ftc
    refine Zy ?_
    refine BF (tk:=tc) rfl rfl rfl rfl (show BL prog 44=some (103,3,32) by simp only[go_sem]) rfl rfl (by simp[ftc]) ZJ (by(try simp only[go_sem,Bn,List.length_cons,List.length_nil]);first|done|omega) (by(try simp only[go_sem,Bn,List.length_cons,List.length_nil]);first|done|omega) λt9 ft9=>?_
    try simp only[Ae] at ft9
    simp only[go_sem, *]
    refine hK_ _ _ ?_
    refine Zn 3 ?_
    refine Ej (b:=b2) (i:=0) (j:=0) (by(try simp only[go_sem,fb3,fb4,fb8]);rfl) rfl rfl ?_
    simp only[go_sem,C8,fb3,fb4,fb8]
    refine Zp 6 (Aa.ret ?_)
    simp only[go_sem,fb4,fb8]
    rw[e];simp[]<;>simp[By,Qi,aR]
   ·refine ZA [] [] (Kw T A ZO _ _) ?_
    rintro _ _ ⟨tc,ftc,rfl,rfl⟩
    try simp only[Ae] at ftc
    refine Zy ?_
    refine BF (tk:=tc) rfl rfl rfl rfl (show BL prog 44=some (103,3,32) by simp only[go_sem]) rfl rfl (by simp[ftc]) ZJ (by(try simp only[go_sem,Bn,List.length_cons,List.length_nil]);first|done|omega) (by(try simp only[go_sem,Bn,List.length_cons,List.length_nil]);first|done|omega) λt9 ft9=>?_
    try simp only[Ae] at ft9
    simp only[go_sem, *]
    refine hK_ _ _ ?_
    refine Zn 3 ?_
    refine Ej (b:=b2) (i:=0) (j:=0) (by(try simp only[go_sem,fb3,fb4,fb8]);rfl) rfl rfl ?_
    simp only[go_sem,C8,fb3,fb4,fb8]
    refine Zp 6 (Aa.ret ?_)
    simp only[go_sem,fb4,fb8]
    rw[e];simp[]<;>simp[By,Qi,aR]
 ·refine⟨?_,?_⟩
  ·refine⟨?_,?_⟩
   ·refine ZA [] [] (Kw T A ZO _ _) ?_
    rintro _ _ ⟨tc,ftc,rfl,rfl⟩
    try simp only[Ae] at ftc
    refine Zy ?_
    refine BF (tk:=tc) rfl rfl rfl rfl (show BL prog 44=some (103,3,32) by simp only[go_sem]) rfl rfl (by simp[ftc]) ZJ (by(try simp only[go_sem,Bn,List.length_cons,List.length_nil]);first|done|omega) (by(try simp only[go_sem,Bn,List.length_cons,List.length_nil]);first|done|omega) λt9 ft9=>?_
    try simp only[Ae] at ft9
    simp only[go_sem, *]
    refine hK_ _ _ ?_
    refine Zn 3 ?_
    refine Ej (b:=b2) (i:=0) (j:=0) (by(try simp only[go_sem,fb3,fb4,fb8]);rfl) rfl rfl ?_
    simp only[go_sem,C8,fb3,fb4,fb8]
    refine Zp 6 (Aa.ret ?_)
    simp only[go_sem,fb4,fb8]
    rw[e];simp[]<;>simp[By,Qi,aR]
   ·refine ZA [] [] (Kw T A ZO _ _) ?_
    rintro _ _ ⟨tc,ftc,rfl,rfl⟩
    try simp only[Ae] at ftc
    refine Zy ?_
    refine BF (tk:=tc) rfl rfl rfl rfl (show BL prog 44=some (103,3,32) by simp only[go_sem]) rfl rfl (by simp[ftc]) ZJ (by(try simp only[go_sem,Bn,List.length_cons,List.length_nil]);first|done|omega) (by(try simp only[go_sem,Bn,List.length_cons,List.length_nil]);first|done|omega) λt9 ft9=>?_
    try simp only[Ae] at ft9
    simp only[go_sem, *]
    refine hK_ _ _ ?_
    refine Zn 3 ?_
    refine Ej (b:=b2) (i:=0) (j:=0) (by(try simp only[go_sem,fb3,fb4,fb8]);rfl) rfl rfl ?_
    simp only[go_sem,C8,fb3,fb4,fb8]
    refine Zp 6 (Aa.ret ?_)
    simp only[go_sem,fb4,fb8]
    rw[e];simp[]<;>simp[By,Qi,aR]
  ·refine ZA [] [] (Kw T A ZO _ _) ?_
   rintro _ _ ⟨tc,ftc,rfl,rfl⟩
   try simp only[Ae] at ftc
   refine Zy ?_
   refine BF (tk:=tc) rfl rfl rfl rfl (show BL prog 44=some (103,3,32) by simp only[go_sem]) rfl rfl (by simp[ftc]) ZJ (by(try simp only[go_sem,Bn,List.length_cons,List.length_nil]);first|done|omega) (by(try simp only[go_sem,Bn,List.length_cons,List.length_nil]);first|done|omega) λt9 ft9=>?_
   try simp only[Ae] at ft9
   simp only[go_sem, *]
   refine hK_ _ _ ?_
   refine Zn 3 ?_
   refine Ej (b:=b2) (i:=0) (j:=0) (by(try simp only[go_sem,fb3,fb4,fb8]);rfl) rfl rfl ?_
   simp only[go_sem,C8,fb3,fb4,fb8]
   refine Zp 6 (Aa.ret ?_)
   simp only[go_sem,fb4,fb8]
   rw[e];simp[]<;>simp[By,Qi,aR]
end
section
def C5 (c:Co):List Eb:=if¬c.ft=0 then [⟨3,[],0⟩] else if c.ak=false then [⟨3,[],c.fl⟩] else c.a
theorem Y7 {c:Co} (h:¬c.ft=0):C5 c=[⟨3,[],0⟩]:=if_pos h
theorem Y8 {c:Co} (h:c.ft=0) (h2:c.ak=false):C5 c=[⟨3,[],c.fl⟩]:=by rw[C5,if_neg (λh9=>h9 h),if_pos h2]
theorem Y9 {c:Co} (h:c.ft=0) (h2:¬c.ak=false):C5 c=c.a:=by rw[C5,if_neg (λh9=>h9 h),if_neg h2]
theorem V9 (T:Ap) (F:Af) (L:List Nat):AC prog T 151 [.nils] (⟨F,L⟩) (λx h=>x= .ret (.d (.slc 3 ([])))/\h=⟨F,L⟩):=by
 refine⟨call151,Ao.enterS func151 rfl ntmps151 rfl λhb=>?_⟩
 simp only[go_sem,results151]
 refine Zp 1 ?_
 refine Zs (Zp 5 ?_)
 refine Zc (λhc0=>?_) λhc0=>?_
 ·refine Zp 2 (Aa.ret ?_)
  simp only[Am]
  apply Ah [] [] [] [] ZH
  · exact ⟨rfl,rfl⟩
  · simp [Aj]
 first|omega|exact absurd hc0 ZX|(simp at hc0)
theorem V8 (T:Ap) (l:List Eb) (hl:l.length<=1000000) (F:Af) (L:List Nat):AC prog T 151 [.nn 3 (By l)] (⟨F,L⟩) (λx h=>x= .ret (.d (.slc 3 (By l)))/\h=⟨F,L⟩):=by
 refine⟨call151,Ao.enterS func151 rfl ntmps151 rfl λhb=>?_⟩
 simp only[go_sem,results151]
 refine Zp 1 ?_
 refine Zs (Zp 5 ?_)
 refine Zc (λhc0=>?_) λhc0=>?_
 ·first|omega|exact absurd hc0 ZX|(simp at hc0)
 refine Zk ?_
 refine Aa.cut 0 λK_ hK_=>?_
 simp only[List.take_zero,List.drop_zero]
 refine Zy ?_
 refine Kq (he:=by first|rfl|kernel_rfl) rfl rfl (show BL prog 44=some (103,3,32) by simp only[go_sem]) ZH rfl ZD λt1 ft1=>?_
 try simp only[Ae] at ft1
 refine Zy ?_
 refine ZW λt2 ft2=>?_
 try simp only[Ae] at ft2
 refine Zy ?_
 refine hK_ _ _ ?_
 refine Zm 2 ?_
 refine Aa.ret ?_
 apply Ah [] [t2] [] [] ZH
 · exact ⟨rfl,ZR⟩
 · simp [Aj]
theorem VA (T:Ap) (l:List Eb) (hl:l.length<=1000000):PC prog T 151 [.d (.slc 3 (By l))] (.d (.slc 3 (By l))):=by
 refine PC.of_ac (AC.mono (R:=λx h=>x= .ret (.d (.slc 3 (By l)))/\h=⟨[],[]⟩) ?_ λx h hx=>hx.1) (by simp[Aj,Ay])
 refine OL (λe=>?_) (V8 T l hl [] [])
 cases l with
 |nil=>exact V9 T [] []
 |cons a l=>cases e
attribute [local go_sem] No Bn Array.isEmpty_empty in
theorem AgM (T:Ap) (w:Nat) (c:Co) (hl:c.a.length<=1000000) (F:Af) (L:List Nat):AC prog T 91 [.ptr w 4 0 0] (⟨(w,⟨4,1,[No c]⟩)::F,L⟩) (λr h=>r= .ret (.d (.slc 3 (By (C5 c))))/\h=⟨(w,⟨4,1,[No c]⟩)::F,L⟩):=by
 refine⟨call91,Ao.enterS func91 rfl ntmps91 rfl λhb=>?_⟩
 simp only[go_sem,results91]
 refine Zp 1 ?_
 refine Zs (Aa.block (Zp 3 ?_))
 refine Zc (λhc0=>?_) λhc0=>?_
 ·refine Zp 2 (Aa.ret ?_)
  simp only[Am,Bo]
  apply Ah [] [] [w] [] ZH
  · exact ⟨by rw[Y7 hc0],ZR⟩
  · simp [Aj,Ay,By,Qi]
 refine Zp 5 ?_
 refine Zc (λhc1=>?_) λhc1=>?_
 ·refine Zp 2 (Aa.ret ?_)
  simp only[Am,Bo]
  apply Ah [] [] [w] [] ZH
  · exact ⟨by rw[Y8 ZO hc1],ZR⟩
  · simp [Aj,Ay,By,Qi]
 refine Z5 ?_
 refine Z1 2 (VA T c.a hl) ?_
 refine Aa.ret ?_
 apply Ah [] [] [w] [] ZH
 · exact ⟨by rw[Y9 ZO (by simpa using hc1)],ZR⟩
 · simp [Aj,Ay,By]
attribute [local go_sem] No Bn in
theorem AeL (T:Ap) (c:Co) (h:c.a.length<=6) (h2:0<=c.fl/\c.fl<=31):PC prog T 90 [.agg (No c)] (.d (.int .i64 0)):=by
 refine⟨call90,Ar.enterS func90 rfl ntmps90 rfl λhb=>?_⟩
 simp only[go_sem,results90]
 refine Zx (Zy ?_)
 intro b1
 first|intro fb1|have fb1:=True.intro
 try simp only[Ab] at fb1
 refine Zs (Zp 65536 ?_)
 refine Zc (λhc0=>?_) λhc0=>?_
 ·exfalso
  first|omega|(simp at hc0;omega)
 refine Zk ?_
 refine Zp 1 (Aa.ret ?_)
 simp only[go_sem]
 try simp[Aj,Ay]
attribute [local go_sem] No in
theorem Ago (T:Ap) (c:Co) (h:c.a.length<=6) (h2:0<=c.fl/\c.fl<=31):PC prog T 45 [.agg (No c)] (.tup [.d (.slc 3 (By (C5 c))),.d (.int .i64 0)]):=by
 refine⟨call45,Ar.enterS func45 rfl ntmps45 rfl λhb=>?_⟩
 simp only[go_sem,results45]
 refine Zx (Zy ?_)
 intro b1
 first|intro fb1|have fb1:=True.intro
 try simp only[Ab] at fb1
 refine Zs (Z1 18 (AeL T c h h2) ?_)
 refine Zp 11 ?_
 refine Zc (λhc0=>?_) λhc0=>?_
 ·exfalso
  first|omega|(simp at hc0)
 refine Zk ?_
 refine Zx (Zy ?_)
 intro w fw
 try simp only[Ab] at fw
 refine ZA [w] [] (AgM T w c ZO _ _) ?_
 rintro _ _ ⟨rfl,rfl⟩
 refine Zy ?_
 refine Zm 6 ?_
 refine Aa.ret ?_
 simp only[go_sem]
 try simp[Aj,Bj,Ay]
end
section
def YW:Tx:=[73,78,66,79,88]
def Dp (bx:List Tx) (nm:Tx):Tx:=if nm∈bx then nm else YW
def QF (nm:Tx) (x:BN):Bool:=decide (x.kind=2)&&decide (x.box=nm)
def ID (bx:List Tx) (tx:Tx) (out:List BN) (nm:Tx) (fl:Int):List BN:=if out.any (QF (Dp bx nm))=true then out else out++[⟨2,Dp bx nm,0,fl,[],tx⟩]
theorem P2 {bx:List Tx} {tx:Tx} {out:List BN} {nm:Tx} {fl:Int} (h:out.any (QF (Dp bx nm))=true):ID bx tx out nm fl=out:=if_pos h
theorem P1 {bx:List Tx} {tx:Tx} {out:List BN} {nm:Tx} {fl:Int} (h:out.any (QF (Dp bx nm))=false):ID bx tx out nm fl=out++[⟨2,Dp bx nm,0,fl,[],tx⟩]:=by rw[ID,if_neg (by rw[h];decide)]
def EN (x:Lr) (bx:List Tx) (out:List BN) (a:Eb):List BN:=
 if a.k=3 then ID bx x.s out YW a.f
 else if a.k=5 then ID bx x.s out a.t a.f
 else if a.k=6 then out++[⟨6,[],0,0,a.t,x.s⟩]
 else if a.k=7 then out++[⟨6,[],0,0,C6 1 (x.a1,x.a2),a.t⟩]
 else out
def plO (w u:Nat) (x:Lr) (bx:List Tx) (out:List BN):Nat×Ob:=(w,⟨7,1,[[.d (.str x.a1),.d (.str x.a2),.d (.str x.c1),.d (.str x.c2),.d (.str x.s),.d (.slc 1 (bx.map Aq)),.own u 6 (At out)]]⟩)
attribute [go_sem] plO
attribute [local go_sem] Bi List.length_map Gk D8 in
theorem Aef (T:Ap) (l:List BN) (f:FuncId) (cap:List AV) (g:BN->Bool) (F:Af) (L:List Nat) (hl:l.length<=10000000000000) (hg:∀y∈l,AC prog T f (.agg (C7 y)::cap) ⟨F,L⟩ (λr h=>r= .ret (.d (.bool (g y)))/\h=⟨F,L⟩)):AC prog T 231 [.d (.slc 6 (At l)),.fn f cap] (⟨F,L⟩) (λr h=> ∃i:Int,r= .ret (.d (.int .i64 i))/\decide (0<=i)=l.any g/\h=⟨F,L⟩):=by
 refine⟨call231,Ao.enterS func231 rfl ntmps231 rfl λhb=>?_⟩
 simp only[go_sem,results231]
 refine Zp 3 ?_
 refine Zs (Zp 27 ?_)
 refine Aa.block (Zy ?_)
 refine Zl 7 8 (λn lc hc=> ∃(k:Nat),n=l.length-k/\Av lc [(8,.d (.int .i64 (k:Nat)))]/\Av hc (⟨F,L⟩)/\(k<=l.length)/\((l.take k).any g=false)) ?_ ?_
 · refine ⟨_,0,rfl,ZE,ZE,?_,?_⟩
   all_goals(first|omega|rfl|simp)
 rintro _ _ _ ⟨k,rfl,⟨rfl⟩,⟨rfl⟩,h1,h2⟩
 refine Zy ?_
 refine Zp 31 ?_
 refine Zs (Zc (λhc0=>?_) λhc0=>?_)
 ·have hlt:k<l.length:=by omega
  have hki:(k:Int)<(l.length:Int):=by omega
  have zf1:=λd0_=>DG l k d0_ hlt
  refine Zk ?_
  refine Zs (Aa.block (Zp 31 ?_))
  refine Zx ?_
  simp only[go_sem,zf1,hki]
  refine ZA [] [] (hg _ (List.getElem_mem hlt)) ?_
  rintro _ _ ⟨rfl,rfl⟩
  refine Zy ?_
  refine Zm 1055 ?_
  refine Zc (λhc1=>?_) λhc1=>?_
  ·refine Zp 4 (Aa.ret ?_)
   simp only[Am,Bo]
   apply Ah [] [] [] [] ZH
   · exact ⟨(k:Int),rfl,by rw[List.any_eq_true.2 ⟨_,List.getElem_mem hlt,hc1⟩];simp,rfl⟩
   · simp [Aj,Ay]
  refine Z5 ?_
  refine Z6 ?_
  refine Zf 11 16 (.e ⟨_,ZM,k+1,rfl,ZE,ZE,?_,?_⟩)
  · omega
  · rw [List.take_succ_eq_append_getElem hlt,List.any_append,h2];simpa using hc1
 have htk:l.take k=l:=List.take_of_length_le ZO
 rw[htk] at h2
 refine Z4 ?_
 refine Zm 0 ?_
 refine Zp 1 (Aa.ret ?_)
 apply Ah [] [] [] [] ZH
 · exact ⟨-1,rfl,by rw[h2];rfl,rfl⟩
 · simp [Aj,Ay]
theorem Aeb (T:Ap) (l:List BN) (f:FuncId) (cap:List AV) (g:BN->Bool) (F:Af) (L:List Nat) (hl:l.length<=10000000000000) (hg:∀y∈l,AC prog T f (.agg (C7 y)::cap) ⟨F,L⟩ (λr h=>r= .ret (.d (.bool (g y)))/\h=⟨F,L⟩)):AC prog T 152 [.d (.slc 6 (At l)),.fn f cap] (⟨F,L⟩) (λr h=>r= .ret (.d (.bool (l.any g)))/\h=⟨F,L⟩):=by
 refine⟨call152,Ao.enterS func152 rfl ntmps152 rfl λhb=>?_⟩
 simp only[go_sem,results152]
 refine Zp 3 ?_
 refine Zx (Zy ?_)
 refine ZA [] [] (Aef T l f cap g _ _ hl hg) ?_
 rintro _ _ ⟨Q1,rfl,hQ1,rfl⟩
 refine Zy ?_
 refine Zm 4 ?_
 refine Aa.ret ?_
 apply Ah [] [] [] [] ZH
 · exact ⟨by rw[<-hQ1],rfl⟩
 · simp [Aj,Ay,hQ1]
attribute [local go_sem] C7 in
theorem AeD (T:Ap) (nm:Tx) (y:BN) (bn:Nat) (F:Af) (L:List Nat):AC prog T 153 [.agg (C7 y),.ptr bn 1 0 0] (⟨(bn,⟨1,1,[[.d (.str nm)]]⟩)::F,L⟩) (λr h=>r= .ret (.d (.bool (QF nm y)))/\h=⟨(bn,⟨1,1,[[.d (.str nm)]]⟩)::F,L⟩):=by
 refine⟨call153,Ao.enterS func153 rfl ntmps153 rfl λhb=>?_⟩
 simp only[go_sem,results153]
 refine Zx (Zy ?_)
 intro b3 fb3
 try simp only[Ab] at fb3
 refine Zp 8 (Aa.ret ?_)
 apply Ah [b3] [] [bn] [] ZH
 · exact ⟨rfl,ZR⟩
 · simp [Aj,Ay,QF]
attribute [local go_sem] Gk Array.isEmpty_empty in
theorem YG (T:Ap) (w u:Nat) (x:Lr) (bx:List Tx) (out:List BN) (nm:Tx) (fl:Int) (F:Af) (L:List Nat) (hbx:bx.length<=1048576) (ho:out.length<=1000) (hu:Ae u L):AC prog T 92 [.ptr w 7 0 0,.d (.str nm),.d (.int .i64 fl)] (⟨plO w u x bx out::F,u::L⟩) (λr h=> ∃t,Ae t L/\r= .ret (.tup [])/\h=⟨plO w t x bx (ID bx x.s out nm fl)::F,t::L⟩):=by
 refine⟨call92,Ao.enterS func92 rfl ntmps92 rfl λhb=>?_⟩
 simp only[go_sem,results92]
 refine Zx ?_
 simp only[go_sem,if_true]
 intro b4 fb4
 try simp only[Ab] at fb4
 refine Zs (Zd true [0,1,2,3,4,5,6] ?_)
 simp only[go_sem,if_true,fb4]
 refine ZP (TX T bx nm hbx) ?_
 simp only[go_sem,if_true]
 refine Zn 1037 ?_
 refine Zi 7 (λlc hc=>Av lc []/\Av hc (⟨(b4,⟨1,1,[[.d (.str (Dp bx nm))]]⟩)::plO w u x bx out::F,u::L⟩)) ?_ ?_
 ·refine Zc (λhc0=>?_) λhc0=>?_
  ·refine Z6 ?_
   refine Ze 7 0 [] [] [b4] [] (.e ⟨ZG,?_⟩)
   · (try simp only[go_sem,if_true,fb4])<;>first|exact⟨rfl⟩|(constructor;first|(rw[Dp,if_pos (by simpa using hc0)];done)|(rw[Dp,if_neg (by simpa using hc0)];rfl))
  refine Zk ?_
  refine Ze 7 0 [] [] [b4] [] (.e ⟨ZG,?_⟩)
  · (try simp only[go_sem,if_true,fb4])<;>first|exact⟨rfl⟩|(constructor;first|(rw[Dp,if_pos (by simpa using hc0)];done)|(rw[Dp,if_neg (by simpa using hc0)];rfl))
 rintro _ _ ⟨⟨rfl⟩,⟨rfl⟩⟩
 refine Zy ?_
 refine Zx ?_
 simp only[go_sem,if_true,fb4]
 have hC:=Aeb T out _ _ (QF (Dp bx nm)) ((b4,⟨1,1,[[.d (.str (Dp bx nm))]]⟩)::plO w u x bx out::F) (u::L) ZO λy hy=>AeD T (Dp bx nm) y b4 _ _
 refine ZA [b4] [] (AC.le (args:=[.own u 6 (At out),.fn 153 [.ptr b4 1 0 0]]) hC (by simp[Bj,Aj])) ?_
 rintro _ _ ⟨rfl,rfl⟩
 simp only[go_sem,if_true]
 refine Zm 519 ?_
 refine Zc (λhc1=>?_) λhc1=>?_
 ·refine Zt true [0,1,2,3,4,5,6,7,8,9,10,11,12,13,14,15,16,17] λK_ k_=>?_
  simp only[go_sem,if_true,fb4]
  refine ZW λt1 ft1=>?_
  try simp only[Ae] at ft1
  simp only[go_sem,if_true,fb4]
  refine k_ _ _ ?_
  apply Cd [b4] [] [w] [t1] ZH
  · exact ⟨t1,by first|exact hu|exact ft1|exact ft1.2,rfl,by first|(rw[P2 (by simpa using hc1)];first|rfl|(simp only[go_sem,if_true,fb4,ft1];done))|(rw[P1 (by simpa using hc1)];simp[go_sem,At,D8])⟩
  · simp [Aj,Bj]
 refine Aa.skip ?_
 apply Cd [b4] [] [w] [u] ZH
 · exact ⟨u,by first|exact hu|exact fu|exact fu.2,rfl,by first|(rw[P2 (by simpa using hc1)];first|rfl|(simp only[go_sem,if_true,fb4];done))|(rw[P1 (by simpa using hc1)];simp[go_sem,At,D8,if_true,fb4])⟩
 · simp [Aj,Bj]
end
section
attribute [local go_sem] Q8 Gk Array.isEmpty_empty in
theorem Agx (T:Ap) (w u:Nat) (x:Lr) (bx:List Tx) (out:List BN) (a:Eb) (F:Af) (L:List Nat) (hL:Bw T) (hr:Cc x.a1 x.a2=0) (hbx:bx.length<=1048576) (ho:out.length<=1000) (hu:Ae u L):AC prog T 46 [.ptr w 7 0 0,.agg (Q8 a)] (⟨plO w u x bx out::F,u::L⟩) (λr h=> ∃t,Ae t L/\r= .ret (.tup [])/\h=⟨plO w t x bx (EN x bx out a)::F,t::L⟩):=by
 refine⟨call46,Ao.enterS func46 rfl ntmps46 rfl λhb=>?_⟩
 simp only[go_sem,results46]
 refine Zx ?_
 simp only[go_sem,if_true]
 intro b3 fb3
 try simp only[Ab] at fb3
 refine Zp 21 ?_
 refine Aa.block (Zp 15 ?_)
 refine Zc (λhc0=>?_) λhc0=>?_
 ·refine Zq λK_ k_=>?_
  simp only[go_sem,if_true,fb3]
  refine ZA [w] [u] (YG T w u x bx out YW a.f _ _ hbx ho hu) ?_
  rintro _ _ ⟨W1,fW1,rfl,rfl⟩
  try simp only[Ae,Ab] at fW1
  refine Zy ?_
  refine k_ _ _ (Ai ?_)
  apply Cd [b3] [] [w] [W1] ZH
  · exact ⟨W1,by first|exact hu|exact fW1|exact fW1.2,rfl,by rw[EN,if_pos hc0];first|rfl|(simp only[go_sem,if_true,fb3];done)|(simp[go_sem,At,D8,if_true,fb3,fW1])⟩
  · simp [Aj,Bj]
 refine Zp 23 ?_
 refine Zc (λhc1=>?_) λhc1=>?_
 ·refine Zq λK_ k_=>?_
  simp only[go_sem,if_true,fb3]
  refine ZA [w] [u] (YG T w u x bx out a.t a.f _ _ hbx ho hu) ?_
  rintro _ _ ⟨W2,fW2,rfl,rfl⟩
  try simp only[Ae,Ab] at fW2
  refine Zy ?_
  refine k_ _ _ (Ai ?_)
  apply Cd [b3] [] [w] [W2] ZH
  · exact ⟨W2,by first|exact hu|exact fW2|exact fW2.2,rfl,by rw[EN,if_neg hc0,if_pos hc1];first|rfl|(simp only[go_sem,if_true,fb3];done)|(simp[go_sem,At,D8,if_true,fb3,fW2])⟩
  · simp [Aj,Bj]
 refine Zp 23 ?_
 refine Zc (λhc2=>?_) λhc2=>?_
 ·refine Zt true [0,1,2,3,4,5,6,7,8,9,10,11,12,13,14,15,16,17] λK_ k_=>?_
  simp only[go_sem,if_true,fb3]
  refine ZW λt1 ft1=>?_
  try simp only[Ae] at ft1
  simp only[go_sem,if_true,fb3]
  refine k_ _ _ (Ai ?_)
  apply Cd [b3] [] [w] [t1] ZH
  · exact ⟨t1,by first|exact hu|exact ft1|exact ft1.2,rfl,by rw[EN,if_neg hc0,if_neg hc1,if_pos hc2];first|rfl|(simp only[go_sem,if_true,fb3];done)|(simp[go_sem,At,D8])⟩
  · simp [Aj,Bj]
 refine Zp 19 ?_
 refine Zc (λhc3=>?_) λhc3=>?_
 ·refine Z1 7 (Pb T hL 1 x.a1 x.a2 hr ZD) ?_
  refine Zt true [0,1,2,3,4,5,6,7,8,9,10,11,12,13] λK_ k_=>?_
  simp only[go_sem,if_true,fb3]
  refine ZW λt2 ft2=>?_
  try simp only[Ae] at ft2
  simp only[go_sem,if_true,fb3]
  refine k_ _ _ (Ai ?_)
  apply Cd [b3] [] [w] [t2] ZH
  · exact ⟨t2,by first|exact hu|exact ft2|exact ft2.2,rfl,by rw[EN,if_neg hc0,if_neg hc1,if_neg hc2,if_pos hc3];first|rfl|(simp only[go_sem,if_true,fb3];done)|(simp[go_sem,At,D8])⟩
  · simp [Aj,Bj]
 refine Aa.skip (Ai ?_)
 apply Cd [b3] [] [w] [u] ZH
 · exact ⟨u,by first|exact hu|exact fu|exact fu.2,rfl,by rw[EN,if_neg hc0,if_neg hc1,if_neg hc2,if_neg hc3];first|rfl|(simp only[go_sem,if_true,fb3];done)|(simp[go_sem,At,D8,if_true,fb3])⟩
 · simp [Aj,Bj]
end
section
noncomputable section
mutual
def Iu (x:Lr) (m:Ms):Ax->Co->Co×Bool
 | .mk k tx t th el,c=>if k=2 then(if Bq x m t=true then BE x m th c else BE x m el c) else Dl c (.mk k tx t th el)
def BE (x:Lr) (m:Ms):List Ax->Co->Co×Bool
 |[],c=>(c,true)
 |y::l,c=>if(Iu x m y c).2=true then BE x m l (Iu x m y c).1 else Iu x m y c
end
end
theorem Ph (x:Lr) (m:Ms) (z:Ax) (c:Co):Iu x m z c=if z.kind=2 then(if Bq x m z.test=true then BE x m z.thn c else BE x m z.els c) else Dl c z:=by cases z;rw[Iu];rfl
theorem Ae2 {x:Lr} {m:Ms} {z:Ax} {c:Co} (h:¬z.kind=2):Iu x m z c=Dl c z:=by rw[Ph,if_neg h]
theorem Ae3 {x:Lr} {m:Ms} {z:Ax} {c:Co} (h:z.kind=2) (h2:Bq x m z.test=true):Iu x m z c=BE x m z.thn c:=by rw[Ph,if_pos h,if_pos h2]
theorem Ae0 {x:Lr} {m:Ms} {z:Ax} {c:Co} (h:z.kind=2) (h2:¬Bq x m z.test=true):Iu x m z c=BE x m z.els c:=by rw[Ph,if_pos h,if_neg h2]
theorem SN {x:Lr} {m:Ms} {l:List Ax} {k:Nat} {c:Co} {r:Co×Bool} (h:k<l.length) (e:Iu x m (l[k]) c=r) (hc:r.2=true):BE x m (l.drop k) c=BE x m (l.drop (k+1)) r.1:=by rw[List.drop_eq_getElem_cons h,BE,e,if_pos hc]
theorem SM {x:Lr} {m:Ms} {l:List Ax} {k:Nat} {c:Co} {r:Co×Bool} (h:k<l.length) (e:Iu x m (l[k]) c=r) (hc:¬r.2=true):BE x m (l.drop k) c=r:=by rw[List.drop_eq_getElem_cons h,BE,e,if_neg hc]
theorem Ud {c:Co} (h:c.a.length<=6) (a:Eb):(DN c a).1.a.length<=6:=by
 unfold DN
 split
 ·exact h
 split
 ·exact h
 split
 ·exact h
 ·simp only[List.length_append,List.length_singleton];omega
theorem IO {c:Co} (h:c.a.length<=6) (z:Ax):(Dl c z).1.a.length<=6:=by
 unfold Dl
 split
 ·exact h
 split
 ·exact h
 split
 ·exact h
 split
 ·exact h
 ·exact Ud h _
mutual
theorem Ui (x:Lr) (m:Ms):∀(z:Ax) {c:Co},c.a.length<=6->(Iu x m z c).1.a.length<=6
 | .mk k tx t th el,c,h=>by
  rw[Iu]
  split
  ·split
   ·exact Id x m th h
   ·exact Id x m el h
  ·exact IO h _
theorem Id (x:Lr) (m:Ms):∀(l:List Ax) {c:Co},c.a.length<=6->(BE x m l c).1.a.length<=6
 |[],c,h=>by rw[BE];exact h
 |y::l,c,h=>by
  rw[BE]
  split
  ·exact Id x m l (Ui x m y h)
  ·exact Ui x m y h
end
attribute [local go_sem] Dw DK BW AW Ef AJ List.map_cons List.map_nil List.length_map Bi in
theorem PF (T:Ap) (hL:Bw T) (hF:T 2=Bf.map D.str) (x:Lr) (m:Ms) (jo:VT x m) (hs:x.s.length<=9223372036854775807) (w bb cc:Nat) (c:Co) (F:Af) (L:List Nat) (hX:cc=0->c.a=[]) (hlX:c.a.length<=6) (l:List Ax) (hll:l.length*208<=140737488355328) (okl:∀y∈l,y.Ok) (jcl:∀y∈l,JC y) (ihthn:∀y∈l,∀(bb cc:Nat) (c:Co) (F:Af) (L:List Nat),(cc=0->c.a=[])->c.a.length<=6->AC prog T 39 [.ptr w 4 0 0,.d (.slc 12 (Fw y)),.agg (Dw x),.agg (DK m)] ⟨FP w bb cc c F,L⟩ (λr h=> ∃b2 c2,(c2=0->(BE x m y.thn c).1.a=[])/\r= .ret (.d (.bool (BE x m y.thn c).2))/\h=⟨FP w b2 c2 (BE x m y.thn c).1 F,L⟩)) (ihels:∀y∈l,∀(bb cc:Nat) (c:Co) (F:Af) (L:List Nat),(cc=0->c.a=[])->c.a.length<=6->AC prog T 39 [.ptr w 4 0 0,.d (.slc 12 (E6 y)),.agg (Dw x),.agg (DK m)] ⟨FP w bb cc c F,L⟩ (λr h=> ∃b2 c2,(c2=0->(BE x m y.els c).1.a=[])/\r= .ret (.d (.bool (BE x m y.els c).2))/\h=⟨FP w b2 c2 (BE x m y.els c).1 F,L⟩)):AC prog T 39 [.ptr w 4 0 0,.d (.slc 12 (l.map AW)),.agg (Dw x),.agg (DK m)] (⟨FP w bb cc c F,L⟩) (λr h=> ∃b2 c2,(c2=0->(BE x m l c).1.a=[])/\r= .ret (.d (.bool (BE x m l c).2))/\h=⟨FP w b2 c2 (BE x m l c).1 F,L⟩):=by
 refine⟨call39,Ao.enterS func39 rfl ntmps39 rfl λhb=>?_⟩
 simp only[go_sem,results39]
 refine Zx (Zy ?_)
 intro b6 fb6
 try simp only[Ab] at fb6
 intro b7 fb7
 try simp only[Ab] at fb7
 refine Zs (Zp 945 ?_)
 refine Aa.block (Zy ?_)
 refine Zl 31 32 (λn lc hc=> ∃(k b9 c9:Nat) (Y:Co),n=l.length-k/\Av lc [(14,.d (.int .i64 (k:Nat)))]/\Av hc (⟨(b7,⟨2,1,[DK m]⟩)::(b6,⟨5,1,[Dw x]⟩)::FP w b9 c9 Y F,L⟩)/\(k<=l.length)/\(BE x m l c=BE x m (l.drop k) Y)/\(c9=0->Y.a=[])/\(Y.a.length<=6)) ?_ ?_
 · refine ⟨_,0,bb,cc,c,rfl,ZE,ZE,?_,?_,?_,?_⟩
   all_goals(first|omega|rfl|exact hX|exact hlX)
 rintro _ _ _ ⟨k,b9,c9,Y,rfl,⟨rfl⟩,⟨rfl⟩,m1,m2,m3,m4⟩
 refine Zy ?_
 refine Zp 127 ?_
 refine Zs (Zc (λhc0=>?_) λhc0=>?_)
 ·have hlt:k<l.length:=by omega
  have okk:=okl _ (List.getElem_mem hlt)
  have jk:=jcl _ (List.getElem_mem hlt)
  obtain⟨s1,s2,s3,s4,s5,s6⟩:=okk.inv
  have zf1:=λd0_=>Al AW l k d0_ hlt
  refine Zk ?_
  refine Zs (Aa.block (Zx ?_))
  simp only[go_sem,zf1]
  (repeat(with_reducible refine And.intro ZS ?_))
  intro b10
  first|intro fb10|have fb10:=True.intro
  try simp only[Ab] at fb10
  refine Zp 239 ?_
  refine Zs (Aa.block (Zp 255 ?_))
  refine Zc (λhc1=>?_) λhc1=>?_
  ·have hk2:¬(l[k]).kind=2:=by first|exact hc1|omega
   have ex:= @Ae2 x m (l[k]) Y hk2
   have hle:=IO m4 (l[k])
   refine Zq λK_ k_=>?_
   simp only[go_sem,fb10]
   refine Fa rfl rfl rfl rfl (BO.pm (IB [_,_,_] ..)) (by first|rfl|(simp only[go_sem,fb6,fb7,zf1,fb10];done)|(simp only[go_sem,fb6,fb7,zf1,fb10];rfl)) (Air T hL hF w b9 c9 Y _ _ m3 ZO (l[k]) okk jk hk2) ?_
   rintro _ _ ⟨BB1,CC2,hCC2,rfl,rfl⟩
   refine Zy ?_
   refine k_ _ _ (Ai (Ac ?_))
   refine Zm 247 ?_
   refine Zy ?_
   try refine Aa.pm (G7 [_,_,_] ..) ?_
   simp only[List.cons_append,List.nil_append]
   refine Zp 375 ?_
   refine Zc (λhc3=>?_) λhc3=>?_
   ·have e2:BE x m l c=(Dl Y (l[k])):=by rw[m2];exact SM hlt ex (by first|exact hc3|simp[hc3])
    refine Zp 8 (Aa.ret ?_)
    simp only[Am,Bo]
    apply Ah [b6,b7,b10] [] [] [] ZH
    · exact ⟨BB1,CC2,by rw[e2];exact hCC2,rfl,by rw[e2];first|rfl|(simp only[go_sem,fb7,fb10];done)|(simp only[go_sem,fb6,fb7,zf1,fb10];rfl)⟩
    · (try simp only[Aj,Ay,e2])<;>(try simpa using hc3)
   have e2:BE x m l c=BE x m (l.drop (k+1)) (Dl Y (l[k])).1:=by rw[m2];exact SN hlt ex (by first|exact hc3|(simpa using hc3))
   refine Z5 ?_
   refine Z6 ?_
   refine Ze 31 32 [b10] [] [b7,b6] [] (.e ⟨_,ZM,k+1,BB1,CC2,(Dl Y (l[k])).1,rfl,ZE,ZE,?_,?_,?_,?_⟩)
   all_goals first|omega|exact e2|exact hCC2|exact hle
  have hk2:(l[k]).kind=2:=by first|exact hc1|omega
  refine Z1 383 (Acl T hL x m jo hs (l[k]).test s2 (jk.inv.2.2.2.2.1 hk2)) ?_
  refine Zc (λhc2=>?_) λhc2=>?_
  ·have ex:=Ae3 (c:=Y) hk2 hc2
   have hle:=Id x m (l[k]).thn m4
   refine Zq λK_ k_=>?_
   simp only[go_sem,fb7,fb10]
   refine Fa rfl rfl rfl rfl (BO.pm (IB [_,_,_] ..)) (by first|rfl|(simp only[go_sem,fb6,fb7,zf1,fb10];done)|(simp only[go_sem,fb6,fb7,zf1,fb10];rfl)) (ihthn _ (List.getElem_mem hlt) b9 c9 Y _ _ m3 m4) ?_
   rintro _ _ ⟨BB3,CC4,hCC4,rfl,rfl⟩
   refine Zy ?_
   refine k_ _ _ (Ai (Ac ?_))
   refine Zm 247 ?_
   refine Zy ?_
   try refine Aa.pm (G7 [_,_,_] ..) ?_
   simp only[List.cons_append,List.nil_append]
   refine Zp 375 ?_
   refine Zc (λhc3=>?_) λhc3=>?_
   ·have e2:BE x m l c=(BE x m (l[k]).thn Y):=by rw[m2];exact SM hlt ex (by first|exact hc3|simp[hc3])
    refine Zp 8 (Aa.ret ?_)
    simp only[Am,Bo]
    apply Ah [b6,b7,b10] [] [] [] ZH
    · exact ⟨BB3,CC4,by rw[e2];exact hCC4,rfl,by rw[e2];first|rfl|(simp only[go_sem,fb7,fb10];done)|(simp only[go_sem,fb6,fb7,zf1,fb10];rfl)⟩
    · (try simp only[Aj,Ay,e2])<;>(try simpa using hc3)
   have e2:BE x m l c=BE x m (l.drop (k+1)) (BE x m (l[k]).thn Y).1:=by rw[m2];exact SN hlt ex (by first|exact hc3|(simpa using hc3))
   refine Z5 ?_
   refine Z6 ?_
   refine Ze 31 32 [b10] [] [b7,b6] [] (.e ⟨_,ZM,k+1,BB3,CC4,(BE x m (l[k]).thn Y).1,rfl,ZE,ZE,?_,?_,?_,?_⟩)
   all_goals first|omega|exact e2|exact hCC4|exact hle
  have ex:=Ae0 (x:=x) (m:=m) (c:=Y) hk2 (by first|exact hc2|simp[hc2])
  have hle:=Id x m (l[k]).els m4
  refine Zq λK_ k_=>?_
  simp only[go_sem,fb7,fb10]
  refine Fa rfl rfl rfl rfl (BO.pm (IB [_,_,_] ..)) (by first|rfl|(simp only[go_sem,fb6,fb7,zf1,fb10];done)|(simp only[go_sem,fb6,fb7,zf1,fb10];rfl)) (ihels _ (List.getElem_mem hlt) b9 c9 Y _ _ m3 m4) ?_
  rintro _ _ ⟨BB5,CC6,hCC6,rfl,rfl⟩
  refine Zy ?_
  refine k_ _ _ (Ai (Ac ?_))
  refine Zm 247 ?_
  refine Zy ?_
  try refine Aa.pm (G7 [_,_,_] ..) ?_
  simp only[List.cons_append,List.nil_append]
  refine Zp 375 ?_
  refine Zc (λhc3=>?_) λhc3=>?_
  ·have e2:BE x m l c=(BE x m (l[k]).els Y):=by rw[m2];exact SM hlt ex (by first|exact hc3|simp[hc3])
   refine Zp 8 (Aa.ret ?_)
   simp only[Am,Bo]
   apply Ah [b6,b7,b10] [] [] [] ZH
   · exact ⟨BB5,CC6,by rw[e2];exact hCC6,rfl,by rw[e2];first|rfl|(simp only[go_sem,fb7,fb10];done)|(simp only[go_sem,fb6,fb7,zf1,fb10];rfl)⟩
   · (try simp only[Aj,Ay,e2])<;>(try simpa using hc3)
  have e2:BE x m l c=BE x m (l.drop (k+1)) (BE x m (l[k]).els Y).1:=by rw[m2];exact SN hlt ex (by first|exact hc3|(simpa using hc3))
  refine Z5 ?_
  refine Z6 ?_
  refine Ze 31 32 [b10] [] [b7,b6] [] (.e ⟨_,ZM,k+1,BB5,CC6,(BE x m (l[k]).els Y).1,rfl,ZE,ZE,?_,?_,?_,?_⟩)
  all_goals first|omega|exact e2|exact hCC6|exact hle
 have e2:BE x m l c=(Y,true):=by
   rw[m2,List.drop_eq_nil_of_le (by omega:l.length<=k),BE]
 refine Z4 ?_
 refine Zm 0 ?_
 refine Zp 1 (Aa.ret ?_)
 apply Ah [b6,b7] [] [] [] ZH
 · exact ⟨b9,c9,by rw[e2];exact m3,rfl,by rw[e2];first|rfl|(simp only[go_sem,fb7];done)|(simp only[go_sem,fb6,fb7];rfl)⟩
 · simp [Aj,Ay,e2]
theorem Acj (T:Ap) (hL:Bw T) (hF:T 2=Bf.map D.str) (x:Lr) (m:Ms) (jo:VT x m) (hs:x.s.length<=9223372036854775807) (w:Nat):∀(l:List Ax) (bb cc:Nat) (c:Co) (F:Af) (L:List Nat),(cc=0->c.a=[])->c.a.length<=6->l.length*208<=140737488355328->(∀y∈l,y.Ok)->(∀y∈l,JC y)->AC prog T 39 [.ptr w 4 0 0,.d (.slc 12 (l.map AW)),.agg (Dw x),.agg (DK m)] ⟨FP w bb cc c F,L⟩ (λr h=> ∃b2 c2,(c2=0->(BE x m l c).1.a=[])/\r= .ret (.d (.bool (BE x m l c).2))/\h=⟨FP w b2 c2 (BE x m l c).1 F,L⟩):=by
 have H:∀z:Ax,z.Ok->JC z->(∀(bb cc:Nat) (c:Co) (F:Af) (L:List Nat),(cc=0->c.a=[])->c.a.length<=6->AC prog T 39 [.ptr w 4 0 0,.d (.slc 12 (Fw z)),.agg (Dw x),.agg (DK m)] ⟨FP w bb cc c F,L⟩ (λr h=> ∃b2 c2,(c2=0->(BE x m z.thn c).1.a=[])/\r= .ret (.d (.bool (BE x m z.thn c).2))/\h=⟨FP w b2 c2 (BE x m z.thn c).1 F,L⟩))/\(∀(bb cc:Nat) (c:Co) (F:Af) (L:List Nat),(cc=0->c.a=[])->c.a.length<=6->AC prog T 39 [.ptr w 4 0 0,.d (.slc 12 (E6 z)),.agg (Dw x),.agg (DK m)] ⟨FP w bb cc c F,L⟩ (λr h=> ∃b2 c2,(c2=0->(BE x m z.els c).1.a=[])/\r= .ret (.d (.bool (BE x m z.els c).2))/\h=⟨FP w b2 c2 (BE x m z.els c).1 F,L⟩)):=λz=>by
  induction z using Ax.ind with
  | h z i1 i2=>
   intro ok jc
   obtain⟨_,_,s3,s4,s5,s6⟩:=ok.inv
   obtain⟨_,_,_,_,_,ja,je⟩:=jc.inv
   refine⟨λbb cc c F L hX hl=>?_,λbb cc c F L hX hl=>?_⟩
   ·rw[D2]
    exact PF T hL hF x m jo hs w bb cc c F L hX hl z.thn s3 s5 ja (λy hy=>(i1 y hy (s5 y hy) (ja y hy)).1) (λy hy=>(i1 y hy (s5 y hy) (ja y hy)).2)
   ·rw[C1]
    exact PF T hL hF x m jo hs w bb cc c F L hX hl z.els s4 s6 je (λy hy=>(i2 y hy (s6 y hy) (je y hy)).1) (λy hy=>(i2 y hy (s6 y hy) (je y hy)).2)
 exact λl bb cc c F L hX hl hll ok jc=>PF T hL hF x m jo hs w bb cc c F L hX hl l hll ok jc (λy hy=>(H y (ok y hy) (jc y hy)).1) (λy hy=>(H y (ok y hy) (jc y hy)).2)
end
section
def RB (x:Lr):List (Tx×Tx)×Tx×Int:=Lz x.a1 x.a2 x.c1 x.c2 x.s
def BA (x:Lr):Ms:=⟨(RB x).1,(RB x).2.1⟩
theorem T2 {x:Lr} (h:(RB x).2.2=0):VT x (BA x):=by
 by_cases h1:Cc x.a1 x.a2=0
 ·by_cases h2:Cc x.c1 x.c2=0
  ·have e:RB x=((ER x.s).1,(ER x.s).2.1,(ER x.s).2.2.2):=UK h1 h2
   exact⟨h1,h2,by rw[BA,e];exact Acv x.s,by rw[BA,e];exact Aad x.s⟩
  ·have e:RB x=([],[],Cc x.c1 x.c2):=UJ h1 h2
   rw[e] at h
   exact absurd h h2
 ·have e:RB x=([],[],Cc x.a1 x.a2):=UI h1
  rw[e] at h
  exact absurd h h1
structure XK (x:Lr):Prop where
 h:XL x.a1 x.a2 x.c1 x.c2
 hs:x.s.length<=9223372036854775807
end
section
theorem X2 {P:Program} {T:Ap} {Q:AQ} {sl:List AV} {code:Code} {w:Nat} {R:Af} {L:List Nat} (H:Aa P T code Q sl ⟨FP w 0 0 ⟨[],0,false,0⟩ R,L⟩):Aa P T code Q sl ⟨(w,⟨4,1,[[.nils,.d (.int .i64 0),.d (.bool false),.d (.int .i64 0)]]⟩)::R,L⟩:=by
 refine CA (b:=w) (i:=0) (j:=0) (k:=3) (ob:=⟨4,1,[[.nils,.d (.int .i64 0),.d (.bool false),.d (.int .i64 0)]]⟩) (r:=[.nils,.d (.int .i64 0),.d (.bool false),.d (.int .i64 0)]) (by simp[A9]) rfl rfl ?_
 simpa[FP,CF,D9,C8] using H
theorem Wd (X:List Eb):∀r∈By X,r.length=3:=λr hr=>by
 obtain⟨o,_,rfl⟩:=List.mem_map.1 hr
 rfl
theorem X0 {P:Program} {T:Ap} {Q:AQ} {sl:List AV} {code:Code} {w bb cc:Nat} {c:Co} {F:Af} {L:List Nat} (hc:cc=0->c.a=[]) (H:Aa P T code Q sl ⟨(w,⟨4,1,[[.d (.slc 3 (By c.a)),.d (.int .i64 c.fl),.d (.bool c.ak),.d (.int .i64 c.ft)]]⟩)::F,L⟩):Aa P T code Q sl ⟨FP w bb cc c F,L⟩:=by
 have hp:(FP w bb cc c F).Perm (mO bb 3 cc (As (By c.a)) ((w,⟨4,1,[[mA bb 3 cc c.a.length,.d (.int .i64 c.fl),.d (.bool c.ak),.d (.int .i64 c.ft)]]⟩)::F)):=by
  unfold FP mO
  split
  ·exact .refl _
  ·exact List.Perm.swap ..
 refine Aa.pm hp ?_
 exact Jj (P:=P) (T:=T) (Q:=Q) (sl:=sl) (code:=code) (b:=bb) (b':=w) (i:=0) (j:=0) (k:=3) (c:=cc) (rows:=By c.a) (L:=L) (ob:=⟨4,1,[[mA bb 3 cc c.a.length,.d (.int .i64 c.fl),.d (.bool c.ak),.d (.int .i64 c.ft)]]⟩) (r:=[mA bb 3 cc c.a.length,.d (.int .i64 c.fl),.d (.bool c.ak),.d (.int .i64 c.ft)]) (F:=(w,⟨4,1,[[mA bb 3 cc c.a.length,.d (.int .i64 c.fl),.d (.bool c.ak),.d (.int .i64 c.ft)]]⟩)::F) (by simp[A9]) rfl (by rw[Bn];rfl) (λh=>by rw[hc h];rfl) ZD (Wd c.a) (by simpa[C8] using H)
theorem Aa0:∀(l:List Ax) (ks:List Tx),Iz ks l=0->∀y∈l,y.kind=1\/∃ks,BZ ks y=0
 |[],_,_,y,hy=>by cases hy
 | c::l,ks,h,y,hy=>by
  rw[Iz] at h
  split at h
  ·rename_i hk
   split at h
   ·rcases List.mem_cons.1 hy with rfl|hy
    ·exact .inl hk
    ·exact Aa0 l _ h y hy
   ·contradiction
  ·exact .inr ⟨ks,JA h y hy⟩
theorem UE {l:List Ax} (h:CU l=0) (rd:FM l=0->∀x∈l,x.Rd):∀y∈l,JC y:=by
 have hc:FM l=0:=by
  rw[CU] at h
  split at h
  ·omega
  ·omega
 have hf:FX l 0=0:=by
  have hc:=hc
  rw[FM] at hc
  split at hc
  ·assumption
  ·contradiction
 rw[CU,if_neg (by simp[hc])] at h
 intro y hy
 rcases Aa0 l [] h y hy with h1|⟨ks,h1⟩
 ·exact JC.of [] y (rd hc y hy) 0 (F1 _ _ hf y hy) (.inl h1)
 ·exact JC.of ks y (rd hc y hy) 0 (F1 _ _ hf y hy) (.inr h1)
def GR:Co:=⟨[],0,false,0⟩
noncomputable def BR (l:List Ax) (x:Lr):Co×Int:=if¬CU l=0 then(GR,CU l) else if¬(RB x).2.2=0 then(GR,(RB x).2.2) else((BE x (BA x) l GR).1,0)
theorem Tw {l:List Ax} {x:Lr} (h:¬CU l=0):BR l x=(GR,CU l):=if_pos h
theorem Ty {l:List Ax} {x:Lr} (h:CU l=0) (h2:¬(RB x).2.2=0):BR l x=(GR,(RB x).2.2):=by rw[BR,if_neg (λh9=>h9 h),if_pos h2]
theorem Tv {l:List Ax} {x:Lr} (h:CU l=0) (h2:(RB x).2.2=0):BR l x=((BE x (BA x) l GR).1,0):=by rw[BR,if_neg (λh9=>h9 h),if_neg (λh9=>h9 h2)]
attribute [local go_sem] Dw DK Bi in
theorem Abr (T:Ap) (hL:Bw T) (hF:T 2=Bf.map D.str) (hE:T 0=Gl.map D.str) (tb:LZ T) (l:List Ax) (x:Lr) (zz:Szd l) (xo:XK x):PC prog T 17 [.d (.slc 12 (l.map AW)),.agg (Dw x)] (.tup [.agg (No (BR l x).1),.d (.int .i64 (BR l x).2)]):=by
 refine⟨call17,Ar.enterS func17 rfl ntmps17 rfl λhb=>?_⟩
 have hJ:PC prog T 34 [.agg (Dw x)] (.tup [.agg (DK (BA x)),.d (.int .i64 (RB x).2.2)]):=by
   have:=XG T hL x.a1 x.a2 x.c1 x.c2 x.s xo.h
   exact this
 simp only[go_sem,results17]
 refine Zx (Zy ?_)
 intro b3
 first|intro fb3|have fb3:=True.intro
 try simp only[Ab] at fb3
 intro b4
 first|intro fb4|have fb4:=True.intro
 try simp only[Ab] at fb4
 refine Zs (Z1 45 (YY T hL hF hE tb l zz.hll zz.ok zz.hl zz.rd) ?_)
 refine Zp 47 ?_
 refine Zc (λhc0=>?_) λhc0=>?_
 ·refine Zp 12 (Aa.ret ?_)
  simp only[go_sem,fb4]
  rw[Tw hc0];simp[Aj,Bj,Ay,No,GR,By]
 refine Zk ?_
 refine Zx ?_
 simp only[go_sem,fb4]
 refine ZP (hJ) ?_
 refine Zy ?_
 intro b7 fb7
 try simp only[Ab] at fb7
 refine Zm 55 ?_
 refine Zs (Zp 95 ?_)
 refine Zc (λhc1=>?_) λhc1=>?_
 ·refine Zp 12 (Aa.ret ?_)
  simp only[go_sem,fb4,fb7]
  rw[Ty ZO hc1];simp[Aj,Bj,Ay,No,GR,By]
 have hz1:CU l=0:=by omega
 have hz2:(RB x).2.2=0:=by omega
 refine Zk ?_
 refine Zx (Zy ?_)
 intro w fw
 try simp only[Ab] at fw
 refine Zn 47 ?_
 refine X2 ?_
 refine Aa.pm (G7 [_,_,_] w 0 0 _ []) ?_
 simp only[List.cons_append,List.nil_append]
 refine Zx ?_
 simp only[go_sem,fb4,fb7]
 refine Fa rfl rfl rfl rfl (BO.pm (IB [_,_,_] ..)) (ZR) (Acj T hL hF x (BA x) (T2 hz2) xo.hs w l 0 0 GR _ _ (λ_=>rfl) (by simp[GR]) zz.hll zz.ok (UE hz1 zz.rd)) ?_
 rintro _ _ ⟨BB1,CC2,hCC2,rfl,rfl⟩
 refine Zy ?_
 refine Zn 20 ?_
 refine X0 hCC2 ?_
 refine Zp 3 (Aa.ret ?_)
 simp only[go_sem, *]
 rw[Tv hz1 hz2];simp[Aj,Bj,Ay,No,GR,By]
end
section
open Go.RowKit
open Go.RowKit
structure BM where
 b:AL
 m:Nat
 c:Nat
 ok:c=0->b.mails=[]
def CP (x:BM):List AV:=[.d (.str x.b.name),.d (.int .i64 x.b.next),mA x.m 3 x.c x.b.mails.length]
def Au (l:List BM):List (List AV):=l.map CP
def CM (l:List BM):List AL:=l.map BM.b
@[go_sem] theorem AF (l:List BM):(Au l).length=l.length:=by simp[Au]
theorem Db {l:List BM} {i:Nat} {x:BM} (h:l[i]?=some x):(Au l)[i]?=some [.d (.str x.b.name),.d (.int .i64 x.b.next),mA x.m 3 x.c x.b.mails.length]:=by simp[Au,h,CP]
def A8:List BM->Af->Af
 |[],F=>F
 |x::l,F=>mO x.m 3 x.c (As (A4 x.b.mails)) (A8 l F)
theorem PH (p:Nat×Ob) (b k c:Nat) (r:List (List AV)) (F:Af):(p::mO b k c r F).Perm (mO b k c r (p::F)):=by
 unfold mO;split
 ·exact .refl _
 ·exact .swap ..
theorem FA {b k c:Nat} {r:List (List AV)} {F F':Af} (h:F.Perm F'):(mO b k c r F).Perm (mO b k c r F'):=by
 unfold mO;split
 ·exact h
 ·exact h.cons _
theorem RD (b k c:Nat) (r:List (List AV)) (b' k' c':Nat) (r':List (List AV)) (F:Af):(mO b k c r (mO b' k' c' r' F)).Perm (mO b' k' c' r' (mO b k c r F)):=by
 unfold mO;split<;>split
 ·exact .refl _
 ·exact .refl _
 ·exact .refl _
 ·exact .swap ..
theorem GF:∀(l:List BM) (p:Nat×Ob) (F:Af),(p::A8 l F).Perm (A8 l (p::F))
 |[],_,_=> .refl _
 |x::l,p,F=>(PH p ..).trans (FA (GF l p F))
theorem RE:∀(l:List BM) (b k c:Nat) (r:List (List AV)) (F:Af),(mO b k c r (A8 l F)).Perm (A8 l (mO b k c r F))
 |[],_,_,_,_,_=> .refl _
 |x::l,b,k,c,r,F=>(RD ..).trans (FA (RE l b k c r F))
theorem Oy (l l':List BM) (F:Af):A8 (l++l') F=A8 l (A8 l' F):=by
 induction l with
 |nil=>rfl
 |cons x l ih=>simp only[List.cons_append,A8,ih]
theorem FB:∀{l:List BM} {i:Nat} {x:BM} (F:Af),l[i]?=some x->(A8 l F).Perm (mO x.m 3 x.c (As (A4 x.b.mails)) (A8 (l.eraseIdx i) F))
 |y::l,0,x,F,h=>by simp at h;subst h;exact .refl _
 |y::l,i+1,x,F,h=>by
  have h:l[i]?=some x:=by simpa using h
  exact(FA (FB F h)).trans (RD ..)
theorem KH:∀{l:List BM} {i:Nat} (y:BM) (F:Af),i<l.length->(mO y.m 3 y.c (As (A4 y.b.mails)) (A8 (l.eraseIdx i) F)).Perm (A8 (l.set i y) F)
 |z::l,0,y,F,h=> .refl _
 |z::l,i+1,y,F,h=>(RD ..).trans (FA (KH y F (by simpa using h)))
end
section
theorem Po {l:List BM} {k:Nat} (h:k<l.length):(CM l)[k]'(by simpa[CM] using h)=(l[k]'h).b:=by simp[CM]
attribute [local go_sem] Bc CF in
theorem YH (T:Ap) (x:BM) (t:Tx) (b:Nat) (F:Af) (L:List Nat):AC prog T 150 [.agg [.d (.str (x.b.name)),.d (.int .i64 (x.b.next)),mA x.m 3 x.c x.b.mails.length],.ptr b 1 0 0] (⟨(b,⟨1,1,[[.d (.str t)]]⟩)::F,L⟩) (λr h=>r= .ret (.d (.bool (decide (x.b.name=t))))/\h=⟨(b,⟨1,1,[[.d (.str t)]]⟩)::F,L⟩):=by
 refine⟨call150,Ao.enterS func150 rfl ntmps150 rfl λhb=>?_⟩
 simp only[go_sem,results150]
 rcases Nat.eq_zero_or_pos x.c with hz|hz
 ·refine Zx ?_
  simp only[go_sem,hz]
  intro b2 fb2
  try simp only[Ab] at fb2
  refine Zp 8 (Aa.ret ?_)
  apply Ah [b2] [] [] [] ZH
  · exact ⟨rfl,by simp[go_sem]⟩
  · simp [Aj,Ay]
 have zf1:=λb k n=>AG (b:=b) (k:=k) (n:=n) hz
 refine Zx ?_
 simp only[go_sem,zf1]
 intro b2 fb2
 try simp only[Ab] at fb2
 refine Zp 8 (Aa.ret ?_)
 apply Ah [b2] [] [] [] ZH
 · exact ⟨rfl,by simp[go_sem]⟩
 · simp [Aj,Ay]
attribute [local go_sem] Bc AF in
theorem Qz (T:Ap) (l:List BM) (t:Tx) (b bb cb:Nat) (F:Af) (L:List Nat) (hl:l.length<=1000):AC prog T 149 [.arr bb 3 l.length cb,.fn 150 [.ptr b 1 0 0]] (⟨(b,⟨1,1,[[.d (.str t)]]⟩)::(bb,⟨3,cb,Au l⟩)::F,L⟩) (λr h=>r= .ret (.d (.int .i64 (Bu (CM l) t)))/\h=⟨(b,⟨1,1,[[.d (.str t)]]⟩)::(bb,⟨3,cb,Au l⟩)::F,L⟩):=by
 refine⟨call149,Ao.enterS func149 rfl ntmps149 rfl λhb=>?_⟩
 refine Aa.nd λhnd=>?_
 have hne:=UR hnd
 clear hnd
 have zf1:=AY hne
 have zf2:=AZ hne
 simp only[go_sem,results149]
 refine Zp 3 ?_
 refine Zs (Zp 27 ?_)
 refine Aa.block (Zy ?_)
 refine Zl 7 8 (λn lc hc=> ∃(k:Nat),n=l.length-k/\Av lc [(8,.d (.int .i64 k))]/\Av hc (⟨(b,⟨1,1,[[.d (.str t)]]⟩)::(bb,⟨3,cb,Au l⟩)::F,L⟩)/\(k<=l.length)/\(GT (CM l) t k)) ?_ ?_
 · refine ⟨_,0,rfl,ZE,ZE,?_,?_⟩
   all_goals(first|omega|exact P3 _ _)
 rintro _ _ _ ⟨k,rfl,⟨rfl⟩,⟨rfl⟩,h1,h2⟩
 refine Zy ?_
 refine Zp 31 ?_
 refine Zs (Zc (λhc0=>?_) λhc0=>?_)
 ·have hlt:k<l.length:=by omega
  have zf3:=Db (List.getElem?_eq_getElem hlt)
  refine Zk ?_
  refine Zs (Aa.block (Zp 31 ?_))
  refine Zx (Z3 ?_)
  refine ZA [b] [] (YH T (l[k]'hlt) t b _ _) ?_
  rintro _ _ ⟨rfl,rfl⟩
  refine Zy ?_
  refine Zm 1055 ?_
  refine Zc (λhc1=>?_) λhc1=>?_
  ·refine Zp 4 (Aa.ret ?_)
   simp only[Am,Bo]
   apply Ah [] [] [] [] ZH
   · exact ⟨rfl,rfl⟩
   · rw [P5 (by simpa[CM] using hlt) h2 (by rw[Po hlt];exact hc1)];simp[Aj,Ay]
  refine Z5 ?_
  refine Z6 ?_
  refine Ze 11 16 [] [] [b,bb] [] (.e ⟨_,ZM,k+1,rfl,ZE,ZE,?_,?_⟩)
  · omega
  · exact P4 (by simpa[CM] using hlt) h2 (by rw[Po hlt];exact hc1)
 refine Z4 ?_
 refine Zm 0 ?_
 refine Zp 1 (Aa.ret ?_)
 apply Ah [] [] [] [] ZH
 · exact ⟨rfl,rfl⟩
 · rw [K0 (by simp[CM];omega) h2];simp[Aj,Ay]
attribute [local go_sem] Bc in
theorem Qy (T:Ap) (f:FuncId) (cap:List AV) (F:Af) (L:List Nat):AC prog T 149 [.full 3 [],.fn f cap] (⟨F,L⟩) (λr h=>r= .ret (.d (.int .i64 (-1)))/\h=⟨F,L⟩):=by
 refine⟨call149,Ao.enterS func149 rfl ntmps149 rfl λhb=>?_⟩
 simp only[go_sem,results149]
 refine Zp 3 ?_
 refine Zs (Zp 27 ?_)
 refine Aa.block (Zy ?_)
 refine Zl 7 8 (λn lc hc=> ∃(k:Nat),n=k/\Av lc [(8,.d (.int .i64 0))]/\Av hc (⟨F,L⟩)) ⟨_,0,rfl,ZE,ZE⟩ ?_
 rintro _ _ _ ⟨k,rfl,⟨rfl⟩,⟨rfl⟩⟩
 refine Zy ?_
 refine Zp 31 ?_
 refine Zs (Zc (λhc0=>?_) λhc0=>?_)
 ·exfalso
  simp at hc0
 refine Z4 ?_
 refine Zm 0 ?_
 refine Zp 1 (Aa.ret ?_)
 apply Ah [] [] [] [] ZH
 · exact ⟨rfl,rfl⟩
 · simp [Aj,Ay]
attribute [local go_sem] Array.isEmpty_empty in
theorem U2 (T:Ap) (l:List BM) (t:Tx) (bb cb:Nat) (F:Af) (L:List Nat) (hl:l.length<=1000):AC prog T 87 [.arr bb 3 l.length cb,.d (.str t)] (⟨(bb,⟨3,cb,Au l⟩)::F,L⟩) (λr h=>r= .ret (.d (.int .i64 (Bu (CM l) t)))/\h=⟨(bb,⟨3,cb,Au l⟩)::F,L⟩):=by
 refine⟨call87,Ao.enterS func87 rfl ntmps87 rfl λhb=>?_⟩
 simp only[go_sem,results87]
 refine Zx ?_
 simp only[go_sem,if_true]
 intro b3 fb3
 try simp only[Ab] at fb3
 refine Zx ?_
 simp only[go_sem,if_true]
 refine ZA [b3,bb] [] (Qz T l t b3 bb cb _ _ hl) ?_
 rintro _ _ ⟨rfl,rfl⟩
 simp only[go_sem,if_true]
 refine Zm 8 ?_
 refine Aa.ret ?_
 apply Ah [b3] [] [] [] ZH
 · exact ⟨rfl,by simp[go_sem]⟩
 · simp [Aj,Ay]
attribute [local go_sem] Array.isEmpty_empty in
theorem AbZ (T:Ap) (t:Tx) (F:Af) (L:List Nat):AC prog T 87 [.full 3 [],.d (.str t)] (⟨F,L⟩) (λr h=>r= .ret (.d (.int .i64 (-1)))/\h=⟨F,L⟩):=by
 refine⟨call87,Ao.enterS func87 rfl ntmps87 rfl λhb=>?_⟩
 simp only[go_sem,results87]
 refine Zx ?_
 simp only[go_sem,if_true]
 intro b3 fb3
 try simp only[Ab] at fb3
 refine Zx ?_
 simp only[go_sem,if_true]
 refine ZA [b3] [] (Qy T _ _ _ _) ?_
 rintro _ _ ⟨rfl,rfl⟩
 simp only[go_sem,if_true]
 refine Zm 8 ?_
 refine Aa.ret ?_
 apply Ah [b3] [] [] [] ZH
 · exact ⟨rfl,by simp[go_sem]⟩
 · simp [Aj,Ay]
end
section
def Cl {α:Type} (p:α->Bool):List α->Int
 |[]=> -1
 |x::l=>if p x=true then 0 else if Cl p l<0 then -1 else Cl p l+1
section
variable {α:Type} {p:α->Bool} {l:List α} {k:Nat}
theorem JL:∀l:List α,-1<=Cl p l
 |[]=>by simp[Cl]
 |x::l=>by
  have:=JL l
  rw[Cl];split
  ·omega
  ·split<;>omega
def M5 (p:α->Bool) (l:List α) (k:Nat):Prop:=Cl p l=if Cl p (l.drop k)<0 then -1 else Cl p (l.drop k)+k
theorem YT:M5 p l 0:=by
 have:=JL (p:=p) l
 unfold M5;rw[List.drop_zero];split<;>omega
theorem YV (h:k<l.length) (hR:M5 p l k) (he:p (l[k]'h)=true):Cl p l=k:=by
 have e:Cl p (l.drop k)=0:=by rw[List.drop_eq_getElem_cons h,Cl,if_pos he]
 unfold M5 at hR
 rw[hR,e];simp
theorem YU (h:k<l.length) (hR:M5 p l k) (he:p (l[k]'h)=false):M5 p l (k+1):=by
 have e:Cl p (l.drop k)=if Cl p (l.drop (k+1))<0 then -1 else Cl p (l.drop (k+1))+1:=by rw[List.drop_eq_getElem_cons h,Cl,if_neg (by simp[he])]
 have hg:=JL (p:=p) (l.drop (k+1))
 unfold M5 at hR⊢
 rw[hR,e]
 by_cases h1:Cl p (l.drop (k+1))<0
 ·simp[h1]
 ·rw[if_neg h1,if_neg h1,if_neg ZO];omega
theorem Rv (h:l.length<=k) (hR:M5 p l k):Cl p l= -1:=by
 unfold M5 at hR
 rw[hR,List.drop_eq_nil_of_le h];rfl
end
theorem IU {l:List B2} {i:Nat} {x:B2} (h:l[i]?=some x):(As (A4 l))[i]?=some [.d (.int .i64 x.uid),.d (.int .i64 x.flags),.d (.str x.text)]:=by simp[As,A4,h,CJ]
theorem Fq (l:List B2):∀r∈As (A4 l),r.length=3:=λr hr=>by
 simp only[As,A4,List.mem_map] at hr
 obtain⟨_,⟨f,_,rfl⟩,rfl⟩:=hr
 rfl
theorem RG (l:List B2):∀r∈A4 l,r.length=3:=λr hr=>by
 simp only[A4,List.mem_map] at hr
 obtain⟨f,_,rfl⟩:=hr
 rfl
theorem Ain:∀n:Fin 32,(!decide (IntKind.i64.wrap ↑(BitVec.ofInt 64 ((n.val:Nat):Int)&&&BitVec.ofInt 64 8).toNat=0))=decide (¬(((n.val:Nat):Int)/8)%2=0):=by decide+kernel
def Kz (m:B2):Bool:=decide (¬(m.flags/8)%2=0)
def Aed (l:List B2):Prop:=∀m∈l,0<=m.flags/\m.flags<=31
attribute [local go_sem] Bc C7 in
theorem AhN (T:Ap) (x:B2) (e:BN) (b:Nat) (F:Af) (L:List Nat):AC prog T 160 [.agg [.d (.int .i64 (x.uid)),.d (.int .i64 (x.flags)),.d (.str (x.text))],.ptr b 6 0 0] (⟨(b,⟨6,1,[C7 e]⟩)::F,L⟩) (λr h=>r= .ret (.d (.bool (decide (x.uid=e.uid))))/\h=⟨(b,⟨6,1,[C7 e]⟩)::F,L⟩):=by
 refine⟨call160,Ao.enterS func160 rfl ntmps160 rfl λhb=>?_⟩
 simp only[go_sem,results160]
 refine Zx (Zy ?_)
 intro b2 fb2
 try simp only[Ab] at fb2
 refine Zp 8 (Aa.ret ?_)
 apply Ah [b2] [] [] [] ZH
 · exact ⟨rfl,by simp[go_sem]⟩
 · simp [Aj,Ay]
attribute [local go_sem] Bc in
theorem Adm (T:Ap) (x:B2) (h0:0<=x.flags) (h1:x.flags<=31):PC prog T 158 [.agg [.d (.int .i64 (x.uid)),.d (.int .i64 (x.flags)),.d (.str (x.text))]] (.d (.bool (Kz x))):=by
 refine⟨call158,Ar.enterS func158 rfl ntmps158 rfl λhb=>?_⟩
 simp only[go_sem,results158]
 refine Zx (Zy ?_)
 intro b1
 first|intro fb1|have fb1:=True.intro
 try simp only[Ab] at fb1
 refine Zp 4 (Aa.ret ?_)
 simp only[go_sem]
 simp only[Kz]
 obtain⟨n,hn⟩:=Int.eq_ofNat_of_zero_le h0
 rw[hn]
 exact Ain ⟨n,by omega⟩
attribute [local go_sem] Bc AA AB in
theorem S9 (T:Ap) (e:BN) (b:Nat) (ms:List B2) (m c:Nat) (F:Af) (L:List Nat) (hl:ms.length<=1000):AC prog T 159 [.arr m 3 ms.length c,.fn 160 [.ptr b 6 0 0]] (⟨(b,⟨6,1,[C7 e]⟩)::(m,⟨3,c,As (A4 ms)⟩)::F,L⟩) (λr h=>r= .ret (.d (.int .i64 (Cl (λx:B2=>decide (x.uid=e.uid)) ms)))/\h=⟨(b,⟨6,1,[C7 e]⟩)::(m,⟨3,c,As (A4 ms)⟩)::F,L⟩):=by
 refine⟨call159,Ao.enterS func159 rfl ntmps159 rfl λhb=>?_⟩
 refine Aa.nd λhnd=>?_
 have hne:=UR hnd
 clear hnd
 have zf1:=AY hne
 have zf2:=AZ hne
 simp only[go_sem,results159]
 refine Zp 3 ?_
 refine Zs (Zp 27 ?_)
 refine Aa.block (Zy ?_)
 refine Zl 7 8 (λn lc hc=> ∃(k:Nat),n=ms.length-k/\Av lc [(8,.d (.int .i64 k))]/\Av hc (⟨(b,⟨6,1,[C7 e]⟩)::(m,⟨3,c,As (A4 ms)⟩)::F,L⟩)/\(k<=ms.length)/\(M5 (λx:B2=>decide (x.uid=e.uid)) ms k)) ?_ ?_
 · refine ⟨_,0,rfl,ZE,ZE,?_,?_⟩
   all_goals(first|omega|exact YT)
 rintro _ _ _ ⟨k,rfl,⟨rfl⟩,⟨rfl⟩,h1,h2⟩
 refine Zy ?_
 refine Zp 31 ?_
 refine Zs (Zc (λhc0=>?_) λhc0=>?_)
 ·have hlt:k<ms.length:=by omega
  have zf3:=IU (List.getElem?_eq_getElem hlt)
  refine Zk ?_
  refine Zs (Aa.block (Zp 31 ?_))
  refine Zx (Z3 ?_)
  refine ZA [b] [] (AhN T (ms[k]'hlt) e b _ _) ?_
  rintro _ _ ⟨rfl,rfl⟩
  refine Zy ?_
  refine Zm 1055 ?_
  refine Zc (λhc1=>?_) λhc1=>?_
  ·refine Zp 4 (Aa.ret ?_)
   simp only[Am,Bo]
   apply Ah [] [] [] [] ZH
   · exact ⟨rfl,rfl⟩
   · rw [YV hlt h2 (by simpa using hc1)];simp[Aj,Ay]
  refine Z5 ?_
  refine Z6 ?_
  refine Ze 11 16 [] [] [b,m] [] (.e ⟨_,ZM,k+1,rfl,ZE,ZE,?_,?_⟩)
  · omega
  · exact YU hlt h2 (by simpa using hc1)
 refine Z4 ?_
 refine Zm 0 ?_
 refine Zp 1 (Aa.ret ?_)
 apply Ah [] [] [] [] ZH
 · exact ⟨rfl,rfl⟩
 · rw [Rv ZO h2];simp[Aj,Ay]
attribute [local go_sem] Bc AA AB in
theorem S8 (T:Ap) (ms:List B2) (hfl:Aed ms) (m c:Nat) (F:Af) (L:List Nat) (hl:ms.length<=1000):AC prog T 159 [.arr m 3 ms.length c,.fn 158 []] (⟨(m,⟨3,c,As (A4 ms)⟩)::F,L⟩) (λr h=>r= .ret (.d (.int .i64 (Cl (Kz) ms)))/\h=⟨(m,⟨3,c,As (A4 ms)⟩)::F,L⟩):=by
 refine⟨call159,Ao.enterS func159 rfl ntmps159 rfl λhb=>?_⟩
 simp only[go_sem,results159]
 refine Zp 3 ?_
 refine Zs (Zp 27 ?_)
 refine Aa.block (Zy ?_)
 refine Zl 7 8 (λn lc hc=> ∃(k:Nat),n=ms.length-k/\Av lc [(8,.d (.int .i64 k))]/\Av hc (⟨(m,⟨3,c,As (A4 ms)⟩)::F,L⟩)/\(k<=ms.length)/\(M5 (Kz) ms k)) ?_ ?_
 · refine ⟨_,0,rfl,ZE,ZE,?_,?_⟩
   all_goals(first|omega|exact YT)
 rintro _ _ _ ⟨k,rfl,⟨rfl⟩,⟨rfl⟩,h1,h2⟩
 refine Zy ?_
 refine Zp 31 ?_
 refine Zs (Zc (λhc0=>?_) λhc0=>?_)
 ·have hlt:k<ms.length:=by omega
  have zf1:=IU (List.getElem?_eq_getElem hlt)
  refine Zk ?_
  refine Zs (Aa.block (Zp 31 ?_))
  refine Zx (Z3 ?_)
  refine ZP (Adm T (ms[k]'hlt) (hfl _ (List.getElem_mem hlt)).1 (hfl _ (List.getElem_mem hlt)).2) ?_
  refine Zy ?_
  refine Zm 1055 ?_
  refine Zc (λhc1=>?_) λhc1=>?_
  ·refine Zp 4 (Aa.ret ?_)
   simp only[Am,Bo]
   apply Ah [] [] [] [] ZH
   · exact ⟨rfl,rfl⟩
   · rw [YV hlt h2 (by simpa using hc1)];simp[Aj,Ay]
  refine Z5 ?_
  refine Z6 ?_
  refine Ze 11 16 [] [] [m] [] (.e ⟨_,ZM,k+1,rfl,ZE,ZE,?_,?_⟩)
  · omega
  · exact YU hlt h2 (by simpa using hc1)
 refine Z4 ?_
 refine Zm 0 ?_
 refine Zp 1 (Aa.ret ?_)
 apply Ah [] [] [] [] ZH
 · exact ⟨rfl,rfl⟩
 · rw [Rv ZO h2];simp[Aj,Ay]
attribute [local go_sem] Bc in
theorem Jt (T:Ap) (f:FuncId) (cap:List AV) (F:Af) (L:List Nat):AC prog T 159 [.full 3 [],.fn f cap] (⟨F,L⟩) (λr h=>r= .ret (.d (.int .i64 (-1)))/\h=⟨F,L⟩):=by
 refine⟨call159,Ao.enterS func159 rfl ntmps159 rfl λhb=>?_⟩
 simp only[go_sem,results159]
 refine Zp 3 ?_
 refine Zs (Zp 27 ?_)
 refine Aa.block (Zy ?_)
 refine Zl 7 8 (λn lc hc=> ∃(k:Nat),n=k/\Av lc [(8,.d (.int .i64 0))]/\Av hc (⟨F,L⟩)) ⟨_,0,rfl,ZE,ZE⟩ ?_
 rintro _ _ _ ⟨k,rfl,⟨rfl⟩,⟨rfl⟩⟩
 refine Zy ?_
 refine Zp 31 ?_
 refine Zs (Zc (λhc0=>?_) λhc0=>?_)
 ·exfalso
  simp at hc0
 refine Z4 ?_
 refine Zm 0 ?_
 refine Zp 1 (Aa.ret ?_)
 apply Ah [] [] [] [] ZH
 · exact ⟨rfl,rfl⟩
 · simp [Aj,Ay]
end
section
abbrev Qk (x:BM):Nat×Ob:=(x.m,⟨3,x.c,As (A4 x.b.mails)⟩)
theorem IR (A:Af) {l:List BM} {i:Nat} {x:BM} {F:Af} (h:l[i]?=some x) (hc:0<x.c):(A++A8 l F).Perm (Qk x::(A++A8 (l.eraseIdx i) F)):=by
 have h1:=FB F h
 rw[Bk hc] at h1
 exact(h1.append_left A).trans List.perm_middle
theorem Md (A:Af) {l:List BM} {i:Nat} (y:BM) {F:Af} (h:i<l.length) (hc:0<y.c):(Qk y::(A++A8 (l.eraseIdx i) F)).Perm (A++A8 (l.set i y) F):=by
 have h1:=KH y F h
 rw[Bk hc] at h1
 exact List.perm_middle.symm.trans (h1.append_left A)
theorem Pn (A:Af) {l:List BM} {i:Nat} {x:BM} {F:Af} (h:l[i]?=some x) (hc:0<x.c):(Qk x::(A++A8 (l.eraseIdx i) F)).Perm (A++A8 l F):=(IR A h hc).symm
theorem Wn {l:List BM} {k:Nat} (h:k<l.length):B3 ((CM l).drop k)=Cw (l[k]'h).b.mails+B3 ((CM l).drop (k+1)):=by
 rw[Hn (show k<(CM l).length by simpa[CM] using h),Po h]
theorem nd4 {x y z v:Nat} {o o' o2 o3:Ob} {F:Af} (h:(List.map Prod.fst ((x,o)::(y,o')::(z,o2)::(v,o3)::F)).Nodup):x≠y/\x≠z/\x≠v:=by
 simp only[List.map_cons,List.nodup_cons,List.mem_cons,not_or] at h
 exact⟨h.1.1,h.1.2.1,h.1.2.2.1⟩
structure BmS (l:List BM):Prop where
 h1:l.length<=1000
 h2:∀x∈l,x.b.mails.length<=1000
 h3:B3 (CM l)<=1000000
 h4:∀x∈l,0<=x.b.next
attribute [local go_sem] Bc AF AA AB CF in
theorem Vm (T:Ap) (l:List BM) (sp:List BN) (u bb cb:Nat) (F:Af) (L:List Nat) (sb:BmS l):AC prog T 89 [.agg [.arr bb 3 l.length cb,.own u 6 (At sp)]] (⟨(bb,⟨3,cb,Au l⟩)::A8 l F,L⟩) (λr h=>r= .ret (.d (.int .i64 (B3 (CM l):Nat)))/\h=⟨(bb,⟨3,cb,Au l⟩)::A8 l F,L⟩):=by
 refine⟨call89,Ao.enterS func89 rfl ntmps89 rfl λhb=>?_⟩
 obtain⟨sb1,sb2,sb3,sb4⟩:=sb
 simp only[go_sem,results89]
 refine Zx (Zy ?_)
 intro b1 fb1
 try simp only[Ab] at fb1
 refine Zp 10 ?_
 refine Zs (Zp 58 ?_)
 refine Aa.block (Zy ?_)
 refine Zl 6 9 (λn lc hc=> ∃(k a:Nat),n=l.length-k/\Av lc [(3,.d (.int .i64 (a:Nat))),(11,.d (.int .i64 k))]/\Av hc (⟨(b1,⟨2,1,[[.arr bb 3 l.length cb,.own u 6 (At sp)]]⟩)::(bb,⟨3,cb,Au l⟩)::A8 l F,L⟩)/\(k<=l.length)/\(a+B3 ((CM l).drop k)=B3 (CM l))) ?_ ?_
 · refine ⟨_,0,0,rfl,ZE,ZE,?_,?_⟩
   all_goals(first|omega|(simp;done))
 rintro _ _ _ ⟨k,a,rfl,⟨rfl⟩,⟨rfl⟩,h1,h2⟩
 refine Zy ?_
 refine Zp 31 ?_
 refine Zs (Zc (λhc0=>?_) λhc0=>?_)
 ·have hlt:k<l.length:=by omega
  have hx:l[k]?=some (l[k]'hlt):=List.getElem?_eq_getElem hlt
  have hb:=Wn hlt
  have hm3:=sb2 _ (List.getElem_mem hlt)
  refine Aa.nd λhnd=>?_
  have hne:=UR hnd
  clear hnd
  have zf1:=Db hx
  have zf2:=AY hne
  have zf3:=AZ hne
  refine Zk ?_
  refine Zs (Aa.block ?_)
  rcases Nat.eq_zero_or_pos (l[k]'hlt).c with hz|hz
  ·have hm0:=(l[k]'hlt).ok hz
   refine Zx (Z3 ?_)
   intro b5 fb5
   try simp only[Ab] at fb5
   refine Zp 3613 ?_
   refine Aa.block (Zy ?_)
   refine Zl 62 65 (λn lc hc=> ∃(j:Nat),n=j/\Av lc [(3,.d (.int .i64 (a:Nat))),(18,.d (.int .i64 0))]/\Av hc (⟨((b5,⟨3,1,[[.d (.str ((l[k]'hlt).b.name)),.d (.int .i64 ((l[k]'hlt).b.next)),.full 3 []]]⟩)::(b1,⟨2,1,[[.arr bb 3 l.length cb,.own u 6 (At sp)]]⟩)::(bb,⟨3,cb,Au l⟩)::A8 l F),L⟩)) ⟨_,0,rfl,ZE,ZE⟩ ?_
   rintro _ _ _ ⟨j,rfl,⟨rfl⟩,⟨rfl⟩⟩
   refine Zy ?_
   refine Zp 255 ?_
   refine Zs (Zc (λhc1=>?_) λhc1=>?_)
   ·exfalso
    simp at hc1
   rw[hm0] at hb
   simp only[Cw] at hb
   refine Aa.exit (Ak (Ak (Bh (Ai (Ac ?_)))))
   refine Zm 15 ?_
   refine Z6 ?_
   refine Ze 6 9 [b5] [] [b1,bb] [] (.e ⟨_,ZM,k+1,a,rfl,ZE,ZE,?_,?_⟩)
   all_goals first|omega
  have zf4:=λb k n=>AG (b:=b) (k:=k) (n:=n) hz
  refine Zx (Z3 ?_)
  intro b5 fb5
  try simp only[Ab] at fb5
  refine Aa.pm (IR [_,_,_] hx hz) ?_
  refine Aa.nd λhnd=>?_
  obtain⟨hq1,hq2,hq3⟩:=nd4 hnd
  clear hnd
  have zf5:=AY hq1
  have zf6:=AZ hq1
  have zf7:=AY hq2
  have zf8:=AZ hq2
  have zf9:=AY hq3
  have zf10:=AZ hq3
  refine Zp 3613 ?_
  refine Aa.block (Zy ?_)
  refine Zl 62 65 (λn lc hc=> ∃(j c:Nat),n=(l[k]'hlt).b.mails.length-j/\Av lc [(3,.d (.int .i64 (c:Nat))),(18,.d (.int .i64 j))]/\Av hc (⟨(Qk (l[k]'hlt)::(b5,⟨3,1,[[.d (.str ((l[k]'hlt).b.name)),.d (.int .i64 ((l[k]'hlt).b.next)),.arr (l[k]'hlt).m 3 (l[k]'hlt).b.mails.length (l[k]'hlt).c]]⟩)::(b1,⟨2,1,[[.arr bb 3 l.length cb,.own u 6 (At sp)]]⟩)::(bb,⟨3,cb,Au l⟩)::A8 (l.eraseIdx k) F),L⟩)/\(j<=(l[k]'hlt).b.mails.length)/\(c+Cw ((l[k]'hlt).b.mails.drop j)=a+Cw (l[k]'hlt).b.mails)) ?_ ?_
  · refine ⟨_,0,a,rfl,ZE,ZE,?_,?_⟩
    all_goals(first|omega|(simp;done))
  rintro _ _ _ ⟨j,c,rfl,⟨rfl⟩,⟨rfl⟩,g1,g2⟩
  refine Zy ?_
  refine Zp 255 ?_
  refine Zs (Zc (λhc1=>?_) λhc1=>?_)
  ·have hlj:j<(l[k]'hlt).b.mails.length:=by omega
   have hm:=Gg hlj
   have zf11:=IU (List.getElem?_eq_getElem hlj)
   refine Zk ?_
   refine Zs (Aa.block (Zx (Z3 ?_)))
   intro b7 fb7
   try simp only[Ab] at fb7
   refine Zr (Ai (Ac ?_))
   refine Zm 253 ?_
   refine Z6 ?_
   refine Ze 62 65 [b7] [] [(l[k]'hlt).m,b5,b1,bb] [] (.e ⟨_,ZM,j+1,(c+(((l[k]'hlt).b.mails)[j]'hlj).text.length),rfl,ZE,ZE,?_,?_⟩)
   all_goals first|omega|(rw[Gg hlj] at g2;omega)
  have hm:=Fi (l:=(l[k]'hlt).b.mails) (k:=j) ZO
  refine Aa.exit (Ak (Ak (Bh (Ai (Ac ?_)))))
  refine Zn 15 ?_
  refine Aa.pm (Pn [_,_,_] hx hz) ?_
  refine Z6 ?_
  refine Ze 6 9 [b5] [] [b1,bb] [] (.e ⟨_,ZM,k+1,c,rfl,ZE,ZE,?_,?_⟩)
  all_goals first|omega
 refine Z4 ?_
 refine Zm 1 ?_
 refine Zp 1 (Aa.ret ?_)
 apply Ah [b1] [] [] [] ZH
 · exact ⟨rfl,by simp[go_sem]⟩
 · have hb:=IJ (l:=CM l) (k:=k) (by simp[CM];omega)
   have hk:a=B3 (CM l):=by omega
   rw[hk];simp[Aj,Ay]
end
section
def E1 (x:AL) (fl:Int) (tx:Tx):AL:=⟨x.name,x.next+1,x.mails++[⟨x.next,fl,tx⟩]⟩
def Hh (bs:List AL) (i:Nat) (fl:Int) (tx:Tx):List AL×Int:=
 match bs[i]? with
 |none=>(bs,0)
 |some x=>if x.mails.length=30\/1048576<x.next\/6000<B3 bs+tx.length then(bs,5) else(bs.set i (E1 x fl tx),0)
theorem Xb (n:Nat):((n:Nat):Int).toNat=n:=rfl
theorem G4 {bs:List AL} {i:Nat} {x:AL} {fl:Int} {tx:Tx} (h:bs[i]?=some x) (hc:x.mails.length=30\/1048576<x.next\/6000<B3 bs+tx.length):Hh bs i fl tx=(bs,5):=by rw[Hh,h];exact if_pos hc
theorem Kx {bs:List AL} {i:Nat} {x:AL} {fl:Int} {tx:Tx} (h:bs[i]?=some x) (hc:¬(x.mails.length=30\/1048576<x.next\/6000<B3 bs+tx.length)):Hh bs i fl tx=(bs.set i (E1 x fl tx),0):=by rw[Hh,h];exact if_neg hc
theorem Mg {l:List BM} {i:Nat} {x:BM} (h:l[i]?=some x):(CM l)[i]?=some x.b:=by simp[CM,h]
theorem EP (l:List BM) (i:Nat) (y:BM):CM (l.set i y)=(CM l).set i y.b:=by simp[CM,List.map_set]
theorem Dc (l:List BM) (i:Nat) (y:BM):(Au l).set i (CP y)=Au (l.set i y):=by simp[Au,List.map_set]
theorem T1 {l:List BM} {i:Nat} {x:BM} (h:l[i]?=some x):i<l.length:=(List.getElem?_eq_some_iff.1 h).1
theorem nd3 {x y z:Nat} {o o' o2:Ob} {F:Af} (h:(List.map Prod.fst ((x,o)::(y,o')::(z,o2)::F)).Nodup):x≠y/\x≠z:=by
 simp only[List.map_cons,List.nodup_cons,List.mem_cons,not_or] at h
 exact⟨h.1.1,h.1.2.1⟩
theorem YN (A:Af) {l:List BM} {i:Nat} {x:BM} {F:Af} (h:l[i]?=some x) (hc:x.c=0):(A++A8 l F).Perm (A++A8 (l.eraseIdx i) F):=by
 have h1:=FB F h
 rw[hc,D9] at h1
 exact h1.append_left A
theorem Dj {h h':AH} (e:h=h'):BO h h':=e▸BO.refl h
theorem Va (p q:Nat×Ob) (l:List BM) (F:Af):(p::q::A8 l F).Perm (q::A8 l (p::F)):=(List.Perm.swap ..).trans ((GF l p F).cons q)
attribute [local go_sem] Bc AF Xb CF Bool.or_false Bool.false_or List.set_set in
theorem XQ (T:Ap) (s bb cb u:Nat) (sp:List BN) (l:List BM) (i:Nat) (x:BM) (fl:Int) (tx:Tx) (F:Af) (L:List Nat) (hx:l[i]?=some x) (sb:BmS l) (htx:tx.length<=2000):AC prog T 156 [.ptr s 2 0 0,.d (.int .i64 (i:Nat)),.d (.int .i64 fl),.d (.str tx)] (⟨(s,⟨2,1,[[.arr bb 3 l.length cb,.own u 6 (At sp)]]⟩)::(bb,⟨3,cb,Au l⟩)::A8 l F,L⟩) (λr h=> ∃l',CM l'=(Hh (CM l) i fl tx).1/\l'.length=l.length/\r= .ret (.d (.int .i64 ((Hh (CM l) i fl tx).2)))/\h=⟨(s,⟨2,1,[[.arr bb 3 l.length cb,.own u 6 (At sp)]]⟩)::(bb,⟨3,cb,Au l'⟩)::A8 l' F,L⟩):=by
 refine⟨call156,Ao.enterS func156 rfl ntmps156 rfl λhb=>?_⟩
 have hil:=T1 hx
 have hbx:=Mg hx
 obtain⟨sb1,sb2,sb3,sb4⟩:=id sb
 have hnx:=sb4 _ (List.mem_of_getElem? hx)
 have hmx:=sb2 _ (List.mem_of_getElem? hx)
 refine Aa.nd λhnd=>?_
 have hne:=UR hnd
 clear hnd
 have zf1:=Db hx
 have zf2:=AY hne
 have zf3:=AZ hne
 simp only[go_sem,results156]
 refine Zp 15 ?_
 rcases Nat.eq_zero_or_pos x.c with hz|hz
 ·have hm0:=x.ok hz
  have hm1:x.b.mails.length=0:=by rw[hm0];rfl
  refine Zp 29 ?_
  refine Zs ?_
  by_cases hA:x.b.mails.length=30\/1048576<x.b.next
  ·have hd:(decide (((0:Nat):Int)=30)||decide (1048576<x.b.next))=true:=by rw[Bool.or_eq_true,decide_eq_true_eq,decide_eq_true_eq];omega
   refine Zx ?_
   simp only[go_sem,zf1,zf2,zf3,hz,hd]
   (repeat(with_reducible refine And.intro ZS ?_))
   refine Qw rfl (by first|rfl|(simp only[go_sem,hd];done)|(simp only[go_sem,hd];rfl)) ?_
   refine Zy ?_
   (repeat(with_reducible refine And.intro ZS ?_))
   refine Zm 67108878 ?_
   refine Zc (λhc0=>?_) λhc0=>?_
   ·refine Zp 4 (Aa.ret ?_)
    simp only[Am]
    apply Ah [] [] [] [] ZH
    · exact ⟨l,by rw[G4 hbx ZO],rfl,rfl,rfl⟩
    · rw [G4 hbx ZO];simp[Aj,Ay]
   exact absurd hc0 (by first|(simp;done)|omega|(simp[*];done))
  have hd1:decide (((0:Nat):Int)=30)=false:=decide_eq_false ZO
  have hd2:decide (1048576<x.b.next)=false:=decide_eq_false ZO
  refine Gz 17 λK_ hK_=>?_
  simp only[List.take_succ_cons,List.take_zero,List.drop_succ_cons,List.drop_zero]
  simp only[go_sem, *]
  refine Q2 rfl rfl (ZR) rfl rfl (by rfl) (BO.pm (Va _ _ _ _)) (ZR) (Vm T l sp u bb cb _ _ sb) ?_
  rintro _ _ ⟨rfl,rfl⟩
  refine LV.leH (BO.pm (Va _ _ _ _).symm) (LV.lvc ?_)
  refine Zy ?_
  (repeat(with_reducible refine And.intro ZS ?_))
  refine hK_ _ _ ?_
  refine Zm 67108878 ?_
  refine Zc (λhc0=>?_) λhc0=>?_
  ·refine Zp 4 (Aa.ret ?_)
   simp only[Am]
   apply Ah [] [] [] [] ZH
   · exact ⟨l,by rw[G4 hbx ZO],rfl,rfl,rfl⟩
   · rw [G4 hbx ZO];simp[Aj,Ay]
  refine Zk ?_
  refine Zy ?_
  refine Aa.pm (YN [_,_] hx hz) ?_
  simp only[List.cons_append,List.nil_append]
  have zf4:=λa=>List.getElem?_set_self (a:=a) (show i<(Au l).length by rw[AF];exact hil)
  refine Zd true [0,1,2,3,4,5,6,7,8,9,10,11,12,13,14,15,16] ?_
  simp only[go_sem, *]
  refine Di (b0:=0) (c0:=0) (rows:=[]) rfl rfl rfl rfl (λ_=>rfl) rfl (show BL prog 92=some (112,3,32) by simp only[go_sem]) rfl rfl ZX rfl (by first|decide|(simp;done)|omega) (by first|omega|(simp only[go_sem]<;>omega)|(simp only[go_sem,List.length_take,List.length_map,List.length_append,List.length_cons,List.length_nil]<;>omega)|(simp<;>omega)) (by first|omega|(simp only[go_sem]<;>omega)|(simp only[go_sem,List.length_take,List.length_map,List.length_append,List.length_cons,List.length_nil]<;>omega)|(simp<;>omega)) λbm1 cm1 hcm1 fbm1=>?_
  try simp only[Ab] at fbm1
  simp only[go_sem, *]
  refine Zm 4 ?_
  refine Zp 0 ?_
  refine Zy ?_
  refine Aa.leH (Dj (h':=⟨Qk (⟨E1 x.b fl tx,bm1,cm1,λh=>absurd h ZO⟩:BM)::(s,⟨2,1,[[.arr bb 3 l.length cb,.own u 6 (At sp)]]⟩)::(bb,⟨3,cb,Au (l.set i (⟨E1 x.b fl tx,bm1,cm1,λh=>absurd h ZO⟩:BM))⟩)::A8 (l.eraseIdx i) F,L⟩) ?_) ?_
  · rw [<-Dc];simp[Qk,CP,E1,AG hcm1,A4,As,CJ,hm0]
  refine Aa.pm (Md [_,_] (⟨E1 x.b fl tx,bm1,cm1,λh=>absurd h ZO⟩:BM) hil hcm1) ?_
  refine Zp 1 (Aa.ret ?_)
  apply Ah [] [] [] [] ZH
  · exact ⟨l.set i (⟨E1 x.b fl tx,bm1,cm1,λh=>absurd h ZO⟩:BM),by rw[EP,Kx hbx ZO],by simp,rfl,rfl⟩
  · rw [Kx hbx ZO];simp[Aj,Ay]
 have zf5:=λb k n=>AG (b:=b) (k:=k) (n:=n) hz
 refine Zp 29 ?_
 refine Zs ?_
 by_cases hA:x.b.mails.length=30\/1048576<x.b.next
 ·have hd:(decide (((x.b.mails.length:Nat):Int)=30)||decide (1048576<x.b.next))=true:=by rw[Bool.or_eq_true,decide_eq_true_eq,decide_eq_true_eq];omega
  refine Zx ?_
  simp only[go_sem,zf1,zf2,zf3,zf5,hd]
  (repeat(with_reducible refine And.intro ZS ?_))
  refine Qw rfl (by first|rfl|(simp only[go_sem,hd];done)|(simp only[go_sem,hd];rfl)) ?_
  refine Zy ?_
  (repeat(with_reducible refine And.intro ZS ?_))
  refine Zm 67108878 ?_
  refine Zc (λhc0=>?_) λhc0=>?_
  ·refine Zp 4 (Aa.ret ?_)
   simp only[Am]
   apply Ah [] [] [] [] ZH
   · exact ⟨l,by rw[G4 hbx ZO],rfl,rfl,rfl⟩
   · rw [G4 hbx ZO];simp[Aj,Ay]
  exact absurd hc0 (by first|(simp;done)|omega|(simp[*];done))
 have hd1:decide (((x.b.mails.length:Nat):Int)=30)=false:=decide_eq_false ZO
 have hd2:decide (1048576<x.b.next)=false:=decide_eq_false ZO
 refine Gz 17 λK_ hK_=>?_
 simp only[List.take_succ_cons,List.take_zero,List.drop_succ_cons,List.drop_zero]
 simp only[go_sem, *]
 refine Q2 rfl rfl (ZR) rfl rfl (by rfl) (BO.pm (Va _ _ _ _)) (ZR) (Vm T l sp u bb cb _ _ sb) ?_
 rintro _ _ ⟨rfl,rfl⟩
 refine LV.leH (BO.pm (Va _ _ _ _).symm) (LV.lvc ?_)
 refine Zy ?_
 (repeat(with_reducible refine And.intro ZS ?_))
 refine hK_ _ _ ?_
 refine Zm 67108878 ?_
 refine Zc (λhc0=>?_) λhc0=>?_
 ·refine Zp 4 (Aa.ret ?_)
  simp only[Am]
  apply Ah [] [] [] [] ZH
  · exact ⟨l,by rw[G4 hbx ZO],rfl,rfl,rfl⟩
  · rw [G4 hbx ZO];simp[Aj,Ay]
 refine Zk ?_
 refine Zy ?_
 refine Aa.pm (IR [_,_] hx hz) ?_
 simp only[List.cons_append,List.nil_append]
 refine Aa.nd λhnd=>?_
 obtain⟨hq1,hq2⟩:=nd3 hnd
 clear hnd
 have zf6:=λa=>List.getElem?_set_self (a:=a) (show i<(Au l).length by rw[AF];exact hil)
 have zf7:=AY hq1
 have zf8:=AZ hq1
 have zf9:=AY hq2
 have zf10:=AZ hq2
 refine Zd true [0,1,2,3,4,5,6,7,8,9,10,11,12,13,14,15,16] ?_
 simp only[go_sem, *]
 refine Di (b0:=x.m) (c0:=x.c) (rows:=As (A4 x.b.mails)) rfl rfl (Eq.trans (b:= .arr x.m 3 x.b.mails.length x.c) rfl (by rw[AG hz,AB,AA])) (by rw[Bk hz]) (λh=>absurd h ZO) rfl (show BL prog 92=some (112,3,32) by simp only[go_sem]) rfl rfl (Fq _) rfl (by first|decide|(simp;done)|omega) (by(try simp only[go_sem,AB,AA]);omega) (by(try simp only[go_sem,AB,AA]);omega) λbm2 cm2 hcm2 fbm2=>?_
 try simp only[Ab] at fbm2
 simp only[go_sem, *]
 refine Zm 4 ?_
 refine Zp 0 ?_
 refine Zy ?_
 refine Aa.leH (Dj (h':=⟨Qk (⟨E1 x.b fl tx,bm2,cm2,λh=>absurd h ZO⟩:BM)::(s,⟨2,1,[[.arr bb 3 l.length cb,.own u 6 (At sp)]]⟩)::(bb,⟨3,cb,Au (l.set i (⟨E1 x.b fl tx,bm2,cm2,λh=>absurd h ZO⟩:BM))⟩)::A8 (l.eraseIdx i) F,L⟩) ?_) ?_
 · rw [<-Dc];simp[Qk,CP,E1,AG hcm2,A4,As,CJ,List.map_append]
 refine Aa.pm (Md [_,_] (⟨E1 x.b fl tx,bm2,cm2,λh=>absurd h ZO⟩:BM) hil hcm2) ?_
 refine Zp 1 (Aa.ret ?_)
 apply Ah [] [] [] [] ZH
 · exact ⟨l.set i (⟨E1 x.b fl tx,bm2,cm2,λh=>absurd h ZO⟩:BM),by rw[EP,Kx hbx ZO],by simp,rfl,rfl⟩
 · rw [Kx hbx ZO];simp[Aj,Ay]
end
section
section
variable {α:Type} {p:α->Bool}
theorem Rw:∀{l:List α},Cl p l= -1->l.filter (λx=>!p x)=l
 |[],_=>rfl
 | x::l,h=>by
  rw[Cl] at h
  split at h
  ·omega
  ·rename_i hp
   have hg:=JL (p:=p) l
   have:Cl p l= -1:=by split at h<;>omega
   have hp:p x=false:=by simpa using hp
   simp[hp,Rw this]
theorem Rx:∀{l:List α} {i:Nat},Cl p l=(i:Nat)->i<l.length/\(l.take (i+1)).filter (λx=>!p x)=l.take i
 |[],i,h=>by simp[Cl] at h
 | x::l,i,h=>by
  rw[Cl] at h
  split at h
  ·rename_i hp
   obtain rfl:i=0:=by omega
   simp[hp]
  ·rename_i hp
   have hp:p x=false:=by simpa using hp
   split at h
   ·omega
   ·obtain⟨j,rfl⟩:∃j,i=j+1:=⟨i-1,by omega⟩
    obtain⟨h1,h2⟩:=Rx (l:=l) (i:=j) ZO
    refine⟨by simpa using h1,?_⟩
    simp only[List.take_succ_cons,List.filter_cons,hp,Bool.not_false,if_true,h2]
end
def BU (ms:List B2):List B2:=ms.filter λx=>!Kz x
theorem R4 {ms:List B2} {j:Nat} (h:j<ms.length) (hd:Kz (ms[j]'h)=false):BU (ms.take (j+1))=BU (ms.take j)++[ms[j]'h]:=by
 rw[List.take_add_one,List.getElem?_eq_getElem h,BU,List.filter_append];simp[hd,BU]
theorem UF {ms:List B2} {j:Nat} (h:j<ms.length) (hd:Kz (ms[j]'h)=true):BU (ms.take (j+1))=BU (ms.take j):=by
 rw[List.take_add_one,List.getElem?_eq_getElem h,BU,List.filter_append];simp[hd,BU]
theorem YP {R ms:List B2} {j:Nat} (h:R.drop j=ms.drop j) (hj:j<ms.length):R[j]?=some (ms[j]'hj):=by
 have:=congrArg (λl=>l[0]?) h
 simpa[hj] using this
theorem Xh {R:List B2} {i:Nat} {x:B2} (h:i<R.length):(R.set i x).take (i+1)=R.take i++[x]:=by
 rw[List.take_add_one,List.take_set_of_le (Nat.le_refl _)]
 simp[h]
theorem O2 (R:List B2) (i:Nat) (x:B2):(As (A4 R)).set i [.d (.int .i64 x.uid),.d (.int .i64 x.flags),.d (.str x.text)]=As (A4 (R.set i x)):=by simp[As,A4,List.map_set,CJ]
theorem WT (R:List B2) (i:Nat):(As (A4 R)).take i=As (A4 (R.take i)):=by simp[As,A4]
attribute [local go_sem] Bc AB AA Xb in
theorem VL (T:Ap) (ms:List B2) (m c:Nat) (F:Af) (L:List Nat) (hl:ms.length<=1000) (hfl:Aed ms):AC prog T 157 [.arr m 3 ms.length c,.fn 158 []] (⟨(m,⟨3,c,As (A4 ms)⟩)::F,L⟩) (λr h=>r= .ret (.arr m 3 (BU ms).length c)/\h=⟨(m,⟨3,c,As (A4 (BU ms))⟩)::F,L⟩):=by
 refine⟨call157,Ao.enterS func157 rfl ntmps157 rfl λhb=>?_⟩
 refine Abf (ob:=⟨3,c,As (A4 ms)⟩) (b:=m) (by simp[A9]) λhfit=>?_
 simp only[AB,AA] at hfit
 simp only[go_sem,results157]
 refine Zp 3 ?_
 refine Zx (Zy ?_)
 refine ZA [m] [] (S8 T ms hfl m c _ _ hl) ?_
 rintro _ _ ⟨rfl,rfl⟩
 refine Zy ?_
 refine Zs (Zp 135 ?_)
 refine Zc (λhc0=>?_) λhc0=>?_
 ·have hk0:BU ms=ms:=Rw hc0
  refine Zp 4 (Aa.ret ?_)
  simp only[Am]
  apply Ah [] [] [] [] ZH
  · exact ⟨rfl,by rw[hk0];rfl⟩
  · rw [hk0];simp[Aj]
 have hge:=JL (p:=Kz) ms
 obtain⟨i0,hi0⟩:=Int.eq_ofNat_of_zero_le (show 0<=Cl Kz ms by omega)
 obtain⟨hi1,hi2⟩:=Rx hi0
 rw[hi0] at*
 refine Zk ?_
 refine Zs (Zp 15 ?_)
 refine Aa.block (Zy ?_)
 refine Zl 3 12 (λn lc hc=> ∃(i j:Nat) (R:List B2),n=ms.length-j/\Av lc [(5,.d (.int .i64 (i:Nat))),(6,.d (.int .i64 (j:Nat)))]/\Av hc (⟨(m,⟨3,c,As (A4 R)⟩)::F,L⟩)/\(j<=ms.length)/\(i<j)/\(R.length=ms.length)/\(R.take i=BU (ms.take j))/\(R.drop j=ms.drop j)) ?_ ?_
 · refine ⟨_,i0,(i0+1),ms,rfl,ZE,ZE,?_,?_,?_,?_,?_⟩
   all_goals(first|omega|rfl|exact hi2.symm)
 rintro _ _ _ ⟨i,j,R,rfl,⟨rfl⟩,⟨rfl⟩,h1,h2,h3,h4,h5⟩
 refine Zy ?_
 refine Zs (Zp 143 ?_)
 refine Zc (λhc1=>?_) λhc1=>?_
 ·have hlt:j<ms.length:=by omega
  have hgd:=YP h5 hlt
  have zf1:=IU hgd
  refine Zk ?_
  refine Zs (Aa.block (Zx (Z3 ?_)))
  intro bz1 fbz1
  try simp only[Ab] at fbz1
  refine Zm 31 ?_
  refine Zx ?_
  simp only[go_sem,fbz1]
  refine ZP (Adm T (ms[j]'hlt) (hfl _ (List.getElem_mem hlt)).1 (hfl _ (List.getElem_mem hlt)).2) ?_
  refine Zy ?_
  refine Zc (λhc2=>?_) λhc2=>?_
  ·have zf2:=IU (List.getElem?_eq_getElem (show i<R.length by omega))
   refine Zp 15 ?_
   refine Zr (Ai (Ac ?_))
   refine Z6 ?_
   refine Ze 3 12 [bz1] [] [m] [] (.e ⟨_,ZM,(i+1),(j+1),(R.set i (ms[j]'hlt)),rfl,ZE,?_,?_,?_,?_,?_,?_⟩)
   · (try simp only[go_sem,fbz1])<;>first|exact⟨rfl⟩|(constructor;rw[O2])
   · omega
   · omega
   · simpa using h3
   · rw [Xh ZO,h4,R4 hlt (by simpa using hc2)]
   · rw [List.drop_set_of_lt ZO];rw[<-List.drop_drop,h5,List.drop_drop]
  refine Z5 ?_
  refine Zm 15 ?_
  refine Z6 ?_
  refine Ze 3 12 [bz1] [] [m] [] (.e ⟨_,ZM,i,(j+1),R,rfl,ZE,?_,?_,?_,?_,?_,?_⟩)
  · (try simp only[go_sem,fbz1])<;>first|exact⟨rfl⟩|(constructor;rw[O2])
  · omega
  · omega
  · exact h3
  · rw [h4,UF hlt (by simpa using hc2)]
  · rw [<-List.drop_drop,h5,List.drop_drop]
 have hj:j=ms.length:=by omega
 have hk:R.take i=BU ms:=by rw[h4,hj,List.take_length]
 have hkl:(BU ms).length=i:=by rw[<-hk];simp;omega
 refine Z4 ?_
 refine Gz 2 λK_ hK_=>?_
 simp only[List.take_succ_cons,List.take_zero,List.drop_succ_cons,List.drop_zero]
 refine Zy ?_
 refine Aeg (b:=m) (k:=3) (n:=ms.length) (c:=c) (i:=i) (rows:=As (A4 R)) rfl rfl rfl rfl rfl rfl rfl (show BL prog 92=some (112,3,32) by simp only[go_sem]) (by kernel_rfl) (by simp[A9]) (by rw[AB,AA,h3]) ZO (Fq R) (by rw[Dn];decide) ?_
 rw[WT,hk]
 refine LV.lvc ?_
 refine Zy ?_
 refine hK_ _ _ ?_
 refine Zm 5 ?_
 refine Gz 2 λK_ hK_=>?_
 simp only[List.take_succ_cons,List.take_zero,List.drop_succ_cons,List.drop_zero]
 refine Zy ?_
 refine Abs (b:=m) (k:=3) (n:=ms.length) (c:=c) (i:=i) rfl rfl rfl rfl (show BL prog 92=some (112,3,32) by simp only[go_sem]) hfit ZO ?_
 refine LV.lvc ?_
 refine Zy ?_
 refine hK_ _ _ ?_
 refine Zm 2 ?_
 refine Aa.ret ?_
 apply Ah [] [] [] [] ZH
 · exact ⟨rfl,rfl⟩
 · rw [hkl];simp[Aj]
end
section
def EB (x:AL) (k:Nat) (fl:Int):AL:=⟨x.name,x.next,match x.mails[k]? with|some m=>x.mails.set k ⟨m.uid,fl,m.text⟩|none=>x.mails⟩
def NQ (bs:List AL) (i:Nat) (x:BN):List AL×Int:=
 if x.kind=2 then Hh bs i x.flags x.text
 else match bs[i]? with
  |none=>(bs,0)
  | some y=>
   if x.kind=4 then(bs.set i ⟨y.name,y.next,BU y.mails⟩,0)
   else if Cl (λm:B2=>decide (m.uid=x.uid)) y.mails<0 then(bs,7)
   else if x.kind=3 then(bs.set i (EB y (Cl (λm:B2=>decide (m.uid=x.uid)) y.mails).toNat x.flags),0)
   else if Bu bs x.dest<0 then(bs,7)
   else match y.mails[(Cl (λm:B2=>decide (m.uid=x.uid)) y.mails).toNat]? with
    |none=>(bs,0)
    |some m=>Hh bs (Bu bs x.dest).toNat m.flags m.text
def Iv (s:St) (x:BN):St×Int:=
 if x.kind=6 then(if s.spool.length=20 then(s,5) else(⟨s.boxes,s.spool++[x]⟩,0))
 else if x.kind=1 then(if 0<=Bu s.boxes x.box then(s,10) else if s.boxes.length=5 then(s,5) else(⟨s.boxes++[⟨x.box,1,[]⟩],s.spool⟩,0))
 else if Bu s.boxes x.box<0 then(s,7)
 else(⟨(NQ s.boxes (Bu s.boxes x.box).toNat x).1,s.spool⟩,(NQ s.boxes (Bu s.boxes x.box).toNat x).2)
section
variable {s:St} {x:BN}
theorem SR (h:x.kind=6) (h2:s.spool.length=20):Iv s x=(s,5):=by rw[Iv,if_pos h,if_pos h2]
theorem SQ (h:x.kind=6) (h2:¬s.spool.length=20):Iv s x=(⟨s.boxes,s.spool++[x]⟩,0):=by rw[Iv,if_pos h,if_neg h2]
theorem Yc (h:x.kind=1) (h2:0<=Bu s.boxes x.box):Iv s x=(s,10):=by rw[Iv,if_neg ZO,if_pos h,if_pos h2]
theorem Adi (h:x.kind=1) (h2:Bu s.boxes x.box<0) (h3:s.boxes.length=5):Iv s x=(s,5):=by rw[Iv,if_neg ZO,if_pos h,if_neg ZO,if_pos h3]
theorem Yb (h:x.kind=1) (h2:Bu s.boxes x.box<0) (h3:¬s.boxes.length=5):Iv s x=(⟨s.boxes++[⟨x.box,1,[]⟩],s.spool⟩,0):=by rw[Iv,if_neg ZO,if_pos h,if_neg ZO,if_neg h3]
theorem Yd (h:¬x.kind=6) (h1:¬x.kind=1) (h2:Bu s.boxes x.box<0):Iv s x=(s,7):=by rw[Iv,if_neg h,if_neg h1,if_pos h2]
theorem J3 {i:Nat} (h:¬x.kind=6) (h1:¬x.kind=1) (h2:Bu s.boxes x.box=(i:Nat)):Iv s x=(⟨(NQ s.boxes i x).1,s.spool⟩,(NQ s.boxes i x).2):=by rw[Iv,if_neg h,if_neg h1,h2,if_neg ZO];rfl
end
section
variable {bs:List AL} {x:BN} {i k j:Nat} {y:AL} {m:B2}
theorem XO (h:x.kind=2):NQ bs i x=Hh bs i x.flags x.text:=if_pos h
theorem SD (h:x.kind=4) (hy:bs[i]?=some y):NQ bs i x=(bs.set i ⟨y.name,y.next,BU y.mails⟩,0):=by rw[NQ,if_neg ZO,hy];exact if_pos h
theorem Aen (h:¬x.kind=2) (h2:¬x.kind=4) (hy:bs[i]?=some y) (hk:Cl (λm:B2=>decide (m.uid=x.uid)) y.mails<0):NQ bs i x=(bs,7):=by
 rw[NQ,if_neg h,hy];exact(if_neg h2).trans (if_pos hk)
theorem Adc (h:x.kind=3) (hy:bs[i]?=some y) (hk:Cl (λm:B2=>decide (m.uid=x.uid)) y.mails=(k:Nat)):NQ bs i x=(bs.set i (EB y k x.flags),0):=by
 rw[NQ,if_neg ZO,hy]
 show(if _ then _ else _)=_
 rw[if_neg ZO,hk,if_neg ZO,if_pos h];rfl
theorem Ada (h:¬x.kind=2) (h2:¬x.kind=4) (h3:¬x.kind=3) (hy:bs[i]?=some y) (hk:Cl (λm:B2=>decide (m.uid=x.uid)) y.mails=(k:Nat)) (hf:Bu bs x.dest<0):NQ bs i x=(bs,7):=by
 rw[NQ,if_neg h,hy]
 show(if _ then _ else _)=_
 rw[if_neg h2,hk,if_neg ZO,if_neg h3,if_pos hf]
theorem Adb (h:¬x.kind=2) (h2:¬x.kind=4) (h3:¬x.kind=3) (hy:bs[i]?=some y) (hk:Cl (λm:B2=>decide (m.uid=x.uid)) y.mails=(k:Nat)) (hf:Bu bs x.dest=(j:Nat)) (hm:y.mails[k]?=some m):NQ bs i x=Hh bs j m.flags m.text:=by
 rw[NQ,if_neg h,hy]
 show(if _ then _ else _)=_
 rw[if_neg h2,hk,if_neg ZO,if_neg h3,hf,if_neg ZO,Int.toNat_natCast,hm];rfl
end
theorem Hr:∀{l:List AL} {t:Tx} {i:Nat},Bu l t=(i:Nat)->i<l.length
 |[],t,i,h=>by simp[Bu] at h
 | x::l,t,i,h=>by
  rw[Bu] at h
  split at h
  ·simp;omega
  ·split at h
   ·omega
   ·have:=Hr (l:=l) (t:=t) (i:=i-1) ZO
    simp;omega
theorem PA {α:Type} {p:α->Bool} :∀{l:List α} {i:Nat},Cl p l=(i:Nat)->i<l.length
 |[],i,h=>by simp[Cl] at h
 | x::l,i,h=>by
  rw[Cl] at h
  split at h
  ·simp;omega
  ·split at h
   ·omega
   ·have:=PA (p:=p) (l:=l) (i:=i-1) ZO
    simp;omega
theorem O7 (A:Af) (l:List BM) (p:Nat×Ob) (F:Af):(A++A8 l (p::F)).Perm (p::(A++A8 l F)):=((GF l p F).symm.append_left A).trans List.perm_middle
theorem Ai7 (p q r:Nat×Ob) (F:Af):(p::q::r::F).Perm (q::r::p::F):=(List.Perm.swap ..).trans ((List.Perm.swap ..).cons _)
end
section
def FlS (l:List BM):Prop:=∀y∈l,Aed y.b.mails/\∀m∈y.b.mails,m.text.length<=2000
theorem MF:∀{l:List BM} {i:Nat} {x y:BM} (F:Af),l[i]?=some x->x.c=0->y.c=0->A8 (l.set i y) F=A8 l F
 |z::l,0,x,y,F,h,h1,h2=>by simp at h;subst h;simp[A8,h1,h2,D9]
 |z::l,i+1,x,y,F,h,h1,h2=>by
  have h:l[i]?=some x:=by simpa using h
  simp only[List.set_cons_succ,A8,MF F h h1 h2]
theorem Lj {l:List BM} {i:Nat} {y z:BM} (h:l[i]?=some y) (e:CP z=CP y):Au (l.set i z)=Au l:=by
 rw[<-Dc,e]
 have h1:(Au l)[i]?=some (CP y):=by simp[Au,h]
 obtain⟨h2,h3⟩:=List.getElem?_eq_some_iff.1 h1
 rw[<-h3,List.set_getElem_self]
theorem Hm (l:List BM) (y:BM):Au l++[CP y]=Au (l++[y]):=by simp[Au]
theorem MG (l:List BM) (y:BM) (F:Af) (h:y.c=0):A8 (l++[y]) F=A8 l F:=by rw[Oy];simp[A8,h,D9]
theorem Hl (l:List BM) (y:BM):CM (l++[y])=CM l++[y.b]:=by simp[CM]
theorem E3 (l:List BM):∀r∈Au l,r.length=3:=λr hr=>by
 simp only[Au,List.mem_map] at hr
 obtain⟨x,_,rfl⟩:=hr
 rfl
attribute [local go_sem] Bc in
theorem VK (T:Ap) (F:Af) (L:List Nat):AC prog T 157 [.full 3 [],.fn 158 []] (⟨F,L⟩) (λr h=>r= .ret (.full 3 [])/\h=⟨F,L⟩):=by
 refine⟨call157,Ao.enterS func157 rfl ntmps157 rfl λhb=>?_⟩
 simp only[go_sem,results157]
 refine Zp 3 ?_
 refine Zx (Zy ?_)
 refine ZA [] [] (Jt T _ _ _ _) ?_
 rintro _ _ ⟨rfl,rfl⟩
 refine Zy ?_
 refine Zs (Zp 135 ?_)
 refine Zc (λhc0=>?_) λhc0=>?_
 ·refine Zp 4 (Aa.ret ?_)
  simp only[Am]
  apply Ah [] [] [] [] ZH
  · exact ⟨rfl,rfl⟩
  · simp [Aj]
 exact absurd hc0 ZX
attribute [local go_sem] Bc AF C7 Xb Array.isEmpty_empty CF in
theorem Ag2 (T:Ap) (s bb cb u:Nat) (sp:List BN) (l:List BM) (x:BN) (F:Af) (L:List Nat) (hcb:0<cb) (hu:Ae u L) (sb:BmS l) (hfl:FlS l) (hsp:sp.length<=1000) (htx:x.text.length<=2000):AC prog T 95 [.ptr s 2 0 0,.agg (C7 x)] (⟨(s,⟨2,1,[[.arr bb 3 l.length cb,.own u 6 (At sp)]]⟩)::(bb,⟨3,cb,Au l⟩)::A8 l F,u::L⟩) (λr h=> ∃(l2:List BM) (sp2:List BN) (e:Int) (bb2 cb2 u2:Nat),0<cb2/\Ae u2 L/\Iv ⟨CM l,sp⟩ x=(⟨CM l2,sp2⟩,e)/\r= .ret (.d (.int .i64 e))/\h=⟨(s,⟨2,1,[[.arr bb2 3 l2.length cb2,.own u2 6 (At sp2)]]⟩)::(bb2,⟨3,cb2,Au l2⟩)::A8 l2 F,u2::L⟩):=by
 refine⟨call95,Ao.enterS func95 rfl ntmps95 rfl λhb=>?_⟩
 refine Aa.nd λhnd=>?_
 have hne:=UR hnd
 clear hnd
 have sb1:=sb.h1
 have zf1:=AY hne
 have zf2:=AZ hne
 simp only[go_sem,results95]
 refine Zx ?_
 simp only[go_sem,if_true]
 intro b3 fb3
 try simp only[Ab] at fb3
 refine Zd false [0,1,2,3,4,5,6,7] ?_
 simp only[go_sem, *]
 refine ZA [bb] [] (U2 T l x.box bb cb _ _ sb.h1) ?_
 rintro _ _ ⟨rfl,rfl⟩
 simp only[go_sem,if_true]
 refine Zm 21 ?_
 refine Zs (Aa.block (Zy ?_))
 refine Aa.pm (Ai7 ..) ?_
 refine Zp 15 ?_
 refine Zc (λhc0=>?_) λhc0=>?_
 ·refine Zs (Zp 515 ?_)
  refine Zc (λhc1=>?_) λhc1=>?_
  ·refine Zp 4 (Aa.ret ?_)
   simp only[Am,Bo]
   apply Ah [b3] [] [] [] ZH
   · exact ⟨l,sp,_,bb,cb,u,hcb,hu,SR hc0 (by show sp.length=20;omega),rfl,by simp[go_sem]⟩
   · simp [Aj,Ay]
  refine Zk ?_
  refine Zd true [0,1,2,3,4,5,6,7,8,9,10] ?_
  simp only[go_sem, *]
  refine ZW λt1 ft1=>?_
  try simp only[Ae] at ft1
  simp only[go_sem, *]
  refine Zm 0 ?_
  refine Zp 1 (Aa.ret ?_)
  simp only[Am,Bo]
  apply Ah [b3] [] [] [] ZH
  · exact ⟨l,sp++[x],_,bb,cb,t1,hcb,by first|exact ft1|exact ft1.2,SQ hc0 (by show¬sp.length=20;omega),rfl,by simp[go_sem,At,D8,hc0]⟩
  · simp [Aj,Ay]
 refine Zp 23 ?_
 refine Zc (λhc2=>?_) λhc2=>?_
 ·refine Zp 4 (Aa.ret ?_)
  simp only[Am,Bo]
  apply Ah [b3] [] [] [] ZH
  · exact ⟨l,sp,_,bb,cb,u,hcb,hu,Yc hc2.1 hc2.2,rfl,by simp[go_sem]⟩
  · simp [Aj,Ay]
 refine Zp 23 ?_
 refine Zc (λhc3=>?_) λhc3=>?_
 ·refine Zs (Zp 515 ?_)
  refine Zc (λhc4=>?_) λhc4=>?_
  ·refine Zp 4 (Aa.ret ?_)
   simp only[Am,Bo]
   apply Ah [b3] [] [] [] ZH
   · exact ⟨l,sp,_,bb,cb,u,hcb,hu,Adi hc3 (hc2.elim (λh=>absurd hc3 h) id) (by show(CM l).length=5;simp[CM];omega),rfl,by simp[go_sem]⟩
   · simp [Aj,Ay]
  refine Zk ?_
  refine ON [] FE.nil rfl [0,1,2,3,5,6,7] 4 [8] [9,10,11,12] rfl (by kernel_rfl) rfl λK_ hK_=>?_
  simp only[go_sem, *]
  try with_reducible refine Exists.intro _ (And.intro (by first|rfl|(simp only[go_sem,zf1,zf2,if_true,fb3];first|rfl|exact⟨by omega,rfl⟩)) ?_)
  refine Kp (he:=by first|rfl|kernel_rfl) (rows:=[[.d (.str x.box),.d (.int .i64 1),.nils]]) rfl rfl (show BL prog 51=some (94,3,48) by simp only[go_sem]) (by rfl) rfl ZD (Nat.zero_lt_succ _) λbn fbn=>?_
  try simp only[Ab] at fbn
  simp only[go_sem, *]
  try with_reducible refine And.intro (by first|rfl|(simp only[go_sem,zf1,zf2,if_true,fb3,fbn];first|done|rfl|exact⟨by omega,rfl⟩)) ?_
  refine Fx rfl (BO.pm (List.perm_middle (l₁:=[_,_,_]))) ?_
  refine FY (b0:=bb) (c0:=cb) (rows:=Au l) (b1:=bn) (ob1:=⟨3,1,[[.d (.str x.box),.d (.int .i64 1),.nils]]⟩) rfl rfl (Eq.trans (b:= .arr bb 3 l.length cb) rfl (by rw[AG hcb,AF])) (by rw[Bk hcb]) (λh=>absurd h ZO) rfl (by simp[A9]) rfl rfl ZX (show BL prog 51=some (94,3,48) by simp only[go_sem]) (by first|(simp only[go_sem];done)|rfl) rfl (E3 l) rfl (Nat.zero_lt_succ _) (by simp only[AF,List.length_cons,List.length_nil];omega) (by simp only[AF,List.length_cons,List.length_nil];omega) λbm cm hcm fbm=>?_
  simp only[List.cons_append,List.nil_append,Ab] at fbm⊢
  simp only[go_sem, *]
  refine hK_ _ _ ?_
  refine Zn 0 ?_
  refine CA (b:=bm) (i:=l.length) (j:=2) (k:=3) (ob:=⟨3,cm,Au l++[[.d (.str x.box),.d (.int .i64 1),.nils]]⟩) (r:=[.d (.str x.box),.d (.int .i64 1),.nils]) (by simp[A9]) (by simp[Au]) rfl ?_
  refine Aa.leH (BO.ord [bn] [] [s,bm] [] _) ?_
  refine Zp 1 (Aa.ret ?_)
  simp only[Am,Bo]
  apply Ah [b3] [] [] [] ZH
  · refine ⟨l++[(⟨⟨x.box,1,[]⟩,0,0,λ_=>rfl⟩:BM)],sp,0,bm,cm,u,hcm,hu,?_,rfl,?_⟩
    · rw [Hl,Yb hc3 (hc2.elim (λh=>absurd hc3 h) id) (by show¬(CM l).length=5;simp[CM];omega)]
    · rw [<-Hm,MG _ _ _ rfl];simp[go_sem,fb3,fbm,CP,CF,Au]
  · simp [Aj,Ay]
 refine Zp 23 ?_
 refine Zc (λhc5=>?_) λhc5=>?_
 ·refine Zp 4 (Aa.ret ?_)
  simp only[Am,Bo]
  apply Ah [b3] [] [] [] ZH
  · exact ⟨l,sp,_,bb,cb,u,hcb,hu,Yd hc0 hc3 hc5,rfl,by simp[go_sem]⟩
  · simp [Aj,Ay]
 obtain⟨i,hfi⟩:=Int.eq_ofNat_of_zero_le hc5
 have hil:i<l.length:=by simpa[CM] using Hr hfi
 have hxb:l[i]?=some (l[i]'hil):=List.getElem?_eq_getElem hil
 have hbx:=Mg hxb
 have hml:=sb.h2 _ (List.getElem_mem hil)
 obtain⟨hfx,hfx2⟩:=hfl _ (List.getElem_mem hil)
 have zf3:=Db hxb
 refine Zp 23 ?_
 refine Zc (λhc6=>?_) λhc6=>?_
 ·refine Zx ?_
  simp only[go_sem, *]
  refine Fa rfl rfl rfl rfl (BO.pm (O7 [_,_] _ _ _).symm) (ZR) (XQ T s bb cb u sp l i (l[i]'hil) x.flags x.text _ _ hxb sb htx) ?_
  rintro _ _ ⟨l2,hl2,hl3,rfl,rfl⟩
  simp only[go_sem,if_true]
  refine Zn 4 ?_
  refine Aa.pm (O7 [_,_] _ _ _) ?_
  simp only[List.cons_append,List.nil_append]
  refine Aa.ret ?_
  simp only[Am,Bo]
  apply Ah [b3] [] [] [] ZH
  · exact ⟨l2,sp,_,bb,cb,u,hcb,hu,by rw[J3 hc0 hc3 hfi,XO hc6,<-hl2],rfl,by simp[go_sem,hl3]⟩
  · simp [Aj,Ay]
 refine Zp 23 ?_
 refine Zc (λhc7=>?_) λhc7=>?_
 ·rcases Nat.eq_zero_or_pos (l[i]'hil).c with hz|hz
  ·have hm0:=(l[i]'hil).ok hz
   refine Qo [0,1,2,4,5,6,7,8,9,10,11,12] 3 13 [14,15,16] rfl (by kernel_rfl) rfl rfl λK_ hK_=>?_
   simp only[go_sem,zf1,zf2,if_true,fb3,hfi,zf3,hz]
   (repeat(with_reducible refine And.intro ZS ?_))
   try with_reducible refine Exists.intro _ (And.intro (by first|rfl|(simp only[go_sem,zf1,zf2,if_true,fb3,hfi,zf3,hz];first|rfl|exact⟨by omega,rfl⟩)) ?_)
   refine AI [] [] rfl rfl rfl rfl (by(try simp only[go_sem])<;>rfl) rfl (VK T _ _) ?_
   rintro _ _ ⟨rfl,rfl⟩
   simp only[go_sem,zf1,zf2,if_true,fb3,zf3,hz]
   (repeat(with_reducible refine And.intro ZS ?_))
   try with_reducible refine And.intro (by first|rfl|(simp only[go_sem,zf1,zf2,if_true,fb3,hfi,zf3,hz];first|done|rfl|exact⟨by omega,rfl⟩)) ?_
   refine hK_ _ _ ?_
   refine Zm 0 ?_
   refine Zp 1 (Aa.ret ?_)
   simp only[Am,Bo]
   apply Ah [b3] [] [] [] ZH
   · refine ⟨l.set i (⟨⟨(l[i]'hil).b.name,(l[i]'hil).b.next,BU (l[i]'hil).b.mails⟩,(l[i]'hil).m,(l[i]'hil).c,λh=>by show BU _=[];rw[hm0];rfl⟩:BM),sp,0,bb,cb,u,hcb,hu,?_,rfl,?_⟩
     · rw [J3 hc0 hc3 hfi,SD hc7 hbx,EP]
     · rw [MF (y:=(⟨⟨(l[i]'hil).b.name,(l[i]'hil).b.next,BU (l[i]'hil).b.mails⟩,(l[i]'hil).m,(l[i]'hil).c,λh=>by show BU _=[];rw[hm0];rfl⟩:BM)) F hxb hz hz,<-Dc];simp[go_sem,hz,CP]
   · simp [Aj,Ay]
  refine Aa.pm (IR [_,_,_] hxb hz) ?_
  simp only[List.cons_append,List.nil_append]
  refine Aa.nd λhnd=>?_
  obtain⟨hq1,hq2,hq3⟩:=nd4 hnd
  clear hnd
  have zf4:=λb k n=>AG (b:=b) (k:=k) (n:=n) hz
  have zf5:=AY hq1
  have zf6:=AZ hq1
  have zf7:=AY hq2
  have zf8:=AZ hq2
  have zf9:=AY hq3
  have zf10:=AZ hq3
  refine Qo [0,1,2,4,5,6,7,8,9,10,11,12] 3 13 [14,15,16] rfl (by kernel_rfl) rfl rfl λK_ hK_=>?_
  simp only[go_sem,zf1,zf2,if_true,fb3,hfi,zf3,zf4,zf7,zf9]
  (repeat(with_reducible refine And.intro ZS ?_))
  try with_reducible refine Exists.intro _ (And.intro (by first|rfl|(simp only[go_sem,zf1,zf2,if_true,fb3,hfi,zf3,zf4,zf5,zf6,zf7,zf8,zf9,zf10];first|rfl|exact⟨by omega,rfl⟩)) ?_)
  refine AI [] [] rfl rfl rfl rfl (by(try simp only[go_sem])<;>rfl) rfl (VL T (l[i]'hil).b.mails (l[i]'hil).m (l[i]'hil).c _ _ hml hfx) ?_
  rintro _ _ ⟨rfl,rfl⟩
  simp only[go_sem,zf1,zf2,if_true,fb3,zf3,zf4,zf7,zf9]
  (repeat(with_reducible refine And.intro ZS ?_))
  try with_reducible refine And.intro (by first|rfl|(simp only[go_sem,zf1,zf2,if_true,fb3,hfi,zf3,zf4,zf5,zf6,zf7,zf8,zf9,zf10];first|done|rfl|exact⟨by omega,rfl⟩)) ?_
  refine hK_ _ _ ?_
  refine Zn 0 ?_
  refine Aa.leH (Dj (h':=⟨Qk (⟨⟨(l[i]'hil).b.name,(l[i]'hil).b.next,BU (l[i]'hil).b.mails⟩,(l[i]'hil).m,(l[i]'hil).c,λh=>absurd h ZO⟩:BM)::(b3,⟨6,1,[C7 x]⟩)::(s,⟨2,1,[[.arr bb 3 l.length cb,.own u 6 (At sp)]]⟩)::(bb,⟨3,cb,Au (l.set i (⟨⟨(l[i]'hil).b.name,(l[i]'hil).b.next,BU (l[i]'hil).b.mails⟩,(l[i]'hil).m,(l[i]'hil).c,λh=>absurd h ZO⟩:BM))⟩)::A8 (l.eraseIdx i) F,u::L⟩) ?_) ?_
  · rw [<-Dc];simp[Qk,CP,AG hz,C7]
  refine Aa.pm (Md [_,_,_] (⟨⟨(l[i]'hil).b.name,(l[i]'hil).b.next,BU (l[i]'hil).b.mails⟩,(l[i]'hil).m,(l[i]'hil).c,λh=>absurd h ZO⟩:BM) hil hz) ?_
  simp only[List.cons_append,List.nil_append]
  refine Zp 1 (Aa.ret ?_)
  simp only[Am,Bo]
  apply Ah [b3] [] [] [] ZH
  · refine ⟨l.set i (⟨⟨(l[i]'hil).b.name,(l[i]'hil).b.next,BU (l[i]'hil).b.mails⟩,(l[i]'hil).m,(l[i]'hil).c,λh=>absurd h ZO⟩:BM),sp,0,bb,cb,u,hcb,hu,?_,rfl,?_⟩
    · rw [J3 hc0 hc3 hfi,SD hc7 hbx,EP]
    · simp [go_sem]
  · simp [Aj,Ay]
 refine Z5 ?_
 rcases Nat.eq_zero_or_pos (l[i]'hil).c with hz|hz
 ·have hm0:=(l[i]'hil).ok hz
  refine Zx ?_
  simp only[go_sem,zf1,zf2,if_true,fb3,hfi,zf3,hz]
  (repeat(with_reducible refine And.intro ZS ?_))
  refine AI [] [] rfl rfl rfl rfl (by(try simp only[go_sem])<;>rfl) rfl (Jt T _ _ _ _) ?_
  rintro _ _ ⟨rfl,rfl⟩
  simp only[go_sem,if_true]
  refine Zm 15 ?_
  refine Zs (Zp 47 ?_)
  refine Zc (λhc8=>?_) λhc8=>?_
  ·refine Zp 4 (Aa.ret ?_)
   simp only[Am]
   apply Ah [b3] [] [] [] ZH
   · exact ⟨l,sp,_,bb,cb,u,hcb,hu,by rw[J3 hc0 hc3 hfi,Aen hc6 hc7 hbx (by rw[hm0];simp[Cl])],rfl,by simp[go_sem]⟩
   · simp [Aj,Ay]
  exact absurd hc8 ZX
 refine Aa.pm (IR [_,_,_] hxb hz) ?_
 simp only[List.cons_append,List.nil_append]
 refine Aa.nd λhnd=>?_
 obtain⟨hq1,hq2,hq3⟩:=nd4 hnd
 clear hnd
 have zf11:=λb k n=>AG (b:=b) (k:=k) (n:=n) hz
 have zf12:=AY hq1
 have zf13:=AZ hq1
 have zf14:=AY hq2
 have zf15:=AZ hq2
 have zf16:=AY hq3
 have zf17:=AZ hq3
 refine Zx ?_
 simp only[go_sem,zf1,zf2,if_true,fb3,hfi,zf3,zf11,zf14,zf16]
 (repeat(with_reducible refine And.intro ZS ?_))
 refine AI [b3,(l[i]'hil).m] [] rfl rfl rfl rfl (by(try simp only[go_sem,if_true,fb3,zf12,zf13,zf15,zf17])<;>rfl) rfl (S9 T x b3 (l[i]'hil).b.mails (l[i]'hil).m (l[i]'hil).c _ _ hml) ?_
 rintro _ _ ⟨rfl,rfl⟩
 simp only[go_sem,if_true]
 refine Zm 15 ?_
 refine Zs (Zp 47 ?_)
 refine Zc (λhc8=>?_) λhc8=>?_
 ·refine Zy ?_
  refine Aa.pm ((List.Perm.swap ..).trans (Pn [_,_,_] hxb hz)) ?_
  simp only[List.cons_append,List.nil_append]
  refine Zp 4 (Aa.ret ?_)
  simp only[Am]
  apply Ah [b3] [] [] [] ZH
  · exact ⟨l,sp,_,bb,cb,u,hcb,hu,by rw[J3 hc0 hc3 hfi,Aen hc6 hc7 hbx hc8],rfl,by simp[go_sem]⟩
  · simp [Aj,Ay]
 obtain⟨k,hki⟩:=Int.eq_ofNat_of_zero_le hc8
 have hkl:=PA hki
 have hmk:(l[i]'hil).b.mails[k]?=some ((l[i]'hil).b.mails[k]'hkl):=List.getElem?_eq_getElem hkl
 have zf18:=IU hmk
 refine Zk ?_
 refine Zs (Zp 143 ?_)
 refine Zc (λhc9=>?_) λhc9=>?_
 ·refine Zd true [0,1,2,3,4,5,6,7,8,9,10,11,12,13] ?_
  simp only[go_sem,zf1,zf2,if_true,fb3,zf3,zf11,zf12,zf13,zf14,zf15,zf16,zf17,hki,zf18]
  (repeat(with_reducible refine And.intro ZS ?_))
  refine Zm 0 ?_
  refine Zy ?_
  refine Aa.leH (Dj (h':=⟨(b3,⟨6,1,[C7 x]⟩)::Qk (⟨EB (l[i]'hil).b k x.flags,(l[i]'hil).m,(l[i]'hil).c,λh=>absurd h ZO⟩:BM)::(s,⟨2,1,[[.arr bb 3 l.length cb,.own u 6 (At sp)]]⟩)::(bb,⟨3,cb,Au (l.set i (⟨EB (l[i]'hil).b k x.flags,(l[i]'hil).m,(l[i]'hil).c,λh=>absurd h ZO⟩:BM))⟩)::A8 (l.eraseIdx i) F,u::L⟩) ?_) ?_
  · rw [Lj hxb (by simp[CP,EB,hmk])];simp[Qk,EB,hmk,A4,As,CJ,List.map_set,C7]
  refine Aa.pm ((List.Perm.swap ..).trans (Md [_,_,_] (⟨EB (l[i]'hil).b k x.flags,(l[i]'hil).m,(l[i]'hil).c,λh=>absurd h ZO⟩:BM) hil hz)) ?_
  simp only[List.cons_append,List.nil_append]
  refine Zp 1 (Aa.ret ?_)
  simp only[Am]
  apply Ah [b3] [] [] [] ZH
  · refine ⟨l.set i (⟨EB (l[i]'hil).b k x.flags,(l[i]'hil).m,(l[i]'hil).c,λh=>absurd h ZO⟩:BM),sp,0,bb,cb,u,hcb,hu,?_,rfl,?_⟩
    · rw [J3 hc0 hc3 hfi,Adc hc9 hbx hki,EP]
    · simp [go_sem]
  · simp [Aj,Ay]
 refine Zk ?_
 refine Zd false [0,1,2,3,4,5,6,7] ?_
 simp only[go_sem, *]
 refine ZA [bb] [] (U2 T l x.dest bb cb _ _ sb.h1) ?_
 rintro _ _ ⟨rfl,rfl⟩
 simp only[go_sem,if_true]
 refine Zm 29 ?_
 refine Zs (Zp 47 ?_)
 refine Zc (λhc10=>?_) λhc10=>?_
 ·refine Zy ?_
  refine Aa.leH (BO.ord [] [] [(l[i]'hil).m,b3,s,bb] [] _) ?_
  simp only[go_sem,fb3,AY hne,AZ hne,AY hq1,AZ hq1,AY hq2,AZ hq2,AY hq3,AZ hq3]
  refine Aa.pm (Pn [_,_,_] hxb hz) ?_
  simp only[List.cons_append,List.nil_append]
  refine Zp 2 (Aa.ret ?_)
  simp only[Am]
  apply Ah [b3] [] [] [] ZH
  · exact ⟨l,sp,_,bb,cb,u,hcb,hu,by rw[J3 hc0 hc3 hfi,Ada hc6 hc7 hc9 hbx hki hc10],rfl,by simp[go_sem]⟩
  · simp [Aj,Ay]
 obtain⟨j,hfj⟩:=Int.eq_ofNat_of_zero_le hc10
 have hjl:j<l.length:=by simpa[CM] using Hr hfj
 have hxj:l[j]?=some (l[j]'hjl):=List.getElem?_eq_getElem hjl
 refine Zk ?_
 refine Zx ?_
 simp only[go_sem,zf1,zf2,if_true,fb3,zf3,zf11,zf13,zf14,zf15,zf16,zf17,zf18,hfj]
 (repeat(with_reducible refine And.intro ZS ?_))
 intro b8
 first|intro fb8|have fb8:=True.intro
 try simp only[Ab] at fb8
 refine Zn 25 ?_
 refine Aa.leH (BO.ord [] [] [(l[i]'hil).m,b8,b3,s,bb] [] _) ?_
 simp only[go_sem,fb3,AY hne,AZ hne,AY hq1,AZ hq1,AY hq2,AZ hq2,AY hq3,AZ hq3,fb8]
 refine Aa.pm (Pn [_,_,_,_] hxb hz) ?_
 simp only[List.cons_append,List.nil_append]
 refine Zx ?_
 simp only[go_sem,if_true,fb8]
 refine Fa rfl rfl rfl rfl (BO.pm (((O7 [_,_] _ _ _).symm.cons _).trans (O7 [_,_] _ _ _).symm)) (ZR) (XQ T s bb cb u sp l j (l[j]'hjl) ((l[i]'hil).b.mails[k]'hkl).flags ((l[i]'hil).b.mails[k]'hkl).text _ _ hxj sb (hfx2 _ (List.getElem_mem hkl))) ?_
 rintro _ _ ⟨l2,hl2,hl3,rfl,rfl⟩
 simp only[go_sem,if_true]
 refine Zn 2 ?_
 refine Aa.pm ((O7 [_,_] _ _ _).trans ((O7 [_,_] _ _ _).cons _)) ?_
 simp only[List.cons_append,List.nil_append]
 refine Aa.ret ?_
 apply Ah [b3,b8] [] [] [] ZH
 · exact ⟨l2,sp,_,bb,cb,u,hcb,hu,by rw[J3 hc0 hc3 hfi,Adb hc6 hc7 hc9 hbx hki hfj hmk,<-hl2],rfl,by simp[go_sem,hl3]⟩
 · simp [Aj,Ay]
end
section
theorem Od (t:Tx):Bu ([]:List AL) t= -1:=rfl
attribute [local go_sem] Bc C7 Xb in
theorem Agz (T:Ap) (s u:Nat) (sp:List BN) (x:BN) (F:Af) (L:List Nat) (hu:Ae u L) (hsp:sp.length<=1000):AC prog T 95 [.ptr s 2 0 0,.agg (C7 x)] (⟨(s,⟨2,1,[[.full 3 [],.own u 6 (At sp)]]⟩)::F,u::L⟩) (λr h=> ∃(l2:List BM) (sp2:List BN) (e:Int) (bb2 cb2 u2:Nat),(cb2=0->l2=[])/\Ae u2 L/\Iv ⟨[],sp⟩ x=(⟨CM l2,sp2⟩,e)/\r= .ret (.d (.int .i64 e))/\h=⟨(s,⟨2,1,[[mA bb2 3 cb2 l2.length,.own u2 6 (At sp2)]]⟩)::mO bb2 3 cb2 (Au l2) (A8 l2 F),u2::L⟩):=by
 refine⟨call95,Ao.enterS func95 rfl ntmps95 rfl λhb=>?_⟩
 simp only[go_sem,results95]
 refine Zx (Zy ?_)
 intro b3 fb3
 try simp only[Ab] at fb3
 refine Zd false [0,1,2,3,4,5,6,7] ?_
 simp only[go_sem,fb3]
 refine ZA [] [] (AbZ T x.box _ _) ?_
 rintro _ _ ⟨rfl,rfl⟩
 refine Zy ?_
 refine Zm 21 ?_
 refine Zs (Aa.block (Zp 15 ?_))
 refine Zc (λhc0=>?_) λhc0=>?_
 ·refine Zs (Zp 515 ?_)
  refine Zc (λhc1=>?_) λhc1=>?_
  ·refine Zp 4 (Aa.ret ?_)
   simp only[Am,Bo]
   apply Ah [b3] [] [] [] ZH
   · exact ⟨[],sp,_,0,0,u,λ_=>rfl,hu,SR hc0 (by show sp.length=20;omega),rfl,by simp[go_sem,CF,D9,A8]⟩
   · simp [Aj,Ay]
  refine Zk ?_
  refine Zd true [0,1,2,3,4,5,6,7,8,9,10] ?_
  simp only[go_sem,fb3]
  refine ZW λt1 ft1=>?_
  try simp only[Ae] at ft1
  simp only[go_sem,fb3]
  refine Zm 0 ?_
  refine Zp 1 (Aa.ret ?_)
  simp only[Am,Bo]
  apply Ah [b3] [] [] [] ZH
  · exact ⟨[],sp++[x],_,0,0,t1,λ_=>rfl,by first|exact ft1|exact ft1.2,SQ hc0 (by show¬sp.length=20;omega),rfl,by simp[go_sem,At,D8,hc0,CF,D9,A8]⟩
  · simp [Aj,Ay]
 refine Zp 23 ?_
 refine Zc (λhc2=>?_) λhc2=>?_
 ·exfalso
  simp at hc2
 refine Zp 23 ?_
 refine Zc (λhc3=>?_) λhc3=>?_
 ·refine Zs (Zp 515 ?_)
  refine Zc (λhc4=>?_) λhc4=>?_
  ·exfalso
   simp at hc4
  refine Zk ?_
  refine ON [] FE.nil rfl [0,1,2,3,5,6,7] 4 [8] [9,10,11,12] rfl (by kernel_rfl) rfl λK_ hK_=>?_
  simp only[go_sem,fb3]
  try with_reducible refine Exists.intro _ (And.intro (by first|rfl|(simp only[go_sem,fb3];first|rfl|exact⟨by omega,rfl⟩)) ?_)
  refine Kp (he:=by first|rfl|kernel_rfl) (rows:=[[.d (.str x.box),.d (.int .i64 1),.nils]]) rfl rfl (show BL prog 51=some (94,3,48) by simp only[go_sem]) (by rfl) rfl ZD (Nat.zero_lt_succ _) λbn fbn=>?_
  try simp only[Ab] at fbn
  simp only[go_sem,fb3,fbn]
  try with_reducible refine And.intro (by first|rfl|(simp only[go_sem,fb3,fbn];first|done|rfl|exact⟨by omega,rfl⟩)) ?_
  refine FY (b0:=0) (c0:=0) (rows:=[]) (b1:=bn) (ob1:=⟨3,1,[[.d (.str x.box),.d (.int .i64 1),.nils]]⟩) rfl rfl rfl rfl (λ_=>rfl) rfl (by simp[A9]) rfl rfl ZX (show BL prog 51=some (94,3,48) by simp only[go_sem]) (by first|(simp only[go_sem];done)|rfl) rfl ZX rfl (Nat.zero_lt_succ _) ZX ZX λbm cm hcm fbm=>?_
  simp only[List.nil_append,Ab] at fbm⊢
  simp only[go_sem, *]
  refine hK_ _ _ ?_
  refine Zn 0 ?_
  refine CA (b:=bm) (i:=0) (j:=2) (k:=3) (ob:=⟨3,cm,[[.d (.str x.box),.d (.int .i64 1),.nils]]⟩) (r:=[.d (.str x.box),.d (.int .i64 1),.nils]) (by simp[A9]) rfl rfl ?_
  refine Aa.leH (BO.ord [bn] [] [s,bm] [] _) ?_
  refine Zp 1 (Aa.ret ?_)
  simp only[Am,Bo]
  apply Ah [b3] [] [] [] ZH
  · refine ⟨[(⟨⟨x.box,1,[]⟩,0,0,λ_=>rfl⟩:BM)],sp,0,bm,cm,u,λh=>absurd h ZO,hu,?_,rfl,?_⟩
    · rw [Yb hc3 (by show Bu [] x.box<0;rw[Od];decide) ZX];rfl
    · rw [Bk hcm,AG hcm];simp[go_sem,fb3,fbm,CP,CF,Au,A8,D9]
  · simp [Aj,Ay]
 refine Zp 23 ?_
 refine Zc (λhc5=>?_) λhc5=>?_
 ·refine Zp 4 (Aa.ret ?_)
  simp only[Am,Bo]
  apply Ah [b3] [] [] [] ZH
  · exact ⟨[],sp,_,0,0,u,λ_=>rfl,hu,Yd hc0 hc3 (by show Bu [] x.box<0;rw[Od];decide),rfl,by simp[go_sem,CF,D9,A8]⟩
  · simp [Aj,Ay]
 exfalso
 simp at hc5
end
section
theorem VG (T:Ap) (F:Af) (L:List Nat):AC prog T 155 [.nils] (⟨F,L⟩) (λr h=>r= .ret (.full 3 [])/\h=⟨F,L⟩):=by
 refine⟨call155,Ao.enterS func155 rfl ntmps155 rfl λhb=>?_⟩
 simp only[go_sem,results155]
 refine Zp 1 ?_
 refine Zs (Zp 5 ?_)
 refine Zc (λhc0=>?_) λhc0=>?_
 ·refine Zp 2 (Aa.ret ?_)
  simp only[Am]
  apply Ah [] [] [] [] ZH
  · exact ⟨rfl,rfl⟩
  · simp [Aj]
 exact absurd hc0 ZX
theorem VE (T:Ap) (F:Af) (L:List Nat):AC prog T 155 [.nn 3 []] (⟨F,L⟩) (λr h=>r= .ret (.full 3 [])/\h=⟨F,L⟩):=by
 refine⟨call155,Ao.enterS func155 rfl ntmps155 rfl λhb=>?_⟩
 simp only[go_sem,results155]
 refine Zp 1 ?_
 refine Zs (Zp 5 ?_)
 refine Zc (λhc0=>?_) λhc0=>?_
 ·exact absurd hc0 ZX
 refine Zk ?_
 refine Aa.cut 0 λK_ hK_=>?_
 simp only[List.take_zero,List.drop_zero]
 refine Zy ?_
 refine X7 (he:=by first|rfl|kernel_rfl) rfl rfl (show BL prog 92=some (112,3,32) by simp only[go_sem]) ?_
 refine Zy ?_
 refine Abm rfl rfl rfl rfl (show BL prog 92=some (112,3,32) by simp only[go_sem]) rfl rfl ?_
 refine Zy ?_
 refine hK_ _ _ ?_
 refine Zm 2 ?_
 refine Aa.ret ?_
 apply Ah [] [] [] [] ZH
 · exact ⟨rfl,rfl⟩
 · simp [Aj]
theorem VF (T:Ap) (m:B2) (ms:List B2) (hms:(m::ms).length<=1000) (F:Af) (L:List Nat):AC prog T 155 [.nn 3 (A4 (m::ms))] (⟨F,L⟩) (λr h=> ∃b c,(c=0->(m::ms)=[])/\r= .ret (mA b 3 c (m::ms).length)/\h=⟨mO b 3 c (As (A4 (m::ms))) F,L⟩):=by
 refine⟨call155,Ao.enterS func155 rfl ntmps155 rfl λhb=>?_⟩
 simp only[go_sem,results155]
 refine Zp 1 ?_
 refine Zs (Zp 5 ?_)
 refine Zc (λhc0=>?_) λhc0=>?_
 ·exact absurd hc0 ZX
 refine Zk ?_
 refine Aa.cut 0 λK_ hK_=>?_
 simp only[List.take_zero,List.drop_zero]
 refine Zy ?_
 refine X7 (he:=by first|rfl|kernel_rfl) rfl rfl (show BL prog 92=some (112,3,32) by simp only[go_sem]) ?_
 refine Zy ?_
 refine Di (b0:=0) (c0:=0) (rows:=[]) rfl rfl rfl rfl (λ_=>rfl) rfl (show BL prog 92=some (112,3,32) by simp only[go_sem]) rfl rfl (λr hr=>by cases hr) rfl (by rw[AA];exact Nat.succ_pos _) (by rw[AA];simp only[List.length_nil];omega) (by rw[AA];simp only[List.length_nil];omega) λbm cm hcm fbm=>?_
 simp only[List.nil_append] at fbm⊢
 refine Zy ?_
 refine hK_ _ _ ?_
 refine Zm 2 ?_
 refine Aa.ret ?_
 apply Ah [] [] [] [] ZH
 · refine ⟨bm,cm,λh=>absurd h ZO,?_,?_⟩
   · rw [AG ZO]
   · rw [Bk ZO];simp[go_sem]
 · simp [Aj]
theorem X6 (T:Ap) (ms:List B2) (hms:ms.length<=1000) (F:Af) (L:List Nat):AC prog T 155 [.d (.slc 3 (A4 ms))] ⟨F,L⟩ (λr h=> ∃b c,(c=0->ms=[])/\r= .ret (mA b 3 c ms.length)/\h=⟨mO b 3 c (As (A4 ms)) F,L⟩):=by
 have h0:∀(r:AR) (h:AH),(r= .ret (.full 3 [])/\h=⟨F,L⟩)->∃b c,(c=0->([]:List B2)=[])/\r= .ret (mA b 3 c ([]:List B2).length)/\h=⟨mO b 3 c (As (A4 [])) F,L⟩:=by
  rintro _ _ ⟨rfl,rfl⟩
  exact⟨0,0,λ_=>rfl,by rw[CF],by rw[D9]⟩
 refine OL (λe=>?_) ?_
 ·cases ms with
  |nil=>exact(VG T F L).mono h0
  |cons m ms=>cases e
 ·cases ms with
  |nil=>exact(VE T F L).mono h0
  |cons m ms=>exact VF T m ms hms F L
end
section
@[go_sem ↓ high] theorem Fs (b k c n:Nat):(mA b k c n).plain=true:=by unfold mA;split<;>rfl
@[go_sem ↓ high] theorem Fj (b k c n:Nat):(mA b k c n).cells=[mA b k c n]:=by unfold mA;split<;>rfl
@[go_sem ↓ high] theorem Af4 (b k c n:Nat):(mA b k c n).one=true:=by unfold mA;split<;>rfl
theorem OO {P:Program} {T:Ap} {sl:List AV} {h:AH} {id:Nat} {l:List Oper} {Q:AQ} (i:Nat) (H:∀K:List AV->AH->Prop,(∀s h,Q .normal s h->K s h)->Go.Proofs.YtidldcfpmehpiaaGreatDoor.lvc P T false l.toArray (l.take i) sl h (λs h=>LV P T l.toArray (l.drop i) s h K (λp h=> ∀s,Q (.pan p) s h)) (λp h=> ∀s,Q (.pan p) s h)):Aa P T (.region id l.toArray false) Q sl h:=
 Qr i (H _ λ_ _ h=>h)
theorem PX {a:AV} {x y:D} {b k c n:Nat} (h:a= .agg [.d x,.d y,mA b k c n]):MX 3 0 [(0,a)]=some [[.d x,.d y,mA b k c n]]:=by
 subst h
 have:=Af4 b k c n
 simp[MX,AV.cells,AV.plain,AV.one] at this⊢
 simp[this]
theorem Ad9 (b k c n:Nat):Aj true (mA b k c n) (mA b k c n):=by unfold mA;split<;>exact XH _ trivial
theorem AC.leR {P:Program} {T:Ap} {f:FuncId} {args:List AV} {h:AH} {R R':AR->AH->Prop} (c:AC P T f args h R) (hR:∀x h',R x h'->∃h'',BO h' h''/\R' x h''):AC P T f args h R':=
 ⟨c.call,λG w vs S Rs=>(c.run G w vs S Rs).mono λe w' ⟨x,h',G',h1,h2,h3,h4⟩=>by
  obtain⟨h'',hl,hr⟩:=hR _ _ h1
  exact⟨x,h'',G',hr,h2,hl _ _ _ h3,h4⟩⟩
theorem DT:∀(A:Af) (b k c:Nat) (r:List (List AV)) (F:Af),(mO b k c r (A++F)).Perm (A++mO b k c r F)
 |[],_,_,_,_,_=> .refl _
 |p::A,b,k,c,r,F=>(PH p b k c r (A++F)).symm.trans ((DT A b k c r F).cons p)
theorem NI (T:Ap) (ms:List B2) (hms:ms.length<=1000) (A F:Af) (L:List Nat):AC prog T 155 [.d (.slc 3 (A4 ms))] ⟨A++F,L⟩ (λr h=> ∃b c,(c=0->ms=[])/\r= .ret (mA b 3 c ms.length)/\h=⟨A++mO b 3 c (As (A4 ms)) F,L⟩):=
 (X6 T ms hms (A++F) L).leR λx h' ⟨b,c,h1,h2,h3⟩=>⟨_,by rw[h3];exact BO.pm (DT A ..),b,c,h1,h2,rfl⟩
theorem Aap (A:Af) (b k c:Nat) (r:List (List AV)) (b' k' c':Nat) (r':List (List AV)) (F:Af):(A++mO b k c r (mO b' k' c' r' F)).Perm (mO b' k' c' r' (A++mO b k c r F)):=(List.Perm.append_left A (RD ..)).trans (DT A ..).symm
theorem Af8 (A:Af) {bm cm:Nat} (l:List BM) (Y:BM) (F:Af) (hcm:0<cm):(A++(bm,(⟨3,cm,Au l++[CP Y]⟩:Ob))::mO Y.m 3 Y.c (As (A4 Y.b.mails)) (A8 l F)).Perm (A++mO bm 3 cm (Au (l++[Y])) (A8 (l++[Y]) F)):=by
 rw[Bk hcm,Hm,Oy]
 exact List.Perm.append_left A ((RE ..).cons _)
theorem VC (T:Ap) (F:Af) (L:List Nat):AC prog T 154 [.nils] (⟨F,L⟩) (λr h=> ∃v,Ae v L/\r= .ret (.own v 6 ([]))/\h=⟨F,v::L⟩):=by
 refine⟨call154,Ao.enterS func154 rfl ntmps154 rfl λhb=>?_⟩
 simp only[go_sem,results154]
 refine Zp 1 ?_
 refine Zs (Zp 5 ?_)
 refine Zc (λhc0=>?_) λhc0=>?_
 ·refine Zp 2 ?_
  refine Zy ?_
  refine Bs 2 6 rfl rfl ZD λt0 ft0=>?_
  try simp only[Ae] at ft0
  refine Zy ?_
  refine Aa.ret ?_
  simp only[Am]
  apply Ah [] [] [] [] ZH
  · exact ⟨t0,ft0,rfl,rfl⟩
  · simp [Aj]
 exact absurd hc0 ZX
theorem VB (T:Ap) (d:List BN) (hd:d.length<=1000) (F:Af) (L:List Nat):AC prog T 154 [.nn 6 (At d)] (⟨F,L⟩) (λr h=> ∃v,Ae v L/\r= .ret (.own v 6 (At d))/\h=⟨F,v::L⟩):=by
 refine⟨call154,Ao.enterS func154 rfl ntmps154 rfl λhb=>?_⟩
 simp only[go_sem,results154]
 refine Zp 1 ?_
 refine Zs (Zp 5 ?_)
 refine Zc (λhc0=>?_) λhc0=>?_
 ·exact absurd hc0 ZX
 refine Zk ?_
 refine Aa.cut 0 λK_ hK_=>?_
 simp only[List.take_zero,List.drop_zero]
 refine Zy ?_
 refine Kq (he:=by first|rfl|kernel_rfl) rfl rfl (show BL prog 52=some (110,6,72) by simp only[go_sem]) ZH rfl ZD λt1 ft1=>?_
 try simp only[Ae] at ft1
 refine Zy ?_
 refine ZW λt2 ft2=>?_
 try simp only[Ae] at ft2
 refine Zy ?_
 refine hK_ _ _ ?_
 refine Zm 2 ?_
 refine Aa.ret ?_
 apply Ah [] [] [] [] ZH
 · exact ⟨_,by first|exact ft2|exact ft2.2,rfl,rfl⟩
 · simp [Aj]
theorem Qv (T:Ap) (d:List BN) (hd:d.length<=1000) (F:Af) (L:List Nat):AC prog T 154 [.d (.slc 6 (At d))] ⟨F,L⟩ (λr h=> ∃v,Ae v L/\r= .ret (.own v 6 (At d))/\h=⟨F,v::L⟩):=
 OL (λe=>by rw[e];exact VC T F L) (VB T d hd F L)
attribute [local go_sem] Bc EQ in
theorem Ah1 (T:Ap) (s:St) (hb:s.boxes.length<=1000) (hm:∀y∈s.boxes,y.mails.length<=1000) (hs:s.spool.length<=1000) (F:Af) (L:List Nat):AC prog T 94 [.agg (An s)] (⟨F,L⟩) (λr h=> ∃(l:List BM) (bb cb u:Nat),CM l=s.boxes/\(cb=0->l=[])/\Ae u L/\r= .ret (.agg [mA bb 3 cb l.length,.own u 6 (At s.spool)])/\h=⟨mO bb 3 cb (Au l) (A8 l F),u::L⟩):=by
 refine⟨call94,Ao.enterS func94 rfl ntmps94 rfl λhb=>?_⟩
 simp only[go_sem,results94]
 refine Zx (Zy ?_)
 intro b1 fb1
 try simp only[Ab] at fb1
 intro b2 fb2
 try simp only[Ab] at fb2
 refine Zx ?_
 simp only[go_sem,fb2]
 refine ZA [] [] (Qv T s.spool hs _ _) ?_
 rintro _ _ ⟨W1,fW1,rfl,rfl⟩
 try simp only[Ae,Ab] at fW1
 refine Zy ?_
 intro b3 fb3
 try simp only[Ab] at fb3
 refine Zm 14 ?_
 refine Zs (Zp 118 ?_)
 refine Aa.block (Zy ?_)
 refine CA (b:=b3) (i:=0) (j:=0) (k:=3) (ob:=⟨2,1,[[.nils,.own W1 6 (At s.spool)]]⟩) (r:=[.nils,.own W1 6 (At s.spool)]) (by simp[A9]) rfl rfl ?_
 refine Zl 15 16 (λn lc hc=> ∃(k:Nat) (l:List BM) (bb cb:Nat),n=s.boxes.length-k/\Av lc [(13,.d (.int .i64 k))]/\Av hc (⟨(b3,⟨2,1,[[mA bb 3 cb l.length,.own W1 6 (At s.spool)]]⟩)::(b2,⟨2,1,[[.nils,.nils]]⟩)::(b1,⟨2,1,[An s]⟩)::mO bb 3 cb (Au l) (A8 l F),W1::L⟩)/\(k<=s.boxes.length)/\(CM l=s.boxes.take k)/\(cb=0->l=[])) ⟨_,0,[],0,0,rfl,ZE,ZE,ZI,ZI,ZI⟩ ?_
 rintro _ _ _ ⟨k,l,bb,cb,rfl,⟨rfl⟩,⟨rfl⟩,h1,h2,h3⟩
 have hlk:l.length=k:=by have:=congrArg List.length h2;simpa[CM,Nat.min_eq_left h1] using this
 refine Zy ?_
 refine Zp 63 ?_
 refine Zs (Zc (λhc0=>?_) λhc0=>?_)
 ·have hlt:k<s.boxes.length:=by omega
  have e1:=Fs
  simp only[AV.plain,AV.one] at e1
  have e2:=Fj
  unfold AV.cells at e2
  have zf1:=λd0_=>BG _ _ d0_ hlt
  refine Zk ?_
  refine Zs (Aa.block (Zx ?_))
  simp only[go_sem,zf1]
  (repeat(with_reducible refine And.intro ZS ?_))
  intro b5
  first|intro fb5|have fb5:=True.intro
  try simp only[Ab] at fb5
  refine Zx ?_
  simp only[go_sem,fb5]
  refine AI [] [] rfl rfl rfl rfl (by(try simp only[go_sem])<;>rfl) rfl (NI T _ (hm _ (List.getElem_mem hlt)) [_,_,_,_] _ _) ?_
  rintro _ _ ⟨m,c,hmc,rfl,rfl⟩
  simp only[go_sem,e1,e2,fb5]
  refine Zm 63 ?_
  refine OO 3 λK_ hK_=>?_
  simp only[List.take_succ_cons,List.take_zero,List.drop_succ_cons,List.drop_zero]
  simp only[go_sem,fb3,fb5]
  refine DW.listB (cp:=false) [_,_,_] [_] _ _ ?_
  refine Kp (he:=by first|rfl|kernel_rfl) (rows:=[[.d (.str (s.boxes[k]'hlt).name),.d (.int .i64 (s.boxes[k]'hlt).next),mA m 3 c (s.boxes[k]'hlt).mails.length]]) rfl rfl (show BL prog 51=some (94,3,48) by simp only[go_sem]) (PX rfl) rfl ZD (Nat.zero_lt_succ _) λbn fbn=>?_
  try simp only[Ab] at fbn
  refine LV.lvc ?_
  refine Zy ?_
  refine Fx rfl (BO.pm (Aap [_,_,_,_,_] ..)) ?_
  refine FY (b0:=bb) (c0:=cb) (rows:=Au l) (b1:=bn) (ob1:=⟨3,1,[[.d (.str (s.boxes[k]'hlt).name),.d (.int .i64 (s.boxes[k]'hlt).next),mA m 3 c (s.boxes[k]'hlt).mails.length]]⟩) rfl rfl (by rw[AF];rfl) rfl (λh=>by rw[h3 h];rfl) rfl (by simp[A9]) rfl rfl ZX (show BL prog 51=some (94,3,48) by simp only[go_sem]) (by first|(simp only[go_sem];done)|rfl) rfl (E3 l) rfl (Nat.zero_lt_succ _) (by simp only[AF,List.length_cons,List.length_nil];omega) (by simp only[AF,List.length_cons,List.length_nil];omega) λbm cm hcm fbm=>?_
  simp only[List.cons_append,List.nil_append,Ab] at fbm⊢
  simp only[go_sem, *]
  refine hK_ _ _ ?_
  refine Ai (Ac ?_)
  refine Zn 59 ?_
  refine Aa.leH (BO.ord [bn] [] [b5,b3,b2,b1,bm] [] _) ?_
  simp only[go_sem, *]
  refine Aa.leH (BO.pm (Af8 [_,_,_,_] (bm:=bm) (cm:=cm) l (⟨(s.boxes[k]'hlt),m,c,hmc⟩:BM) F hcm)) ?_
  simp only[List.cons_append,List.nil_append]
  refine Z6 ?_
  refine Ze 15 16 [b5] [] [b3,b2,b1] [] (.e ⟨_,ZM,k+1,l++[(⟨(s.boxes[k]'hlt),m,c,hmc⟩:BM)],bm,cm,rfl,ZE,?_,?_,?_,?_⟩)
  · (try simp only[go_sem,fb2,fb3,fb5])<;>first|exact⟨rfl⟩|(constructor;rw[AG hcm];simp[hlk])
  · omega
  · rw [Hl,h2,CH hlt]
  · exact λh=>absurd h ZO
 refine Z4 ?_
 refine Zm 3 ?_
 refine Zp 1 (Aa.ret ?_)
 apply Ah [b1,b2,b3] [] [] [] ZH
 · exact ⟨l,bb,cb,W1,by rw[h2,List.take_of_length_le ZO],h3,fW1,rfl,by simp[go_sem]⟩
 · simp [Aj,Bj,Ad9,hlk]
end
section
theorem GE:∀(A:Af) (l:List BM) (F:Af),(A++A8 l F).Perm (A8 l (A++F))
 |[],_,_=> .refl _
 |p::A,l,F=>((GE A l F).cons p).trans (GF l p (A++F))
theorem QR (l:List AL):∀r∈A3 l,r.length=3:=λr hr=>by
 simp only[A3,List.mem_map] at hr
 obtain⟨f,_,rfl⟩:=hr
 rfl
section
variable {P:Program} {T:Ap} {Q:AQ} {sl:List AV} {code:Code} {L:List Nat} {F:Af}
theorem Qp (p:Nat×Ob) {bb cb:Nat} (hp:p.1≠bb):∀(l:List BM) (pre:List AL),Aa P T code Q sl ⟨p::(bb,⟨3,cb,As (A3 (pre++CM l))⟩)::F,L⟩->Aa P T code Q sl ⟨p::(bb,⟨3,cb,As (A3 pre)++Au l⟩)::A8 l F,L⟩
 |[],pre,H=>by simpa[CM,Au,A8] using H
 | x::l,pre,H=>by
  have ih:=Qp p hp l (pre++[x.b]) (by simpa[CM] using H)
  refine Aa.pm (DT [_,_] x.m 3 x.c (As (A4 x.b.mails)) (A8 l F)).symm ?_
  have e:(As (A3 pre)++Au (x::l)).set pre.length ((CP x).set 2 (.d (.slc 3 (A4 x.b.mails))))=As (A3 (pre++[x.b]))++Au l:=by
   simp[As,A3,Au,CP,EQ]
  refine Jj (b':=bb) (i:=pre.length) (j:=2) (rows:=A4 x.b.mails) (ob:=⟨3,cb,As (A3 pre)++Au (x::l)⟩) (r:=CP x) (by simp[A9,hp]) (by simp[As,A3,Au]) (by simp[CP,AA]) (λh=>by rw[x.ok h];rfl) ZD (RG _) ?_
  rw[e]
  simpa[C8,hp] using ih
theorem Cj {b7 bb cb:Nat} {l:List BM} {v:AV} (A:Af) (hcb:cb=0->l=[]) (H:Aa P T code Q sl ⟨(b7,⟨2,1,[[.d (.slc 3 (A3 (CM l))),v]]⟩)::(A++F),L⟩):Aa P T code Q sl ⟨(b7,⟨2,1,[[mA bb 3 cb l.length,v]]⟩)::(A++mO bb 3 cb (Au l) (A8 l F)),L⟩:=by
 refine Aa.pm (((DT A ..).symm.trans (FA (GE A l F))).cons _) ?_
 rcases Nat.eq_zero_or_pos cb with h0|h0
 ·subst h0
  have hl:=hcb rfl
  subst hl
  refine Jj (b:=bb) (b':=b7) (i:=0) (j:=0) (k:=3) (c:=0) (rows:=[]) (ob:=⟨2,1,[[mA bb 3 0 0,v]]⟩) (r:=[mA bb 3 0 0,v]) (F:=(b7,⟨2,1,[[mA bb 3 0 0,v]]⟩)::(A++F)) (by simp[A9]) rfl rfl (λ_=>rfl) ZD (λr hr=>by cases hr) ?_
  simpa[C8,CM,A3] using H
 ·rw[Bk h0]
  refine Aa.nd λhnd=>?_
  have hne:=UR hnd
  have:=Qp (P:=P) (T:=T) (Q:=Q) (sl:=sl) (code:=code) (L:=L) (F:=A++F) (b7,⟨2,1,[[mA bb 3 cb l.length,v]]⟩) (bb:=bb) (cb:=cb) hne l []
  refine this ?_
  simp only[List.nil_append]
  refine Aa.pm (List.Perm.swap ..) ?_
  have hlen:(A3 (CM l)).length=l.length:=by simp[A3,CM]
  have h2:=Jj (P:=P) (T:=T) (Q:=Q) (sl:=sl) (code:=code) (b:=bb) (b':=b7) (i:=0) (j:=0) (k:=3) (c:=cb) (rows:=A3 (CM l)) (L:=L) (ob:=⟨2,1,[[mA bb 3 cb l.length,v]]⟩) (r:=[mA bb 3 cb l.length,v]) (F:=(b7,⟨2,1,[[mA bb 3 cb l.length,v]]⟩)::(A++F)) (by simp[A9]) rfl (by rw[hlen];rfl) (λh=>absurd h ZO) ZD (QR _) (by simpa[C8] using H)
  rwa [Bk h0] at h2
end
end
section
attribute [local go_sem] Bc EQ in
theorem Af7 (T:Ap) (s:St) (hb:s.boxes.length<=1000) (hm:∀y∈s.boxes,y.mails.length<=1000) (hs:s.spool.length<=1000) (F:Af) (L:List Nat):AC prog T 94 [.agg (An s)] (⟨F,L⟩) (λr h=>r= .ret (.agg (An s))/\h=⟨F,L⟩):=by
 refine⟨call94,Ao.enterS func94 rfl ntmps94 rfl λhb=>?_⟩
 simp only[go_sem,results94]
 refine Zx (Zy ?_)
 intro b1 fb1
 try simp only[Ab] at fb1
 intro b2 fb2
 try simp only[Ab] at fb2
 refine Zx ?_
 simp only[go_sem,fb2]
 refine ZA [] [] (Qv T s.spool hs _ _) ?_
 rintro _ _ ⟨W1,fW1,rfl,rfl⟩
 try simp only[Ae,Ab] at fW1
 refine Zy ?_
 intro b3 fb3
 try simp only[Ab] at fb3
 refine Zm 14 ?_
 refine Zs (Zp 118 ?_)
 refine Aa.block (Zy ?_)
 refine CA (b:=b3) (i:=0) (j:=0) (k:=3) (ob:=⟨2,1,[[.nils,.own W1 6 (At s.spool)]]⟩) (r:=[.nils,.own W1 6 (At s.spool)]) (by simp[A9]) rfl rfl ?_
 refine Zl 15 16 (λn lc hc=> ∃(k:Nat) (l:List BM) (bb cb:Nat),n=s.boxes.length-k/\Av lc [(13,.d (.int .i64 k))]/\Av hc (⟨(b3,⟨2,1,[[mA bb 3 cb l.length,.own W1 6 (At s.spool)]]⟩)::(b2,⟨2,1,[[.nils,.nils]]⟩)::(b1,⟨2,1,[An s]⟩)::mO bb 3 cb (Au l) (A8 l F),W1::L⟩)/\(k<=s.boxes.length)/\(CM l=s.boxes.take k)/\(cb=0->l=[])) ⟨_,0,[],0,0,rfl,ZE,ZE,ZI,ZI,ZI⟩ ?_
 rintro _ _ _ ⟨k,l,bb,cb,rfl,⟨rfl⟩,⟨rfl⟩,h1,h2,h3⟩
 have hlk:l.length=k:=by have:=congrArg List.length h2;simpa[CM,Nat.min_eq_left h1] using this
 refine Zy ?_
 refine Zp 63 ?_
 refine Zs (Zc (λhc0=>?_) λhc0=>?_)
 ·have hlt:k<s.boxes.length:=by omega
  have e1:=Fs
  simp only[AV.plain,AV.one] at e1
  have e2:=Fj
  unfold AV.cells at e2
  have zf1:=λd0_=>BG _ _ d0_ hlt
  refine Zk ?_
  refine Zs (Aa.block (Zx ?_))
  simp only[go_sem,zf1]
  (repeat(with_reducible refine And.intro ZS ?_))
  intro b5
  first|intro fb5|have fb5:=True.intro
  try simp only[Ab] at fb5
  refine Zx ?_
  simp only[go_sem,fb5]
  refine AI [] [] rfl rfl rfl rfl (by(try simp only[go_sem])<;>rfl) rfl (NI T _ (hm _ (List.getElem_mem hlt)) [_,_,_,_] _ _) ?_
  rintro _ _ ⟨m,c,hmc,rfl,rfl⟩
  simp only[go_sem,e1,e2,fb5]
  refine Zm 63 ?_
  refine OO 3 λK_ hK_=>?_
  simp only[List.take_succ_cons,List.take_zero,List.drop_succ_cons,List.drop_zero]
  simp only[go_sem,fb3,fb5]
  refine DW.listB (cp:=false) [_,_,_] [_] _ _ ?_
  refine Kp (he:=by first|rfl|kernel_rfl) (rows:=[[.d (.str (s.boxes[k]'hlt).name),.d (.int .i64 (s.boxes[k]'hlt).next),mA m 3 c (s.boxes[k]'hlt).mails.length]]) rfl rfl (show BL prog 51=some (94,3,48) by simp only[go_sem]) (PX rfl) rfl ZD (Nat.zero_lt_succ _) λbn fbn=>?_
  try simp only[Ab] at fbn
  refine LV.lvc ?_
  refine Zy ?_
  refine Fx rfl (BO.pm (Aap [_,_,_,_,_] ..)) ?_
  refine FY (b0:=bb) (c0:=cb) (rows:=Au l) (b1:=bn) (ob1:=⟨3,1,[[.d (.str (s.boxes[k]'hlt).name),.d (.int .i64 (s.boxes[k]'hlt).next),mA m 3 c (s.boxes[k]'hlt).mails.length]]⟩) rfl rfl (by rw[AF];rfl) rfl (λh=>by rw[h3 h];rfl) rfl (by simp[A9]) rfl rfl ZX (show BL prog 51=some (94,3,48) by simp only[go_sem]) (by first|(simp only[go_sem];done)|rfl) rfl (E3 l) rfl (Nat.zero_lt_succ _) (by simp only[AF,List.length_cons,List.length_nil];omega) (by simp only[AF,List.length_cons,List.length_nil];omega) λbm cm hcm fbm=>?_
  simp only[List.cons_append,List.nil_append,Ab] at fbm⊢
  simp only[go_sem, *]
  refine hK_ _ _ ?_
  refine Ai (Ac ?_)
  refine Zn 59 ?_
  refine Aa.leH (BO.ord [bn] [] [b5,b3,b2,b1,bm] [] _) ?_
  simp only[go_sem, *]
  refine Aa.leH (BO.pm (Af8 [_,_,_,_] (bm:=bm) (cm:=cm) l (⟨(s.boxes[k]'hlt),m,c,hmc⟩:BM) F hcm)) ?_
  simp only[List.cons_append,List.nil_append]
  refine Z6 ?_
  refine Ze 15 16 [b5] [] [b3,b2,b1] [] (.e ⟨_,ZM,k+1,l++[(⟨(s.boxes[k]'hlt),m,c,hmc⟩:BM)],bm,cm,rfl,ZE,?_,?_,?_,?_⟩)
  · (try simp only[go_sem,fb2,fb3,fb5])<;>first|exact⟨rfl⟩|(constructor;rw[AG hcm];simp[hlk])
  · omega
  · rw [Hl,h2,CH hlt]
  · exact λh=>absurd h ZO
 refine Z4 ?_
 refine Zn 3 ?_
 refine Cj (b7:=b3) (l:=l) (F:=F) [_,_] h3 ?_
 rw[show CM l=s.boxes from by rw[h2,List.take_of_length_le ZO]]
 simp only[List.cons_append,List.nil_append]
 refine Zp 1 (Aa.ret ?_)
 apply Ah [b1,b2,b3] [W1] [] [] ZH
 · exact ⟨rfl,by simp[go_sem]⟩
 · simp [Aj,Bj,Ay]
end
section
end
section
def ZB (m:B2):Prop:=0<=m.flags/\m.flags<=31/\m.text.length<=2000
def J5 (y:AL):Prop:=y.mails.length<=30/\0<=y.next/\∀m∈y.mails,ZB m
structure GY (s:St):Prop where
 bx:s.boxes.length<=5
 sp:s.spool.length<=20
 al:∀y∈s.boxes,J5 y
theorem YF {x:BN} (h:En x=0):0<=x.flags/\x.flags<=31/\x.text.length<=2000:=by
 unfold En at h
 split at h
 ·cases h
 split at h
 ·cases h
 split at h
 ·cases h
 split at h
 ·cases h
 omega
theorem Ahs {nx:Int} :∀(l:List B2) (la:Int),O1 nx la l=true->∀m∈l,ZB m
 |[],_,_,m,hm=>by cases hm
 | m::r,la,h,m',hm=>by
  rw[O1,Bool.and_eq_true] at h
  rcases List.mem_cons.1 hm with rfl|hm
  ·have:=h.1
   simp only[Bool.and_eq_true,decide_eq_true_eq] at this
   exact⟨this.1.1.2,this.1.2,this.2⟩
  ·exact Ahs r _ h.2 m' hm
theorem AbE {b:AL} (h:Fg b=true):J5 b:=by
 unfold Fg at h
 split at h
 ·cases h
 ·exact⟨by omega,by omega,Ahs _ _ h⟩
theorem AgD:∀(l pre:List AL),Ll pre l=true->∀y∈l,J5 y
 |[],_,_,y,hy=>by cases hy
 |b::r,pre,h,y,hy=>by
  rw[Ll,Bool.and_eq_true,Bool.and_eq_true] at h
  rcases List.mem_cons.1 hy with rfl|hy
  ·exact AbE h.1.1
  ·exact AgD r _ h.2 y hy
theorem Sh {s:St} (h:Ft s=0):GY s:=by
 unfold Ft at h
 split at h
 ·cases h
 split at h
 ·cases h
 rename_i h1 h2
 exact⟨by omega,by omega,AgD _ [] (by simpa using h2)⟩
theorem QV:∀(l:List B2),(∀m∈l,ZB m)->Cw l<=2000*l.length
 |[],_=>by simp[Cw]
 |m::r,h=>by
  have h1:=(h m (List.mem_cons_self ..)).2.2
  have h2:=QV r λx hx=>h x (List.mem_cons_of_mem _ hx)
  simp only[Cw,List.length_cons]
  omega
theorem Mj:∀(l:List AL),(∀y∈l,J5 y)->B3 l<=60000*l.length
 |[],_=>by simp[B3]
 |b::r,h=>by
  have hb:=h b (List.mem_cons_self ..)
  have h1:=QV b.mails hb.2.2
  have h3:=hb.1
  have h2:=Mj r λx hx=>h x (List.mem_cons_of_mem _ hx)
  simp only[B3,List.length_cons]
  omega
theorem Aa7 {l:List AL} {i:Nat} {z:AL} (h:∀y∈l,J5 y) (hz:J5 z):∀y∈l.set i z,J5 y:=λy hy=>by
 rcases List.mem_or_eq_of_mem_set hy with hy|rfl
 ·exact h y hy
 ·exact hz
theorem XS {l:List AL} {i:Nat} {fl:Int} {tx:Tx} (h:∀y∈l,J5 y) (hm:0<=fl/\fl<=31/\tx.length<=2000):(Hh l i fl tx).1.length=l.length/\∀y∈(Hh l i fl tx).1,J5 y:=by
 unfold Hh
 split
 ·exact⟨rfl,h⟩
 ·rename_i x hx
  have hxI:=h x (List.mem_of_getElem? hx)
  split
  ·exact⟨rfl,h⟩
  ·refine⟨by simp,Aa7 h ⟨?_,?_,?_⟩⟩
   ·have:=hxI.1
    simp[E1];omega
   ·have:=hxI.2.1
    simp[E1];omega
   ·intro m hm'
    simp only[E1,List.mem_append,List.mem_singleton] at hm'
    rcases hm' with hm'|rfl
    ·exact hxI.2.2 m hm'
    ·exact hm
theorem AcC {y:AL} {k:Nat} {fl:Int} (h:J5 y) (h1:0<=fl) (h2:fl<=31):J5 (EB y k fl):=by
 unfold EB
 split
 ·rename_i m hm
  refine⟨by simpa using h.1,h.2.1,λm' hm'=>?_⟩
  rcases List.mem_or_eq_of_mem_set hm' with hm'|rfl
  ·exact h.2.2 m' hm'
  ·exact⟨h1,h2,(h.2.2 m (List.mem_of_getElem? hm)).2.2⟩
 ·exact h
theorem Ag0 {l:List AL} {i:Nat} {x:BN} (h:∀y∈l,J5 y) (hx:0<=x.flags/\x.flags<=31/\x.text.length<=2000):(NQ l i x).1.length=l.length/\∀y∈(NQ l i x).1,J5 y:=by
 unfold NQ
 split
 ·exact XS h hx
 split
 ·exact⟨rfl,h⟩
 rename_i y hy
 have hyI:=h y (List.mem_of_getElem? hy)
 split
 ·refine⟨by simp,Aa7 h ⟨Nat.le_trans (List.length_filter_le _ _) hyI.1,hyI.2.1,λm hm=>hyI.2.2 m (List.mem_filter.1 hm).1⟩⟩
 split
 ·exact⟨rfl,h⟩
 split
 ·exact⟨by simp,Aa7 h (AcC hyI hx.1 hx.2.1)⟩
 split
 ·exact⟨rfl,h⟩
 split
 ·exact⟨rfl,h⟩
 ·rename_i m hm
  exact XS h (hyI.2.2 m (List.mem_of_getElem? hm))
theorem Ya {s:St} {x:BN} (h:GY s) (hx:En x=0):GY (Iv s x).1:=by
 have h0:=YF hx
 obtain⟨hb,hs,ha⟩:=h
 unfold Iv
 split
 ·split
  ·exact⟨hb,hs,ha⟩
  ·exact⟨hb,by simp;omega,ha⟩
 split
 ·split
  ·exact⟨hb,hs,ha⟩
  split
  ·exact⟨hb,hs,ha⟩
  ·refine⟨by simp;omega,hs,λy hy=>?_⟩
   rcases List.mem_append.1 hy with hy|hy
   ·exact ha y hy
   ·rw[List.mem_singleton.1 hy]
    exact⟨by simp,by simp,λm hm=>by cases hm⟩
 split
 ·exact⟨hb,hs,ha⟩
 ·have:=Ag0 (i:=(Bu s.boxes x.box).toNat) (x:=x) ha h0
  exact⟨by rw[this.1];exact hb,hs,this.2⟩
theorem GY.bm {l:List BM} {sp:List BN} (h:GY ⟨CM l,sp⟩):BmS l/\FlS l:=by
 obtain⟨hb,hs,ha⟩:=h
 have hI:∀x∈l,J5 x.b:=λx hx=>ha x.b (List.mem_map.2 ⟨x,hx,rfl⟩)
 have hb':(CM l).length<=5:=hb
 have hl:l.length<=5:=by simpa[CM] using hb
 have hy:=Mj (CM l) ha
 refine⟨⟨by omega,λx hx=>Nat.le_trans (hI x hx).1 ZD,by omega,λx hx=>(hI x hx).2.1⟩,λy hy=>⟨λm hm=>?_,λm hm=>((hI y hy).2.2 m hm).2.2⟩⟩
 exact⟨((hI y hy).2.2 m hm).1,((hI y hy).2.2 m hm).2.1⟩
def Ha:St->List BN->St×Int
 |s,[]=>(s,0)
 |s,x::r=>if¬En x=0 then(⟨[],[]⟩,En x) else if¬(Iv s x).2=0 then(⟨[],[]⟩,(Iv s x).2) else Ha (Iv s x).1 r
def E2 (s:St) (l:List BN):St×Int:=if¬Ft s=0 then(⟨[],[]⟩,Ft s) else if 10<l.length then(⟨[],[]⟩,1) else Ha s l
theorem Adf {s:St} {l:List BN} {k:Nat} (h:k<l.length) (he:¬En (l[k]'h)=0):Ha s (l.drop k)=(⟨[],[]⟩,En (l[k]'h)):=by
 rw[List.drop_eq_getElem_cons h,Ha,if_pos he]
theorem Ade {s:St} {l:List BN} {k:Nat} (h:k<l.length) (he:En (l[k]'h)=0) (ha:¬(Iv s (l[k]'h)).2=0):Ha s (l.drop k)=(⟨[],[]⟩,(Iv s (l[k]'h)).2):=by
 rw[List.drop_eq_getElem_cons h,Ha,if_neg (by simp[he]),if_pos ha]
theorem Adg {s:St} {l:List BN} {k:Nat} (h:k<l.length) (he:En (l[k]'h)=0) (ha:(Iv s (l[k]'h)).2=0):Ha s (l.drop k)=Ha (Iv s (l[k]'h)).1 (l.drop (k+1)):=by
 rw[List.drop_eq_getElem_cons h,Ha,if_neg (by simp[he]),if_neg (by simp[ha])]
theorem Uj {s:St} {l:List BN} {k:Nat} (h:l.length<=k):Ha s (l.drop k)=(s,0):=by rw[List.drop_eq_nil_of_le h];rfl
end
section
theorem Aao (p:Nat×Ob) (A:Af) (b k c:Nat) (r:List (List AV)) (l:List BM) (F:Af):(p::(A++mO b k c r (A8 l F))).Perm (p::mO b k c r (A8 l (A++F))):=((DT A ..).symm.trans (FA (GE A l F))).cons p
theorem AdK (A:Af) (b k c:Nat) (r:List (List AV)) (l:List BM) (F:Af):(mO b k c r (A8 l (A++F))).Perm (A++mO b k c r (A8 l F)):=((DT A ..).symm.trans (FA (GE A l F))).symm
theorem Af9 (T:Ap) (s:St) (hb:s.boxes.length<=1000) (hm:∀y∈s.boxes,y.mails.length<=1000) (hs:s.spool.length<=1000) (A F:Af) (L:List Nat):AC prog T 94 [.agg (An s)] ⟨A++F,L⟩ (λr h=> ∃(l:List BM) (bb cb u:Nat),CM l=s.boxes/\(cb=0->l=[])/\Ae u L/\r= .ret (.agg [mA bb 3 cb l.length,.own u 6 (At s.spool)])/\h=⟨A++mO bb 3 cb (Au l) (A8 l F),u::L⟩):=
 (Ah1 T s hb hm hs (A++F) L).leR λx h' ⟨l,bb,cb,u,h1,h2,h3,h4,h5⟩=>⟨_,by rw[h5];exact BO.pm (AdK A ..),l,bb,cb,u,h1,h2,h3,h4,rfl⟩
theorem Ab4 (T:Ap) (s bb cb u:Nat) (sp:List BN) (l:List BM) (x:BN) (A F:Af) (L:List Nat) (hcb:cb=0->l=[]) (hu:Ae u L) (inv:GY ⟨CM l,sp⟩) (hx:En x=0):AC prog T 95 [.ptr s 2 0 0,.agg (C7 x)] ⟨(s,⟨2,1,[[mA bb 3 cb l.length,.own u 6 (At sp)]]⟩)::(A++mO bb 3 cb (Au l) (A8 l F)),u::L⟩ (λr h=> ∃(l2:List BM) (sp2:List BN) (e:Int) (bb2 cb2 u2:Nat),(cb2=0->l2=[])/\Ae u2 L/\Iv ⟨CM l,sp⟩ x=(⟨CM l2,sp2⟩,e)/\r= .ret (.d (.int .i64 e))/\h=⟨(s,⟨2,1,[[mA bb2 3 cb2 l2.length,.own u2 6 (At sp2)]]⟩)::(A++mO bb2 3 cb2 (Au l2) (A8 l2 F)),u2::L⟩):=by
 have h0:=YF hx
 have hsp:sp.length<=20:=inv.sp
 have hbm:=inv.bm
 refine AC.leH (BO.pm (Aao _ A ..)) ?_
 rcases Nat.eq_zero_or_pos cb with hz|hz
 ·subst hz
  have hl:=hcb rfl
  subst hl
  exact(Agz T s u sp x (A++F) L hu ZO).leR λr h ⟨l2,sp2,e,bb2,cb2,u2,h1,h2,h3,h4,h5⟩=>⟨_,by rw[h5];exact BO.pm (Aao _ A ..).symm,l2,sp2,e,bb2,cb2,u2,h1,h2,h3,h4,rfl⟩
 ·rw[AG hz,Bk hz]
  refine(Ag2 T s bb cb u sp l x (A++F) L hz hu hbm.1 hbm.2 ZO h0.2.2).leR λr h ⟨l2,sp2,e,bb2,cb2,u2,h1,h2,h3,h4,h5⟩=>⟨_,?_,l2,sp2,e,bb2,cb2,u2,λe=>absurd e ZO,h2,h3,h4,rfl⟩
  have:=BO.pm (L:=u2::L) (Aao (s,⟨2,1,[[mA bb2 3 cb2 l2.length,.own u2 6 (At sp2)]]⟩) A bb2 3 cb2 (Au l2) l2 F).symm
  rw[Bk h1] at this
  rw[h5,<-AG h1 (b:=bb2) (k:=3) (n:=l2.length)]
  exact this
end
section
theorem XX {s:St} {l:List BN} (h:Ft s=0) (h1:¬10<l.length):E2 s l=Ha s l:=by rw[E2,if_neg (by simp[h]),if_neg h1]
theorem Ae5 {s:St} {l:List BN} (h:¬Ft s=0):E2 s l=(⟨[],[]⟩,Ft s):=if_pos h
theorem Ae6 {s:St} {l:List BN} (h:Ft s=0) (h1:10<l.length):E2 s l=(⟨[],[]⟩,1):=by rw[E2,if_neg (by simp[h]),if_pos h1]
attribute [local go_sem] Bc D8 in
theorem Agm (T:Ap) (hL:Bw T) (s:St) (l:List BN) (ok:LY s) (okl:∀x∈l,Fy x) (F:Af) (L:List Nat):AC prog T 47 [.agg (An s),.d (.slc 6 (At l))] (⟨F,L⟩) (λr h=>r= .ret (.tup [.agg (An (E2 s l).1),.d (.int .i64 ((E2 s l).2))])/\h=⟨F,L⟩):=by
 refine⟨call47,Ao.enterS func47 rfl ntmps47 rfl λhb=>?_⟩
 simp only[go_sem,results47]
 refine Zx (Zy ?_)
 intro b2 fb2
 try simp only[Ab] at fb2
 intro b4 fb4
 try simp only[Ab] at fb4
 refine Zs (Z1 46 (NL T hL s ok) ?_)
 refine Zp 47 ?_
 refine Zc (λhc0=>?_) λhc0=>?_
 ·refine Zp 12 (Aa.ret ?_)
  simp only[Am]
  apply Ah [b2,b4] [] [] [] ZH
  · exact ⟨rfl,by simp[go_sem]⟩
  · rw [Ae5 hc0];simp[Aj,Bj,Ay,A3,At]
 have inv0:=Sh (show Ft s=0 by omega)
 refine Zk ?_
 refine Zs (Zp 135 ?_)
 refine Zc (λhc1=>?_) λhc1=>?_
 ·refine Zp 12 (Aa.ret ?_)
  simp only[Am]
  apply Ah [b2,b4] [] [] [] ZH
  · exact ⟨rfl,by simp[go_sem]⟩
  · rw [Ae6 ZO ZO];simp[Aj,Bj,Ay,A3,At]
 refine Zk ?_
 refine Zx ?_
 simp only[go_sem,fb4]
 refine ZA [] [] (Af9 T s (Nat.le_trans inv0.bx ZD) (λy hy=>Nat.le_trans (inv0.al y hy).1 ZD) (Nat.le_trans inv0.sp ZD) [_,_] _ _) ?_
 rintro _ _ ⟨l0,bb0,cb0,u0,hl0,hcb0,hu0,rfl,rfl⟩
 simp only[List.cons_append,List.nil_append]
 have e1:=Fs
 simp only[AV.plain,AV.one] at e1
 have e2:=Fj
 unfold AV.cells at e2
 try simp only[Ae,Ab] at e1
 try simp only[Ae,Ab] at e2
 refine Zy ?_
 intro b7 fb7
 try simp only[Ab] at fb7
 refine Zm 13 ?_
 refine Zs (Zp 62 ?_)
 refine Aa.block (Zy ?_)
 refine Zl 15 16 (λn lc hc=> ∃(k:Nat) (lb:List BM) (sp:List BN) (bb cb u:Nat),n=l.length-k/\Av lc [(26,.d (.int .i64 k))]/\Av hc (⟨(b7,⟨2,1,[[mA bb 3 cb lb.length,.own u 6 (At sp)]]⟩)::(b4,⟨2,1,[[.nils,.nils]]⟩)::(b2,⟨2,1,[An s]⟩)::mO bb 3 cb (Au lb) (A8 lb F),u::L⟩)/\(k<=l.length)/\(GY ⟨CM lb,sp⟩)/\(cb=0->lb=[])/\(Ae u L)/\(Ha s l=Ha ⟨CM lb,sp⟩ (l.drop k))) ?_ ?_
 · refine ⟨_,0,l0,s.spool,bb0,cb0,u0,rfl,ZE,ZE,?_,?_,?_,?_,?_⟩
   all_goals(first|omega|assumption|(rw[hl0];exact inv0)|(rw[hl0];rfl))
 rintro _ _ _ ⟨k,lb,sp,bb,cb,u,rfl,⟨rfl⟩,⟨rfl⟩,h1,h2,h3,h4,h5⟩
 refine Zy ?_
 refine Zp 63 ?_
 refine Zs (Zc (λhc2=>?_) λhc2=>?_)
 ·have hlt:k<l.length:=by omega
  have zf1:=λd0_=>DG l k d0_ hlt
  refine Zk ?_
  refine Zs (Aa.block (Zx ?_))
  simp only[go_sem,zf1]
  (repeat(with_reducible refine And.intro ZS ?_))
  intro b9
  first|intro fb9|have fb9:=True.intro
  try simp only[Ab] at fb9
  refine Zs (Zx ?_)
  simp only[go_sem,fb9]
  refine Aw rfl rfl rfl rfl (XC T hL (okl _ (List.getElem_mem hlt))) rfl rfl ?_
  refine Zy ?_
  refine Zm 127 ?_
  refine Zp 383 ?_
  refine Zc (λhc3=>?_) λhc3=>?_
  ·refine Zy ?_
   refine Aa.leH (BO.ord [] [] [b7] [] _) ?_
   simp only[go_sem,fb7,fb9]
   refine Cj (b7:=b7) (l:=lb) (F:=F) [_,_,_] h3 ?_
   simp only[List.cons_append,List.nil_append]
   refine Zp 3 (Aa.ret ?_)
   simp only[Am,Bo]
   apply Ah [b2,b4,b7,b9] [u] [] [] (by(try simp only[go_sem,fb4,fb7,fb9])<;>rfl)
   · exact ⟨rfl,by simp[go_sem,fb9]⟩
   · rw [XX ZO ZO,h5,Adf hlt hc3];simp[Aj,Bj,Ay,A3,At]
  refine Zk ?_
  refine Zx ?_
  simp only[go_sem,fb9]
  refine AI [b7] [] rfl rfl rfl rfl (by(try simp only[go_sem,fb7,fb9])<;>rfl) rfl (Ab4 T b7 bb cb u sp lb (l[k]'hlt) [_,_,_] _ _ h3 h4 h2 ZO) ?_
  rintro _ _ ⟨l2,sp2,e,bb2,cb2,u2,hcb2,hu2,hap,rfl,rfl⟩
  simp only[List.cons_append,List.nil_append]
  refine Zy ?_
  refine Zm 243 ?_
  refine Zp 191 ?_
  refine Zc (λhc4=>?_) λhc4=>?_
  ·refine Zy ?_
   refine Cj (b7:=b7) (l:=l2) (F:=F) [_,_,_] hcb2 ?_
   simp only[List.cons_append,List.nil_append]
   refine Zp 3 (Aa.ret ?_)
   simp only[Am,Bo]
   apply Ah [b2,b4,b7,b9] [u2] [] [] (by(try simp only[go_sem,fb4,fb7,fb9])<;>rfl)
   · exact ⟨rfl,by simp[go_sem,fb9]⟩
   · rw [XX ZO ZO,h5,Ade hlt ZO (by rw[hap];exact hc4),hap];simp[Aj,Bj,Ay,A3,At]
  refine Z5 ?_
  refine Z6 ?_
  refine Ze 27 32 [b9] [] [b7,b4,b2] [] (.e ⟨_,ZM,k+1,l2,sp2,bb2,cb2,u2,rfl,ZE,ZE,?_,?_,?_,?_,?_⟩)
  · omega
  · have:=Ya h2 (by omega:En (l[k]'hlt)=0);rw[hap] at this;exact this
  · exact hcb2
  · exact hu2
  · rw [h5,Adg hlt ZO (by rw[hap];exact hc4),hap]
 refine Z4 ?_
 refine Zn 3 ?_
 refine Cj (b7:=b7) (l:=lb) (F:=F) [_,_] h3 ?_
 simp only[List.cons_append,List.nil_append]
 refine Zx ?_
 simp only[go_sem,fb7]
 refine ZA [] [] (AC.le (args:=[.agg [.d (.slc 3 (A3 (CM lb))),.own u 6 (At sp)]]) (Af7 T ⟨CM lb,sp⟩ (Nat.le_trans h2.bx ZD) (λy hy=>Nat.le_trans (h2.al y hy).1 ZD) (Nat.le_trans h2.sp ZD) _ _) (by simp[Bj,Aj,Ay,An])) ?_
 rintro _ _ ⟨rfl,rfl⟩
 simp only[go_sem,fb4,fb7]
 refine Aa.ret ?_
 apply Ah [b2,b4,b7] [u] [] [] ZH
 · exact ⟨rfl,by simp[go_sem]⟩
 · rw [XX ZO ZO,h5,Uj ZO];simp[Aj,Bj,Ay,A3,At,CM]
end
section
structure CoG (c:Co):Prop where
 n:c.a.length<=6
 f:Q0 c.fl
 t:∀y∈c.a,y.t.length<=1048576
theorem Afq {x:Int} (h:Q0 x):0<=x/\x<=31:=by
 obtain⟨a,b,c,d,e,rfl⟩:=h
 cases a<;>cases b<;>cases c<;>cases d<;>cases e<;>decide
theorem Aew {c:Co} (h:CoG c) {a:Eb} (ha:a.t.length<=1048576):CoG (DN c a).1:=by
 have hn:=Ud h.n a
 unfold DN at hn⊢
 split
 ·exact⟨h.n,h.f,h.t⟩
 split
 ·exact⟨h.n,h.f,h.t⟩
 split
 ·exact⟨h.n,h.f,h.t⟩
 ·rename_i h1 h2 h3
  rw[if_neg h1,if_neg h2,if_neg h3] at hn
  exact⟨hn,h.f,λy hy=>by
   rcases List.mem_append.1 hy with hy|hy
   ·exact h.t y hy
   ·rw[List.mem_singleton.1 hy];exact ha⟩
theorem YS {l:List Tx} (h:∀s∈l,s.length<=1048576):(l.headD []).length<=1048576:=by
 cases l with
 |nil=>exact Nat.zero_le _
 |cons a l=>exact h a (List.mem_cons_self ..)
theorem We {fl:Int} {z:Ax} (jc:JC z) (h:∀s∈z.texts,s.length<=1048576):(DE fl z).t.length<=1048576:=by
 unfold DE
 split
 ·exact YS h
 split
 ·exact Nat.zero_le _
 split
 ·rename_i h6
  obtain⟨s,p,hs,hp,ha,_⟩:=jc.inv.2.1 h6
  rw[hs,show([s]:List Tx).headD []=s from rfl,hp]
  exact Nat.le_trans (show(C6 1 p).length<=100 from JX ha) ZD
 split
 ·exact YS h
 ·exact Nat.zero_le _
theorem AgI {c:Co} (h:CoG c) {z:Ax} (jc:JC z) (ht:∀s∈z.texts,s.length<=1048576):CoG (Dl c z).1:=by
 unfold Dl
 split
 ·exact h
 split
 ·exact⟨h.n,My _,h.t⟩
 split
 ·exact⟨h.n,AdG (My _) h.f,h.t⟩
 split
 ·exact h
 ·exact Aew h (We jc ht)
mutual
theorem Ae1 (x:Lr) (m:Ms):∀(z:Ax) {c:Co},z.Rd->JC z->CoG c->CoG (Iu x m z c).1
 | .mk k tx t th el,c,rd,jc,h=>by
  obtain⟨_,_,r3,r4,r5⟩:=rd.inv
  obtain⟨_,_,_,_,_,j6,j7⟩:=jc.inv
  rw[Iu]
  split
  ·split
   ·exact Pg x m th r4 j6 h
   ·exact Pg x m el r5 j7 h
  ·exact AgI h jc r3
theorem Pg (x:Lr) (m:Ms):∀(l:List Ax) {c:Co},(∀y∈l,y.Rd)->(∀y∈l,JC y)->CoG c->CoG (BE x m l c).1
 |[],c,_,_,h=>by rw[BE];exact h
 |y::l,c,rd,jc,h=>by
  rw[BE]
  have h1:=Ae1 x m y (rd y (List.mem_cons_self ..)) (jc y (List.mem_cons_self ..)) h
  split
  ·exact Pg x m l (λz hz=>rd z (List.mem_cons_of_mem _ hz)) (λz hz=>jc z (List.mem_cons_of_mem _ hz)) h1
  ·exact h1
end
theorem Zg {l:List Ax} {x:Lr} (zz:Szd l) (h:(BR l x).2=0):CoG (BR l x).1/\Cc x.a1 x.a2=0:=by
 by_cases h1:CU l=0
 ·by_cases h2:(RB x).2.2=0
  ·rw[Tv h1 h2]
   have hc:FM l=0:=by
    rw[CU] at h1
    split at h1
    ·omega
    ·omega
   exact⟨Pg x _ l (zz.rd hc) (UE h1 zz.rd) ⟨by decide,⟨false,false,false,false,false,rfl⟩,λy hy=>by cases hy⟩,(T2 h2).1⟩
  ·rw[Ty h1 h2] at h;exact absurd h h2
 ·rw[Tw h1] at h;exact absurd h h1
theorem YA {c:Co} (h:CoG c):(C5 c).length<=6/\∀y∈C5 c,y.t.length<=1048576:=by
 unfold C5
 split
 ·exact⟨by simp,λy hy=>by rw[List.mem_singleton.1 hy];exact Nat.zero_le _⟩
 split
 ·exact⟨by simp,λy hy=>by rw[List.mem_singleton.1 hy];exact Nat.zero_le _⟩
 ·exact⟨h.n,h.t⟩
def BI (s:St) (x:Lr) (l:List Eb):List BN:=l.foldl (EN x (s.boxes.map AL.name)) []
theorem D1 {s:St} {x:Lr} {l:List Eb} {k:Nat} (h:k<l.length):BI s x (l.take (k+1))=EN x (s.boxes.map AL.name) (BI s x (l.take k)) l[k]:=by
 rw[BI,List.take_succ_eq_append_getElem h,List.foldl_append];rfl
theorem Fc (x:Lr) (bx:List Tx) (out:List BN) (a:Eb):(EN x bx out a).length<=out.length+1:=by
 unfold EN ID
 repeat' split
 all_goals first|omega|simp
theorem MJ {α:Type} {l:List α} {a:α} {P:α->Prop} (h:∀y∈l,P y) (ha:P a):∀y∈l++[a],P y:=λy hy=>by
 rcases List.mem_append.1 hy with hy|hy
 ·exact h y hy
 ·rw[List.mem_singleton.1 hy];exact ha
theorem Rk {bx:List Tx} {tx:Tx} {out:List BN} {nm:Tx} {fl:Int} (hb:∀b∈bx,b.length<=9223372036854775807) (ht:tx.length<=9223372036854775807) (h:∀y∈out,Fy y):∀y∈ID bx tx out nm fl,Fy y:=by
 unfold ID
 split
 ·exact h
 ·refine MJ h ⟨?_,Nat.zero_le _,ht⟩
  show(Dp bx nm).length<=_
  unfold Dp
  split
  ·rename_i h9;exact hb _ h9
  ·decide
theorem Ab2 {x:Lr} {bx:List Tx} {out:List BN} {a:Eb} (hb:∀b∈bx,b.length<=9223372036854775807) (ht:x.s.length<=9223372036854775807) (ha:a.t.length<=1048576) (hr:Cc x.a1 x.a2=0) (h:∀y∈out,Fy y):∀y∈EN x bx out a,Fy y:=by
 unfold EN
 split
 ·exact Rk hb ht h
 split
 ·exact Rk hb ht h
 split
 ·exact MJ h ⟨Nat.zero_le _,Nat.le_trans ha ZD,ht⟩
 split
 ·exact MJ h ⟨Nat.zero_le _,Nat.le_trans (show(C6 1 (x.a1,x.a2)).length<=100 from JX (a:=(x.a1,x.a2)) hr) ZD,Nat.le_trans ha ZD⟩
 ·exact h
theorem MT {s:St} {x:Lr} (ok:LY s) (ht:x.s.length<=9223372036854775807) (hr:Cc x.a1 x.a2=0):∀(l:List Eb) (out:List BN),(∀y∈l,y.t.length<=1048576)->(∀y∈out,Fy y)->∀y∈l.foldl (EN x (s.boxes.map AL.name)) out,Fy y
 |[],out,_,h=>h
 | a::l,out,ha,h=>MT ok ht hr l _ (λy hy=>ha y (List.mem_cons_of_mem _ hy)) (Ab2 (λb hb=>by
   obtain⟨y,hy,rfl⟩:=List.mem_map.1 hb
   exact ok.nm y hy) ht (ha a (List.mem_cons_self ..)) hr h)
noncomputable def Pz (s:St) (x:Lr) (l:List Ax):List BN×St×Int:=
 if¬Ft s=0 then([],⟨[],[]⟩,Ft s)
 else if¬(BR l x).2=0 then([],⟨[],[]⟩,(BR l x).2)
 else if¬(E2 s (BI s x (C5 (BR l x).1))).2=0 then([],⟨[],[]⟩,(E2 s (BI s x (C5 (BR l x).1))).2)
 else(BI s x (C5 (BR l x).1),(E2 s (BI s x (C5 (BR l x).1))).1,0)
theorem Ado {s:St} {x:Lr} {l:List Ax} (h:¬Ft s=0):Pz s x l=([],⟨[],[]⟩,Ft s):=if_pos h
theorem Adp {s:St} {x:Lr} {l:List Ax} (h:Ft s=0) (h2:¬(BR l x).2=0):Pz s x l=([],⟨[],[]⟩,(BR l x).2):=by rw[Pz,if_neg (λh9=>h9 h),if_pos h2]
theorem Adq {s:St} {x:Lr} {l:List Ax} (h:Ft s=0) (h2:(BR l x).2=0) (h3:¬(E2 s (BI s x (C5 (BR l x).1))).2=0):Pz s x l=([],⟨[],[]⟩,(E2 s (BI s x (C5 (BR l x).1))).2):=by rw[Pz,if_neg (λh9=>h9 h),if_neg (λh9=>h9 h2),if_pos h3]
theorem Adn {s:St} {x:Lr} {l:List Ax} (h:Ft s=0) (h2:(BR l x).2=0) (h3:(E2 s (BI s x (C5 (BR l x).1))).2=0):Pz s x l=(BI s x (C5 (BR l x).1),(E2 s (BI s x (C5 (BR l x).1))).1,0):=by rw[Pz,if_neg (λh9=>h9 h),if_neg (λh9=>h9 h2),if_neg (λh9=>h9 h3)]
theorem Agn (T:Ap) (hL:Bw T) (s:St) (l:List BN) (ok:LY s) (okl:∀x∈l,Fy x):PC prog T 47 [.agg (An s),.d (.slc 6 (At l))] (.tup [.agg (An (E2 s l).1),.d (.int .i64 ((E2 s l).2))]):=
 PC.of_ac (AC.mono (Agm T hL s l ok okl [] []) λx h hx=>hx.1) (by simp[Aj,Bj,Ay,An])
attribute [local go_sem] Dw Bi No Gk Bn Array.isEmpty_empty An EQ in
theorem VM (T:Ap) (hL:Bw T) (hF:T 2=Bf.map D.str) (hE:T 0=Gl.map D.str) (tb:LZ T) (s:St) (x:Lr) (l:List Ax) (ok:LY s) (zz:Szd l) (xo:XK x):PC prog T 21 [.agg (An s),.agg (Dw x),.d (.slc 12 (l.map AW))] (.tup [.d (.slc 6 (At (Pz s x l).1)),.agg (An (Pz s x l).2.1),.d (.int .i64 ((Pz s x l).2.2))]):=by
 refine⟨call21,Ar.enterS func21 rfl ntmps21 rfl λhb=>?_⟩
 simp only[go_sem,results21]
 refine Zx ?_
 simp only[go_sem,if_true]
 intro b3
 first|intro fb3|have fb3:=True.intro
 try simp only[Ab] at fb3
 intro b4
 first|intro fb4|have fb4:=True.intro
 try simp only[Ab] at fb4
 intro b7
 first|intro fb7|have fb7:=True.intro
 try simp only[Ab] at fb7
 refine Zm 92 ?_
 refine Zs (Z1 31 (NL T hL s ok) ?_)
 refine Zp 95 ?_
 refine Zc (λhc0=>?_) λhc0=>?_
 ·refine Zp 56 (Aa.ret ?_)
  simp only[go_sem,if_true,fb7]
  rw[Ado hc0];simp[A3,At]
 have hs0:Ft s=0:=by omega
 have hbn:s.boxes.length<=5:=(Sh hs0).bx
 refine Zk ?_
 refine Zx ?_
 simp only[go_sem, *]
 refine ZP (Abr T hL hF hE tb l x zz xo) ?_
 simp only[go_sem,if_true]
 intro b10 fb10
 try simp only[Ab] at fb10
 refine Zm 110 ?_
 refine Zs (Zp 95 ?_)
 refine Zc (λhc1=>?_) λhc1=>?_
 ·refine Zp 28 (Aa.ret ?_)
  simp only[go_sem, *]
  rw[Adp hs0 hc1];simp[A3,At]
 have hj0:(BR l x).2=0:=by omega
 obtain⟨hcg,hr⟩:=Zg zz hj0
 obtain⟨hen,het⟩:=YA hcg
 refine Zk ?_
 refine Zx ?_
 simp only[go_sem, *]
 intro w fw
 try simp only[Ab] at fw
 refine Zn 45 ?_
 refine CC w 0 5 1 (by(try simp only[go_sem,if_true,fw])<;>rfl) rfl rfl ZD λw0 fw0=>?_
 try simp only[Ae] at fw0
 simp only[go_sem,if_true,fw]
 refine Zs (Zp 239 ?_)
 refine Aa.block (Zy ?_)
 refine Zl 63 64 (λn lc hc=> ∃(k v:Nat),n=s.boxes.length-k/\Av lc [(42,.d (.int .i64 (k:Nat)))]/\Av hc (⟨(w,⟨7,1,[[.d (.str x.a1),.d (.str x.a2),.d (.str x.c1),.d (.str x.c2),.d (.str x.s),.own v 1 ((s.boxes.take k).map λy=>Aq y.name),.nils]]⟩)::(b10,⟨4,1,[No (BR l x).1]⟩)::(b7,⟨2,1,[[.nils,.nils]]⟩)::(b4,⟨5,1,[Dw x]⟩)::(b3,⟨2,1,[An s]⟩)::[],[v]⟩)/\(k<=s.boxes.length)) ⟨_,0,w0,rfl,ZE,ZE,ZI⟩ ?_
 rintro _ _ _ ⟨k,v,rfl,⟨rfl⟩,⟨rfl⟩,h1⟩
 refine Zy ?_
 refine Zp 255 ?_
 refine Zs (Zc (λhc2=>?_) λhc2=>?_)
 ·have hlt:k<s.boxes.length:=by omega
  have hki:(k:Int)<(s.boxes.length:Int):=by omega
  have zf1:=λd0_=>BG _ _ d0_ hlt
  refine Zk ?_
  refine Zs (Aa.block (Zx ?_))
  simp only[go_sem, *]
  intro b14 fb14
  try simp only[Ab] at fb14
  refine Zt true [0,1,2,3,4,5,6,7,8,9,10,11] λK_ k_=>?_
  simp only[go_sem, *]
  refine ZW λt1 ft1=>?_
  try simp only[Ae] at ft1
  simp only[go_sem, *]
  refine k_ _ _ (Ai (Ac ?_))
  refine Zm 239 ?_
  refine Z6 ?_
  refine Ze 63 64 [b14] [] [w] [t1] (.e ⟨_,ZM,k+1,t1,rfl,ZE,?_,ZN⟩)
  · (try simp only[go_sem,if_true,fw,fb14])<;>first|exact⟨rfl⟩|(constructor;rw[AdA _ hlt])
 have htk:s.boxes.take k=s.boxes:=List.take_of_length_le ZO
 rw[htk]
 refine Z4 ?_
 refine Zn 15 ?_
 refine Ej (b:=w) (i:=0) (j:=5) (t:=v) (k:=1) (rows:=s.boxes.map λy=>[D.str y.name]) (ob:=⟨7,1,[[.d (.str x.a1),.d (.str x.a2),.d (.str x.c1),.d (.str x.c2),.d (.str x.s),.own v 1 (s.boxes.map λy=>[D.str y.name]),.nils]]⟩) (r:=[.d (.str x.a1),.d (.str x.a2),.d (.str x.c1),.d (.str x.c2),.d (.str x.s),.own v 1 (s.boxes.map λy=>[D.str y.name]),.nils]) (by simp[A9]) rfl rfl ?_
 rw[show(s.boxes.map λy=>[D.str y.name])=(s.boxes.map AL.name).map Aq by simp[Aq,Function.comp_def]]
 refine Z1 27 (Ago T (BR l x).1 hcg.n (Afq hcg.f)) ?_
 refine Zy ?_
 refine CC w 0 6 6 (by(try simp only[go_sem,if_true,fw])<;>rfl) rfl rfl ZD λo0 fo0=>?_
 try simp only[Ae] at fo0
 simp only[go_sem,if_true,fw]
 refine Zs (Zp 119 ?_)
 refine Aa.block (Zy ?_)
 refine Zl 31 32 (λn lc hc=> ∃(q u:Nat),n=(C5 (BR l x).1).length-q/\Av lc [(65,.d (.int .i64 (q:Nat)))]/\Av hc (⟨plO w u x (s.boxes.map AL.name) (BI s x ((C5 (BR l x).1).take q))::(b10,⟨4,1,[No (BR l x).1]⟩)::(b7,⟨2,1,[[.nils,.nils]]⟩)::(b4,⟨5,1,[Dw x]⟩)::(b3,⟨2,1,[An s]⟩)::[],[u,v]⟩)/\(q<=(C5 (BR l x).1).length)/\(Ae u [v])/\((BI s x ((C5 (BR l x).1).take q)).length<=q)) ?_ ?_
 · refine ⟨_,0,o0,rfl,ZE,ZE,?_,?_,?_⟩
   all_goals(first|omega|exact fo0|exact Nat.zero_le _|(simp[BI];done))
 rintro _ _ _ ⟨q,u,rfl,⟨rfl⟩,⟨rfl⟩,g1,g2,g3⟩
 refine Zy ?_
 refine Zp 127 ?_
 refine Zs (Zc (λhc3=>?_) λhc3=>?_)
 ·have hlt2:q<(C5 (BR l x).1).length:=by omega
  have hqi:(q:Int)<((C5 (BR l x).1).length:Int):=by omega
  have zf2:=λd0_=>Jy (C5 (BR l x).1) q d0_ hlt2
  refine Zk ?_
  refine Zs (Aa.block (Zx ?_))
  simp only[go_sem, *]
  intro b18 fb18
  try simp only[Ab] at fb18
  refine Zq λK_ k_=>?_
  simp only[go_sem,if_true,fb18]
  refine ZA [w] [u] (Agx T w u x (s.boxes.map AL.name) (BI s x ((C5 (BR l x).1).take q)) ((C5 (BR l x).1)[q]) _ _ hL hr (by simp;omega) ZO g2) ?_
  rintro _ _ ⟨W1,fW1,rfl,rfl⟩
  try simp only[Ae] at fW1
  refine Zy ?_
  refine k_ _ _ (Ai (Ac ?_))
  refine Zm 119 ?_
  refine Z6 ?_
  refine Ze 31 32 [b18] [] [w] [W1] (.e ⟨_,ZM,q+1,W1,rfl,ZE,?_,?_,?_,?_⟩)
  · (try simp only[go_sem,if_true,fw,fb18,fW1])<;>first|exact⟨rfl⟩|(constructor;rw[D1 hlt2])
  · omega
  · first|exact fW1|exact fW1.1|exact⟨fW1,trivial⟩
  · rw [D1 hlt2];have:=Fc x (s.boxes.map AL.name) (BI s x ((C5 (BR l x).1).take q)) (C5 (BR l x).1)[q];omega
 have htq:(C5 (BR l x).1).take q=(C5 (BR l x).1):=List.take_of_length_le ZO
 rw[htq]
 refine Z4 ?_
 refine Zm 7 ?_
 refine L4 true [] [0,1,2,3,4,5,6,7,8] [9] 10 [11] rfl (by kernel_rfl) rfl λK_ hK_=>?_
 simp only[go_sem,if_true]
 refine Exists.intro (λh':AH=>A9 w h'.objs=some ⟨7,1,[[.d (.str x.a1),.d (.str x.a2),.d (.str x.c1),.d (.str x.c2),.d (.str x.s),.d (.slc 1 ((s.boxes.map AL.name).map Aq)),.own u 6 (At (BI s x (C5 (BR l x).1)))]]⟩/\A9 b3 h'.objs=some ⟨2,1,[An s]⟩) (And.intro ⟨by simp[A9],by simp[A9,An,fb4,fb7,fb10,fw]⟩ ?_)
 refine Zy ?_
 refine FF rfl rfl (λh' ⟨m1,m2⟩=>(by first|rfl|(simp only[go_sem,if_true,m2];first|done|rfl|exact⟨by omega,rfl⟩))) ?_
 refine Zy ?_
 refine Fb.op rfl (λh'=>(by first|rfl|(simp only[go_sem,if_true];first|done|rfl|exact⟨by omega,rfl⟩))) ?_
 refine Zy ?_
 refine Fb.op rfl (λh'=>(by first|rfl|(simp only[go_sem,if_true];first|done|rfl|exact⟨by omega,rfl⟩))) ?_
 refine Zy ?_
 refine Fb.op rfl (λh'=>(by first|rfl|(simp only[go_sem,if_true];first|done|rfl|exact⟨by omega,rfl⟩))) ?_
 refine Zy ?_
 refine FF rfl rfl (λh' ⟨m1,m2⟩=>(by first|rfl|(simp only[go_sem,if_true,m1];first|done|rfl|exact⟨by omega,rfl⟩))) ?_
 refine Zy ?_
 refine Fb.call rfl rfl rfl rfl (Agn T hL s (BI s x (C5 (BR l x).1)) ok (MT ok xo.hs hr _ _ het λy hy=>by cases hy)) rfl rfl ?_
 refine Zy ?_
 refine Fb.op rfl (λh'=>(by first|rfl|(simp only[go_sem,if_true];first|done|rfl|exact⟨by omega,rfl⟩))) ?_
 simp only[go_sem,if_true]
 refine Fb.op rfl (λh'=>(by first|rfl|(simp only[go_sem,if_true];first|done|rfl|exact⟨by omega,rfl⟩))) ?_
 refine Zy ?_
 refine Fb.op rfl (λh'=>(by first|rfl|(simp only[go_sem,if_true];first|done|rfl|exact⟨by omega,rfl⟩))) ?_
 refine Zy ?_
 refine Fb.nil ?_
 refine AN _ _ _ ?_
 simp only[go_sem, *]
 intro b19 fb19
 try simp only[Ab] at fb19
 simp only[go_sem,fb19]
 first|with_reducible refine And.intro ⟨by simp[A9,plO,if_true,fb3,fb4,fb7,fb10,fw,fw0,fo0,fb19],by simp[A9,An,if_true,fb3,fb4,fb7,fb10,fw,fw0,fo0,fb19]⟩ ?_|with_reducible refine⟨by simp[A9,plO,if_true,fb3,fb4,fb7,fb10,fw,fw0,fo0,fb19],by simp[A9,An,if_true,fb3,fb4,fb7,fb10,fw,fw0,fo0,fb19],?_⟩|with_reducible refine And.intro (by simp[A9,plO,if_true,fb3,fb4,fb7,fb10,fw,fw0,fo0,fb19]) ?_|with_reducible refine And.intro (by simp[A9,An,if_true,fb3,fb4,fb7,fb10,fw,fw0,fo0,fb19]) ?_|skip
 refine AN _ _ _ ?_
 simp only[go_sem,if_true,fb19]
 refine hK_ _ _ ?_
 refine Zm 30 ?_
 refine Zs (Zp 47 ?_)
 refine Zc (λhc4=>?_) λhc4=>?_
 ·refine Zp 7 (Aa.ret ?_)
  simp only[go_sem, *]
  rw[Adq hs0 hj0 hc4];simp[A3,At]
 refine Zk ?_
 refine Zd true [0,1,2,3,4,5,6,7] ?_
 simp only[go_sem, *]
 refine Zm 7 ?_
 refine Aa.ret ?_
 simp only[go_sem, *]
 rw[Adn hs0 hj0 ZO];simp[A3,At]
end
section
noncomputable section
mutual
def WD (x:Lr) (m:Ms):Ax->List Ax
 | .mk k tx t th el=>if k=2 then(if Bq x m t=true then Cz x m th else Cz x m el) else [.mk k tx t th el]
def Cz (x:Lr) (m:Ms):List Ax->List Ax
 |[]=>[]
 |y::l=>WD x m y++Cz x m l
end
end
theorem Ti (x:Lr) (m:Ms) (z:Ax):WD x m z=if z.kind=2 then(if Bq x m z.test=true then Cz x m z.thn else Cz x m z.els) else [z]:=by cases z;rw[WD];rfl
theorem AgU {x:Lr} {m:Ms} {z:Ax} (h:¬z.kind=2):WD x m z=[z]:=by rw[Ti,if_neg h]
theorem AgV {x:Lr} {m:Ms} {z:Ax} (h:z.kind=2) (h2:Bq x m z.test=true):WD x m z=Cz x m z.thn:=by rw[Ti,if_pos h,if_pos h2]
theorem AgT {x:Lr} {m:Ms} {z:Ax} (h:z.kind=2) (h2:¬Bq x m z.test=true):WD x m z=Cz x m z.els:=by rw[Ti,if_pos h,if_neg h2]
theorem U4 (x:Lr) (m:Ms) (l l':List Ax):Cz x m (l++l')=Cz x m l++Cz x m l':=by
 induction l with
 |nil=>rw[List.nil_append,Cz,List.nil_append]
 |cons a l ih=>rw[List.cons_append,Cz,Cz,ih,List.append_assoc]
theorem N3 {x:Lr} {m:Ms} {l:List Ax} {k:Nat} (h:k<l.length):Cz x m (l.take (k+1))=Cz x m (l.take k)++WD x m l[k]:=by
 rw[List.take_succ_eq_append_getElem h,U4];simp[Cz]
mutual
theorem Acd (x:Lr) (m:Ms):∀z:Ax,(WD x m z).length<=Rc z
 | .mk k tx t th el=>by
  have h1:=GA x m th
  have h2:=GA x m el
  rw[WD,Rc]
  split
  ·split<;>omega
  ·simp only[List.length_singleton];omega
theorem GA (x:Lr) (m:Ms):∀l:List Ax,(Cz x m l).length<=DI l
 |[]=>by rw[Cz,DI];simp
 |y::l=>by
  have h1:=Acd x m y
  have h2:=GA x m l
  rw[Cz,DI,List.length_append]
  omega
end
theorem YK (x:Lr) (m:Ms) (l:List Ax) (k:Nat):(Cz x m (l.take k)).length<=(Cz x m l).length:=by
 have:=congrArg (λq=>(Cz x m q).length) (List.take_append_drop k l)
 simp only[U4,List.length_append] at this
 omega
mutual
theorem Aff (x:Lr) (m:Ms):∀z:Ax,z.Ok->JC z->∀y∈WD x m z,y.Ok/\JC y/\¬y.kind=2
 | .mk k tx t th el,ok,jc,y,hy=>by
  obtain⟨_,_,_,_,s5,s6⟩:=ok.inv
  obtain⟨_,_,_,_,_,ja,je⟩:=jc.inv
  rw[WD] at hy
  split at hy
  ·split at hy
   ·exact P8 x m th s5 ja y hy
   ·exact P8 x m el s6 je y hy
  ·rename_i hk
   obtain rfl:=List.mem_singleton.1 hy
   exact⟨ok,jc,hk⟩
theorem P8 (x:Lr) (m:Ms):∀l:List Ax,(∀y∈l,y.Ok)->(∀y∈l,JC y)->∀y∈Cz x m l,y.Ok/\JC y/\¬y.kind=2
 |[],_,_,y,hy=>by rw[Cz] at hy;cases hy
 |z::l,ok,jc,y,hy=>by
  rw[Cz] at hy
  rcases List.mem_append.1 hy with hy|hy
  ·exact Aff x m z (ok z (List.mem_cons_self ..)) (jc z (List.mem_cons_self ..)) y hy
  ·exact P8 x m l (λy hy=>ok y (List.mem_cons_of_mem _ hy)) (λy hy=>jc y (List.mem_cons_of_mem _ hy)) y hy
end
def BH:List Ax->Co->Co×Bool
 |[],c=>(c,true)
 |y::l,c=>if(Dl c y).2=true then BH l (Dl c y).1 else Dl c y
theorem Oh:∀(l l':List Ax) (c:Co),BH (l++l') c=if(BH l c).2=true then BH l' (BH l c).1 else BH l c
 |[],l',c=>by rw[List.nil_append,BH,if_pos rfl]
 |y::l,l',c=>by
  rw[List.cons_append,BH,BH]
  by_cases h:(Dl c y).2=true
  ·rw[if_pos h,if_pos h,Oh l l']
  ·rw[if_neg h,if_neg h,if_neg h]
mutual
theorem Wl (x:Lr) (m:Ms):∀(z:Ax) (c:Co),Iu x m z c=BH (WD x m z) c
 | .mk k tx t th el,c=>by
  rw[Iu,WD]
  split
  ·split
   ·exact Ic x m th c
   ·exact Ic x m el c
  ·rw[BH,BH]
   split
   ·rename_i h;exact Prod.ext rfl h
   ·rfl
theorem Ic (x:Lr) (m:Ms):∀(l:List Ax) (c:Co),BE x m l c=BH (Cz x m l) c
 |[],c=>by rw[BE,Cz,BH]
 |y::l,c=>by rw[BE,Cz,Oh,Wl x m y c,Ic x m l]
end
theorem JI {l:List Ax} {k:Nat} {c:Co} (h:k<l.length) (hc:(Dl c l[k]).2=true):BH (l.drop k) c=BH (l.drop (k+1)) (Dl c l[k]).1:=by rw[List.drop_eq_getElem_cons h,BH,if_pos hc]
theorem JH {l:List Ax} {k:Nat} {c:Co} (h:k<l.length) (hc:¬(Dl c l[k]).2=true):BH (l.drop k) c=Dl c l[k]:=by rw[List.drop_eq_getElem_cons h,BH,if_neg hc]
theorem Ab3 {c:Co} {a:Eb} (h:c.ft=0) (hc:(DN c a).2=true):(DN c a).1.ft=0:=by
 by_cases h1:c.a.any (D6 a)=true
 ·rw[SE h1] at hc;contradiction
 have h1:=eq_false_of_ne_true h1
 by_cases h2:c.a.any (Gv a)=true
 ·rw[SF h1 h2];exact h
 have h2:=eq_false_of_ne_true h2
 by_cases h3:c.a.length=6
 ·rw[SG h1 h2 h3] at hc;contradiction
 ·rw[Pd h1 h2 h3];exact h
theorem Mt {c:Co} {z:Ax} (h:c.ft=0) (hc:(Dl c z).2=true):(Dl c z).1.ft=0:=by
 by_cases k1:z.kind=10
 ·rw[Td k1];exact h
 by_cases k2:z.kind=8
 ·rw[Y1 k2];exact h
 by_cases k3:z.kind=9
 ·rw[Y2 k3];exact h
 by_cases k4:z.kind=1
 ·rw[Y0 k4];exact h
 rw[Mr k1 k2 k3 k4] at hc⊢
 exact Ab3 h hc
theorem Mu {c:Co} (z:Ax) (h:Q0 c.fl):Q0 (Dl c z).1.fl:=by
 unfold Dl DN
 repeat' split
 all_goals first|exact h|exact My _|exact AdG (My _) h
attribute [local go_sem] Dw DK BW AW Ef AJ List.map_cons List.map_nil List.cons_append List.nil_append List.length_map Bi in
theorem Tk (T:Ap) (hL:Bw T) (x:Lr) (m:Ms) (jo:VT x m) (hs:x.s.length<=9223372036854775807) (l:List Ax) (hll:l.length*208<=140737488355328) (hsz:(Cz x m l).length<=1048576) (okl:∀y∈l,y.Ok) (jcl:∀y∈l,JC y) (ihthn:∀y∈l,PC prog T 40 [.d (.slc 12 (Fw y)),.agg (Dw x),.agg (DK m)] (.d (.slc 12 ((Cz x m y.thn).map AW)))) (ihels:∀y∈l,PC prog T 40 [.d (.slc 12 (E6 y)),.agg (Dw x),.agg (DK m)] (.d (.slc 12 ((Cz x m y.els).map AW)))):PC prog T 40 [.d (.slc 12 (l.map AW)),.agg (Dw x),.agg (DK m)] (.d (.slc 12 ((Cz x m l).map AW))):=by
 refine⟨call40,Ar.enterS func40 rfl ntmps40 rfl λhb=>?_⟩
 simp only[go_sem,results40]
 refine Zx (Zy ?_)
 intro b4
 first|intro fb4|have fb4:=True.intro
 try simp only[Ab] at fb4
 intro b5
 first|intro fb5|have fb5:=True.intro
 try simp only[Ab] at fb5
 refine Zp 89 ?_
 refine Zs (Zp 31 ?_)
 refine Aa.block (Zy ?_)
 refine Bs 7 12 rfl rfl ZD λw0 fw0=>?_
 try simp only[Ae] at fw0
 refine Zy ?_
 refine Zl 7 24 (λn lc hc=> ∃(k w:Nat),n=l.length-k/\Av lc [(7,.own w 12 ((Cz x m (l.take k)).map AW)),(8,.d (.int .i64 (k:Nat)))]/\Av hc (⟨[(b5,⟨2,1,[DK m]⟩),(b4,⟨5,1,[Dw x]⟩)],[w]⟩)/\(k<=l.length)) ?_ ?_
 · refine ⟨_,0,w0,rfl,?_,ZE,ZI⟩
   · (try simp only[go_sem])<;>first|exact⟨rfl⟩|(constructor;simp[Cz];done)
 rintro _ _ _ ⟨k,w,rfl,⟨rfl⟩,⟨rfl⟩,h1⟩
 refine Zy ?_
 refine Zs (Zp 287 ?_)
 refine Zc (λhc0=>?_) λhc0=>?_
 ·have hlt:k<l.length:=by omega
  have hki:(k:Int)<(l.length:Int):=by omega
  have okk:=okl _ (List.getElem_mem hlt)
  have jk:=jcl _ (List.getElem_mem hlt)
  obtain⟨s1,s2,s3,s4,s5,s6⟩:=okk.inv
  have hq:=YK x m l (k+1)
  rw[N3 hlt,List.length_append] at hq
  have zf1:=λd0_=>Al AW l k d0_ hlt
  refine Zk ?_
  refine Zs (Aa.block (Zp 2079 ?_))
  refine Zc (λhc1=>?_) λhc1=>?_
  ·have ex:= @AgU x m (l[k]) (by first|exact hc1|omega)
   rw[ex,List.length_singleton] at hq
   refine Zq λK_ k_=>?_
   simp only[go_sem,zf1,hki]
   refine ZW λt1 ft1=>?_
   try simp only[Ae] at ft1
   refine Zy ?_
   refine k_ _ _ (Ai (Ac ?_))
   refine Zm 31 ?_
   refine Z6 ?_
   refine Ze 7 24 [] [] [b5,b4] [t1] (.e ⟨_,ZM,k+1,t1,rfl,?_,ZE,ZN⟩)
   · (try simp only[go_sem])<;>first|exact⟨rfl⟩|(constructor;first|(rw[N3 hlt,ex,List.map_append];done)|(rw[N3 hlt,ex,List.map_append];rfl)|(rw[N3 hlt,ex,List.map_append];simp[AW,Ef];done))
  have hk2:(l[k]).kind=2:=by first|exact hc1|omega
  refine Zd true [0,1,2,3,4,5,6,7] ?_
  simp only[go_sem, *]
  refine ZP (AfR T hL x m jo hs (l[k]).test s2 (jk.inv.2.2.2.2.1 hk2)) ?_
  refine Zy ?_
  refine Zm 8223 ?_
  refine Zc (λhc2=>?_) λhc2=>?_
  ·have ex:=AgV hk2 hc2
   rw[ex] at hq
   refine Zt true [0,1,2,3,4,5,6,7,8,9,10] λK_ k_=>?_
   simp only[go_sem, *]
   refine ZP (ihthn _ (List.getElem_mem hlt)) ?_
   refine Zy ?_
   refine ZW λt2 ft2=>?_
   try simp only[Ae] at ft2
   refine Zy ?_
   refine k_ _ _ (Ai (Ac ?_))
   refine Zm 31 ?_
   refine Z6 ?_
   refine Ze 7 24 [] [] [b5,b4] [t2] (.e ⟨_,ZM,k+1,t2,rfl,?_,ZE,ZN⟩)
   · (try simp only[go_sem])<;>first|exact⟨rfl⟩|(constructor;first|(rw[N3 hlt,ex,List.map_append];done)|(rw[N3 hlt,ex,List.map_append];rfl)|(rw[N3 hlt,ex,List.map_append];simp[AW,Ef];done))
  have ex:=AgT (x:=x) (m:=m) hk2 (by first|exact hc2|simp[hc2])
  rw[ex] at hq
  refine Zt true [0,1,2,3,4,5,6,7,8,9,10] λK_ k_=>?_
  simp only[go_sem, *]
  refine ZP (ihels _ (List.getElem_mem hlt)) ?_
  refine Zy ?_
  refine ZW λt3 ft3=>?_
  try simp only[Ae] at ft3
  refine Zy ?_
  refine k_ _ _ (Ai (Ac ?_))
  refine Zm 31 ?_
  refine Z6 ?_
  refine Ze 7 24 [] [] [b5,b4] [t3] (.e ⟨_,ZM,k+1,t3,rfl,?_,ZE,ZN⟩)
  · (try simp only[go_sem])<;>first|exact⟨rfl⟩|(constructor;first|(rw[N3 hlt,ex,List.map_append];done)|(rw[N3 hlt,ex,List.map_append];rfl)|(rw[N3 hlt,ex,List.map_append];simp[AW,Ef];done))
 have htk:l.take k=l:=List.take_of_length_le ZO
 rw[htk]
 refine Z4 ?_
 refine Zm 8 ?_
 refine Zp 1 (Aa.ret ?_)
 simp only[go_sem]
 skip
end
section
theorem Abh {P:Program} {T:Ap} {c:Code} {Q:AQ} {sl:List AV} {b k cc:Nat} {rows rows':List (List AV)} {F:Af} {L:List Nat} (hr:Cv rows rows') (H:Aa P T c Q sl ⟨(b,⟨k,cc,rows'⟩)::F,L⟩):Aa P T c Q sl ⟨(b,⟨k,cc,rows⟩)::F,L⟩:=by
 refine Aa.leH (h':=⟨(b,⟨k,cc,rows'⟩)::F,L⟩) (λT G w S=>⟨S.below,S.glob,S.frz,S.fin,λp hp=>?_,S.nd,S.liv,S.tdis,S.todis,S.lnd⟩) H
 rcases List.mem_cons.1 hp with rfl|h9
 ·exact LW.le (o:=⟨k,cc,rows⟩) (o':=⟨k,cc,rows'⟩) rfl rfl hr (S.obj (b,⟨k,cc,rows⟩) (List.mem_cons_self ..))
 ·exact S.obj p (List.mem_cons_of_mem _ h9)
theorem Afg (T:Ap) (hL:Bw T) (x:Lr) (m:Ms) (jo:VT x m) (hs:x.s.length<=9223372036854775807):∀(l:List Ax),l.length*208<=140737488355328->DI l<=1048576->(∀y∈l,y.Ok)->(∀y∈l,JC y)->PC prog T 40 [.d (.slc 12 (l.map AW)),.agg (Dw x),.agg (DK m)] (.d (.slc 12 ((Cz x m l).map AW))):=by
 have H:∀z:Ax,Rc z<=1048576->z.Ok->JC z->PC prog T 40 [.d (.slc 12 (Fw z)),.agg (Dw x),.agg (DK m)] (.d (.slc 12 ((Cz x m z.thn).map AW)))/\PC prog T 40 [.d (.slc 12 (E6 z)),.agg (Dw x),.agg (DK m)] (.d (.slc 12 ((Cz x m z.els).map AW))):=λz=>by
  induction z using Ax.ind with
  | h z i1 i2=>
   intro hz ok jc
   rw[Mq] at hz
   obtain⟨_,_,s3,s4,s5,s6⟩:=ok.inv
   obtain⟨_,_,_,_,_,ja,je⟩:=jc.inv
   have h1:=GA x m z.thn
   have h2:=GA x m z.els
   refine⟨?_,?_⟩
   ·rw[D2]
    exact Tk T hL x m jo hs z.thn s3 ZO s5 ja (λy hy=>(i1 y hy (by have:=CQ hy;omega) (s5 y hy) (ja y hy)).1) (λy hy=>(i1 y hy (by have:=CQ hy;omega) (s5 y hy) (ja y hy)).2)
   ·rw[C1]
    exact Tk T hL x m jo hs z.els s4 ZO s6 je (λy hy=>(i2 y hy (by have:=CQ hy;omega) (s6 y hy) (je y hy)).1) (λy hy=>(i2 y hy (by have:=CQ hy;omega) (s6 y hy) (je y hy)).2)
 intro l hll hz ok jc
 have h1:=GA x m l
 exact Tk T hL x m jo hs l hll ZO ok jc (λy hy=>(H y (by have:=CQ hy;omega) (ok y hy) (jc y hy)).1) (λy hy=>(H y (by have:=CQ hy;omega) (ok y hy) (jc y hy)).2)
theorem KD {l:List Ax} {x:Lr} (h:CU l=0) (h2:(RB x).2.2=0):BR l x=((BH (Cz x (BA x) l) GR).1,0):=by rw[Tv h h2,Ic]
theorem AeM:Q0 GR.fl:=⟨false,false,false,false,false,rfl⟩
attribute [local go_sem] Dw DK No Bi List.length_map in
theorem SA (T:Ap) (hL:Bw T) (l:List Ax) (x:Lr) (hz:DI l<=1048576) (zz:Szd l) (xo:XK x):PC prog T 18 [.d (.slc 12 (l.map AW)),.agg (Dw x)] (.tup [.agg (No (BR l x).1),.d (.int .i64 (BR l x).2)]):=by
 refine⟨call18,Ar.enterS func18 rfl ntmps18 rfl λhb=>?_⟩
 have hJ:PC prog T 36 [.agg (Dw x)] (.tup [.agg (DK (BA x)),.d (.int .i64 (RB x).2.2)]):=by
   have:=SC T hL x.a1 x.a2 x.c1 x.c2 x.s xo.h
   exact this
 simp only[go_sem,results18]
 refine Zx (Zy ?_)
 intro b3
 first|intro fb3|have fb3:=True.intro
 try simp only[Ab] at fb3
 intro b4
 first|intro fb4|have fb4:=True.intro
 try simp only[Ab] at fb4
 refine Z1 45 (L2 T hL l zz.hll zz.ok zz.hl zz.rd zz.hx) ?_
 refine Zs (Zp 47 ?_)
 refine Zc (λhc0=>?_) λhc0=>?_
 ·refine Zp 12 (Aa.ret ?_)
  simp only[go_sem,fb4]
  rw[Tw hc0];simp[GR,By]
 refine Zk ?_
 refine Zx ?_
 simp only[go_sem,fb4]
 refine ZP (hJ) ?_
 refine Zy ?_
 intro b7 fb7
 try simp only[Ab] at fb7
 refine Zm 31 ?_
 refine Zs (Zp 95 ?_)
 refine Zc (λhc1=>?_) λhc1=>?_
 ·refine Zp 12 (Aa.ret ?_)
  simp only[go_sem,fb4,fb7]
  rw[Ty ZO hc1];simp[GR,By]
 have hz1:CU l=0:=by omega
 have hz2:(RB x).2.2=0:=by omega
 have hfj:=P8 x (BA x) l zz.ok (UE hz1 zz.rd)
 have hfb:=GA x (BA x) l
 refine Zk ?_
 refine Zx (Zy ?_)
 intro b8 fb8
 try simp only[Ab] at fb8
 refine Z1 100 (Afg T hL x (BA x) (T2 hz2) xo.hs l zz.hll hz zz.ok (UE hz1 zz.rd)) ?_
 refine Zs (Zy ?_)
 refine Abh (rows':=[[.d (.slc 3 (By GR.a)),.d (.int .i64 GR.fl),.d (.bool GR.ak),.d (.int .i64 GR.ft)]]) (by simp[Cv,Bj,Aj,Ay,By,GR,AV.one]) ?_
 refine Zp 15 ?_
 refine Aa.block (Zy ?_)
 refine Zl 7 8 (λn lc hc=> ∃(k:Nat) (Y:Co),n=(Cz x (BA x) l).length-k/\Av lc [(10,.d (.int .i64 (k:Nat)))]/\Av hc (⟨[(b8,⟨4,1,[[.d (.slc 3 (By Y.a)),.d (.int .i64 Y.fl),.d (.bool Y.ak),.d (.int .i64 Y.ft)]]⟩),(b7,⟨2,1,[DK (BA x)]⟩),(b4,⟨4,1,[[.nils,.d (.int .i64 0),.d (.bool false),.d (.int .i64 0)]]⟩),(b3,⟨5,1,[Dw x]⟩)],[]⟩)/\(k<=(Cz x (BA x) l).length)/\(BH (Cz x (BA x) l) GR=BH ((Cz x (BA x) l).drop k) Y)/\(Y.ft=0)/\(Q0 Y.fl)/\(Y.a.length<=6)) ?_ ?_
 · refine ⟨_,0,GR,rfl,ZE,ZE,?_,?_,?_,?_,?_⟩
   all_goals(first|omega|rfl|exact AeM|(simp[GR];done))
 rintro _ _ _ ⟨k,Y,rfl,⟨rfl⟩,⟨rfl⟩,m1,m2,m3,m4,m5⟩
 refine Zy ?_
 refine Zs (Zp 143 ?_)
 refine Zc (λhc2=>?_) λhc2=>?_
 ·have hlt:k<(Cz x (BA x) l).length:=by omega
  have hki:(k:Int)<((Cz x (BA x) l).length:Int):=by omega
  obtain⟨okk,jk,hk2⟩:=hfj _ (List.getElem_mem hlt)
  have zf1:=λd0_=>Al AW (Cz x (BA x) l) k d0_ hlt
  refine Zk ?_
  refine Zs (Aa.block (Kn true (.seg 1 (.seg 2 (.seg 3 (.many (.alt 0 (.many (.alt 4 (.seg 5 (.seg 6 (.seg 7 (.seg 8 (.seg 9 (.seg 10 (.seg 11 .done))))))) (.alt 9 (.seg 4 (.seg 5 (.seg 6 (.seg 7 (.seg 8 (.seg 10 (.seg 11 .done))))))) .nil))) (.alt 4 (.many (.alt 0 (.seg 5 (.seg 6 (.seg 7 (.seg 8 (.seg 9 (.seg 10 (.seg 11 .done))))))) (.alt 9 (.seg 0 (.seg 5 (.seg 6 (.seg 7 (.seg 8 (.seg 10 (.seg 11 .done))))))) .nil))) (.alt 9 (.seg 0 (.seg 4 (.seg 5 (.seg 6 (.seg 7 (.seg 8 (.seg 10 (.seg 11 .done)))))))) .nil))))))) rfl (by kernel_rfl) λK_ hK_=>?_))
  simp only[go_sem,fb8,zf1,hki]
  refine⟨?_,?_,?_⟩
  ·refine⟨?_,?_⟩
   ·refine Aw rfl rfl rfl rfl (Aaj T hL Y ((Cz x (BA x) l)[k]) okk jk hk2 m3 m4 m5) rfl rfl ?_
    refine Zy ?_
    intro b11 fb11
    try simp only[Ab] at fb11
    refine hK_ _ _ ?_
    refine Zm 63 ?_
    refine Zp 47 ?_
    refine Zp 79 ?_
    refine Zc (λhc3=>?_) λhc3=>?_
    ·have e2:BH (Cz x (BA x) l) GR=Dl Y ((Cz x (BA x) l)[k]):=by rw[m2];exact JH hlt (by simpa using hc3)
     refine Aa.exit (EG ZD (Ak (Ak (Bh (Ac ?_)))))
     refine Zp 3 (Aa.ret ?_)
     simp only[go_sem, *]
     rw[KD hz1 hz2,e2];simp[]
    have hok:(Dl Y ((Cz x (BA x) l)[k])).2=true:=by simpa using hc3
    have e2:BH (Cz x (BA x) l) GR=BH ((Cz x (BA x) l).drop (k+1)) (Dl Y ((Cz x (BA x) l)[k])).1:=by rw[m2];exact JI hlt hok
    refine Z5 ?_
    refine Z6 ?_
    refine Ze 7 8 [b11] [] [b8,b7,b4,b3] [] (.e ⟨_,ZM,k+1,(Dl Y ((Cz x (BA x) l)[k])).1,rfl,ZE,ZE,?_,?_,?_,?_,?_⟩)
    all_goals first|omega|exact e2|exact Mt m3 hok|exact Mu _ m4|exact IO m5 _
   ·intro b11
    first|intro fb11|have fb11:=True.intro
    try simp only[Ab] at fb11
    refine Aw rfl rfl rfl rfl (Aaj T hL Y ((Cz x (BA x) l)[k]) okk jk hk2 m3 m4 m5) rfl rfl ?_
    simp only[go_sem,fb11]
    refine hK_ _ _ ?_
    refine Zm 63 ?_
    refine Zp 47 ?_
    refine Zp 79 ?_
    refine Zc (λhc3=>?_) λhc3=>?_
    ·have e2:BH (Cz x (BA x) l) GR=Dl Y ((Cz x (BA x) l)[k]):=by rw[m2];exact JH hlt (by simpa using hc3)
     refine Aa.exit (EG ZD (Ak (Ak (Bh (Ac ?_)))))
     refine Zp 3 (Aa.ret ?_)
     simp only[go_sem, *]
     rw[KD hz1 hz2,e2];simp[]
    have hok:(Dl Y ((Cz x (BA x) l)[k])).2=true:=by simpa using hc3
    have e2:BH (Cz x (BA x) l) GR=BH ((Cz x (BA x) l).drop (k+1)) (Dl Y ((Cz x (BA x) l)[k])).1:=by rw[m2];exact JI hlt hok
    refine Z5 ?_
    refine Z6 ?_
    refine Ze 7 8 [b11] [] [b8,b7,b4,b3] [] (.e ⟨_,ZM,k+1,(Dl Y ((Cz x (BA x) l)[k])).1,rfl,ZE,ZE,?_,?_,?_,?_,?_⟩)
    all_goals first|omega|exact e2|exact Mt m3 hok|exact Mu _ m4|exact IO m5 _
  ·refine⟨?_,?_⟩
   ·refine Aw rfl rfl rfl rfl (Aaj T hL Y ((Cz x (BA x) l)[k]) okk jk hk2 m3 m4 m5) rfl rfl ?_
    refine Zy ?_
    intro b11 fb11
    try simp only[Ab] at fb11
    refine hK_ _ _ ?_
    refine Zm 63 ?_
    refine Zp 47 ?_
    refine Zp 79 ?_
    refine Zc (λhc3=>?_) λhc3=>?_
    ·have e2:BH (Cz x (BA x) l) GR=Dl Y ((Cz x (BA x) l)[k]):=by rw[m2];exact JH hlt (by simpa using hc3)
     refine Aa.exit (EG ZD (Ak (Ak (Bh (Ac ?_)))))
     refine Zp 3 (Aa.ret ?_)
     simp only[go_sem, *]
     rw[KD hz1 hz2,e2];simp[]
    have hok:(Dl Y ((Cz x (BA x) l)[k])).2=true:=by simpa using hc3
    have e2:BH (Cz x (BA x) l) GR=BH ((Cz x (BA x) l).drop (k+1)) (Dl Y ((Cz x (BA x) l)[k])).1:=by rw[m2];exact JI hlt hok
    refine Z5 ?_
    refine Z6 ?_
    refine Ze 7 8 [b11] [] [b8,b7,b4,b3] [] (.e ⟨_,ZM,k+1,(Dl Y ((Cz x (BA x) l)[k])).1,rfl,ZE,ZE,?_,?_,?_,?_,?_⟩)
    all_goals first|omega|exact e2|exact Mt m3 hok|exact Mu _ m4|exact IO m5 _
   ·intro b11
    first|intro fb11|have fb11:=True.intro
    try simp only[Ab] at fb11
    simp only[go_sem,fb11]
    refine Aw rfl rfl rfl rfl (Aaj T hL Y ((Cz x (BA x) l)[k]) okk jk hk2 m3 m4 m5) rfl rfl ?_
    simp only[go_sem,fb11]
    refine hK_ _ _ ?_
    refine Zm 63 ?_
    refine Zp 47 ?_
    refine Zp 79 ?_
    refine Zc (λhc3=>?_) λhc3=>?_
    ·have e2:BH (Cz x (BA x) l) GR=Dl Y ((Cz x (BA x) l)[k]):=by rw[m2];exact JH hlt (by simpa using hc3)
     refine Aa.exit (EG ZD (Ak (Ak (Bh (Ac ?_)))))
     refine Zp 3 (Aa.ret ?_)
     simp only[go_sem, *]
     rw[KD hz1 hz2,e2];simp[]
    have hok:(Dl Y ((Cz x (BA x) l)[k])).2=true:=by simpa using hc3
    have e2:BH (Cz x (BA x) l) GR=BH ((Cz x (BA x) l).drop (k+1)) (Dl Y ((Cz x (BA x) l)[k])).1:=by rw[m2];exact JI hlt hok
    refine Z5 ?_
    refine Z6 ?_
    refine Ze 7 8 [b11] [] [b8,b7,b4,b3] [] (.e ⟨_,ZM,k+1,(Dl Y ((Cz x (BA x) l)[k])).1,rfl,ZE,ZE,?_,?_,?_,?_,?_⟩)
    all_goals first|omega|exact e2|exact Mt m3 hok|exact Mu _ m4|exact IO m5 _
  ·intro b11
   first|intro fb11|have fb11:=True.intro
   try simp only[Ab] at fb11
   simp only[go_sem,fb11]
   refine Aw rfl rfl rfl rfl (Aaj T hL Y ((Cz x (BA x) l)[k]) okk jk hk2 m3 m4 m5) rfl rfl ?_
   simp only[go_sem,fb11]
   refine hK_ _ _ ?_
   refine Zm 63 ?_
   refine Zp 47 ?_
   refine Zp 79 ?_
   refine Zc (λhc3=>?_) λhc3=>?_
   ·have e2:BH (Cz x (BA x) l) GR=Dl Y ((Cz x (BA x) l)[k]):=by rw[m2];exact JH hlt (by simpa using hc3)
    refine Aa.exit (EG ZD (Ak (Ak (Bh (Ac ?_)))))
    refine Zp 3 (Aa.ret ?_)
    simp only[go_sem, *]
    rw[KD hz1 hz2,e2];simp[]
   have hok:(Dl Y ((Cz x (BA x) l)[k])).2=true:=by simpa using hc3
   have e2:BH (Cz x (BA x) l) GR=BH ((Cz x (BA x) l).drop (k+1)) (Dl Y ((Cz x (BA x) l)[k])).1:=by rw[m2];exact JI hlt hok
   refine Z5 ?_
   refine Z6 ?_
   refine Ze 7 8 [b11] [] [b8,b7,b4,b3] [] (.e ⟨_,ZM,k+1,(Dl Y ((Cz x (BA x) l)[k])).1,rfl,ZE,ZE,?_,?_,?_,?_,?_⟩)
   all_goals first|omega|exact e2|exact Mt m3 hok|exact Mu _ m4|exact IO m5 _
 have e2:BH (Cz x (BA x) l) GR=(Y,true):=by rw[m2,List.drop_eq_nil_of_le ZO,BH]
 refine Z4 ?_
 refine Zp 3 (Aa.ret ?_)
 simp only[go_sem, *]
 rw[KD hz1 hz2,e2];simp[m3]
end
section
attribute [local go_sem] Bc EQ AA CJ D8 in
theorem AeP (T:Ap) (s:St) (hb:s.boxes.length<=1000) (hm:∀y∈s.boxes,y.mails.length<=1000) (hs:s.spool.length<=1000) (F:Af) (L:List Nat):AC prog T 101 [.agg (An s)] (⟨F,L⟩) (λr h=> ∃(l:List BM) (bb cb u:Nat),CM l=s.boxes/\(cb=0->l=[])/\Ae u L/\r= .ret (.agg [mA bb 3 cb l.length,.own u 6 (At s.spool)])/\h=⟨mO bb 3 cb (Au l) (A8 l F),u::L⟩):=by
 refine⟨call101,Ao.enterS func101 rfl ntmps101 rfl λhb=>?_⟩
 simp only[go_sem,results101]
 refine Zx (Zy ?_)
 intro b1 fb1
 try simp only[Ab] at fb1
 intro b2 fb2
 try simp only[Ab] at fb2
 refine Zx (Zy ?_)
 intro b3 fb3
 try simp only[Ab] at fb3
 refine Zs (Zp 30 ?_)
 refine Aa.block (Zy ?_)
 refine Aa.leH (BO.ord [] [] [b1] [] _) ?_
 simp only[go_sem,fb2,fb3]
 refine X1 1 [[.slc 3 (A3 s.boxes),.slc 6 (At s.spool)]] rfl rfl (Nat.zero_lt_succ _) ZD ZX ?_
 refine Zy ?_
 refine CA (b:=b3) (i:=0) (j:=0) (k:=3) (ob:=⟨2,1,[[.nils,.nils]]⟩) (r:=[.nils,.nils]) (by simp[A9]) rfl rfl ?_
 refine Zl 7 8 (λn lc hc=> ∃(k:Nat) (l:List BM) (bb cb:Nat),n=s.boxes.length-k/\Av lc [(4,.d (.int .i64 k))]/\Av hc (⟨(b3,⟨2,1,[[mA bb 3 cb l.length,.nils]]⟩)::(b2,⟨2,1,[[.nils,.nils]]⟩)::mO bb 3 cb (Au l) (A8 l F),L⟩)/\(k<=s.boxes.length)/\(CM l=s.boxes.take k)/\(cb=0->l=[])) ⟨_,0,[],0,0,rfl,ZE,ZE,ZI,ZI,ZI⟩ ?_
 rintro _ _ _ ⟨k,l,bb,cb,rfl,⟨rfl⟩,⟨rfl⟩,h1,h2,h3⟩
 have hlk:l.length<=k/\k<=l.length:=by
   have:=congrArg List.length h2
   simp[CM,Nat.min_eq_left h1] at this
   omega
 refine Zy ?_
 refine Zs (Zp 271 ?_)
 refine Zc (λhc0=>?_) λhc0=>?_
 ·have hlt:k<s.boxes.length:=by omega
  have hki:(k:Int)<(s.boxes.length:Int):=by omega
  have hmk:=hm _ (List.getElem_mem hlt)
  have e1:=Fs
  simp only[AV.plain,AV.one] at e1
  have e2:=Fj
  unfold AV.cells at e2
  have zf1:=λd0_=>BG _ _ d0_ hlt
  refine Zk ?_
  refine Zs (Aa.block (Abe true [] [0,1,2,3,4,5,6,7,8,9,10,11] [12,13,14] rfl (by kernel_rfl) λK_ hK_=>?_))
  simp only[go_sem,hki]
  try with_reducible refine Exists.intro _ (And.intro (λ_=>(by first|rfl|(simp only[go_sem,fb1,fb2,fb3,hki,zf1,e1,e2];first|done|rfl|exact⟨by omega,rfl⟩))) ?_)
  refine Zy ?_
  try with_reducible refine Exists.intro _ (And.intro (λ_=>(by first|rfl|(simp only[go_sem,fb1,fb2,fb3,hki,zf1,e1,e2];first|done|rfl|exact⟨by omega,rfl⟩))) ?_)
  try with_reducible refine Exists.intro _ (And.intro (λ_=>(by first|rfl|(simp only[go_sem,fb1,fb2,fb3,hki,zf1,e1,e2];first|done|rfl|exact⟨by omega,rfl⟩))) ?_)
  simp only[go_sem,hki]
  try with_reducible refine Exists.intro _ (And.intro (λ_=>(by first|rfl|(simp only[go_sem,fb1,fb2,fb3,hki,zf1,e1,e2];first|done|rfl|exact⟨by omega,rfl⟩))) ?_)
  refine Zy ?_
  try with_reducible refine Exists.intro _ (And.intro (λ_=>(by first|rfl|(simp only[go_sem,fb1,fb2,fb3,hki,zf1,e1,e2];first|done|rfl|exact⟨by omega,rfl⟩))) ?_)
  simp only[go_sem,zf1]
  try with_reducible refine Exists.intro _ (And.intro (λ_=>(by first|rfl|(simp only[go_sem,fb1,fb2,fb3,hki,zf1,e1,e2];first|done|rfl|exact⟨by omega,rfl⟩))) ?_)
  refine Zy ?_
  try with_reducible refine Exists.intro _ (And.intro (λ_=>(by first|rfl|(simp only[go_sem,fb1,fb2,fb3,hki,zf1,e1,e2];first|done|rfl|exact⟨by omega,rfl⟩))) ?_)
  refine Zy ?_
  try with_reducible refine Exists.intro _ (And.intro (λ_=>(by first|rfl|(simp only[go_sem,fb1,fb2,fb3,hki,zf1,e1,e2];first|done|rfl|exact⟨by omega,rfl⟩))) ?_)
  try with_reducible refine Exists.intro _ (And.intro (λ_=>(by first|rfl|(simp only[go_sem,fb1,fb2,fb3,hki,zf1,e1,e2];first|done|rfl|exact⟨by omega,rfl⟩))) ?_)
  simp only[go_sem,hki]
  try with_reducible refine Exists.intro _ (And.intro (λ_=>(by first|rfl|(simp only[go_sem,fb1,fb2,fb3,hki,zf1,e1,e2];first|done|rfl|exact⟨by omega,rfl⟩))) ?_)
  refine Zy ?_
  try with_reducible refine Exists.intro _ (And.intro (λ_=>(by first|rfl|(simp only[go_sem,fb1,fb2,fb3,hki,zf1,e1,e2];first|done|rfl|exact⟨by omega,rfl⟩))) ?_)
  simp only[go_sem,zf1]
  try with_reducible refine Exists.intro _ (And.intro (λ_=>(by first|rfl|(simp only[go_sem,fb1,fb2,fb3,hki,zf1,e1,e2];first|done|rfl|exact⟨by omega,rfl⟩))) ?_)
  refine Zy ?_
  intro b5 fb5
  try simp only[Ab] at fb5
  refine hK_ _ _ ?_
  refine Zm 31 ?_
  refine Zs (Zp 63 ?_)
  refine Aa.block (Zy ?_)
  refine CA (b:=b5) (i:=0) (j:=2) (k:=3) (ob:=⟨3,1,[[.d (.str (s.boxes[k]'hlt).name),.d (.int .i64 (s.boxes[k]'hlt).next),.nils]]⟩) (r:=[.d (.str (s.boxes[k]'hlt).name),.d (.int .i64 (s.boxes[k]'hlt).next),.nils]) (by simp[A9]) rfl rfl ?_
  refine Zl 31 32 (λn lc hc=> ∃(j:Nat) (m c:Nat),n=(s.boxes[k]'hlt).mails.length-j/\Av lc [(6,.d (.int .i64 j))]/\Av hc (⟨(b5,⟨3,1,[[.d (.str (s.boxes[k]'hlt).name),.d (.int .i64 (s.boxes[k]'hlt).next),mA m 3 c j]]⟩)::(b3,⟨2,1,[[mA bb 3 cb l.length,.nils]]⟩)::(b2,⟨2,1,[[.nils,.nils]]⟩)::mO m 3 c (As (A4 ((s.boxes[k]'hlt).mails.take j))) (mO bb 3 cb (Au l) (A8 l F)),L⟩)/\(j<=(s.boxes[k]'hlt).mails.length)/\(c=0->j=0)) ⟨_,0,0,0,rfl,ZE,ZE,ZI,ZI⟩ ?_
  rintro _ _ _ ⟨j,m,c,rfl,⟨rfl⟩,⟨rfl⟩,g1,hmc⟩
  refine Zy ?_
  refine Zs (Zp 16447 ?_)
  refine Zc (λhc1=>?_) λhc1=>?_
  ·have hjt:j<(s.boxes[k]'hlt).mails.length:=by omega
   have zf2:=λd0_=>CG _ _ d0_ hjt
   refine Zk ?_
   refine Zs (Aa.block (Zt true [0,1,2,3,4,5,6,7,8,9,10,11,12,13,14] λK_ k_=>?_))
   refine Z3 ?_
   refine Fx rfl (BO.pm (DT [_,_,_] ..).symm) ?_
   refine Di (b0:=m) (c0:=c) (rows:=As (A4 ((s.boxes[k]'hlt).mails.take j))) rfl rfl (by rw[AB,AA,List.length_take,Nat.min_eq_left g1];rfl) rfl (λh=>by rw[hmc h];rfl) rfl (show BL prog 92=some (112,3,32) by simp only[go_sem]) rfl rfl (Fq _) rfl ZX (by simp only[AB,AA,List.length_take,List.length_cons,List.length_nil];omega) (by simp only[AB,AA,List.length_take,List.length_cons,List.length_nil];omega) λbm cm hcm fbm=>?_
   simp only[AB,AA,List.length_take,Nat.min_eq_left g1,List.length_cons,List.length_nil,List.cons_append,List.nil_append,Ab] at fbm⊢
   simp only[go_sem,fb5,fbm]
   refine k_ _ _ (Ai (Ac ?_))
   refine Zn 63 ?_
   refine Aa.leH (BO.ord [] [] [b5,b3,b2,bm] [] _) ?_
   simp only[go_sem, *]
   refine Z6 ?_
   refine Ze 31 32 [] [] [b5,b3,b2] [] (.e ⟨_,ZM,j+1,bm,cm,rfl,ZE,?_,?_,?_⟩)
   · (try simp only[go_sem,fb3,fb5,fbm])<;>first|exact⟨rfl⟩|(constructor;rw[Bk hcm,AG hcm,CH hjt];simp only[As,A4,List.map_append,List.map_cons,List.map_nil,CJ])
   · omega
   · exact λh=>absurd h ZO
  have hj:j=(s.boxes[k]'hlt).mails.length:=by omega
  subst hj
  simp only[List.take_length]
  refine Z4 ?_
  refine OO 3 λK_ hK_=>?_
  simp only[List.take_succ_cons,List.take_zero,List.drop_succ_cons,List.drop_zero]
  simp only[go_sem,fb3,fb5]
  refine DW.listB (cp:=false) [_,_,_] [_] _ _ ?_
  refine Kp (he:=by first|rfl|kernel_rfl) (rows:=[[.d (.str (s.boxes[k]'hlt).name),.d (.int .i64 (s.boxes[k]'hlt).next),mA m 3 c (s.boxes[k]'hlt).mails.length]]) rfl rfl (show BL prog 51=some (94,3,48) by simp only[go_sem]) (PX rfl) rfl ZD (Nat.zero_lt_succ _) λbn fbn=>?_
  try simp only[Ab] at fbn
  refine LV.lvc ?_
  refine Zy ?_
  refine Fx rfl (BO.pm (Aap [_,_,_,_] ..)) ?_
  refine FY (b0:=bb) (c0:=cb) (rows:=Au l) (b1:=bn) (ob1:=⟨3,1,[[.d (.str (s.boxes[k]'hlt).name),.d (.int .i64 (s.boxes[k]'hlt).next),mA m 3 c (s.boxes[k]'hlt).mails.length]]⟩) rfl rfl (by rw[AF];rfl) rfl (λh=>by rw[h3 h];rfl) rfl (by simp[A9]) rfl rfl ZX (show BL prog 51=some (94,3,48) by simp only[go_sem]) (by first|(simp only[go_sem];done)|rfl) rfl (E3 l) rfl (Nat.zero_lt_succ _) (by simp only[AF,List.length_cons,List.length_nil];omega) (by simp only[AF,List.length_cons,List.length_nil];omega) λbm cm hcm fbm=>?_
  simp only[List.cons_append,List.nil_append,Ab] at fbm⊢
  simp only[go_sem, *]
  refine hK_ _ _ ?_
  refine Ai (Ac ?_)
  refine Zn 15 ?_
  refine Aa.leH (BO.ord [bn] [] [b5,b3,b2,bm] [] _) ?_
  simp only[go_sem, *]
  refine Aa.leH (BO.pm (Af8 [_,_,_] (bm:=bm) (cm:=cm) l (⟨(s.boxes[k]'hlt),m,c,λh=>List.eq_nil_of_length_eq_zero (hmc h)⟩:BM) F hcm)) ?_
  simp only[List.cons_append,List.nil_append]
  refine Z6 ?_
  refine Ze 7 8 [b5] [] [b3,b2] [] (.e ⟨_,ZM,k+1,l++[(⟨(s.boxes[k]'hlt),m,c,λh=>List.eq_nil_of_length_eq_zero (hmc h)⟩:BM)],bm,cm,rfl,ZE,?_,?_,?_,?_⟩)
  · (try simp only[go_sem,fb3,fb5])<;>first|exact⟨rfl⟩|(constructor;rw[AG hcm];simp)
  · omega
  · rw [Hl,h2,CH hlt]
  · exact λh=>absurd h ZO
 refine Z4 ?_
 refine Zs (Zp 23 ?_)
 refine Zy ?_
 refine CC b3 0 1 6 (by(try simp only[go_sem,fb3])<;>rfl) rfl rfl ZD λt0 ft0=>?_
 try simp only[Ae] at ft0
 simp only[go_sem,fb3]
 refine Aa.block (Zl 7 8 (λn lc hc=> ∃(q u:Nat),n=s.spool.length-q/\Av lc [(7,.d (.int .i64 q))]/\Av hc (⟨(b3,⟨2,1,[[mA bb 3 cb l.length,.own u 6 (At (s.spool.take q))]]⟩)::(b2,⟨2,1,[[.nils,.nils]]⟩)::mO bb 3 cb (Au l) (A8 l F),u::L⟩)/\(q<=s.spool.length)/\(Ae u L)) ?_ ?_)
 · refine ⟨_,0,t0,rfl,ZE,ZE,?_,?_⟩
   all_goals(first|omega|assumption)
 rintro _ _ _ ⟨q,u,rfl,⟨rfl⟩,⟨rfl⟩,q1,hu⟩
 refine Zy ?_
 refine Zs (Zp 271 ?_)
 refine Zc (λhc2=>?_) λhc2=>?_
 ·have hqt:q<s.spool.length:=by omega
  have zf3:=λd0_=>DG s.spool q d0_ hqt
  refine Zk ?_
  refine Zs (Aa.block (Zt true [0,1,2,3,4,5,6,7,8,9,10] λK_ k_=>?_))
  refine Z3 ?_
  refine ZW λt1 ft1=>?_
  try simp only[Ae] at ft1
  simp only[go_sem,fb3]
  refine k_ _ _ (Ai (Ac ?_))
  refine Zm 15 ?_
  refine Z6 ?_
  refine Ze 7 8 [] [] [b3,b2] [t1] (.e ⟨_,ZM,q+1,t1,rfl,ZE,?_,?_,?_⟩)
  · (try simp only[go_sem,fb3])<;>first|exact⟨rfl⟩|(constructor;rw[CH hqt];simp only[At,List.map_append,List.map_cons,List.map_nil,D8];done)
  all_goals first|omega|exact ft1|exact ft1.2
 have hq:s.spool.take q=s.spool:=List.take_of_length_le ZO
 refine Z4 ?_
 refine Zp 2 (Aa.ret ?_)
 apply Ah [b2,b3] [] [] [] ZH
 · exact ⟨l,bb,cb,u,by rw[h2,List.take_of_length_le ZO],h3,hu,rfl,by simp[go_sem]⟩
 · simp [Aj,Bj,Ad9]
end
section
attribute [local go_sem] Bc D8 C7 in
theorem IE (T:Ap) (l:List BN) (hl:l.length<=10000000000000):PC prog T 23 [.d (.slc 6 (At l)),.d (.slc 6 (At l))] (.d (.bool true)):=by
 refine⟨call23,Ar.enterS func23 rfl ntmps23 rfl λhb=>?_⟩
 simp only[go_sem,results23]
 refine Zp 3 ?_
 refine Zs (Zp 67 ?_)
 refine Zc (λhc0=>?_) λhc0=>?_
 ·exact absurd hc0 ZX
 refine Zk ?_
 refine Zs (Zp 7 ?_)
 refine Aa.block (Zy ?_)
 refine Zl 3 4 (λn lc hc=> ∃(k:Nat),n=l.length-k/\Av lc [(5,.d (.int .i64 k))]/\Av hc (⟨[],[]⟩)/\(k<=l.length)) ⟨_,0,rfl,ZE,ZE,ZI⟩ ?_
 rintro _ _ _ ⟨k,rfl,⟨rfl⟩,⟨rfl⟩,h1⟩
 refine Zy ?_
 refine Zs (Zp 71 ?_)
 refine Zc (λhc1=>?_) λhc1=>?_
 ·have hlt:k<l.length:=by omega
  have zf1:=λd0_=>DG l k d0_ hlt
  refine Zk ?_
  refine Zs (Aa.block (Zd true [0,1,2,3,4,5,6,7,8] ?_))
  try simp only[go_sem,zf1]
  (repeat(with_reducible refine And.intro ZS ?_))
  refine Zm 4103 ?_
  refine Zc (λhc2=>?_) λhc2=>?_
  ·exact absurd hc2 ZX
  refine Z5 ?_
  refine Z6 ?_
  refine Zf 3 4 (.e ⟨_,ZM,k+1,rfl,ZE,ZE,ZN⟩)
 refine Z4 ?_
 refine Zm 0 ?_
 refine Zp 1 (Aa.ret ?_)
 try simp only[go_sem]
 all_goals done
end
section
attribute [local go_sem] Bc decide_true Bool.not_true AA EQ CJ in
theorem Lu (T:Ap) (s:St) (hb:s.boxes.length<=10000000000000) (hm:∀y∈s.boxes,y.mails.length<=10000000000000) (hs:s.spool.length<=10000000000000):PC prog T 24 [.agg (An s),.agg (An s)] (.d (.bool true)):=by
 refine⟨call24,Ar.enterS func24 rfl ntmps24 rfl λhb=>?_⟩
 simp only[go_sem,results24]
 refine Zx (Zy ?_)
 intro b2
 first|intro fb2|have fb2:=True.intro
 try simp only[Ab] at fb2
 intro b3
 first|intro fb3|have fb3:=True.intro
 try simp only[Ab] at fb3
 refine Zs (Zx ?_)
 simp only[go_sem,fb3]
 refine ZQ (λhg=>IE T s.spool ZO) ?_
 refine Zy ?_
 refine Zm 524300 ?_
 refine Zc (λhc0=>?_) λhc0=>?_
 ·exact absurd hc0 ZX
 refine Zk ?_
 refine Zs (Zp 7 ?_)
 refine Aa.block (Zy ?_)
 refine Zl 3 4 (λn lc hc=> ∃(k:Nat),n=s.boxes.length-k/\Av lc [(5,.d (.int .i64 k))]/\Av hc (⟨(b3,⟨2,1,[An s]⟩)::(b2,⟨2,1,[An s]⟩)::[],[]⟩)/\(k<=s.boxes.length)) ⟨_,0,rfl,ZE,ZE,ZI⟩ ?_
 rintro _ _ _ ⟨k,rfl,⟨rfl⟩,⟨rfl⟩,h1⟩
 refine Zy ?_
 refine Zs (Zp 135 ?_)
 refine Zc (λhc1=>?_) λhc1=>?_
 ·have hlt:k<s.boxes.length:=by omega
  have hmk:=hm _ (List.getElem_mem hlt)
  have zf1:=λd0_=>BG s.boxes k d0_ hlt
  refine Zk ?_
  refine Zs (Aa.block (Zx (Z3 ?_)))
  intro b6 fb6
  try simp only[Ab] at fb6
  refine Zm 15 ?_
  refine Zx (Z3 ?_)
  intro b7 fb7
  try simp only[Ab] at fb7
  refine Zm 31 ?_
  refine Zs (Zp 33554463 ?_)
  refine Zc (λhc2=>?_) λhc2=>?_
  ·exact absurd hc2 ZX
  refine Zk ?_
  refine Zp 63 ?_
  refine Aa.block (Zy ?_)
  refine Zl 31 32 (λn lc hc=> ∃(j:Nat),n=(s.boxes[k]'hlt).mails.length-j/\Av lc [(8,.d (.int .i64 j))]/\Av hc (⟨(b7,⟨3,1,[Nu s.boxes[k]]⟩)::(b6,⟨3,1,[Nu s.boxes[k]]⟩)::(b3,⟨2,1,[An s]⟩)::(b2,⟨2,1,[An s]⟩)::[],[]⟩)/\(j<=(s.boxes[k]'hlt).mails.length)) ⟨_,0,rfl,ZE,ZE,ZI⟩ ?_
  rintro _ _ _ ⟨j,rfl,⟨rfl⟩,⟨rfl⟩,g1⟩
  refine Zy ?_
  refine Zs (Zp 1087 ?_)
  refine Zc (λhc3=>?_) λhc3=>?_
  ·have hjt:j<(s.boxes[k]'hlt).mails.length:=by omega
   have zf2:=λd0_=>CG _ _ d0_ hjt
   refine Zk ?_
   refine Zs (Aa.block (Zd true [0,1,2,3,4,5,6,7,8,9,10] ?_))
   refine Z3 ?_
   refine Zm 131135 ?_
   refine Zc (λhc4=>?_) λhc4=>?_
   ·exact absurd hc4 ZX
   refine Z5 ?_
   refine Z6 ?_
   refine Ze 31 32 [] [] [b7,b6,b3,b2] [] (.e ⟨_,ZM,j+1,rfl,ZE,ZE,ZN⟩)
  refine Aa.exit (Ak (Ak (Bh (Ai (Ac ?_)))))
  refine Zm 7 ?_
  refine Z6 ?_
  refine Ze 3 4 [b6,b7] [] [b3,b2] [] (.e ⟨_,ZM,k+1,rfl,ZE,ZE,ZN⟩)
 refine Z4 ?_
 refine Zm 0 ?_
 refine Zp 1 (Aa.ret ?_)
 simp only[go_sem]
 all_goals done
end
end Go.Proofs.YtidldcfpmehpiaaGreatDoor
