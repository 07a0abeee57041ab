/- Texts that the law DeliverDelivers rests on, packed. -/
import Derived.Test.YtidldcfpmehpiaaGreatDoorGB
import Derived.Test.YtidldcfpmehpiaaGreatDoorDeliverDeliversK2
import Derived.Test.YtidldcfpmehpiaaGreatDoorGC
import Derived.Test.YtidldcfpmehpiaaGreatDoorGD
import Derived.Outline
import Derived.Laws.MakeOwn
import Derived.OwnWalk
import Derived.Lib.Index
import Derived.Lib.IndexMore
import Derived.RangeFuncNested
import Derived.RangeFuncBound
import Derived.RangeFuncCalls
import Derived.RangeFuncLeaves
import Derived.RangeFuncBox
import Derived.Shelf.Abstract
import Derived.Shelf.RegionOpen
import Derived.WalkKit
import Derived.OwnWalkIn
import Derived.TacticsInMore
import Derived.LoopNIn
import Derived.LoopIn
import Derived.Maps.AppendAt
import Derived.Test.YtidldcfpmehpiaaGreatDoorDeliverDeliversK0
import Derived.Test.YtidldcfpmehpiaaGreatDoorDeliverDeliversK1
set_option linter.unusedSimpArgs false
set_option linter.unusedVariables false
set_option maxRecDepth 20000
set_option maxHeartbeats 4000000
namespace Go.Proofs.YtidldcfpmehpiaaGreatDoor
open _root_.Go.Proofs.Tryz _root_.Go.Proofs.YtidldcfpmehpiaaGreatDoor.Tryz
section
def MI (s:Tx) (i:Nat):Bool:=s.any λc=>c.toNat==i
def EF (s:Tx):AV:= .d (.bool (MI s 0))
def Ec (s:Tx):List AV:=(List.range 255).map λi=> .d (.bool (MI s (i+1)))
theorem Pl (s:Tx):EF s::Ec s=(List.range 256).map λi=>AV.d (.bool (MI s i)):=by
 rw[show(256:Nat)=255+1 from rfl,List.range_succ_eq_map]
 simp[EF,Ec]
@[go_sem] theorem Hj (s:Tx):(Ec s).length=255:=by simp[Ec]
theorem AhM (c:UInt8):(c.toNat+1<=256)=True:=by have:=c.toNat_lt;simp;omega
theorem Ab6 (s:Tx) (c:UInt8):((EF s::Ec s).drop c.toNat).take 1=[.d (.bool (MI s c.toNat))]:=by
 have hc:=c.toNat_lt
 rw[Pl,<-List.map_drop,<-List.map_take,List.drop_eq_getElem_cons (by simp;omega)]
 simp
theorem Ab8 (s:Tx) (c:UInt8):(EF s::Ec s).take c.toNat++([AV.d (.bool true)]++(EF s::Ec s).drop (c.toNat+1))=EF (s++[c])::Ec (s++[c]):=by
 have hc:=c.toNat_lt
 rw[Pl,Pl]
 apply List.ext_getElem
 ·simp;omega
 ·intro i h1 h2
  have hi:i<256:=by simpa using h2
  rw[List.getElem_map,List.getElem_range]
  rcases Nat.lt_trichotomy i c.toNat with h|h|h
  ·rw[List.getElem_append_left (by simp;omega)]
   simp[MI]
   omega
  ·subst h
   rw[List.getElem_append_right (by simp;omega)]
   have e0:c.toNat-min c.toNat 256=0:=by omega
   simp[MI,e0]
  ·rw[List.getElem_append_right (by simp;omega)]
   rw[List.getElem_append_right (by simp;omega)]
   simp[MI]
   rw[show c.toNat+1+(i-min c.toNat 256-1)=i by omega]
   simp[MI]
   omega
theorem Ye (s:Tx) (c:UInt8):(EF s::Ec s).take c.toNat++(AV.d (.bool true)::(Ec s).drop c.toNat)=EF (s++[c])::Ec (s++[c]):=Ab8 s c
theorem AfP {a:Tx} {k:Nat} (h:k<a.length):a.take (k+1)=a.take k++[a.getD k 0]:=by
 rw[List.take_add_one];simp[List.getD,List.getElem?_eq_getElem h]
theorem Uk (s:Tx):Aj false (EF s) (EF s):=by simp[EF,Aj,Ay]
theorem Ab7 (s:Tx):Bj false (Ec s) (Ec s):=Q3 (by simp[Ec])
theorem QI (s:Tx):(EF s::Ec s).drop 256=[]:=by rw[List.drop_eq_nil_of_le (by simp[Hj])]
theorem Ab5 (s:Tx):(EF s::Ec s).take 256=EF s::Ec s:=by rw[List.take_of_length_le (by simp[Hj])]
theorem QJ:zI prog 269=some (EF []::Ec []):=by kernel_rfl
theorem AdB (c:UInt8):MI [32,9] c.toNat=Ed c:=by
 unfold MI Ed
 rw[Bool.eq_iff_iff]
 simp
 omega
attribute [local go_sem] Bc AhM Ab6 T5 Nat.mul_one Nat.zero_add in
theorem QH (T:Ap) (s:Tx) (c:UInt8) (b:Nat) (F:Af) (L:List Nat):AC prog T 255 [.ptr b 256 0 0,.d (.int .u8 (c.toNat:Int))] (⟨(b,⟨256,1,[EF s::Ec s]⟩)::F,L⟩) (λr h=>r= .ret (.d (.bool (MI s c.toNat)))/\h=⟨(b,⟨256,1,[EF s::Ec s]⟩)::F,L⟩):=by
 refine⟨call255,Ao.enterS func255 rfl ntmps255 rfl λhb=>?_⟩
 have hc:=c.toNat_lt
 simp only[go_sem,results255]
 refine Zp 3 ?_
 refine Zp 4 (Aa.ret ?_)
 apply Ah [] [] [] [] ZH
 · exact ⟨rfl,rfl⟩
 · simp [Aj,Ay]
attribute [local go_sem] Bc QJ AhM Ye Ab5 QI T5 Nat.mul_one Nat.zero_add in
theorem Wm (T:Ap) (s:Tx) (hs:s.length<=1000) (ha:∀c∈s,c.toNat<128):PC prog T 209 [.d (.str s)] (.tup [.agg (EF s::Ec s),.d (.bool true)]):=by
 refine⟨call209,Ar.enterS func209 rfl ntmps209 rfl λhb=>?_⟩
 simp only[go_sem,results209]
 refine Zx (Zy ?_)
 intro b2
 first|intro fb2|have fb2:=True.intro
 try simp only[Ab] at fb2
 refine Zs (Zp 11 ?_)
 refine Aa.block (Zy ?_)
 refine Zl 3 4 (λn lc hc=> ∃(i:Nat),n=s.length-i/\Av lc [(4,.d (.int .i64 i))]/\Av hc (⟨[(b2,⟨256,1,[EF (s.take i)::Ec (s.take i)]⟩)],[]⟩)/\(i<=s.length)) ?_ ?_
 · refine ⟨_,0,rfl,ZE,?_,ZI⟩
   · (try simp only[go_sem])<;>first|exact⟨rfl⟩|(constructor;simp;done)
 rintro _ _ _ ⟨i,rfl,⟨rfl⟩,⟨rfl⟩,h1⟩
 refine Zy ?_
 refine Zs (Zp 71 ?_)
 refine Zc (λhc0=>?_) λhc0=>?_
 ·have hlt:i<s.length:=by omega
  have hc:=ha _ (List.getElem_mem hlt)
  have hc2:(s.getD i 0).toNat<128:=by simpa[List.getD,hlt] using hc
  refine Zk ?_
  refine Zs (Aa.block (Zp 15 ?_))
  refine Zs (Zp 47 ?_)
  refine Zc (λhc1=>?_) λhc1=>?_
  ·exfalso
   omega
  refine Zk ?_
  refine Zr (Ai (Ac ?_))
  refine Zm 7 ?_
  refine Z6 ?_
  refine Ze 3 4 [] [] [b2] [] (.e ⟨_,ZM,i+1,rfl,ZE,?_,ZN⟩)
  · (try simp only[go_sem])<;>first|exact⟨rfl⟩|(constructor;rw[AfP hlt])
 have hk:i=s.length:=by omega
 subst hk
 rw[List.take_length]
 refine Z4 ?_
 refine Zp 6 (Aa.ret ?_)
 simp only[go_sem]
 first|(simp[Uk,Hj];done)|(simp[Uk,Hj];rw[List.take_of_length_le (by rw[Hj];decide)];exact Ab7 s)
attribute [local go_sem] Bc AdB T5 List.take_length in
theorem AaL (T:Ap) (s:Tx) (b:Nat) (F:Af) (L:List Nat) (hs:s.length<=2000000):AC prog T 210 [.d (.str s),.ptr b 256 0 0] (⟨(b,⟨256,1,[EF [32,9]::Ec [32,9]]⟩)::F,L⟩) (λr h=>r= .ret (.d (.str (CK s)))/\h=⟨(b,⟨256,1,[EF [32,9]::Ec [32,9]]⟩)::F,L⟩):=by
 refine⟨call210,Ao.enterS func210 rfl ntmps210 rfl λhb=>?_⟩
 simp only[go_sem,results210]
 refine Zp 3 ?_
 refine Zs (Aa.block (Zy ?_))
 refine Zl 2 1 (λn lc hc=> ∃(q:Tx),n=q.length/\Av lc [(0,.d (.str q))]/\Av hc (⟨(b,⟨256,1,[EF [32,9]::Ec [32,9]]⟩)::F,L⟩)/\(CK q=CK s)/\(q.length<=s.length)) ?_ ?_
 · refine ⟨_,s,rfl,ZE,ZE,?_,?_⟩
   all_goals(first|rfl|omega)
 rintro _ _ _ ⟨q,rfl,⟨rfl⟩,⟨rfl⟩,h1,h2⟩
 refine Zy ?_
 refine Zs (Zp 19 ?_)
 refine Zc (λhc0=>?_) λhc0=>?_
 ·have hp:0<q.length:=by omega
  have zf1:=MM hp
  refine Zk ?_
  refine Aa.block (Zs (Zx (Zy ?_)))
  (repeat(with_reducible refine And.intro ZS ?_))
  refine AI [b] [] rfl rfl rfl rfl ZH rfl (QH T [32,9] _ b _ _) ?_
  rintro _ _ ⟨rfl,rfl⟩
  refine Zy ?_
  refine Zm 131 ?_
  refine Zc (λhc1=>?_) λhc1=>?_
  ·have hq:CK s=q:=by rw[<-h1];exact GO (λ_=>by simpa using hc1)
   refine Aa.exit (Ak (EG ZD (Ak (Bh (Ac ?_)))))
   refine Zp 4 (Aa.ret ?_)
   apply Ah [] [] [] [] ZH
   · exact ⟨rfl,rfl⟩
   · rw [hq];simp[Aj,Ay]
  refine Zk ?_
  refine Zr (Ai (Ac ?_))
  refine Ze 2 1 [] [] [b] [] (.e ⟨_,?_,(q.drop 1),rfl,?_,ZE,?_,?_⟩)
  · first|omega|(simp;omega)|(simp;omega)
  · (try simp only[go_sem])<;>first|exact⟨rfl⟩|(constructor;simp;done)
  · rw [Nn hp hc1];exact h1
  · simp;omega
 have hq:CK s=q:=by rw[<-h1];exact GO (λhp=>by omega)
 refine Z4 ?_
 refine Zp 4 (Aa.ret ?_)
 apply Ah [] [] [] [] ZH
 · exact ⟨rfl,rfl⟩
 · rw [hq];simp[Aj,Ay]
attribute [local go_sem] Bc AdB T5 List.take_length in
theorem AaM (T:Ap) (s:Tx) (b:Nat) (F:Af) (L:List Nat) (hs:s.length<=2000000):AC prog T 211 [.d (.str s),.ptr b 256 0 0] (⟨(b,⟨256,1,[EF [32,9]::Ec [32,9]]⟩)::F,L⟩) (λr h=>r= .ret (.d (.str (Ci s)))/\h=⟨(b,⟨256,1,[EF [32,9]::Ec [32,9]]⟩)::F,L⟩):=by
 refine⟨call211,Ao.enterS func211 rfl ntmps211 rfl λhb=>?_⟩
 simp only[go_sem,results211]
 refine Zp 3 ?_
 refine Zs (Aa.block (Zy ?_))
 refine Zl 2 1 (λn lc hc=> ∃(q:Tx),n=q.length/\Av lc [(0,.d (.str q))]/\Av hc (⟨(b,⟨256,1,[EF [32,9]::Ec [32,9]]⟩)::F,L⟩)/\(Ci q=Ci s)/\(q.length<=s.length)) ?_ ?_
 · refine ⟨_,s,rfl,ZE,ZE,?_,?_⟩
   all_goals(first|rfl|omega)
 rintro _ _ _ ⟨q,rfl,⟨rfl⟩,⟨rfl⟩,h1,h2⟩
 refine Zy ?_
 refine Zs (Zp 19 ?_)
 refine Zc (λhc0=>?_) λhc0=>?_
 ·have hp:0<q.length:=by omega
  have zf1:=MM hp
  refine Zk ?_
  refine Aa.block (Zs (Zx ?_))
  simp only[go_sem,zf1]
  (repeat(with_reducible refine And.intro ZS ?_))
  refine AI [b] [] rfl rfl rfl rfl ZH rfl (QH T [32,9] _ b _ _) ?_
  rintro _ _ ⟨rfl,rfl⟩
  refine Zy ?_
  refine Zm 1027 ?_
  refine Zc (λhc1=>?_) λhc1=>?_
  ·have hq:Ci s=q:=by rw[<-h1];exact Eu (λ_=>by simpa using hc1)
   refine Aa.exit (Ak (EG ZD (Ak (Bh (Ac ?_)))))
   refine Zp 4 (Aa.ret ?_)
   apply Ah [] [] [] [] ZH
   · exact ⟨rfl,rfl⟩
   · rw [hq];simp[Aj,Ay]
  refine Zk ?_
  refine Zr (Ai (Ac ?_))
  refine Ze 2 1 [] [] [b] [] (.e ⟨_,?_,(q.take (q.length-1)),rfl,?_,ZE,?_,?_⟩)
  · first|omega|(simp;omega)|(simp;omega)
  · (try simp only[go_sem])<;>first|exact⟨rfl⟩|(constructor;simp;done)
  · rw [Je hp hc1];exact h1
  · simp;omega
 have hq:Ci s=q:=by rw[<-h1];exact Eu (λhp=>by omega)
 refine Z4 ?_
 refine Zp 4 (Aa.ret ?_)
 apply Ah [] [] [] [] ZH
 · exact ⟨rfl,rfl⟩
 · rw [hq];simp[Aj,Ay]
attribute [local go_sem] Bc QJ QI Nat.zero_add in
theorem Aem (T:Ap) (s:Tx) (hs:s.length<=2000000):PC prog T 123 [.d (.str s),.d (.str ([32,9]))] (.d (.str (EK s))):=by
 refine⟨call123,Ar.enterS func123 rfl ntmps123 rfl λhb=>?_⟩
 simp only[go_sem,results123]
 refine Zp 3 ?_
 refine Zs (Zp 131 ?_)
 refine Zc (λhc0=>?_) λhc0=>?_
 ·refine Zp 4 (Aa.ret ?_)
  simp only[go_sem]
  have h0:s=[]:=by simpa using hc0
  subst h0
  simp[EK,Ci,CK]
 refine Zk ?_
 refine Zs (Zp 1027 ?_)
 refine Zc (λhc1=>?_) λhc1=>?_
 ·exact absurd hc1 ZX
 refine Zk ?_
 refine Zs (Zx (Zy ?_))
 refine ZP (Wm T [32,9] ZD ZD) ?_
 refine Zy ?_
 intro b5
 first|intro fb5|have fb5:=True.intro
 try simp only[Ab] at fb5
 refine Zm 15 ?_
 refine Zp 23 ?_
 refine Zc (λhc2=>?_) λhc2=>?_
 ·refine Zx (Zy ?_)
  refine ZA [b5] [] (AaM T s b5 _ _ hs) ?_
  rintro _ _ ⟨rfl,rfl⟩
  refine Zy ?_
  refine ZA [b5] [] (AaL T (Ci s) b5 _ _ (Nat.le_trans (KZ s) hs)) ?_
  rintro _ _ ⟨rfl,rfl⟩
  refine Zy ?_
  refine Zm 4 ?_
  refine Aa.ret ?_
  simp only[go_sem]
  simp[EK]
 exact absurd hc2 ZX
end
section
def Lx (f:Tx×Tx):List D:=[.str f.1,.str f.2]
def AP (l:List (Tx×Tx)):List (List D):=l.map Lx
@[go_sem] theorem EW (l:List (Tx×Tx)):(AP l).length=l.length:=by simp[AP]
theorem Of (l:List (Tx×Tx)) (i:Nat) (d:List D) (h:i<l.length):(AP l).getD i d=Lx (l[i]'h):=Al Lx _ _ _ h
theorem M2 {l:List (Tx×Tx)} {i:Nat} (h:i<l.length):(As (AP l))[i]?=some [.d (.str (l.getD i ([],[])).1),.d (.str (l.getD i ([],[])).2)]:=by
 simp[As,AP,List.getD,h,Lx]
theorem M3 (l:List (Tx×Tx)) (i:Nat) (x y:Tx):(As (AP l)).set i [.d (.str x),.d (.str y)]=As (AP (l.set i (x,y))):=by
 simp[As,AP,List.map_set,Lx]
theorem Oi (l:List (Tx×Tx)):∀r∈As (AP l),r.length=2:=λr hr=>by
 simp only[As,AP,List.mem_map] at hr
 obtain⟨_,⟨f,_,rfl⟩,rfl⟩:=hr
 rfl
theorem Rm (l:List (Tx×Tx)):∀r∈AP l,r.length=2:=λr hr=>by
 simp only[AP,List.mem_map] at hr
 obtain⟨f,_,rfl⟩:=hr
 rfl
def glue (acc:List (Tx×Tx)) (t:Tx):List (Tx×Tx):=acc.set (acc.length-1) ((acc.getD (acc.length-1) ([],[])).1,(acc.getD (acc.length-1) ([],[])).2++t)
@[go_sem] theorem M4 (acc:List (Tx×Tx)) (t:Tx):(glue acc t).length=acc.length:=by simp[glue]
def Dx:Nat->List (Tx×Tx)->Nat->Tx->List (Tx×Tx)×Tx×Nat×Int
 |0,_,ln,_=>([],[],ln,4)
 |n+1,acc,ln,s=>
  if Lib.index s [13,10]<0 then([],[],ln,4)
  else if s.take (Lib.index s [13,10]).toNat=[] then(acc,s.drop ((Lib.index s [13,10]).toNat+2),0,0)
  else if Ed ((s.take (Lib.index s [13,10]).toNat).getD 0 0)=true/\0<acc.length then Dx n (glue acc (s.take (Lib.index s [13,10]).toNat)) (ln+1) (s.drop ((Lib.index s [13,10]).toNat+2))
  else if Lib.index (s.take (Lib.index s [13,10]).toNat) [58]<0 then([],[],ln,3)
  else if T7 ((s.take (Lib.index s [13,10]).toNat).take (Lib.index (s.take (Lib.index s [13,10]).toNat) [58]).toNat)=false then([],[],ln,3)
  else if acc.length=30 then([],[],ln,5)
  else Dx n (acc++[((s.take (Lib.index s [13,10]).toNat).take (Lib.index (s.take (Lib.index s [13,10]).toNat) [58]).toNat,(s.take (Lib.index s [13,10]).toNat).drop ((Lib.index (s.take (Lib.index s [13,10]).toNat) [58]).toNat+1))]) (ln+1) (s.drop ((Lib.index s [13,10]).toNat+2))
section
variable {n ln e c:Nat} {acc:List (Tx×Tx)} {s:Tx}
theorem RQ (h:Lib.index s [13,10]<0):Dx (n+1) acc ln s=([],[],ln,4):=if_pos h
theorem PK (h:Lib.index s [13,10]=(e:Nat)) (ht:s.take e=[]):Dx (n+1) acc ln s=(acc,s.drop (e+2),0,0):=by
 rw[Dx,h,if_neg ZO,if_pos (by simpa using ht)];rfl
theorem UO (h:Lib.index s [13,10]=(e:Nat)) (ht:¬s.take e=[]) (hb:Ed ((s.take e).getD 0 0)=true) (ha:0<acc.length):Dx (n+1) acc ln s=Dx n (glue acc (s.take e)) (ln+1) (s.drop (e+2)):=by
 rw[Dx,h,if_neg ZO,if_neg (by simpa using ht),if_pos (by simpa using⟨hb,ha⟩)];rfl
theorem JN (h:Lib.index s [13,10]=(e:Nat)) (ht:¬s.take e=[]) (hb:¬(Ed ((s.take e).getD 0 0)=true/\0<acc.length)) (hc:Lib.index (s.take e) [58]<0):Dx (n+1) acc ln s=([],[],ln,3):=by
 rw[Dx,h,if_neg ZO,if_neg (by simpa using ht),if_neg (by simpa using hb),if_pos (by simpa using hc)]
theorem JO (h:Lib.index s [13,10]=(e:Nat)) (ht:¬s.take e=[]) (hb:¬(Ed ((s.take e).getD 0 0)=true/\0<acc.length)) (hc:Lib.index (s.take e) [58]=(c:Nat)) (hn:T7 ((s.take e).take c)=false):Dx (n+1) acc ln s=([],[],ln,3):=by
 rw[Dx,h,if_neg ZO,if_neg (by simpa using ht),if_neg (by simpa using hb),Int.toNat_natCast,hc,if_neg ZO,if_pos (by simpa using hn)]
theorem UN (h:Lib.index s [13,10]=(e:Nat)) (ht:¬s.take e=[]) (hb:¬(Ed ((s.take e).getD 0 0)=true/\0<acc.length)) (hc:Lib.index (s.take e) [58]=(c:Nat)) (hn:T7 ((s.take e).take c)=true) (ha:acc.length=30):Dx (n+1) acc ln s=([],[],ln,5):=by
 rw[Dx,h,if_neg ZO,if_neg (by simpa using ht),if_neg (by simpa using hb),Int.toNat_natCast,hc,if_neg ZO,Int.toNat_natCast,if_neg (by simp[hn]),if_pos ha]
theorem PJ (h:Lib.index s [13,10]=(e:Nat)) (ht:¬s.take e=[]) (hb:¬(Ed ((s.take e).getD 0 0)=true/\0<acc.length)) (hc:Lib.index (s.take e) [58]=(c:Nat)) (hn:T7 ((s.take e).take c)=true) (ha:¬acc.length=30):Dx (n+1) acc ln s=Dx n (acc++[((s.take e).take c,(s.take e).drop (c+1))]) (ln+1) (s.drop (e+2)):=by
 rw[Dx,h,if_neg ZO,if_neg (by simpa using ht),if_neg (by simpa using hb),Int.toNat_natCast,hc,if_neg ZO,Int.toNat_natCast,if_neg (by simp[hn]),if_neg ha]
end
def Xx (f:Tx×Tx):Tx×Tx:=(f.1,EK f.2)
def ER (s:Tx):List (Tx×Tx)×Tx×Nat×Int:=if 2000<s.length then([],[],0,1) else((Dx (s.length+1) [] 0 s).1.map Xx,(Dx (s.length+1) [] 0 s).2)
theorem RR {s:Tx} (h:2000<s.length):ER s=([],[],0,1):=if_pos h
theorem C2 {s q:Tx} {m ln:Nat} {acc:List (Tx×Tx)} {x:List (Tx×Tx)×Tx×Nat×Int} (h:¬2000<s.length) (h2:Dx m acc ln q=Dx (s.length+1) [] 0 s) (h3:Dx m acc ln q=x):ER s=(x.1.map Xx,x.2):=by
 unfold ER;rw[if_neg h,<-h2,h3]
def OT (acc:List (Tx×Tx)) (n:Nat):Prop:=∀f∈acc,f.1.length<=2000/\f.2.length+n<=2000
theorem OT.nil (n:Nat):OT [] n:=λf hf=>by cases hf
theorem OT.le {acc:List (Tx×Tx)} {n m:Nat} (h:OT acc n) (hm:m<=n):OT acc m:=λf hf=>⟨(h f hf).1,by have:=(h f hf).2;omega⟩
theorem OT.get {acc:List (Tx×Tx)} {n i:Nat} (h:OT acc n) (hi:i<acc.length):(acc.getD i ([],[])).1.length<=2000/\(acc.getD i ([],[])).2.length+n<=2000:=by
 have:=h (acc[i]'hi) (List.getElem_mem hi)
 simpa[List.getD,hi] using this
theorem OT.glue {acc:List (Tx×Tx)} {n m:Nat} {t:Tx} (h:OT acc n) (ha:0<acc.length) (hm:m+t.length<=n):OT (glue acc t) m:=λf hf=>by
 rcases List.mem_or_eq_of_mem_set hf with hf|rfl
 ·exact h.le ZO f hf
 ·obtain⟨h1,h2⟩:=h.get (i:=acc.length-1) ZO
  exact⟨h1,by simp only[List.length_append];omega⟩
theorem OT.add {acc:List (Tx×Tx)} {n m:Nat} {x y:Tx} (h:OT acc n) (hm:m<=n) (hx:x.length<=2000) (hy:y.length+m<=2000):OT (acc++[(x,y)]) m:=λf hf=>by
 rcases List.mem_append.1 hf with hf|hf
 ·exact h.le hm f hf
 ·rw[List.mem_singleton.1 hf];exact⟨hx,hy⟩
def KL (acc:List (Tx×Tx)) (k:Nat):List (Tx×Tx):=(acc.take k).map Xx++acc.drop k
theorem Afx (acc:List (Tx×Tx)):KL acc 0=acc:=by simp[KL]
@[go_sem] theorem ZV (acc:List (Tx×Tx)) (k:Nat):(KL acc k).length=acc.length:=by simp[KL];omega
theorem ZL {acc:List (Tx×Tx)} {k:Nat} (h:acc.length<=k):KL acc k=acc.map Xx:=by
 unfold KL;rw[List.take_of_length_le h,List.drop_eq_nil_of_le h,List.append_nil]
theorem ZU {acc:List (Tx×Tx)} {k:Nat} (h:k<acc.length):(KL acc k).getD k ([],[])=acc.getD k ([],[]):=by
 unfold KL
 have hl:((acc.take k).map Xx).length=k:=by simp;omega
 rw[List.getD_eq_getElem?_getD,List.getElem?_append_right ZO,hl,Nat.sub_self,List.drop_eq_getElem_cons h]
 simp[List.getD,h]
theorem ZY {acc:List (Tx×Tx)} {k:Nat} (h:k<acc.length):(KL acc k).set k ((acc.getD k ([],[])).1,EK (acc.getD k ([],[])).2)=KL acc (k+1):=by
 unfold KL
 have hl:((acc.take k).map Xx).length=k:=by simp;omega
 rw[List.set_append_right _ _ ZO,hl,Nat.sub_self,List.drop_eq_getElem_cons h,List.set_cons_zero,List.take_add_one,List.getElem?_eq_getElem h,List.map_append,List.append_assoc]
 congr 1
 simp[List.getD,h,Xx]
theorem lix {s sub:Tx} {e:Nat} (h:Lib.index s sub=(e:Nat)):e+sub.length<=s.length:=by
 have:=Lib.index_room s sub ZO
 omega
end
section
theorem Qf (q:Tx) (e:Nat) (h:e<=q.length):(q.take e).length=e:=by simp;omega
theorem UC {c:UInt8} :Ed c=true↔((c.toNat:Int)=32\/(c.toNat:Int)=9):=by simp[Ed]
theorem RP (l:List (Tx×Tx)) (t:Tx):l.set (l.length-1) ((l.getD (l.length-1) ([],[])).1,(l.getD (l.length-1) ([],[])).2++t)=glue l t:=rfl
attribute [local go_sem] Bc T5 EW Nat.zero_add List.take_length in
theorem Abw (T:Ap) (hL:Bw T) (s:Tx):PC prog T 69 [.d (.str s)] (.tup [.agg [.d (.slc 2 (AP (ER s).1)),.d (.str (ER s).2.1)],.d (.int .i64 ((ER s).2.2.1:Nat)),.d (.int .i64 (ER s).2.2.2)]):=by
 refine⟨call69,Ar.enterS func69 rfl ntmps69 rfl λhb=>?_⟩
 simp only[go_sem,results69]
 refine Zx (Zy ?_)
 intro b2
 first|intro fb2|have fb2:=True.intro
 try simp only[Ab] at fb2
 refine Zs (Zp 67 ?_)
 refine Zc (λhc0=>?_) λhc0=>?_
 ·refine Zp 14 (Aa.ret ?_)
  simp only[go_sem]
  rw[RR ZO];simp[AP]
 have hle0:¬2000<s.length:=by omega
 refine Zk ?_
 refine Zx (Zy ?_)
 intro b5 fb5
 try simp only[Ab] at fb5
 refine Zp 15 ?_
 refine Aa.block (Zy ?_)
 refine TU [(b5,⟨2,1,[[.full 2 [],.d (.str [])]]⟩),(b2,⟨2,1,[[.nils,.d (.str [])]]⟩)] (by simp[Cy,Cv,Aj,Bj,Ay,AV.one]) ?_
 refine Zl 6 9 (λn lc hc=> ∃(m ln bf cf:Nat) (acc:List (Tx×Tx)) (q:Tx),n=q.length/\Av lc [(0,.d (.str q)),(6,.d (.int .i64 (ln:Nat)))]/\Av hc (⟨mO bf 2 cf (As (AP acc)) [(b5,⟨2,1,[[mA bf 2 cf acc.length,.d (.str [])]]⟩),(b2,⟨2,1,[[.nils,.d (.str [])]]⟩)],[]⟩)/\(q.length<=m)/\(Dx (m+1) acc ln q=Dx (s.length+1) [] 0 s)/\(acc.length<=30)/\(ln+q.length<=2000)/\(OT acc q.length)/\(cf=0->acc=[])/\(((bf==b5)=false/\(b5==bf)=false)/\(bf==b2)=false/\(b2==bf)=false)) ?_ ?_
 · refine ⟨_,s.length,0,(b5+b2+1),0,[],s,rfl,?_,?_,?_,?_,?_,?_,?_,?_,?_⟩
   · (try simp only[go_sem])<;>first|exact⟨rfl⟩|(constructor;rfl)
   · (try simp only[go_sem])<;>first|exact⟨rfl⟩|(constructor;simp[mO,mA,As,AP];done)
   all_goals(first|omega|rfl|exact OT.nil _|(intro _;rfl)|(simp<;>omega))
 rintro _ _ _ ⟨m,ln,bf,cf,acc,q,rfl,⟨rfl⟩,⟨rfl⟩,h1,h2,h3,h4,h5,h6,h7⟩
 refine Zy ?_
 refine Zs (Aa.block ?_)
 rcases(show Lib.index q [13,10]<0\/0<=Lib.index q [13,10] by omega) with hx|hx
 rotate_left
 rcases Nat.eq_zero_or_pos cf with hz|hz
 rotate_right
 ·have zf1:=λk c rows F=>UA (k:=k) (c:=c) (rows:=rows) (F:=F) h7.2.1
  have zf2:=λk c ob rows F=>Vl (k:=k) (c:=c) (ob:=ob) (rows:=rows) (F:=F) h7.2.1
  refine Z1 126 (S6 T hL q [13,10] ZO hx) ?_
  refine Zs (Aa.block (Zp 95 ?_))
  refine Zc (λhc1=>?_) λhc1=>?_
  ·refine Zp 7 (Aa.ret ?_)
   simp only[go_sem,fb5,zf1]
   rw[C2 hle0 h2 (RQ hx)];simp[AP]
  exact absurd hc1 (by first|(simp;done)|omega|(simp[*];done))
 ·obtain⟨e,he⟩:=Int.eq_ofNat_of_zero_le hx
  have hle:=lix he
  simp only[List.length_cons,List.length_nil] at hle
  have htl:=Qf q e ZO
  subst hz
  obtain rfl:acc=[]:=h6 rfl
  simp only[CF,D9]
  refine Z1 126 (L6 T hL q [13,10] ZO e he) ?_
  refine Zs (Aa.block (Zp 95 ?_))
  refine Zc (λhc1=>?_) λhc1=>?_
  ·exact absurd hc1 (by first|(simp;done)|omega|(simp[*];done))
  refine Zp 95 ?_
  refine Zc (λhc2=>?_) λhc2=>?_
  ·refine Zp 3 ?_
   refine Zs (Zp 51 ?_)
   refine Aa.block (Zy ?_)
   refine Zl 7 8 (λn lc hc=> ∃(k:Nat),n=0/\Av lc [(68,.d (.int .i64 k))]/\Av hc (⟨[(b5,⟨2,1,[[.full 2 [],.d (.str (q.drop (e+2)))]]⟩),(b2,⟨2,1,[[.nils,.d (.str [])]]⟩)],[]⟩)) ⟨_,0,rfl,ZE,ZE⟩ ?_
   rintro _ _ _ ⟨k,rfl,⟨rfl⟩,⟨rfl⟩⟩
   refine Zy ?_
   refine Zp 31 ?_
   refine Zs (Zc (λhc3=>?_) λhc3=>?_)
   ·exfalso
    simp at hc3
    omega
   refine Z4 ?_
   refine Zp 7 (Aa.ret ?_)
   simp only[go_sem,fb5]
   rw[C2 hle0 h2 (PK he hc2)];simp[AP]
  have htn:¬q.take e=[]:=by simpa using hc2
  have htp:0<(q.take e).length:=List.length_pos_iff.2 htn
  refine Zp 95 ?_
  refine Zc (λhc4=>?_) λhc4=>?_
  ·exfalso
   simp at hc4
  have hnb:¬(Ed ((q.take e).getD 0 0)=true/\0<([]:List (Tx×Tx)).length):=by simp
  rcases(show Lib.index (q.take e) [58]<0\/0<=Lib.index (q.take e) [58] by omega) with hy|hy
  ·refine Z1 247 (S6 T hL (q.take e) [58] ZO hy) ?_
   refine Zs (Zx (Zy ?_))
   refine B7 rfl rfl rfl rfl rfl (λhg=>LH T _ (by simp only[List.length_take];omega)) (λhg=>by(try simp only[go_sem])<;>first|exact hg|(exfalso;simp at hg;done)|(simpa using hg)|grind) rfl rfl ?_
   refine Zy ?_
   (repeat(with_reducible refine And.intro ZS ?_))
   refine Zm 8255 ?_
   refine Zc (λhc5=>?_) λhc5=>?_
   ·refine Zp 7 (Aa.ret ?_)
    simp only[go_sem,fb5]
    rw[C2 hle0 h2 (JN he htn hnb hy)];simp[AP]
   exact absurd hc5 (by first|(simp;done)|omega|(simp[*];done))
  obtain⟨c,hc⟩:=Int.eq_ofNat_of_zero_le hy
  have hcl:=lix hc
  simp only[List.length_cons,List.length_nil] at hcl
  refine Z1 247 (L6 T hL (q.take e) [58] ZO c hc) ?_
  refine Zs (Zx (Zy ?_))
  refine B7 rfl rfl rfl rfl rfl (λhg=>LH T _ (by simp only[List.length_take];omega)) (λhg=>by(try simp only[go_sem])<;>first|exact hg|(exfalso;simp at hg;done)|(simpa using hg)|grind) rfl rfl ?_
  refine Zy ?_
  (repeat(with_reducible refine And.intro ZS ?_))
  refine Zm 8255 ?_
  refine Zc (λhc5=>?_) λhc5=>?_
  ·refine Zp 7 (Aa.ret ?_)
   simp only[go_sem,fb5]
   rw[C2 hle0 h2 (JO he htn hnb hc (by simpa using hc5))];simp[AP]
  have hnm:T7 ((q.take e).take c)=true:=by simpa using hc5
  refine Zk ?_
  refine Zs (Zp 1087 ?_)
  refine Zc (λhc6=>?_) λhc6=>?_
  ·exfalso
   simp at hc6
  refine Zk ?_
  refine Zq λK_ k_=>?_
  simp only[go_sem,fb5]
  refine Di (b0:=0) (c0:=0) (rows:=[]) rfl rfl rfl rfl (λ_=>rfl) rfl (show BL prog 77=some (203,2,32) by simp only[go_sem]) rfl rfl ZX rfl (by first|decide|(simp;done)|omega) (by first|omega|(simp only[go_sem]<;>omega)|(simp only[go_sem,List.length_take,List.length_map,List.length_append,List.length_cons,List.length_nil]<;>omega)|(simp<;>omega)) (by first|omega|(simp only[go_sem]<;>omega)|(simp only[go_sem,List.length_take,List.length_map,List.length_append,List.length_cons,List.length_nil]<;>omega)|(simp<;>omega)) λbm1 cm1 hcm1 fbm1=>?_
  try simp only[Ab] at fbm1
  simp only[go_sem,fb5,fbm1]
  refine k_ _ _ (Ai (Ac ?_))
  refine Zm 15 ?_
  refine Zr (Ai (Ac ?_))
  refine Z6 ?_
  refine Zf 6 9 (.e ⟨_,?_,(m-1),(ln+1),bm1,cm1,([]++[((q.take e).take c,(q.take e).drop (c+1))]),(q.drop (e+2)),rfl,?_,?_,?_,?_,?_,?_,?_,?_,?_⟩)
  · first|omega|(simp;omega)|(rw[List.length_drop];omega)
  · (try simp only[go_sem])<;>first|exact⟨rfl⟩|(constructor;simp;done)
  · (try simp only[go_sem])<;>first|exact⟨rfl⟩|(constructor;rw[Bk hcm1,AG hcm1];simp[As,AP,Lx];done)
  · rw [List.length_drop];omega
  · rw [show m-1+1=m by omega,<-PJ he htn hnb hc hnm (by first|omega|(simp;done))];exact h2
  · (simp<;>omega)
  · rw [List.length_drop];omega
  · exact h5.add (by rw[List.length_drop];omega) (by simp;omega) (by rw[List.length_drop,List.length_drop];omega)
  · intro hq;omega
  · simp_all [Ab];done
 obtain⟨e,he⟩:=Int.eq_ofNat_of_zero_le hx
 have hle:=lix he
 simp only[List.length_cons,List.length_nil] at hle
 have htl:=Qf q e ZO
 simp only[AG hz,Bk hz]
 refine Z1 126 (L6 T hL q [13,10] ZO e he) ?_
 refine Zs (Aa.block (Zp 95 ?_))
 refine Zc (λhc1=>?_) λhc1=>?_
 ·exact absurd hc1 (by first|(simp;done)|omega|(simp[*];done))
 refine Zp 95 ?_
 refine Zc (λhc2=>?_) λhc2=>?_
 ·refine Zp 3 ?_
  refine Zs (Zp 51 ?_)
  refine Aa.block (Zy ?_)
  refine Zl 7 8 (λn lc hc=> ∃(k:Nat),n=acc.length-k/\Av lc [(68,.d (.int .i64 k))]/\Av hc (⟨[(bf,⟨2,cf,As (AP (KL acc k))⟩),(b5,⟨2,1,[[.arr bf 2 acc.length cf,.d (.str (q.drop (e+2)))]]⟩),(b2,⟨2,1,[[.nils,.d (.str [])]]⟩)],[]⟩)/\(k<=acc.length)) ?_ ?_
  · refine ⟨_,0,rfl,ZE,?_,?_⟩
    · (try simp only[go_sem,fb2,fb5,h7])<;>first|exact⟨rfl⟩|(constructor;rw[Afx])
    all_goals(omega)
  rintro _ _ _ ⟨k,rfl,⟨rfl⟩,⟨rfl⟩,g1⟩
  refine Zy ?_
  refine Zp 31 ?_
  refine Zs (Zc (λhc3=>?_) λhc3=>?_)
  ·have hlk:k<acc.length:=by omega
   have hlk2:k<(KL acc k).length:=by rw[ZV];exact hlk
   have hfo:=(h5.get hlk).2
   have zf3:=M2 hlk2
   have zf4:=ZU hlk
   refine Zk ?_
   refine Zs (Aa.block (Zp 31 ?_))
   refine Zt true [0,1,2,3,4,5,6,7,8,9,10,11,12] λK_ k_=>?_
   refine Z3 ?_
   refine Aw rfl rfl rfl rfl (Aem T _ ZO) rfl rfl ?_
   refine Z3 ?_
   refine k_ _ _ (Ai (Ac ?_))
   refine Zm 27 ?_
   refine Z6 ?_
   refine Ze 7 8 [] [] [bf,b5,b2] [] (.e ⟨_,ZM,k+1,rfl,ZE,?_,ZN⟩)
   · (try simp only[go_sem,fb5,h7])<;>first|exact⟨rfl⟩|(constructor;rw[M3,ZY hlk])
  obtain rfl:k=acc.length:=by omega
  refine Z4 ?_
  rw[ZL (Nat.le_refl _)]
  refine NF (b:=bf) (b':=b5) (i:=0) (j:=0) (ob:=⟨2,1,[[.arr bf 2 acc.length cf,.d (.str (q.drop (e+2)))]]⟩) (r:=[.arr bf 2 acc.length cf,.d (.str (q.drop (e+2)))]) (by simp[A9]) rfl rfl (by simp[AP]) ZD (Rm _) λtq ftq=>?_
  refine Zy ?_
  refine Zp 7 (Aa.ret ?_)
  simp only[go_sem,fb5]
  rw[C2 hle0 h2 (PK he hc2)];simp[AP]
 have htn:¬q.take e=[]:=by simpa using hc2
 have htp:0<(q.take e).length:=List.length_pos_iff.2 htn
 refine Zp 95 ?_
 refine Zc (λhc4=>?_) λhc4=>?_
 ·have hap:0<acc.length:=by omega
  have hbl:=UC.2 hc4.1
  have hfo:=(h5.get (i:=acc.length-1) ZO).2
  have zf5:=MM hap
  have zf6:=M2 (show acc.length-1<acc.length by omega)
  refine Zr (Ai (Ac ?_))
  refine Zm 23 ?_
  refine Zr (Ai (Ac ?_))
  refine Z6 ?_
  refine Zf 6 9 (.e ⟨_,?_,(m-1),(ln+1),bf,cf,(glue acc (q.take e)),(q.drop (e+2)),rfl,?_,?_,?_,?_,?_,?_,?_,?_,?_⟩)
  · first|omega|(simp;omega)|(rw[List.length_drop];omega)
  · (try simp only[go_sem])<;>first|exact⟨rfl⟩|(constructor;simp;done)
  · (try simp only[go_sem])<;>first|exact⟨rfl⟩|(constructor;rw[Bk hz,AG hz,M3,RP])
  · rw [List.length_drop];omega
  · rw [show m-1+1=m by omega,<-UO he htn hbl hap];exact h2
  · rw [M4];omega
  · rw [List.length_drop];omega
  · exact h5.glue hap (by rw[List.length_drop,htl];omega)
  · intro hq;omega
  · exact h7
 have hnb:¬(Ed ((q.take e).getD 0 0)=true/\0<acc.length):=λhh=>by have:=UC.1 hh.1;omega
 rcases(show Lib.index (q.take e) [58]<0\/0<=Lib.index (q.take e) [58] by omega) with hy|hy
 ·refine Z1 247 (S6 T hL (q.take e) [58] ZO hy) ?_
  refine Zs (Zx (Zy ?_))
  refine B7 rfl rfl rfl rfl rfl (λhg=>LH T _ (by simp only[List.length_take];omega)) (λhg=>by(try simp only[go_sem])<;>first|exact hg|(exfalso;simp at hg;done)|(simpa using hg)|grind) rfl rfl ?_
  refine Zy ?_
  (repeat(with_reducible refine And.intro ZS ?_))
  refine Zm 8255 ?_
  refine Zc (λhc5=>?_) λhc5=>?_
  ·refine Zp 7 (Aa.ret ?_)
   simp only[go_sem,fb5,h7]
   rw[C2 hle0 h2 (JN he htn hnb hy)];simp[AP]
  exact absurd hc5 (by first|(simp;done)|omega|(simp[*];done))
 obtain⟨c,hc⟩:=Int.eq_ofNat_of_zero_le hy
 have hcl:=lix hc
 simp only[List.length_cons,List.length_nil] at hcl
 refine Z1 247 (L6 T hL (q.take e) [58] ZO c hc) ?_
 refine Zs (Zx (Zy ?_))
 refine B7 rfl rfl rfl rfl rfl (λhg=>LH T _ (by simp only[List.length_take];omega)) (λhg=>by(try simp only[go_sem])<;>first|exact hg|(exfalso;simp at hg;done)|(simpa using hg)|grind) rfl rfl ?_
 refine Zy ?_
 (repeat(with_reducible refine And.intro ZS ?_))
 refine Zm 8255 ?_
 refine Zc (λhc5=>?_) λhc5=>?_
 ·refine Zp 7 (Aa.ret ?_)
  simp only[go_sem,fb5,h7]
  rw[C2 hle0 h2 (JO he htn hnb hc (by simpa using hc5))];simp[AP]
 have hnm:T7 ((q.take e).take c)=true:=by simpa using hc5
 refine Zk ?_
 refine Zs (Zp 1087 ?_)
 refine Zc (λhc6=>?_) λhc6=>?_
 ·refine Zp 7 (Aa.ret ?_)
  simp only[go_sem,fb5,h7]
  rw[C2 hle0 h2 (UN he htn hnb hc hnm ZO)];simp[AP]
 refine Zk ?_
 refine Zq λK_ k_=>?_
 simp only[go_sem,fb5,h7]
 refine Di (b0:=bf) (c0:=cf) (rows:=As (AP acc)) rfl rfl (Eq.trans (b:= .arr bf 2 acc.length cf) rfl (by rw[AG hz,AB,EW])) (by rw[Bk hz]) (λh=>absurd h ZO) rfl (show BL prog 77=some (203,2,32) by simp only[go_sem]) rfl rfl (Oi acc) rfl (by first|decide|(simp;done)|omega) (by first|omega|(simp only[go_sem]<;>omega)|(simp only[go_sem,List.length_take,List.length_map,List.length_append,List.length_cons,List.length_nil]<;>omega)|(simp<;>omega)) (by first|omega|(simp only[go_sem]<;>omega)|(simp only[go_sem,List.length_take,List.length_map,List.length_append,List.length_cons,List.length_nil]<;>omega)|(simp<;>omega)) λbm2 cm2 hcm2 fbm2=>?_
 try simp only[Ab] at fbm2
 simp only[go_sem,fb5,fbm2]
 refine k_ _ _ (Ai (Ac ?_))
 refine Zm 15 ?_
 refine Zr (Ai (Ac ?_))
 refine Z6 ?_
 refine Zf 6 9 (.e ⟨_,?_,(m-1),(ln+1),bm2,cm2,(acc++[((q.take e).take c,(q.take e).drop (c+1))]),(q.drop (e+2)),rfl,?_,?_,?_,?_,?_,?_,?_,?_,?_⟩)
 · first|omega|(simp;omega)|(rw[List.length_drop];omega)
 · (try simp only[go_sem])<;>first|exact⟨rfl⟩|(constructor;simp;done)
 · (try simp only[go_sem,fb2,fb5,h7,fbm2])<;>first|exact⟨rfl⟩|(constructor;rw[Bk hcm2,AG hcm2];simp[As,AP,Lx];done)
 · rw [List.length_drop];omega
 · rw [show m-1+1=m by omega,<-PJ he htn hnb hc hnm (by first|omega|(simp;done))];exact h2
 · (simp<;>omega)
 · rw [List.length_drop];omega
 · exact h5.add (by rw[List.length_drop];omega) (by simp;omega) (by rw[List.length_drop,List.length_drop];omega)
 · intro hq;omega
 · simp_all [Ab];done
end
section
theorem AgJ {s:Tx} {f:Nat} (h:Lib.index (s.drop f) [13,10]<0):Wy s f= -1:=if_pos h
theorem AeV {s:Tx} {f e:Nat} (h:Lib.index (s.drop f) [13,10]=(e:Nat)):Wy s f=((f+e:Nat):Int):=by
 unfold Wy;rw[h,if_neg ZO];omega
theorem T0 (T:Ap) (s:Tx) (f:Nat) (hs:s.length<=2000000) (hf:f<=2000000) (h:Lib.index (s.drop f) [13,10]<0):PC prog T 135 [.d (.str s),.d (.int .i64 (f:Nat))] (.d (.int .i64 (-1))):=by
 have:=Or T s f hs hf
 rwa [AgJ h] at this
theorem Ls (T:Ap) (s:Tx) (f:Nat) (hs:s.length<=2000000) (hf:f<=2000000) (e:Nat) (h:Lib.index (s.drop f) [13,10]=(e:Nat)):PC prog T 135 [.d (.str s),.d (.int .i64 (f:Nat))] (.d (.int .i64 ((f+e:Nat):Int))):=by
 have:=Or T s f hs hf
 rwa [AeV h] at this
theorem Yu (s:Tx):Xr s 0=Lib.index s [58]:=by
 have:=Lib.index_ge s [58]
 unfold Xr;rw[List.drop_zero];split<;>omega
theorem Ie (T:Ap) (s:Tx) (hs:s.length<=2000000) (x:Int) (h:Lib.index s [58]=x):PC prog T 137 [.d (.str s)] (.d (.int .i64 x)):=by
 have:=Ws T s hs
 rwa [Yu,h] at this
theorem YM {l:List (Tx×Tx)} {i:Nat} {d:List D} (h:i<l.length):(AP l).getD i d=[.str (l.getD i ([],[])).1,.str (l.getD i ([],[])).2]:=by
 rw[Of l i d h];simp[Lx,List.getD,h]
theorem WF {acc:List (Tx×Tx)} {k:Nat} (h:k<acc.length):AP ((acc.take k).map Xx)++[[.str (acc.getD k ([],[])).1,.str (EK (acc.getD k ([],[])).2)]]=AP ((acc.take (k+1)).map Xx):=by
 rw[List.take_add_one,List.getElem?_eq_getElem h,List.map_append];simp[AP,Lx,Xx,List.getD,h]
theorem Si (s:Tx) (f e:Nat):(s.take (f+e)).drop f=(s.drop f).take e:=by rw[List.drop_take];congr 1;omega
attribute [local go_sem] Bc T5 EW Nat.zero_add List.take_length in
theorem Lc (T:Ap) (s:Tx):PC prog T 75 [.d (.str s)] (.tup [.agg [.d (.slc 2 (AP (ER s).1)),.d (.str (ER s).2.1)],.d (.int .i64 ((ER s).2.2.1:Nat)),.d (.int .i64 (ER s).2.2.2)]):=by
 refine⟨call75,Ar.enterS func75 rfl ntmps75 rfl λhb=>?_⟩
 simp only[go_sem,results75]
 refine Zx (Zy ?_)
 intro b2
 first|intro fb2|have fb2:=True.intro
 try simp only[Ab] at fb2
 refine Zs (Zp 67 ?_)
 refine Zc (λhc0=>?_) λhc0=>?_
 ·refine Zp 14 (Aa.ret ?_)
  simp only[go_sem]
  rw[RR ZO];simp[AP]
 have hle0:¬2000<s.length:=by omega
 refine Zk ?_
 refine Zp 7 ?_
 refine Zp 15 ?_
 refine Zs (Zp 31 ?_)
 refine Aa.block (Zy ?_)
 refine LP 5 (.full 2 []) (by simp[go_sem]) rfl ?_
 refine Zy ?_
 refine Zl 3 28 (λn lc hc=> ∃(m ln f bf cf:Nat) (acc:List (Tx×Tx)) (q:Tx),n=q.length/\Av lc [(5,mA bf 2 cf acc.length),(6,.d (.int .i64 (f:Nat))),(7,.d (.int .i64 (ln:Nat)))]/\Av hc (⟨mO bf 2 cf (As (AP acc)) [(b2,⟨2,1,[[.nils,.d (.str [])]]⟩)],[]⟩)/\(q.length<=m)/\(Dx (m+1) acc ln q=Dx (s.length+1) [] 0 s)/\(acc.length<=30)/\(ln+q.length<=2000)/\(OT acc q.length)/\(cf=0->acc=[])/\((bf==b2)=false/\(b2==bf)=false)/\(s.drop f=q)/\(f<=s.length)) ?_ ?_
 · refine ⟨_,s.length,0,0,(b2+1),0,[],s,rfl,?_,?_,?_,?_,?_,?_,?_,?_,?_,?_,?_⟩
   · (try simp only[go_sem])<;>first|exact⟨rfl⟩|(constructor;rfl)
   · (try simp only[go_sem,fb2])<;>first|exact⟨rfl⟩|(constructor;simp[mO,mA,As,AP];done)
   all_goals(first|omega|rfl|exact OT.nil _|(intro _;rfl)|(simp<;>omega))
 rintro _ _ _ ⟨m,ln,f,bf,cf,acc,q,rfl,⟨rfl⟩,⟨rfl⟩,h1,h2,h3,h4,h5,h6,h7,h8,h9⟩
 refine Zy ?_
 refine Zs (Zc (λhc1=>?_) λhc1=>?_)
 ·refine Zk ?_
  refine Zs (Aa.block ?_)
  rcases(show Lib.index q [13,10]<0\/0<=Lib.index q [13,10] by omega) with hx|hx
  rotate_left
  rcases Nat.eq_zero_or_pos cf with hz|hz
  rotate_right
  ·have zf1:=λk c rows F=>UA (k:=k) (c:=c) (rows:=rows) (F:=F) h7.1
   have zf2:=λk c ob rows F=>Vl (k:=k) (c:=c) (ob:=ob) (rows:=rows) (F:=F) h7.1
   refine Z1 63 (T0 T s f ZO ZO (by rw[h8];exact hx)) ?_
   refine Zs (Zp 191 ?_)
   refine Zc (λhc2=>?_) λhc2=>?_
   ·refine Zp 14 (Aa.ret ?_)
    simp only[go_sem,zf1]
    rw[C2 hle0 h2 (RQ hx)];simp[AP]
   exact absurd hc2 (by first|(simp;done)|omega|(simp[*];done))
  ·obtain⟨e,he⟩:=Int.eq_ofNat_of_zero_le hx
   have hle:=lix he
   simp only[List.length_cons,List.length_nil] at hle
   have htl:=Qf q e ZO
   have hfl:q.length=s.length-f:=by rw[<-h8,List.length_drop]
   subst hz
   obtain rfl:acc=[]:=h6 rfl
   simp only[CF,D9]
   refine Z1 63 (Ls T s f ZO ZO e (by rw[h8];exact he)) ?_
   refine Zs (Zp 191 ?_)
   refine Zc (λhc2=>?_) λhc2=>?_
   ·exfalso
    omega
   refine Zk ?_
   refine Zx (Zy ?_)
   (repeat(with_reducible refine And.intro ZS ?_))
   simp only[Si,h8]
   refine Zm 119 ?_
   refine Zp 95 ?_
   refine Zs (Zp 191 ?_)
   refine Zc (λhc3=>?_) λhc3=>?_
   ·refine Aa.exit (Ak (EG ZD (Ak (Ak (Bh (Ac ?_))))))
    refine Zy ?_
    refine LP 5 (.d (.slc 2 (AP []))) (by simp[go_sem,AP]) rfl ?_
    refine Zy ?_
    refine Zx (Zy ?_)
    (repeat(with_reducible refine And.intro ZS ?_))
    intro b11
    first|intro fb11|have fb11:=True.intro
    try simp only[Ab] at fb11
    refine Zm 70 ?_
    refine Zs (Zp 15 ?_)
    refine Zy ?_
    refine CC b11 0 0 2 (by(try simp only[go_sem,fb11])<;>rfl) rfl rfl ZD λt0 ft0=>?_
    try simp only[Ae] at ft0
    simp only[go_sem,fb11]
    refine Aa.block (Zl 7 8 (λn lc hc=> ∃(k v:Nat),n=([]:List (Tx×Tx)).length-k/\Av lc [(12,.d (.int .i64 (k:Nat)))]/\Av hc (⟨[(b11,⟨2,1,[[.own v 2 (AP ((([]:List (Tx×Tx)).take k).map Xx)),.d (.str (q.drop (e+2)))]]⟩),(b2,⟨2,1,[[.nils,.d (.str [])]]⟩)],[v]⟩)/\(k<=([]:List (Tx×Tx)).length)) ?_ ?_)
    · refine ⟨_,0,t0,rfl,ZE,?_,?_⟩
      · (try simp only[go_sem])<;>first|exact⟨rfl⟩|(constructor;simp[AP];rw[<-h8,List.drop_drop];congr 1<;>omega)
      all_goals(omega)
    rintro _ _ _ ⟨k,v,rfl,⟨rfl⟩,⟨rfl⟩,g1⟩
    refine Zy ?_
    refine Zs (Zp 143 ?_)
    refine Zc (λhc7=>?_) λhc7=>?_
    ·exfalso
     simp at hc7
     omega
    refine Z4 ?_
    refine Zp 7 (Aa.ret ?_)
    simp only[go_sem,fb11]
    have hk0:k=0:=by simpa using g1
    subst hk0
    rw[C2 hle0 h2 (PK he hc3)];exact⟨⟨rfl,rfl⟩,rfl,rfl⟩
   have htn:¬q.take e=[]:=by simpa using hc3
   have htp:0<(q.take e).length:=List.length_pos_iff.2 htn
   refine Zk ?_
   refine Zs (Zx (Zy ?_))
   (repeat(with_reducible refine And.intro ZS ?_))
   refine Aw rfl rfl rfl rfl (E9 T _) rfl rfl ?_
   refine Zy ?_
   refine Zm 16447 ?_
   refine Zc (λhc4=>?_) λhc4=>?_
   ·exfalso
    simp at hc4
   have hnb:¬(Ed ((q.take e).getD 0 0)=true/\0<([]:List (Tx×Tx)).length):=by simp
   refine Zk ?_
   rcases(show Lib.index (q.take e) [58]<0\/0<=Lib.index (q.take e) [58] by omega) with hy|hy
   ·refine Zx (Zy ?_)
    refine ZP (Ie T (q.take e) ZO _ rfl) ?_
    refine Zy ?_
    refine Zs (Zx (Zy ?_))
    (repeat(with_reducible refine And.intro ZS ?_))
    refine B7 rfl rfl rfl rfl rfl (λhg=>Il T (List.take (Lib.index (q.take e) [58]).toNat (q.take e)) (by simp only[List.length_take];omega)) (λhg=>by(try simp only[go_sem])<;>first|exact hg|(exfalso;simp at hg;done)|(simpa using hg)|grind) rfl rfl ?_
    refine Zy ?_
    (repeat(with_reducible refine And.intro ZS ?_))
    refine Zm 262271 ?_
    refine Zc (λhc5=>?_) λhc5=>?_
    ·refine Zp 14 (Aa.ret ?_)
     simp only[go_sem]
     rw[C2 hle0 h2 (JN he htn hnb hy)];simp[AP]
    exfalso
    first|omega|(simp[hy] at hc5;done)|(simp[hy] at*;done)
   obtain⟨c,hc⟩:=Int.eq_ofNat_of_zero_le hy
   have hcl:=lix hc
   simp only[List.length_cons,List.length_nil] at hcl
   refine Zx (Zy ?_)
   refine ZP (Ie T (q.take e) ZO _ hc) ?_
   refine Zy ?_
   refine Zs (Zx (Zy ?_))
   (repeat(with_reducible refine And.intro ZS ?_))
   refine B7 rfl rfl rfl rfl rfl (λhg=>Il T ((q.take e).take c) (by simp only[List.length_take];omega)) (λhg=>by(try simp only[go_sem])<;>first|exact hg|(exfalso;simp at hg;done)|(simpa using hg)|grind) rfl rfl ?_
   refine Zy ?_
   (repeat(with_reducible refine And.intro ZS ?_))
   refine Zm 262271 ?_
   refine Zc (λhc5=>?_) λhc5=>?_
   ·refine Zp 14 (Aa.ret ?_)
    simp only[go_sem]
    rw[C2 hle0 h2 (JO he htn hnb hc (hc5.resolve_left ZO))];simp[AP]
   have hnm:T7 ((q.take e).take c)=true:=by simpa using hc5
   refine Zk ?_
   refine Zs (Zp 1151 ?_)
   refine Zc (λhc6=>?_) λhc6=>?_
   ·exfalso
    simp at hc6
   refine Zk ?_
   refine Zt true [0,1,2,3,4,5,6,7,8,9,10,11] λK_ k_=>?_
   refine Zy ?_
   (repeat(with_reducible refine And.intro ZS ?_))
   refine Di (b0:=0) (c0:=0) (rows:=[]) rfl rfl rfl rfl (λ_=>rfl) rfl (show BL prog 77=some (203,2,32) by simp only[go_sem]) rfl rfl ZX rfl (by first|decide|(simp;done)|omega) (by first|omega|(simp only[go_sem]<;>omega)|(simp only[go_sem,List.length_take,List.length_map,List.length_append,List.length_cons,List.length_nil]<;>omega)|(simp<;>omega)) (by first|omega|(simp only[go_sem]<;>omega)|(simp only[go_sem,List.length_take,List.length_map,List.length_append,List.length_cons,List.length_nil]<;>omega)|(simp<;>omega)) λbm1 cm1 hcm1 fbm1=>?_
   try simp only[Ab] at fbm1
   refine Zy ?_
   refine k_ _ _ (Ai (Ac ?_))
   refine Zm 31 ?_
   refine Z6 ?_
   refine Zf 3 28 (.e ⟨_,?_,(m-1),(ln+1),(f+(e+2)),bm1,cm1,(([]:List (Tx×Tx))++[((q.take e).take c,(q.take e).drop (c+1))]),(q.drop (e+2)),rfl,?_,?_,?_,?_,?_,?_,?_,?_,?_,?_,?_⟩)
   · first|omega|(simp;omega)|(rw[List.length_drop];omega)
   · (try simp only[go_sem])<;>first|exact⟨rfl⟩|(constructor;simp[AG hcm1]<;>omega)
   · (try simp only[go_sem])<;>first|exact⟨rfl⟩|(constructor;rw[Bk hcm1];simp[As,AP,Lx];done)
   · rw [List.length_drop];omega
   · rw [show m-1+1=m by omega,<-PJ he htn hnb hc hnm (by first|omega|(simp;done))];exact h2
   · (simp<;>omega)
   · rw [List.length_drop];omega
   · exact h5.add (by rw[List.length_drop];omega) (by simp;omega) (by rw[List.length_drop,List.length_drop];omega)
   · intro hq;omega
   · simp_all [Ab];done
   · rw [<-h8,List.drop_drop]
   · omega
  obtain⟨e,he⟩:=Int.eq_ofNat_of_zero_le hx
  have hle:=lix he
  simp only[List.length_cons,List.length_nil] at hle
  have htl:=Qf q e ZO
  have hfl:q.length=s.length-f:=by rw[<-h8,List.length_drop]
  simp only[AG hz,Bk hz]
  refine Z1 63 (Ls T s f ZO ZO e (by rw[h8];exact he)) ?_
  refine Zs (Zp 191 ?_)
  refine Zc (λhc2=>?_) λhc2=>?_
  ·exfalso
   omega
  refine Zk ?_
  refine Zx (Zy ?_)
  (repeat(with_reducible refine And.intro ZS ?_))
  simp only[Si,h8]
  refine Zm 119 ?_
  refine Zp 95 ?_
  refine Zs (Zp 191 ?_)
  refine Zc (λhc3=>?_) λhc3=>?_
  ·refine Aa.exit (Ak (EG ZD (Ak (Ak (Bh (Ac ?_))))))
   refine Zy ?_
   refine V7 5 rfl rfl (by simp[AP]) ZD (Rm _) λtq ftq=>?_
   refine Zy ?_
   refine LP 5 (.d (.slc 2 (AP acc))) (by simp[go_sem,AP]) rfl ?_
   refine Aa.ord [] [tq] [] [] rfl ?_
   refine Zy ?_
   refine Zx (Zy ?_)
   (repeat(with_reducible refine And.intro ZS ?_))
   intro b11
   first|intro fb11|have fb11:=True.intro
   try simp only[Ab] at fb11
   refine Zm 70 ?_
   refine Zs (Zp 15 ?_)
   refine Zy ?_
   refine CC b11 0 0 2 (by(try simp only[go_sem,fb11])<;>rfl) rfl rfl ZD λt0 ft0=>?_
   try simp only[Ae] at ft0
   simp only[go_sem,fb11]
   refine Aa.block (Zl 7 8 (λn lc hc=> ∃(k v:Nat),n=acc.length-k/\Av lc [(12,.d (.int .i64 (k:Nat)))]/\Av hc (⟨[(b11,⟨2,1,[[.own v 2 (AP ((acc.take k).map Xx)),.d (.str (q.drop (e+2)))]]⟩),(b2,⟨2,1,[[.nils,.d (.str [])]]⟩)],[v]⟩)/\(k<=acc.length)) ?_ ?_)
   · refine ⟨_,0,t0,rfl,ZE,?_,?_⟩
     · (try simp only[go_sem])<;>first|exact⟨rfl⟩|(constructor;simp[AP];rw[<-h8,List.drop_drop];congr 1<;>omega)
     all_goals(omega)
   rintro _ _ _ ⟨k,v,rfl,⟨rfl⟩,⟨rfl⟩,g1⟩
   refine Zy ?_
   refine Zs (Zp 143 ?_)
   refine Zc (λhc7=>?_) λhc7=>?_
   ·have hlt:k<acc.length:=by omega
    have hfk:=(h5.get hlt).2
    have zf3:=λdd=>YM (d:=dd) hlt
    refine Zk ?_
    refine Zs (Aa.block (Zt true [0,1,2,3,4,5,6,7,8,9,10,11,12,13,14,15,16,17] λK_ k_=>?_))
    refine Z3 ?_
    refine ZP (Xk T (acc.getD k ([],[])).2 ZO) ?_
    refine Zy ?_
    refine ZW λt2 ft2=>?_
    try simp only[Ae] at ft2
    simp only[go_sem,fb11]
    refine k_ _ _ (Ai (Ac ?_))
    refine Zm 15 ?_
    refine Z6 ?_
    refine Ze 7 8 [] [] [b11,b2] [t2] (.e ⟨_,ZM,k+1,t2,rfl,ZE,?_,?_⟩)
    · (try simp only[go_sem,fb11])<;>first|exact⟨rfl⟩|(constructor;rw[<-WF hlt];done)
    all_goals omega
   refine Z4 ?_
   refine Zp 7 (Aa.ret ?_)
   simp only[go_sem,fb11]
   obtain rfl:k=acc.length:=by omega
   rw[List.take_length,C2 hle0 h2 (PK he hc3)];exact⟨⟨rfl,rfl⟩,rfl,rfl⟩
  have htn:¬q.take e=[]:=by simpa using hc3
  have htp:0<(q.take e).length:=List.length_pos_iff.2 htn
  refine Zk ?_
  refine Zs (Zx (Zy ?_))
  (repeat(with_reducible refine And.intro ZS ?_))
  refine Aw rfl rfl rfl rfl (E9 T _) rfl rfl ?_
  refine Zy ?_
  refine Zm 16447 ?_
  refine Zc (λhc4=>?_) λhc4=>?_
  ·have hap:0<acc.length:=by omega
   have hbl:=hc4.1
   have hfo:=(h5.get (i:=acc.length-1) ZO).2
   have zf4:=MM hap
   have zf5:=M2 (show acc.length-1<acc.length by omega)
   refine Zp 31 (Aa.exit (Ak (Bh (Ac ?_))))
   refine Z6 ?_
   refine Zf 3 28 (.e ⟨_,?_,(m-1),(ln+1),(f+(e+2)),bf,cf,(glue acc (q.take e)),(q.drop (e+2)),rfl,?_,?_,?_,?_,?_,?_,?_,?_,?_,?_,?_⟩)
   · first|omega|(simp;omega)|(rw[List.length_drop];omega)
   · (try simp only[go_sem])<;>first|exact⟨rfl⟩|(constructor;simp[AG hz];omega)
   · (try simp only[go_sem,fb2,h7,zf4,zf5])<;>first|exact⟨rfl⟩|(constructor;rw[Bk hz,M3,RP])
   · rw [List.length_drop];omega
   · rw [show m-1+1=m by omega,<-UO he htn hbl hap];exact h2
   · rw [M4];omega
   · rw [List.length_drop];omega
   · exact h5.glue hap (by rw[List.length_drop,htl];omega)
   · intro hq;omega
   · exact h7
   · rw [<-h8,List.drop_drop]
   · omega
  have hnb:¬(Ed ((q.take e).getD 0 0)=true/\0<acc.length):=λhh=>by
    rcases hc4 with hq|hq
    · rw [hh.1] at hq;cases hq
    · omega
  refine Zk ?_
  rcases(show Lib.index (q.take e) [58]<0\/0<=Lib.index (q.take e) [58] by omega) with hy|hy
  ·refine Zx (Zy ?_)
   refine ZP (Ie T (q.take e) ZO _ rfl) ?_
   refine Zy ?_
   refine Zs (Zx (Zy ?_))
   (repeat(with_reducible refine And.intro ZS ?_))
   refine B7 rfl rfl rfl rfl rfl (λhg=>Il T (List.take (Lib.index (q.take e) [58]).toNat (q.take e)) (by simp only[List.length_take];omega)) (λhg=>by(try simp only[go_sem])<;>first|exact hg|(exfalso;simp at hg;done)|(simpa using hg)|grind) rfl rfl ?_
   refine Zy ?_
   (repeat(with_reducible refine And.intro ZS ?_))
   refine Zm 262271 ?_
   refine Zc (λhc5=>?_) λhc5=>?_
   ·refine Zp 14 (Aa.ret ?_)
    simp only[go_sem,h7]
    rw[C2 hle0 h2 (JN he htn hnb hy)];simp[AP]
   exfalso
   first|omega|(simp[hy] at hc5;done)|(simp[hy] at*;done)
  obtain⟨c,hc⟩:=Int.eq_ofNat_of_zero_le hy
  have hcl:=lix hc
  simp only[List.length_cons,List.length_nil] at hcl
  refine Zx (Zy ?_)
  refine ZP (Ie T (q.take e) ZO _ hc) ?_
  refine Zy ?_
  refine Zs (Zx (Zy ?_))
  (repeat(with_reducible refine And.intro ZS ?_))
  refine B7 rfl rfl rfl rfl rfl (λhg=>Il T ((q.take e).take c) (by simp only[List.length_take];omega)) (λhg=>by(try simp only[go_sem])<;>first|exact hg|(exfalso;simp at hg;done)|(simpa using hg)|grind) rfl rfl ?_
  refine Zy ?_
  (repeat(with_reducible refine And.intro ZS ?_))
  refine Zm 262271 ?_
  refine Zc (λhc5=>?_) λhc5=>?_
  ·refine Zp 14 (Aa.ret ?_)
   simp only[go_sem,h7]
   rw[C2 hle0 h2 (JO he htn hnb hc (hc5.resolve_left ZO))];simp[AP]
  have hnm:T7 ((q.take e).take c)=true:=by simpa using hc5
  refine Zk ?_
  refine Zs (Zp 1151 ?_)
  refine Zc (λhc6=>?_) λhc6=>?_
  ·refine Zp 14 (Aa.ret ?_)
   simp only[go_sem,h7]
   rw[C2 hle0 h2 (UN he htn hnb hc hnm ZO)];simp[AP]
  refine Zk ?_
  refine Zt true [0,1,2,3,4,5,6,7,8,9,10,11] λK_ k_=>?_
  refine Zy ?_
  (repeat(with_reducible refine And.intro ZS ?_))
  refine Di (b0:=bf) (c0:=cf) (rows:=As (AP acc)) rfl rfl (Eq.trans (b:= .arr bf 2 acc.length cf) rfl (by rw[AG hz,AB,EW])) (by rw[Bk hz]) (λh=>absurd h ZO) rfl (show BL prog 77=some (203,2,32) by simp only[go_sem]) rfl rfl (Oi acc) rfl (by first|decide|(simp;done)|omega) (by first|omega|(simp only[go_sem]<;>omega)|(simp only[go_sem,List.length_take,List.length_map,List.length_append,List.length_cons,List.length_nil]<;>omega)|(simp<;>omega)) (by first|omega|(simp only[go_sem]<;>omega)|(simp only[go_sem,List.length_take,List.length_map,List.length_append,List.length_cons,List.length_nil]<;>omega)|(simp<;>omega)) λbm3 cm3 hcm3 fbm3=>?_
  try simp only[Ab] at fbm3
  refine Zy ?_
  refine k_ _ _ (Ai (Ac ?_))
  refine Zm 31 ?_
  refine Z6 ?_
  refine Zf 3 28 (.e ⟨_,?_,(m-1),(ln+1),(f+(e+2)),bm3,cm3,(acc++[((q.take e).take c,(q.take e).drop (c+1))]),(q.drop (e+2)),rfl,?_,?_,?_,?_,?_,?_,?_,?_,?_,?_,?_⟩)
  · first|omega|(simp;omega)|(rw[List.length_drop];omega)
  · (try simp only[go_sem])<;>first|exact⟨rfl⟩|(constructor;simp[AG hcm3]<;>omega)
  · (try simp only[go_sem,fb2,h7,fbm3])<;>first|exact⟨rfl⟩|(constructor;rw[Bk hcm3];simp[As,AP,Lx];done)
  · rw [List.length_drop];omega
  · rw [show m-1+1=m by omega,<-PJ he htn hnb hc hnm (by first|omega|(simp;done))];exact h2
  · (simp<;>omega)
  · rw [List.length_drop];omega
  · exact h5.add (by rw[List.length_drop];omega) (by simp;omega) (by rw[List.length_drop,List.length_drop];omega)
  · intro hq;omega
  · simp_all [Ab];done
  · rw [<-h8,List.drop_drop]
  · omega
 exact absurd hc1 ZX
end
section
theorem MK:∀(n:Nat) (acc:List (Tx×Tx)) (ln:Nat) (s:Tx),acc.length<=30->(Dx n acc ln s).1.length<=30
 |0,acc,ln,s,h=>by simp[Dx]
 | n+1,acc,ln,s,h=>by
  rw[Dx]
  split
  ·simp
  ·split
   ·exact h
   ·split
    ·exact MK n _ _ _ (by rw[M4];exact h)
    ·split
     ·simp
     ·split
      ·simp
      ·split
       ·simp
       ·exact MK n _ _ _ (by rw[List.length_append,List.length_singleton];omega)
theorem Aad (s:Tx):(ER s).1.length<=30:=by
 unfold ER
 split
 ·simp
 ·rw[List.length_map];exact MK _ _ _ _ ZX
theorem PL:∀(n:Nat) (acc:List (Tx×Tx)) (ln:Nat) (s:Tx),s.length<=2000->OT acc s.length->∀f∈(Dx n acc ln s).1,f.1.length<=2000/\f.2.length<=2000
 |0,acc,ln,s,hs,h=>by rw[Dx];intro f hf;cases hf
 | n+1,acc,ln,s,hs,h=>by
  rw[Dx]
  generalize (Lib.index s [13,10]).toNat=e
  have h1:(s.drop (e+2)).length<=s.length:=by rw[List.length_drop];omega
  have h2:(s.drop (e+2)).length+(s.take e).length<=s.length:=by rw[List.length_drop,List.length_take];omega
  split
  ·intro f hf;cases hf
  ·split
   ·intro f hf
    have:=h f hf
    exact⟨this.1,by omega⟩
   ·split
    ·rename_i hb
     exact PL n _ _ _ ZO (h.glue hb.2 h2)
    ·split
     ·intro f hf;cases hf
     ·split
      ·intro f hf;cases hf
      ·split
       ·intro f hf;cases hf
       ·refine PL n _ _ _ ZO (h.add h1 ?_ ?_)
        ·rw[List.length_take];omega
        ·rw[List.length_drop];omega
theorem Acv (s:Tx):∀f∈(ER s).1,f.1.length<=2000/\f.2.length<=2000:=by
 unfold ER
 split
 ·intro f hf;cases hf
 ·rename_i hs
  intro f hf
  obtain⟨g,hg,rfl⟩:=List.mem_map.1 hf
  have:=PL _ _ _ _ ZO (OT.nil _) g hg
  exact⟨this.1,Nat.le_trans (Xj _) this.2⟩
def Lz (a1 a2 c1 c2 s:Tx):List (Tx×Tx)×Tx×Int:=if¬Cc a1 a2=0 then([],[],Cc a1 a2) else if¬Cc c1 c2=0 then([],[],Cc c1 c2) else((ER s).1,(ER s).2.1,(ER s).2.2.2)
section
variable {a1 a2 c1 c2 s:Tx}
theorem UI (h:¬Cc a1 a2=0):Lz a1 a2 c1 c2 s=([],[],Cc a1 a2):=if_pos h
theorem UJ (h:Cc a1 a2=0) (h2:¬Cc c1 c2=0):Lz a1 a2 c1 c2 s=([],[],Cc c1 c2):=by rw[Lz,if_neg (by simp[h]),if_pos h2]
theorem UK (h:Cc a1 a2=0) (h2:Cc c1 c2=0):Lz a1 a2 c1 c2 s=((ER s).1,(ER s).2.1,(ER s).2.2.2):=by rw[Lz,if_neg (by simp[h]),if_neg (by simp[h2])]
end
structure XL (a1 a2 c1 c2:Tx):Prop where
 h1:a1.length<=1048576
 h2:a2.length<=1048576
 h3:c1.length<=1048576
 h4:c2.length<=1048576
attribute [local go_sem] Bc Nat.zero_add in
theorem XG (T:Ap) (hL:Bw T) (a1 a2 c1 c2 s:Tx) (ok:XL a1 a2 c1 c2):PC prog T 34 [.agg [.d (.str a1),.d (.str a2),.d (.str c1),.d (.str c2),.d (.str s)]] (.tup [.agg [.d (.slc 2 (AP (Lz a1 a2 c1 c2 s).1)),.d (.str ((Lz a1 a2 c1 c2 s).2.1))],.d (.int .i64 ((Lz a1 a2 c1 c2 s).2.2))]):=by
 refine⟨call34,Ar.enterS func34 rfl ntmps34 rfl λhb=>?_⟩
 simp only[go_sem,results34]
 refine Zx (Zy ?_)
 intro b1
 first|intro fb1|have fb1:=True.intro
 try simp only[Ab] at fb1
 intro b2
 first|intro fb2|have fb2:=True.intro
 try simp only[Ab] at fb2
 refine Zs (Zp 774 ?_)
 refine Aa.block (Zy ?_)
 refine Zl 7 8 (λn lc hc=> ∃(j:Nat),n=2-j/\Av lc [(15,.d (.int .i64 j))]/\Av hc (⟨[(b2,⟨2,1,[[.nils,.d (.str [])]]⟩),(b1,⟨5,1,[[.d (.str a1),.d (.str a2),.d (.str c1),.d (.str c2),.d (.str s)]]⟩)],[]⟩)/\(j<=2)/\(0<j->Cc a1 a2=0)/\(1<j->Cc c1 c2=0)) ?_ ?_
 · refine ⟨_,0,rfl,ZE,ZE,?_,?_,?_⟩
   all_goals(first|omega|(intro hq;omega))
 rintro _ _ _ ⟨j,rfl,⟨rfl⟩,⟨rfl⟩,h1,h2,h3⟩
 refine Zy ?_
 refine Zp 31 ?_
 refine Zs (Zc (λhc0=>?_) λhc0=>?_)
 ·refine Zk ?_
  refine Zs (Aa.block ?_)
  rcases(show j=0\/j=1 by omega) with rfl|rfl
  ·refine Zx (Zy ?_)
   (repeat(with_reducible refine And.intro ZS ?_))
   intro b5
   first|intro fb5|have fb5:=True.intro
   try simp only[Ab] at fb5
   refine Z1 59 (GP T hL a1 a2 ok.h1 ok.h2) ?_
   refine Zp 95 ?_
   refine Zc (λhc1=>?_) λhc1=>?_
   ·refine Zp 6 (Aa.ret ?_)
    simp only[go_sem,fb2,fb5]
    rw[UI hc1];simp[AP]
   refine Z5 ?_
   refine Z6 ?_
   refine Ze 11 16 [b5] [] [b2,b1] [] (.e ⟨_,ZM,1,rfl,ZE,ZE,?_,?_,?_⟩)
   all_goals first|omega|(intro _;omega)|(intro _;assumption)|(intro hq;omega)
  refine Zx (Zy ?_)
  (repeat(with_reducible refine And.intro ZS ?_))
  intro b5
  first|intro fb5|have fb5:=True.intro
  try simp only[Ab] at fb5
  refine Z1 59 (GP T hL c1 c2 ok.h3 ok.h4) ?_
  refine Zp 95 ?_
  refine Zc (λhc1=>?_) λhc1=>?_
  ·refine Zp 6 (Aa.ret ?_)
   simp only[go_sem,fb2,fb5]
   rw[UJ (h2 ZO) hc1];simp[AP]
  refine Z5 ?_
  refine Z6 ?_
  refine Ze 11 16 [b5] [] [b2,b1] [] (.e ⟨_,ZM,2,rfl,ZE,ZE,?_,?_,?_⟩)
  all_goals first|omega|(intro _;omega)|(intro _;assumption)|(intro hq;omega)
 have hj:j=2:=by omega
 refine Z4 ?_
 refine Zx ?_
 simp only[go_sem,fb2]
 refine ZP (Abw T hL s) ?_
 refine Zy ?_
 intro b7 fb7
 try simp only[Ab] at fb7
 refine Zm 22 ?_
 refine Zp 3 (Aa.ret ?_)
 simp only[go_sem,fb2,fb7]
 rw[UK (h2 ZO) (h3 ZO)];simp[]
attribute [local go_sem] Bc Nat.zero_add in
theorem SC (T:Ap) (hL:Bw T) (a1 a2 c1 c2 s:Tx) (ok:XL a1 a2 c1 c2):PC prog T 36 [.agg [.d (.str a1),.d (.str a2),.d (.str c1),.d (.str c2),.d (.str s)]] (.tup [.agg [.d (.slc 2 (AP (Lz a1 a2 c1 c2 s).1)),.d (.str ((Lz a1 a2 c1 c2 s).2.1))],.d (.int .i64 ((Lz a1 a2 c1 c2 s).2.2))]):=by
 refine⟨call36,Ar.enterS func36 rfl ntmps36 rfl λhb=>?_⟩
 simp only[go_sem,results36]
 refine Zx (Zy ?_)
 intro b1
 first|intro fb1|have fb1:=True.intro
 try simp only[Ab] at fb1
 intro b2
 first|intro fb2|have fb2:=True.intro
 try simp only[Ab] at fb2
 refine Z1 22 (Lf T a1 a2 ok.h1 ok.h2) ?_
 refine Zs (Zp 23 ?_)
 refine Zc (λhc0=>?_) λhc0=>?_
 ·refine Zq λK_ k_=>?_
  simp only[go_sem,fb2]
  refine ZP (Lf T c1 c2 ok.h3 ok.h4) ?_
  refine Zy ?_
  refine k_ _ _ (Ac ?_)
  refine Zm 7 ?_
  refine Zs (Zp 23 ?_)
  refine Zc (λhc1=>?_) λhc1=>?_
  ·refine Zp 6 (Aa.ret ?_)
   simp only[go_sem,fb2]
   first|(rw[UJ hc0 hc1];simp[AP];done)|(rw[UI hc0];simp[Aj,Bj,Ay,AP])
  refine Zk ?_
  refine Zx ?_
  simp only[go_sem,fb2]
  refine ZP (Lc T s) ?_
  refine Zy ?_
  intro b5 fb5
  try simp only[Ab] at fb5
  refine Zm 14 ?_
  refine Zp 3 (Aa.ret ?_)
  simp only[go_sem,fb2,fb5]
  first|exact absurd hc1 hc0|(rw[UK hc0 hc1];simp[])
 refine Zk ?_
 refine Zs (Zp 39 ?_)
 refine Zc (λhc1=>?_) λhc1=>?_
 ·refine Zp 6 (Aa.ret ?_)
  simp only[go_sem,fb2]
  first|(rw[UJ hc0 hc1];simp[Aj,Bj,Ay,AP];done)|(rw[UI hc0];simp[AP])
 refine Zk ?_
 refine Zx ?_
 simp only[go_sem,fb2]
 refine ZP (Lc T s) ?_
 refine Zy ?_
 intro b5 fb5
 try simp only[Ab] at fb5
 refine Zm 14 ?_
 refine Zp 3 (Aa.ret ?_)
 simp only[go_sem,fb2,fb5]
 first|exact absurd hc1 hc0|(rw[UK hc0 hc1];simp[Aj,Bj,Ay])
end
section
open Go.RowKit
structure Pc where
 c:UInt8
 one:Bool
 many:Bool
def Pc.hit (x:Pc) (b:UInt8):Bool:=x.one||x.c==b
def ET (c:UInt8):Pc:=⟨c,c.toNat==63,c.toNat==42⟩
def AE:List UInt8->List Pc
 |[]=>[]
 |[c]=>[ET c]
 |c::d::r=>if c.toNat=92 then⟨d,false,false⟩::AE r else ET c::AE (d::r)
theorem GJ:AE []=[]:=by simp[AE]
theorem Sa (c:UInt8):AE [c]=[ET c]:=by simp[AE]
theorem IY (c d:UInt8) (r:List UInt8) (h:c.toNat=92):AE (c::d::r)=⟨d,false,false⟩::AE r:=by rw[AE,if_pos h]
theorem GK (c:UInt8) (r:List UInt8) (h:c.toNat≠92\/r=[]):AE (c::r)=ET c::AE r:=by
  cases r with
  |nil=>simp[AE]
  | cons d r => rcases h with h|h
                · rw [AE,if_neg h]
                · cases h
theorem IZ:∀(n:Nat) (l:List UInt8),l.length<=n->(AE l).length<=l.length
 |0,l,h=>by have:l=[]:=List.eq_nil_of_length_eq_zero ZO;subst this;simp[GJ]
 |n+1,[],_=>by simp[GJ]
 |n+1,[c],_=>by simp[Sa]
 | n+1,c::d::r,h=>by
  by_cases hc:c.toNat=92
  ·have:=IZ n r (by simp at h;omega)
   rw[IY c d r hc];simp;omega
  ·have:=IZ n (d::r) (by simp at h⊢;omega)
   rw[GK c _ (.inl hc)];simp at this⊢;omega
def PM:List Pc->List UInt8->Prop
 |[],s=>s=[]
 |x::l,s=>(x.many=true/\∃n,n<=s.length/\PM l (s.drop n))\/(x.many=false/\∃b t,s=b::t/\x.hit b=true/\PM l t)
theorem Kv (s:List UInt8):PM [] s↔s=[]:=Iff.rfl
theorem G3 {x:Pc} (h:x.many=true) (l:List Pc) (s:List UInt8):PM (x::l) s↔∃n,n<=s.length/\PM l (s.drop n):=by simp[PM,h]
theorem FH {x:Pc} (h:x.many=false) (l:List Pc) (s:List UInt8):PM (x::l) s↔∃b t,s=b::t/\x.hit b=true/\PM l t:=by simp[PM,h]
theorem Ku (l1 l2:List Pc):∀s,PM (l1++l2) s↔∃n,n<=s.length/\PM l1 (s.take n)/\PM l2 (s.drop n):=by
 induction l1 with
 | nil=>
  intro s
  constructor
  ·intro h;exact⟨0,by omega,by simp[PM],by simpa using h⟩
  ·rintro⟨n,hn,h1,h2⟩
   have:n=0:=by
    have h3:(s.take n).length=0:=by rw[(Kv _).1 h1];rfl
    rw[List.length_take] at h3;omega
   subst this
   simpa using h2
 | cons x l1 ih=>
  intro s
  cases hx:x.many with
  | true=>
   rw[List.cons_append,G3 hx]
   constructor
   ·rintro⟨n,hn,h⟩
    obtain⟨m,hm,h1,h2⟩:=(ih _).1 h
    rw[List.length_drop] at hm
    refine⟨n+m,by omega,(G3 hx _ _).2 ⟨n,by rw[List.length_take];omega,?_⟩,by rw[<-List.drop_drop];exact h2⟩
    rw[List.drop_take,Nat.add_sub_cancel_left]
    exact h1
   ·rintro⟨n,hn,h1,h2⟩
    obtain⟨m,hm,h3⟩:=(G3 hx _ _).1 h1
    rw[List.length_take] at hm
    refine⟨m,by omega,(ih _).2 ⟨n-m,by rw[List.length_drop];omega,?_,?_⟩⟩
    ·rw[List.drop_take] at h3;exact h3
    ·rw[List.drop_drop,show m+(n-m)=n by omega];exact h2
  | false=>
   rw[List.cons_append,FH hx]
   constructor
   ·rintro⟨b,t,rfl,hb,h⟩
    obtain⟨m,hm,h1,h2⟩:=(ih _).1 h
    exact⟨m+1,by simp;omega,(FH hx _ _).2 ⟨b,t.take m,rfl,hb,h1⟩,by simpa using h2⟩
   ·rintro⟨n,hn,h1,h2⟩
    obtain⟨b,t,e,hb,h3⟩:=(FH hx _ _).1 h1
    cases s with
    |nil=>simp at e
    | cons c s=>
     cases n with
     |zero=>simp at e
     |succ n=>
      simp only[List.take_succ_cons,List.cons.injEq] at e
      obtain⟨rfl,rfl⟩:=e
      exact⟨c,s,rfl,hb,(ih _).2 ⟨n,by simp at hn;omega,h3,by simpa using h2⟩⟩
theorem Ju {x:Pc} (h:x.many=true) (l:List Pc) (s:List UInt8):PM (l++[x]) s↔∃n,n<=s.length/\PM l (s.take n):=by
 rw[Ku]
 constructor
 ·rintro⟨n,hn,h1,_⟩;exact⟨n,hn,h1⟩
 ·rintro⟨n,hn,h1⟩
  exact⟨n,hn,h1,(G3 h _ _).2 ⟨(s.drop n).length,Nat.le_refl _,(Kv _).2 (List.drop_eq_nil_of_le (Nat.le_refl _))⟩⟩
theorem Ld {x:Pc} (h:x.many=false) (l:List Pc) (s:List UInt8) (b:UInt8):PM (l++[x]) (s++[b])↔PM l s/\x.hit b=true:=by
 rw[Ku]
 constructor
 ·rintro⟨n,hn,h1,h2⟩
  obtain⟨c,t,e,hc,ht⟩:=(FH h _ _).1 h2
  have ht':=(Kv _).1 ht
  subst ht'
  have hl:=congrArg List.length e
  simp at hl hn
  have hn':n=s.length:=by omega
  subst hn'
  rw[List.drop_left] at e
  injection e with e _
  subst e
  rw[List.take_left] at h1
  exact⟨h1,hc⟩
 ·rintro⟨h1,h2⟩
  exact⟨s.length,by simp,by rw[List.take_left];exact h1,by rw[List.drop_left];exact(FH h _ _).2 ⟨b,[],rfl,h2,rfl⟩⟩
theorem Q4 {x:Pc} (h:x.many=false) (l:List Pc):¬PM (l++[x]) []:=by
 rw[Ku]
 rintro⟨n,hn,h1,h2⟩
 obtain⟨c,t,e,_⟩:=(FH h _ _).1 h2
 simp at e
def XM (l:List Pc):Prop:=∀x∈l,x.many=false
theorem OX {l:List Pc} (h:XM l):∀{s:List UInt8},PM l s->s.length=l.length:=by
 induction l with
 |nil=>intro s hs;rw[(Kv _).1 hs];rfl
 |cons x l ih=>
  intro s hs
  obtain⟨b,t,rfl,_,ht⟩:=(FH (h x ZX) _ _).1 hs
  have:=ih (λy hy=>h y (by simp[hy])) ht
  simp[this]
theorem Aej {l m:List Pc} (h:XM l) {u v:List UInt8} (hu:u.length=l.length):PM (l++m) (u++v)↔PM l u/\PM m v:=by
 rw[Ku]
 constructor
 ·rintro⟨n,hn,h1,h2⟩
  have h3:=OX h h1
  rw[List.length_take,List.length_append] at h3
  rw[List.length_append] at hn
  have hn':n=u.length:=by omega
  subst hn'
  rw[List.take_left] at h1
  rw[List.drop_left] at h2
  exact⟨h1,h2⟩
 ·rintro⟨h1,h2⟩
  exact⟨u.length,by simp,by rw[List.take_left];exact h1,by rw[List.drop_left];exact h2⟩
theorem Aei:∀l:List Pc,PM l []↔∀x∈l,x.many=true:=by
 intro l
 induction l with
 |nil=>simp[PM]
 | cons x l ih=>
  cases hx:x.many with
  |true=>rw[G3 hx];simp[ih,hx]
  |false=>
   rw[FH hx]
   simp[hx]
def AcY (l:List Pc) (s:List UInt8) (j fr:Nat):Prop:=∃n,fr<=n/\n<=s.length/\PM (l.drop (j+1)) (s.drop n)
structure Gr (l:List Pc) (s:List UInt8) (i k:Nat) (st:Option Nat) (fr:Nat):Prop where
 hi:i<=s.length
 hk:k<=l.length
 hf:fr<=i
 none_:st=none->fr=0/\(PM l s↔PM (l.drop k) (s.drop i))
 some_:∀j,st=some j->j+1<=k/\k-(j+1)=i-fr/\XM ((l.drop (j+1)).take (k-(j+1)))/\PM ((l.drop (j+1)).take (k-(j+1))) ((s.drop fr).take (i-fr))/\
  (PM l s↔AcY l s j fr)
theorem Gr.start (l:List Pc) (s:List UInt8):Gr l s 0 0 none 0:=⟨by omega,by omega,by omega,λ_=>⟨rfl,by simp⟩,λ_ h=>by cases h⟩
section
variable {l:List Pc} {s:List UInt8} {i k fr:Nat} {st:Option Nat}
theorem JD {α:Type} (l:List α) (a k:Nat) (h:a<=k):l.drop a=(l.drop a).take (k-a)++l.drop k:=by
 conv=>lhs;rw[<-List.take_append_drop (k-a) (l.drop a)]
 rw[List.drop_drop,show a+(k-a)=k by omega]
theorem DR {α:Type} {l:List α} {k:Nat} {x:α} (h:l[k]?=some x):l.drop k=x::l.drop (k+1):=by
 obtain⟨hk,e⟩:=List.getElem?_eq_some_iff.1 h
 rw[List.drop_eq_getElem_cons hk,e]
theorem Gr.seg (h:Gr l s i k st fr) {j:Nat} (hj:st=some j) (n:Nat) (hn:n=fr):(PM (l.drop (j+1)) (s.drop n)↔PM (l.drop k) (s.drop i)):=by
 obtain⟨h1,h2,h3,h4,h5⟩:=h.some_ j hj
 have hf:=h.hf
 have hi:=h.hi
 have hk:=h.hk
 subst hn
 rw[JD l (j+1) k h1,JD s n i hf,Aej h3 (by rw[List.length_take,List.length_take,List.length_drop,List.length_drop];omega)]
 exact⟨λh=>h.2,λh=>⟨h4,h⟩⟩
theorem Gr.many (h:Gr l s i k st fr) {x:Pc} (hx:l[k]?=some x) (hm:x.many=true):Gr l s i (k+1) (some k) i:=by
 have hk':=(List.getElem?_eq_some_iff.1 hx).1
 have hi:=h.hi
 refine⟨h.hi,by omega,Nat.le_refl _,λh=>by(cases h),λj hj=>?_⟩
 injection hj with hj
 subst hj
 refine⟨Nat.le_refl _,by omega,by simp[XM],by simp[PM],?_⟩
 have key:PM (l.drop k) (s.drop i)↔AcY l s k i:=by
  rw[DR hx,G3 hm]
  constructor
  ·rintro⟨n,hn,h1⟩
   rw[List.length_drop] at hn
   rw[List.drop_drop] at h1
   exact⟨i+n,by omega,by omega,h1⟩
  ·rintro⟨n,h1,h2,h3⟩
   exact⟨n-i,by rw[List.length_drop];omega,by rw[List.drop_drop,show i+(n-i)=n by omega];exact h3⟩
 cases st with
 |none=>exact(h.none_ rfl).2.trans key
 | some j=>
  obtain⟨h1,h2,h3,h4,h5⟩:=h.some_ j rfl
  rw[h5]
  constructor
  ·rintro⟨n,hn,hns,hp⟩
   rw[JD l (j+1) k h1,Ku] at hp
   obtain⟨m,hm',hp1,hp2⟩:=hp
   have hl:=OX h3 hp1
   rw[List.length_take,List.length_take,List.length_drop,List.length_drop] at hl
   rw[List.length_drop] at hm'
   rw[List.drop_drop] at hp2
   rw[DR hx] at hp2
   obtain⟨q,hq,hp3⟩:=(G3 hm _ _).1 hp2
   rw[List.length_drop] at hq
   rw[List.drop_drop] at hp3
   have:=h.hf
   exact⟨n+m+q,by omega,by omega,hp3⟩
  ·intro hp
   exact⟨fr,Nat.le_refl _,by have:=h.hf;omega,(h.seg rfl fr rfl).2 (key.2 hp)⟩
theorem Gr.hit (h:Gr l s i k st fr) {x:Pc} {b:UInt8} (hx:l[k]?=some x) (hb:s[i]?=some b) (hm:x.many=false) (hh:x.hit b=true):Gr l s (i+1) (k+1) st fr:=by
 have hk':=(List.getElem?_eq_some_iff.1 hx).1
 have hi':=(List.getElem?_eq_some_iff.1 hb).1
 have hf:=h.hf
 refine⟨by omega,by omega,by omega,λe=>⟨(h.none_ e).1,(h.none_ e).2.trans ?_⟩,λj hj=>?_⟩
 ·rw[DR hx,DR hb,FH hm]
  constructor
  ·rintro⟨c,t,e,_,ht⟩
   injection e with e1 e2
   subst e2
   exact ht
  ·intro ht;exact⟨b,_,rfl,hh,ht⟩
 ·obtain⟨h1,h2,h3,h4,h5⟩:=h.some_ j hj
  have e1:(l.drop (j+1)).take (k+1-(j+1))=(l.drop (j+1)).take (k-(j+1))++[x]:=by
   rw[show k+1-(j+1)=k-(j+1)+1 by omega,List.take_add_one,List.getElem?_drop,show j+1+(k-(j+1))=k by omega,hx];rfl
  have e2:(s.drop fr).take (i+1-fr)=(s.drop fr).take (i-fr)++[b]:=by
   rw[show i+1-fr=i-fr+1 by omega,List.take_add_one,List.getElem?_drop,show fr+(i-fr)=i by omega,hb];rfl
  refine⟨by omega,by omega,?_,?_,h5⟩
  ·rw[e1]
   intro y hy
   rcases List.mem_append.1 hy with hy|hy
   ·exact h3 y hy
   ·rw[List.mem_singleton.1 hy];exact hm
  ·rw[e1,e2]
   exact(Ld hm _ _ _).2 ⟨h4,hh⟩
def VX (l:List Pc) (s:List UInt8) (i k:Nat):Prop:=i<s.length/\∀x,l[k]?=some x->x.many=false/\∀b,s[i]?=some b->x.hit b=false
theorem VX.no (h:VX l s i k):¬PM (l.drop k) (s.drop i):=by
 obtain⟨hi,hx⟩:=h
 have hb:s[i]?=some s[i]:=List.getElem?_eq_getElem hi
 by_cases hk:k<l.length
 ·have hx':=hx l[k] (List.getElem?_eq_getElem hk)
  rw[DR (List.getElem?_eq_getElem hk),DR hb,FH hx'.1]
  rintro⟨c,t,e,hc,_⟩
  injection e with e1 e2
  subst e1
  rw[hx'.2 _ hb] at hc
  cases hc
 ·rw[List.drop_eq_nil_of_le ZO,Kv,DR hb]
  intro e;cases e
theorem Gr.miss_none (h:Gr l s i k none fr) (hm:VX l s i k):¬PM l s:=λhp=>hm.no ((h.none_ rfl).2.1 hp)
theorem Gr.miss_some {j:Nat} (h:Gr l s i k (some j) fr) (hm:VX l s i k):Gr l s (fr+1) (j+1) (some j) (fr+1):=by
 obtain⟨h1,h2,h3,h4,h5⟩:=h.some_ j rfl
 have hf:=h.hf
 have hi:=hm.1
 have hk:=h.hk
 refine⟨by omega,by omega,by omega,λh=>by(cases h),λj' hj=>?_⟩
 injection hj with hj
 subst hj
 refine⟨Nat.le_refl _,by omega,by simp[XM],by simp[PM],?_⟩
 rw[h5]
 constructor
 ·rintro⟨n,hn,hns,hp⟩
  by_cases e:n=fr
  ·exact absurd ((h.seg rfl n e).1 hp) hm.no
  ·exact⟨n,by omega,hns,hp⟩
 ·rintro⟨n,hn,hns,hp⟩
  exact⟨n,by omega,hns,hp⟩
theorem Gr.end_ (h:Gr l s s.length k st fr):PM l s↔∀x∈l.drop k,x.many=true:=by
 rw[<-Aei]
 cases st with
 |none=>
  have:=(h.none_ rfl).2
  rw[List.drop_eq_nil_of_le (Nat.le_refl _)] at this
  exact this
 | some j=>
  obtain⟨h1,h2,h3,h4,h5⟩:=h.some_ j rfl
  have key:=h.seg rfl fr rfl
  rw[List.drop_eq_nil_of_le (Nat.le_refl s.length)] at key
  have hk:=h.hk
  have hf:=h.hf
  rw[h5]
  constructor
  ·rintro⟨n,hn,hns,hp⟩
   have:n=fr:=by
    rw[JD l (j+1) k h1,Ku] at hp
    obtain⟨m,hm',hp1,hp2⟩:=hp
    have hl:=OX h3 hp1
    rw[List.length_take,List.length_take,List.length_drop,List.length_drop] at hl
    rw[List.length_drop] at hm'
    omega
   subst this
   exact key.1 hp
  ·intro hp
   exact⟨fr,Nat.le_refl _,h.hf,key.2 hp⟩
end
end
section
open Go.RowKit
def pcF:VQ Pc:=⟨3,λx=>[.int .u8 x.c.toNat,.bool x.one,.bool x.many],λ_=>rfl,λx u hu=>by
 simp at hu
 rcases hu with rfl|rfl|rfl<;>rfl,by decide⟩
theorem UZ {w:World} {D:Nat->Prop} {A:Option Addr} {n c:Nat} {l:List Pc} (h:RF pcF w D (.slice A n c) l) {i:Nat} (hi:i<n):
  ∃b off x,A=some ⟨b,off,none⟩/\D b/\l[i]?=some x/\w.cell? ⟨b,off+i*3,none⟩=some (.int .u8 x.c.toNat)/\w.cell? ⟨b,off+i*3+1,none⟩=some (.bool x.one)/\w.cell? ⟨b,off+i*3+2,none⟩=some (.bool x.many):=by
 obtain⟨b,off,x,e,hb,hx,hc⟩:=h.at_ hi
 exact⟨b,off,x,e,hb,hx,hc 0 _ rfl,hc 1 _ rfl,hc 2 _ rfl⟩
def Lw (p:Prop) (w:World) (e:Ending) (w':World):Prop:=∃b,e= .returned (.bool b)/\(b=true↔p)/\∃d,w'=w.drewN d
theorem Q7 {p:Prop} (hp:p) (w:World) (d:Nat):Lw p w (.returned (.bool true)) (w.drewN d):=⟨true,rfl,by simp[hp],d,rfl⟩
theorem Lw.no {p:Prop} (hp:¬p) (w:World) (d:Nat):Lw p w (.returned (.bool false)) (w.drewN d):=⟨false,rfl,by simp[hp],d,rfl⟩
def stI:Option Nat->Int
 |none=> -1
 |some j=>j
theorem JJ {S L fr k fr' k':Nat} (hk:k<L) (h:(fr=fr'/\k'=k+1)\/(fr<fr'/\fr'<=S)):(S-fr')*L+(L-k')<(S-fr)*L+(L-k):=by
 rcases h with⟨rfl,rfl⟩|⟨h1,h2⟩
 ·omega
 ·have h3:(S-fr')*L+L<=(S-fr)*L:=by
   rw[<-Nat.succ_mul]
   exact Nat.mul_le_mul_right _ ZO
  omega
theorem RM (s:ByteArray) (v:Value) (l:List Pc) (w:World) (hs:s.size<=2000) (hl:l.length<=100) (h:RF pcF w (· <w.heap.size) v l):
  Calls prog 261 #[.string s,v] w (Lw (PM l (bs s)) w):=by
 obtain⟨A,c,rfl,h⟩:=h.ex
 have H:=Lib.hid h
 have hbl:=Lib.hid (Cf s)
 clear h
 go_enter func261,ntmps261
 go_wp2_with fail
 go_loopw [5,6,7,8] (λvi vk vs vf wr=> ∃(i k fr:Nat) (st:Option Nat),Gr l (bs s) i k st fr/\vi= .int .i64 i/\vk= .int .i64 k/\vs= .int .i64 (stI st)/\vf= .int .i64 fr/\∃d,wr=w.drewN d)
  (λ_ vk _ vf _=>(s.size+1-(intOf vf).toNat)*(l.length+1)+(l.length+1-(intOf vk).toNat))
 case atStart=>exact⟨0,0,0,none,Gr.start _ _,rfl,rfl,rfl,rfl,0,rfl⟩
 case round=>
  obtain⟨i,k,fr,st,hg,rfl,rfl,rfl,rfl,d,rfl⟩:=hrel
  have gi:=hg.hi
  have gk:=hg.hk
  have gf:=hg.hf
  rw[hbl.out] at gi
  have HG:=Lib.hid hg
  clear hg
  by_cases hi:i<s.size
  ·have HB:=Lib.hid (EH s i hi)
   by_cases hk:k<l.length
   ·obtain⟨b,off,x,rfl,_,hx,hc0,hc1,hc2⟩:=UZ H.out hk
    have HX:=Lib.hid hx
    obtain⟨xc,x1,xm⟩:=x
    dsimp only at hc0 hc1 hc2
    clear hx
    cases xm
    ·by_cases hh:x1=true\/xc=s[i]
     ·have HH:=Lib.hid (HG.out.hit HX.out HB.out rfl (by unfold Pc.hit;rcases hh with rfl|rfl<;>simp))
      cases x1
      ·have e:xc=s[i]:=by rcases hh with h|h;cases h;exact h
       subst e
       clear hh
       go_wp2_with fail
       go_quiet (fail)
       go_wp2_with fail
       go_roundw
       case rel=>exact⟨i+1,k+1,fr,st,HH.out,by go_num,by go_num,rfl,rfl,_,rfl⟩
       case measure=>simp only[intOf];exact JJ ZO (.inl ⟨rfl,by omega⟩)
      ·clear hh
       go_wp2_with fail
       go_quiet (fail)
       go_wp2_with fail
       go_roundw
       case rel=>exact⟨i+1,k+1,fr,st,HH.out,by go_num,by go_num,rfl,rfl,_,rfl⟩
       case measure=>simp only[intOf];exact JJ ZO (.inl ⟨rfl,by omega⟩)
     ·have hm:VX l (bs s) i k:=⟨by rw[Cf];exact hi,λy hy=>by
       rw[HX.out] at hy
       injection hy with hy
       subst hy
       refine⟨rfl,λb hb=>?_⟩
       rw[HB.out] at hb
       injection hb with hb
       subst hb
       unfold Pc.hit
       simp at hh⊢
       exact⟨hh.1,hh.2⟩⟩
      have e1:x1=false:=by simp at hh;exact hh.1
      subst e1
      have e2:((xc.toNat:Int)==(s[i].toNat:Int))=false:=beq_false_of_ne λh=>hh (.inr (UInt8.toNat_inj.1 ZO))
      have HM:=Lib.hid hm
      clear hm hh
      cases st with
      |none=>
       rw[show stI none= -1 from rfl]
       have HF:=Lib.hid (HG.out.miss_none HM.out)
       go_wp2_with fail
       go_quiet (fail)
       go_wp2_with fail
       go_ret
       exact Lw.no HF.out _ _
      |some j=>
       rw[show stI (some j)=(j:Int) from rfl]
       have HF:=Lib.hid (HG.out.miss_some HM.out)
       have hj:=HF.out.hk
       go_wp2_with fail
       go_quiet (fail)
       go_wp2_with fail
       go_roundw
       case rel=>exact⟨fr+1,j+1,fr+1,some j,HF.out,by go_num,by go_num,rfl,by go_num,_,rfl⟩
       case measure=>simp only[intOf];exact JJ ZO (.inr ⟨by omega,by omega⟩)
    ·have HH:=Lib.hid (HG.out.many HX.out rfl)
     go_wp2_with fail
     go_roundw
     case rel=>exact⟨i,k+1,i,some k,HH.out,rfl,by go_num,rfl,rfl,_,rfl⟩
     case measure=>
      simp only[intOf]
      exact JJ ZO ZO
   ·have e1:decide (k<l.length)=false:=by simpa using hk
    have HM:Hid (VX l (bs s) i k):=Lib.hid ⟨by rw[Cf];exact hi,λy hy=>absurd (List.getElem?_eq_some_iff.1 hy) (λh=>hk h.1)⟩
    have hk':l.length<=k:=by omega
    clear hk
    cases st with
    |none=>
     rw[show stI none= -1 from rfl]
     have HF:=Lib.hid (HG.out.miss_none HM.out)
     go_wp2_with fail
     go_quiet (fail)
     go_wp2_with fail
     go_ret
     exact Lw.no HF.out _ _
    |some j=>
     rw[show stI (some j)=(j:Int) from rfl]
     have HF:=Lib.hid (HG.out.miss_some HM.out)
     have hj:=HF.out.hk
     go_wp2_with fail
     go_quiet (fail)
     go_wp2_with fail
     go_roundw
     case rel=>exact⟨fr+1,j+1,fr+1,some j,HF.out,by go_num,by go_num,rfl,by go_num,_,rfl⟩
     case measure=>simp only[intOf];exact JJ ZO (.inr ⟨by omega,by omega⟩)
  ·obtain rfl:i=s.size:=by omega
   have HE:Hid (PM l (bs s)↔∀x∈l.drop k,x.many=true):=Lib.hid (by
    have:=HG.out
    rw[<-hbl.out] at this
    exact this.end_)
   clear hi
   go_wp2_with fail
   go_loopw [6] (λvk wr=> ∃m:Nat,k<=m/\m<=l.length/\(∀x,x∈(l.drop k).take (m-k)->x.many=true)/\vk= .int .i64 m/\∃d,wr=w.drewN d) (λvk _=>l.length-(intOf vk).toNat)
   case atStart=>exact⟨k,Nat.le_refl _,gk,by simp,rfl,d,rfl⟩
   case round=>
    obtain⟨m,m1,m2,hm,rfl,d',rfl⟩:=hrel
    have HA:=Lib.hid hm
    clear hm
    by_cases hlt:m<l.length
    ·obtain⟨b,off,x,rfl,_,hx,hc0,hc1,hc2⟩:=UZ H.out hlt
     have HX:=Lib.hid hx
     obtain⟨xc,x1,xm⟩:=x
     dsimp only at hc0 hc1 hc2
     clear hx
     have ht:Hid ((l.drop k).take (m+1-k)=(l.drop k).take (m-k)++[⟨xc,x1,xm⟩]):=Lib.hid (by
      rw[show m+1-k=m-k+1 by omega,List.take_add_one,List.getElem?_drop,show k+(m-k)=m by omega,HX.out];rfl)
     cases xm
     ·have HF:Hid (¬PM l (bs s)):=Lib.hid (λh=>by
       have:=HE.out.1 h ⟨xc,x1,false⟩ (List.mem_of_getElem? (i:=m-k) (by rw[List.getElem?_drop,show k+(m-k)=m by omega,HX.out]))
       cases this)
      have e1:((m:Int)==(l.length:Int))=false:=beq_false_of_ne ZO
      go_wp2_with fail
      go_ret
      exact Lw.no HF.out _ _
     ·go_wp2_with fail
      go_roundw
      case rel=>
       refine⟨m+1,by omega,by omega,λx hx=>?_,by go_num,_,rfl⟩
       rw[ht.out] at hx
       rcases List.mem_append.1 hx with hx|hx
       ·exact HA.out x hx
       ·rw[List.mem_singleton.1 hx]
      case measure=>simp[intOf];omega
    ·obtain rfl:m=l.length:=by omega
     have HF:Hid (PM l (bs s)):=Lib.hid (HE.out.2 λx hx=>HA.out x (by rw[List.take_of_length_le (by rw[List.length_drop];omega)];exact hx))
     go_wp2_with fail
     go_ret
     exact Q7 HF.out _ _
end
section
open Go.RowKit
def Hd (w:World) (b n:Nat) (f:Nat->Value):Prop:=∀j,j<n->w.cell? ⟨b,j,none⟩=some (f j)/\w.frozen? ⟨b,j,none⟩=false
theorem Hd.cell {w:World} {b n:Nat} {f:Nat->Value} (h:Hd w b n f) {j:Nat} (hj:j<n):w.cell? ⟨b,j,none⟩=some (f j):=(h j hj).1
theorem Hd.free {w:World} {b n:Nat} {f:Nat->Value} (h:Hd w b n f) {j:Nat} (hj:j<n):w.frozen? ⟨b,j,none⟩=false:=(h j hj).2
theorem Hd.below {w w':World} {b n B:Nat} {f:Nat->Value} (h:Hd w b n f) (hb:Below B w w') (hB:b<B):Hd w' b n f:=
 λj hj=>⟨(hb.cell (p:=⟨b,j,none⟩) hB).trans (h j hj).1,(hb.frozen (p:=⟨b,j,none⟩) hB).trans (h j hj).2⟩
theorem Hd.other {w:World} {b n:Nat} {f:Nat->Value} (h:Hd w b n f) {p:Addr} (hp:p.block≠b) (v:Value):Hd (w.setCell p v) b n f:=λj hj=>by
 refine⟨?_,by rw[World.frozen?_setCell];exact(h j hj).2⟩
 rw[World.cell?_setCell_other _ _ _ _ (by intro e;apply hp;rw[e])]
 exact(h j hj).1
theorem Hd.set {w:World} {b n i:Nat} {f g:Nat->Value} (h:Hd w b n f) (hi:i<n) (v:Value) (hv:g i=v) (ho:∀j,j<n->j≠i->g j=f j):Hd (w.setCell ⟨b,i,none⟩ v) b n g:=λj hj=>by
 refine⟨?_,by rw[World.frozen?_setCell];exact(h j hj).2⟩
 by_cases e:j=i
 ·subst e
  rw[World.cell?_setCell_same _ _ _ (h j hj).1,hv]
 ·rw[World.cell?_setCell_other _ _ _ _ (by intro h;injection h;omega),(h j hj).1,ho j hj e]
theorem Hd.congr {w:World} {b n:Nat} {f g:Nat->Value} (h:Hd w b n f) (hg:∀j,j<n->g j=f j):Hd w b n g:=λj hj=>by rw[hg j hj];exact h j hj
theorem EJ {P:Program} {ops:Array Oper} {rest:List Oper} {o:Oper} {a:Act} {Q:Exit->Act->World->Prop} {w:World} (hgd:Region.wanted o (yielded ops a.tmps)=true) (l c:Operand) (t e:TypeId) (bytes:Nat) (z:Value)
  (hop:o.op=Op.makeSlice t l c) (ht:P.underlying t=some (.slice e)) (hi:(P.info? e).map (λi=>(i.zero,i.size,i.bytes))=some (some z,1,bytes)) (hz:z.cells= #[z])
  {L C:Int} {n:Nat} (hl:a.eval l= .int .i64 L) (hc:a.eval c= .int .i64 C) (hL:L=(n:Int)) (hC:C=(n:Int)) (hb:bytes*n<=281474976710656) (hm:n<=maxLen)
  (k:∀w',Hd w' w.heap.size n (λ_=>z)->Below w.heap.size w w'->w'.heap.size=w.heap.size+1->wpList P ops Q rest (a.put o.dst (.slice (some ⟨w.heap.size,0,none⟩) n n)) w'):wpList P ops Q (o::rest) a w:=
 It hgd λ_ hK=>by
  obtain⟨i,hi1,hi2⟩:=Option.map_eq_some_iff.1 hi
  simp only[Prod.mk.injEq] at hi2
  obtain⟨h1,h2,h3⟩:=hi2
  subst hL hC
  have h4:((bytes*n:Nat):Int)<=281474976710656:=by omega
  have h5:(i.bytes:Int)*(n:Int)<=281474976710656:=by rw[h3];rwa [Int.natCast_mul] at h4
  have hr:=run_make (P:=P) w t e i z ht hi1 h1 .i64 .i64 n n ZO (Int.le_refl _) h5 (by unfold maxLen at hm;omega)
  simp only[Int.toNat_natCast,h2,Nat.mul_one] at hr
  unfold Oper.wp execOp
  simp only[hop,hl,hc,Sem.run_bind,hr,Result.andThen_ok]
  refine hK _ _ (k _ ?_ (Below.alloc (Below.refl _ _) (Nat.le_refl _) _) ZX)
  intro j hj
  have hh:(w.alloc (.cells (madeCells z.cells n) e)).heap[w.heap.size]?=some (.cells (madeCells z.cells n) e (0,0)):=heap_alloc_new w _
  refine⟨?_,?_⟩
  ·rw[cell_of_row _ _ _ _ e (0,0) hh]
   rw[hz]
   simp[madeCells,hj,Nat.mod_one]
  ·unfold World.frozen?
   dsimp only
   rw[hh]
   simp
end
section
open Go.RowKit
def AU (x:Pc) (s:List UInt8) (f:Nat->Bool):Nat->Bool
 |0=>x.many&&f 0
 |j+1=>if x.many then f (j+1)||AU x s f j else f j&&(match s[j]? with|some b=>x.hit b|none=>false)
def LX (l:List Pc) (s:List UInt8) (f:Nat->Bool):Prop:=∀j,j<=s.length->(f j=true↔PM l (s.take j))
theorem LX.start (s:List UInt8):LX [] s (λj=>decide (j=0)):=λj hj=>by
 rw[Kv]
 constructor
 ·intro h
  have:j=0:=by simpa using h
  subst this;rfl
 ·intro h
  have:=congrArg List.length h
  rw[List.length_take,List.length_nil] at this
  have:j=0:=by omega
  simp[this]
theorem LX.next {l:List Pc} {s:List UInt8} {f:Nat->Bool} (h:LX l s f) (x:Pc):LX (l++[x]) s (AU x s f):=by
 intro j
 induction j with
 | zero=>
  intro _
  have h0:=h 0 ZO
  rw[List.take_zero] at h0⊢
  cases hm:x.many with
  |true=>
   rw[Ju hm]
   simp only[AU,hm,Bool.true_and,h0]
   constructor
   ·intro hp;exact⟨0,by omega,by simpa using hp⟩
   ·rintro⟨n,hn,hp⟩;simpa using hp
  |false=>
   simp only[AU,hm,Bool.false_and]
   constructor
   ·intro hp;cases hp
   ·intro hp;exact absurd hp (Q4 hm l)
 | succ j ih=>
  intro hj
  have ih:=ih ZO
  have hb:s[j]?=some s[j]:=List.getElem?_eq_getElem ZO
  cases hm:x.many with
  | true=>
   rw[Ju hm] at ih⊢
   simp only[AU,hm,if_true,Bool.or_eq_true,ih,h (j+1) hj]
   constructor
   ·rintro(hp|⟨n,hn,hp⟩)
    ·exact⟨(s.take (j+1)).length,Nat.le_refl _,by rw[List.take_of_length_le (Nat.le_refl _)];exact hp⟩
    ·rw[List.length_take] at hn
     refine⟨n,by rw[List.length_take];omega,?_⟩
     rw[List.take_take] at hp⊢
     rw[show min n (j+1)=n by omega]
     rw[show min n j=n by omega] at hp
     exact hp
   ·rintro⟨n,hn,hp⟩
    rw[List.length_take] at hn
    by_cases e:n=j+1
    ·left
     rw[e,List.take_take,Nat.min_self] at hp
     exact hp
    ·right
     refine⟨n,by rw[List.length_take];omega,?_⟩
     rw[List.take_take] at hp⊢
     rw[show min n j=n by omega]
     rw[show min n (j+1)=n by omega] at hp
     exact hp
  |false=>
   rw[List.take_add_one,hb]
   show _↔PM (l++[x]) (s.take j++[s[j]])
   rw[Ld hm]
   have h1:=h j ZO
   simp only[AU,hm,hb]
   rw[<-h1]
   simp
theorem T6 {x:Pc} {s:List UInt8} {f:Nat->Bool} (hm:x.many=true):AU x s f 0=f 0:=by simp[AU,hm]
theorem WU {x:Pc} {s:List UInt8} {f:Nat->Bool} {i:Nat} (hm:x.many=true) (hi:0<i):AU x s f i=(f i||AU x s f (i-1)):=by
 obtain⟨m,rfl⟩:∃m,i=m+1:=⟨i-1,by omega⟩
 simp[AU,hm]
theorem O4 {x:Pc} {s:List UInt8} {f:Nat->Bool} (hm:x.many=false):AU x s f 0=false:=by simp[AU,hm]
theorem RU {x:Pc} {s:List UInt8} {f:Nat->Bool} {i:Nat} {b:UInt8} (hm:x.many=false) (hi:0<i) (hb:s[i-1]?=some b):AU x s f i=(f (i-1)&&x.hit b):=by
 obtain⟨m,rfl⟩:∃m,i=m+1:=⟨i-1,by omega⟩
 simp at hb
 simp[AU,hm,hb]
def Ql (g:Nat->Bool) (i:Nat) (j:Nat):Value:= .bool (if j<i then g j else false)
def KO (f:Nat->Bool) (j:Nat):Value:= .bool (f j)
theorem Hd.step {w:World} {b n i:Nat} {g:Nat->Bool} (h:Hd w b n (Ql g i)) (hi:i<n) (v:Bool) (hv:g i=v):Hd (w.setCell ⟨b,i,none⟩ (.bool v)) b n (Ql g (i+1)):=
 h.set hi _ (by simp[Ql,hv]) (λj hj hne=>by
  unfold Ql
  by_cases hji:j<i
  ·rw[if_pos hji,if_pos ZO]
  ·rw[if_neg hji,if_neg ZO])
theorem Hd.stay {w:World} {b n:Nat} {g:Nat->Bool} (h:Hd w b n (Ql g 0)) (hv:g 0=false):Hd w b n (Ql g (0+1)):=
 h.congr λj hj=>by
  unfold Ql
  by_cases e:j=0
  ·subst e;simp[hv]
  ·rw[if_neg ZO,if_neg ZO]
theorem Hd.done {w:World} {b n:Nat} {g:Nat->Bool} (h:Hd w b n (Ql g n)):Hd w b n (KO g):=h.congr λj hj=>by unfold Ql KO;rw[if_pos hj]
theorem Hd.fresh {w:World} {b n:Nat} (h:Hd w b n (λ_=> .bool false)) (g:Nat->Bool):Hd w b n (Ql g 0):=h.congr λj hj=>by unfold Ql;rw[if_neg ZO]
theorem KB:(prog.info? 4).map (λi=>(i.zero,i.size,i.bytes))=some (some (.bool false),1,1):=by kernel_rfl
def Abq (s p:ByteArray) (w:World) (e:Ending) (w':World):Prop:=∃b,e= .returned (.bool b)/\(b=true↔PM (AE (bs p)) (bs s))/\Below w.heap.size w w'
end
section
open Go.RowKit
theorem YJ (s p:ByteArray) (w:World) (hs:s.size<=2000) (hp:p.size<=100):
  Calls prog 225 #[.string s,.string p] w (Abq s p w):=by
 have hbl:=Lib.hid (Cf s)
 have hbp:=Lib.hid (Cf p)
 go_enter func225,ntmps225
 go_wp2_with (refine EJ rfl _ _ 313 4 1 (.bool false) rfl underlying313 KB rfl rfl rfl (n:=s.size+1) ZO ZO ZO (by unfold maxLen;omega) ?_;intro w1 a1 b1 z1;have HA1:=Lib.hid a1;have c0:=a1.cell (j:=0) ZO;have f0:=a1.free (j:=0) ZO;clear a1)
 go_loopw [5,6] (λvn vk wr=> ∃(k:Nat) (L:List Pc) (b:Nat) (f:Nat->Bool),k<=p.size/\AE (bs p)=L++AE ((bs p).drop k)/\LX L (bs s) f/\vk= .int .i64 k/\vn= .slice (some ⟨b,0,none⟩) (s.size+1) (s.size+1)/\w.heap.size<=b/\b<wr.heap.size/\Hd wr b (s.size+1) (KO f)/\Below w.heap.size w wr)
  (λ_ vk _=>p.size-(intOf vk).toNat)
 case atStart=>exact⟨0,[],w.heap.size,λj=>decide (j=0),by omega,rfl,LX.start _,rfl,rfl,Nat.le_refl _,by simp;omega,HA1.out.set ZO _ (by simp[KO]) (λj hj hne=>by simp[KO,hne]),b1.setCell ZX _⟩
 case round=>
  obtain⟨k,L,b,f,hk,hpl,hf,rfl,rfl,hbase,hbs,ha,hb⟩:=hrel
  have A0:=Lib.hid ha
  have B0:=Lib.hid hb
  have HL:=Lib.hid hpl
  have HF:=Lib.hid hf
  clear ha hb hpl hf HA1 c0 f0 b1 z1 w1
  by_cases hlt:k<p.size
  ·have hpk:=EH p k hlt
   have hdk:=Lib.hid (DR hpk)
   by_cases hesc:p[k].toNat=92/\k+1<p.size
   ·obtain⟨e1,e2⟩:=hesc
    obtain⟨x,hx⟩:∃x:Pc,x=⟨p[k+1],false,false⟩:=⟨_,rfl⟩
    have hfx:=Lib.hid (HF.out.next x)
    have hl2:Hid (AE (bs p)=(L++[x])++AE ((bs p).drop (k+2))):=Lib.hid (by
     rw[HL.out,hdk.out,DR (EH p (k+1) e2),IY _ _ _ e1,hx,List.append_assoc];rfl)
    have hmy:=Lib.hid (show x.many=false by rw[hx])
    have hone:=Lib.hid (show x.one=false by rw[hx])
    obtain⟨cc,hcc0⟩:∃c:UInt8,c=p[k+1]:=⟨_,rfl⟩
    have hcc:=Lib.hid (show x.c=cc by rw[hx,hcc0])
    have t1:((p[k].toNat:Int)==92)=true:=by rw[e1];rfl
    have t3:((p[k].toNat:Int)==42)=false:=by rw[e1];rfl
    have t4:((p[k].toNat:Int)==63)=false:=by rw[e1];rfl
    have t2:(k:Int)+1<p.size:=by omega
    have e1':=Lib.hid e1
    have HCC:=Lib.hid hcc0.symm
    clear hx e1 hpk hcc0
    go_wp2_with (refine EJ rfl _ _ 313 4 1 (.bool false) rfl underlying313 KB rfl rfl rfl (n:=s.size+1) ZO ZO ZO (by unfold maxLen;omega) ?_;intro w2 a2 bb2 zz2;have HA2:=Lib.hid a2;have HB2:=Lib.hid bb2;have HZ2:=Lib.hid zz2;clear a2 bb2 zz2)
    have HA1:=Lib.hid (A0.out.below HB2.out hbs)
    have HB:=Lib.hid (B0.out.trans (HB2.out.mono B0.out.size))
    obtain⟨z2,hz2'⟩:∃z,z=w2.heap.size:=⟨_,rfl⟩
    have hz2:=Lib.hid hz2'.symm
    have hz3:z2=wr.heap.size+1:=by have:=HZ2.out;omega
    obtain⟨b2,hb2⟩:∃q,q=wr.heap.size:=⟨_,rfl⟩
    rw[<-hb2] at HA2⊢
    have hb3:b2+1=z2/\b<b2/\w.heap.size<=b2:=by omega
    clear hz2' hb2 hz3
    rw[HCC.out]
    clear t1 t2 t3 t4 e1' HCC
    go_loopw [11] (λvi wr'=> ∃i:Nat,i<=s.size+1/\vi= .int .i64 i/\Hd wr' b (s.size+1) (KO f)/\Hd wr' b2 (s.size+1) (Ql (AU x (bs s) f) i)/\Below w.heap.size w wr'/\wr'.heap.size=z2) (λvi _=>s.size+1-(intOf vi).toNat)
    case atStart=>exact⟨0,by omega,rfl,HA1.out,HA2.out.fresh _,HB.out,hz2⟩
    case round=>
     obtain⟨i,hi,rfl,ha,ha2,hb',hz⟩:=hrel
     have A1:=Lib.hid ha
     have A2:=Lib.hid ha2
     have BB:=Lib.hid hb'
     have ZZ:=Lib.hid hz
     clear ha ha2 hb' hz
     by_cases hle:i<=s.size
     ·have fr2:=A2.out.free (j:=i) ZO
      have old2:=A2.out.cell (j:=i) ZO
      obtain⟨ov,hov⟩:∃v,v=Ql (AU x (bs s) f) i i:=⟨_,rfl⟩
      rw[<-hov] at old2
      clear hov
      by_cases h0:i=0
      ·subst h0
       have HV:=Lib.hid (O4 (s:=bs s) (f:=f) hmy.out)
       go_wp2_with fail
       go_roundw
       case rel=>exact⟨0+1,by omega,by go_num,A1.out,A2.out.stay HV.out,BB.out,ZZ.out⟩
       case measure=>first|(simp[intOf];done)|(simp[intOf];omega)
      ·have i1:0<i:=by omega
       have ie:((i:Int)-1).toNat=i-1:=by omega
       have ig:(1:Int)<=i:=by omega
       have il:(i:Int)-1<s.size:=by omega
       clear h0
       have c1:=A1.out.cell (j:=i-1) ZO
       unfold KO at c1
       have hsb:=EH s (i-1) ZO
       have HN:=Lib.hid (RU (s:=bs s) (f:=f) hmy.out i1 hsb)
       have HSB:=Lib.hid hsb
       clear hsb
       cases hf:f (i-1)
       ·rw[hf] at c1 HN
        have HV:Hid (AU x (bs s) f i=false):=Lib.hid (HN.out)
        go_wp2_with fail
        go_roundw
        case rel=>exact⟨i+1,by omega,by go_num,A1.out.other (by simp;omega) _,A2.out.step ZO _ HV.out,BB.out.setCell (by simp;omega) _,by simpa using ZZ.out⟩
        case measure=>first|(simp[intOf];done)|(simp[intOf];omega)
       ·rw[hf] at c1 HN
        by_cases hh:x.hit s[i-1]=true
        ·rw[hh] at HN
         have q2:(((s[i-1]'ZO).toNat:Int)==(cc.toNat:Int))=true:=by
          unfold Pc.hit at hh
          rw[hone.out,hcc.out] at hh
          have:cc=s[i-1]:=by simpa using hh
          rw[this];simp
         clear hh
         have HV:Hid (AU x (bs s) f i=true):=Lib.hid (HN.out)
         go_wp2_with fail
         go_roundw
         case rel=>exact⟨i+1,by omega,by go_num,A1.out.other (by simp;omega) _,A2.out.step ZO _ HV.out,BB.out.setCell (by simp;omega) _,by simpa using ZZ.out⟩
         case measure=>first|(simp[intOf];done)|(simp[intOf];omega)
        ·have hh':x.hit s[i-1]=false:=by simpa using hh
         rw[hh'] at HN
         have q1:x.one=false:=by unfold Pc.hit at hh';simp at hh';exact hh'.1
         have q2:(((s[i-1]'ZO).toNat:Int)==(x.c.toNat:Int))=false:=by unfold Pc.hit at hh';simp at hh';exact beq_false_of_ne λh=>hh'.2 (UInt8.toNat_inj.1 ZO)
         clear hh hh'
         rw[hone.out] at q1
         rw[hcc.out] at q2
         clear q1
         have HV:Hid (AU x (bs s) f i=false):=Lib.hid (HN.out)
         go_wp2_with fail
         go_roundw
         case rel=>exact⟨i+1,by omega,by go_num,A1.out.other (by simp;omega) _,A2.out.step ZO _ HV.out,BB.out.setCell (by simp;omega) _,by simpa using ZZ.out⟩
         case measure=>first|(simp[intOf];done)|(simp[intOf];omega)
     ·obtain rfl:i=s.size+1:=by omega
      have AD:=Lib.hid A2.out.done
      go_wp2_with fail
      go_roundw
      case rel=>exact⟨k+2,L++[x],b2,AU x (bs s) f,by omega,hl2.out,hfx.out,by go_num,rfl,by have:=BB.out.size;omega,by have:=ZZ.out;omega,AD.out,BB.out⟩
      case measure=>first|(simp[intOf];done)|(simp[intOf];omega)
   ·obtain⟨x,hx⟩:∃x:Pc,x=ET p[k]:=⟨_,rfl⟩
    have hfx:=Lib.hid (HF.out.next x)
    have hl2:Hid (AE (bs p)=(L++[x])++AE ((bs p).drop (k+1))):=Lib.hid (by
     rw[HL.out,hdk.out,GK _ _ (by
      by_cases e:p[k].toNat=92
      ·right
       rw[List.drop_eq_nil_of_le (by rw[hbp.out];omega)]
      ·exact .inl e),hx,List.append_assoc];rfl)
    obtain⟨st,hst⟩:∃q:Bool,((p[k].toNat:Int)==42)=q:=⟨_,rfl⟩
    obtain⟨an,han⟩:∃q:Bool,((p[k].toNat:Int)==63)=q:=⟨_,rfl⟩
    have hmy:=Lib.hid (show x.many=st by rw[hx,<-hst];unfold ET;rw[Bool.eq_iff_iff];simp;omega)
    have hone:=Lib.hid (show x.one=an by rw[hx,<-han];unfold ET;rw[Bool.eq_iff_iff];simp;omega)
    obtain⟨cc,hcc0⟩:∃c:UInt8,c=p[k]:=⟨_,rfl⟩
    have hcc:=Lib.hid (show x.c=cc by rw[hx,hcc0];rfl)
    have HCC:=Lib.hid hcc0.symm
    clear hx hpk hcc0
    have hne:((p[k].toNat:Int)==92)=false\/(((p[k].toNat:Int)==92)=true/\¬((k:Int)+1<p.size)):=by
     by_cases e:p[k].toNat=92
     ·right;exact⟨by rw[e];rfl,by omega⟩
     ·left;exact beq_false_of_ne ZO
    clear hesc
    rcases hne with t1|⟨t1,t2⟩
    all_goals
     go_wp2_with (refine EJ rfl _ _ 313 4 1 (.bool false) rfl underlying313 KB rfl rfl rfl (n:=s.size+1) ZO ZO ZO (by unfold maxLen;omega) ?_;intro w2 a2 bb2 zz2;have HA2:=Lib.hid a2;have HB2:=Lib.hid bb2;have HZ2:=Lib.hid zz2;clear a2 bb2 zz2)
     have HA1:=Lib.hid (A0.out.below HB2.out hbs)
     have HB:=Lib.hid (B0.out.trans (HB2.out.mono B0.out.size))
     obtain⟨z2,hz2'⟩:∃z,z=w2.heap.size:=⟨_,rfl⟩
     have hz2:=Lib.hid hz2'.symm
     have hz3:z2=wr.heap.size+1:=by have:=HZ2.out;omega
     obtain⟨b2,hb2⟩:∃q,q=wr.heap.size:=⟨_,rfl⟩
     rw[<-hb2] at HA2⊢
     have hb3:b2+1=z2/\b<b2/\w.heap.size<=b2:=by omega
     clear hz2' hb2 hz3
     rw[HCC.out]
     clear t1 hst han HCC
     cases st
     ·go_loopw [11] (λvi wr'=> ∃i:Nat,i<=s.size+1/\vi= .int .i64 i/\Hd wr' b (s.size+1) (KO f)/\Hd wr' b2 (s.size+1) (Ql (AU x (bs s) f) i)/\Below w.heap.size w wr'/\wr'.heap.size=z2) (λvi _=>s.size+1-(intOf vi).toNat)
      case atStart=>exact⟨0,by omega,rfl,HA1.out,HA2.out.fresh _,HB.out,hz2⟩
      case round=>
       obtain⟨i,hi,rfl,ha,ha2,hb',hz⟩:=hrel
       have A1:=Lib.hid ha
       have A2:=Lib.hid ha2
       have BB:=Lib.hid hb'
       have ZZ:=Lib.hid hz
       clear ha ha2 hb' hz
       by_cases hle:i<=s.size
       ·have fr2:=A2.out.free (j:=i) ZO
        have old2:=A2.out.cell (j:=i) ZO
        obtain⟨ov,hov⟩:∃v,v=Ql (AU x (bs s) f) i i:=⟨_,rfl⟩
        rw[<-hov] at old2
        clear hov
        by_cases h0:i=0
        ·subst h0
         have HV:=Lib.hid (O4 (s:=bs s) (f:=f) hmy.out)
         go_wp2_with fail
         go_roundw
         case rel=>exact⟨0+1,by omega,by go_num,A1.out,A2.out.stay HV.out,BB.out,ZZ.out⟩
         case measure=>first|(simp[intOf];done)|(simp[intOf];omega)
        ·have i1:0<i:=by omega
         have ie:((i:Int)-1).toNat=i-1:=by omega
         have ig:(1:Int)<=i:=by omega
         have il:(i:Int)-1<s.size:=by omega
         clear h0
         have c1:=A1.out.cell (j:=i-1) ZO
         unfold KO at c1
         have hsb:=EH s (i-1) ZO
         have HN:=Lib.hid (RU (s:=bs s) (f:=f) hmy.out i1 hsb)
         have HSB:=Lib.hid hsb
         clear hsb
         cases hf:f (i-1)
         ·rw[hf] at c1 HN
          have HV:Hid (AU x (bs s) f i=false):=Lib.hid (HN.out)
          go_wp2_with fail
          go_roundw
          case rel=>exact⟨i+1,by omega,by go_num,A1.out.other (by simp;omega) _,A2.out.step ZO _ HV.out,BB.out.setCell (by simp;omega) _,by simpa using ZZ.out⟩
          case measure=>first|(simp[intOf];done)|(simp[intOf];omega)
         ·rw[hf] at c1 HN
          by_cases hh:x.hit s[i-1]=true
          ·rw[hh] at HN
           cases an
           ·have q2:(((s[i-1]'ZO).toNat:Int)==(cc.toNat:Int))=true:=by
             unfold Pc.hit at hh
             rw[hone.out,hcc.out] at hh
             have:cc=s[i-1]:=by simpa using hh
             rw[this];simp
            clear hh
            have HV:Hid (AU x (bs s) f i=true):=Lib.hid (HN.out)
            go_wp2_with fail
            go_roundw
            case rel=>exact⟨i+1,by omega,by go_num,A1.out.other (by simp;omega) _,A2.out.step ZO _ HV.out,BB.out.setCell (by simp;omega) _,by simpa using ZZ.out⟩
            case measure=>first|(simp[intOf];done)|(simp[intOf];omega)
           ·clear hh
            have HV:Hid (AU x (bs s) f i=true):=Lib.hid (HN.out)
            go_wp2_with fail
            go_roundw
            case rel=>exact⟨i+1,by omega,by go_num,A1.out.other (by simp;omega) _,A2.out.step ZO _ HV.out,BB.out.setCell (by simp;omega) _,by simpa using ZZ.out⟩
            case measure=>first|(simp[intOf];done)|(simp[intOf];omega)
          ·have hh':x.hit s[i-1]=false:=by simpa using hh
           rw[hh'] at HN
           have q1:x.one=false:=by unfold Pc.hit at hh';simp at hh';exact hh'.1
           have q2:(((s[i-1]'ZO).toNat:Int)==(x.c.toNat:Int))=false:=by unfold Pc.hit at hh';simp at hh';exact beq_false_of_ne λh=>hh'.2 (UInt8.toNat_inj.1 ZO)
           clear hh hh'
           rw[hone.out] at q1
           rw[hcc.out] at q2
           subst q1
           have HV:Hid (AU x (bs s) f i=false):=Lib.hid (HN.out)
           go_wp2_with fail
           go_roundw
           case rel=>exact⟨i+1,by omega,by go_num,A1.out.other (by simp;omega) _,A2.out.step ZO _ HV.out,BB.out.setCell (by simp;omega) _,by simpa using ZZ.out⟩
           case measure=>first|(simp[intOf];done)|(simp[intOf];omega)
       ·obtain rfl:i=s.size+1:=by omega
        have AD:=Lib.hid A2.out.done
        go_wp2_with fail
        go_roundw
        case rel=>exact⟨k+1,L++[x],b2,AU x (bs s) f,by omega,hl2.out,hfx.out,by go_num,rfl,by have:=BB.out.size;omega,by have:=ZZ.out;omega,AD.out,BB.out⟩
        case measure=>first|(simp[intOf];done)|(simp[intOf];omega)
     ·go_loopw [11] (λvi wr'=> ∃i:Nat,i<=s.size+1/\vi= .int .i64 i/\Hd wr' b (s.size+1) (KO f)/\Hd wr' b2 (s.size+1) (Ql (AU x (bs s) f) i)/\Below w.heap.size w wr'/\wr'.heap.size=z2) (λvi _=>s.size+1-(intOf vi).toNat)
      case atStart=>exact⟨0,by omega,rfl,HA1.out,HA2.out.fresh _,HB.out,hz2⟩
      case round=>
       obtain⟨i,hi,rfl,ha,ha2,hb',hz⟩:=hrel
       have A1:=Lib.hid ha
       have A2:=Lib.hid ha2
       have BB:=Lib.hid hb'
       have ZZ:=Lib.hid hz
       clear ha ha2 hb' hz
       by_cases hle:i<=s.size
       ·have fr2:=A2.out.free (j:=i) ZO
        have old2:=A2.out.cell (j:=i) ZO
        obtain⟨ov,hov⟩:∃v,v=Ql (AU x (bs s) f) i i:=⟨_,rfl⟩
        rw[<-hov] at old2
        clear hov
        by_cases h0:i=0
        ·subst h0
         have c1:=A1.out.cell (j:=0) ZO
         unfold KO at c1
         have HN:=Lib.hid (T6 (s:=bs s) (f:=f) hmy.out)
         cases hf:f 0
         ·rw[hf] at c1 HN
          have HV:Hid (AU x (bs s) f 0=false):=Lib.hid (HN.out)
          go_wp2_with fail
          go_roundw
          case rel=>exact⟨0+1,by omega,by go_num,A1.out.other (by simp;omega) _,A2.out.step ZO _ HV.out,BB.out.setCell (by simp;omega) _,by simpa using ZZ.out⟩
          case measure=>first|(simp[intOf];done)|(simp[intOf];omega)
         ·rw[hf] at c1 HN
          have HV:Hid (AU x (bs s) f 0=true):=Lib.hid (HN.out)
          go_wp2_with fail
          go_roundw
          case rel=>exact⟨0+1,by omega,by go_num,A1.out.other (by simp;omega) _,A2.out.step ZO _ HV.out,BB.out.setCell (by simp;omega) _,by simpa using ZZ.out⟩
          case measure=>first|(simp[intOf];done)|(simp[intOf];omega)
        ·have i1:0<i:=by omega
         have ie:((i:Int)-1).toNat=i-1:=by omega
         have ig:(1:Int)<=i:=by omega
         have il:(i:Int)-1<s.size:=by omega
         clear h0
         have c1:=A1.out.cell (j:=i) ZO
         have c2:=A2.out.cell (j:=i-1) ZO
         unfold KO at c1
         unfold Ql at c2
         rw[if_pos ZO] at c2
         have HN:=Lib.hid (WU (s:=bs s) (f:=f) hmy.out i1)
         cases hf:f i
         ·rw[hf] at c1 HN
          cases hg:AU x (bs s) f (i-1)
          ·rw[hg] at c2 HN
           clear hg
           have HV:Hid (AU x (bs s) f i=false):=Lib.hid (HN.out)
           go_wp2_with fail
           go_roundw
           case rel=>exact⟨i+1,by omega,by go_num,A1.out.other (by simp;omega) _,A2.out.step ZO _ HV.out,BB.out.setCell (by simp;omega) _,by simpa using ZZ.out⟩
           case measure=>first|(simp[intOf];done)|(simp[intOf];omega)
          ·rw[hg] at c2 HN
           clear hg
           have HV:Hid (AU x (bs s) f i=true):=Lib.hid (HN.out)
           go_wp2_with fail
           go_roundw
           case rel=>exact⟨i+1,by omega,by go_num,A1.out.other (by simp;omega) _,A2.out.step ZO _ HV.out,BB.out.setCell (by simp;omega) _,by simpa using ZZ.out⟩
           case measure=>first|(simp[intOf];done)|(simp[intOf];omega)
         ·rw[hf] at c1 HN
          clear c2
          have HV:Hid (AU x (bs s) f i=true):=Lib.hid (HN.out)
          go_wp2_with fail
          go_roundw
          case rel=>exact⟨i+1,by omega,by go_num,A1.out.other (by simp;omega) _,A2.out.step ZO _ HV.out,BB.out.setCell (by simp;omega) _,by simpa using ZZ.out⟩
          case measure=>first|(simp[intOf];done)|(simp[intOf];omega)
       ·obtain rfl:i=s.size+1:=by omega
        have AD:=Lib.hid A2.out.done
        go_wp2_with fail
        go_roundw
        case rel=>exact⟨k+1,L++[x],b2,AU x (bs s) f,by omega,hl2.out,hfx.out,by go_num,rfl,by have:=BB.out.size;omega,by have:=ZZ.out;omega,AD.out,BB.out⟩
        case measure=>first|(simp[intOf];done)|(simp[intOf];omega)
  ·obtain rfl:k=p.size:=by omega
   have HR:Hid (f s.size=true↔PM (AE (bs p)) (bs s)):=Lib.hid (by
    have h1:=HL.out
    rw[List.drop_eq_nil_of_le (by rw[hbp.out];omega),GJ,List.append_nil] at h1
    rw[h1,HF.out s.size (by rw[hbl.out];omega),List.take_of_length_le (by rw[hbl.out];omega)])
   have c1:=A0.out.cell (j:=s.size) ZO
   unfold KO at c1
   obtain⟨r,hr⟩:∃r,r=f s.size:=⟨_,rfl⟩
   rw[<-hr] at c1 HR
   clear hr
   go_wp2_with fail
   go_ret
   exact⟨r,rfl,HR.out,B0.out⟩
end
section
open Go.RowKit
def Nr (s p:ByteArray) (i:Nat):Prop:=i+p.size<=s.size/\s.extract i (i+p.size)=p
theorem To (s p:ByteArray) (w:World) (hs:s.size<=1000000) (hp:p.size<=1000000):
  Calls prog 224 #[.string s,.string p] w (Lw (∃i,Nr s p i) w):=by
 go_enter func224,ntmps224
 go_wp2_with fail
 go_loop [5] (λvi=> ∃i:Nat,i<=s.size+1/\vi= .int .i64 i/\∀j,j<i->¬Nr s p j) (λvi=>s.size+1-(intOf vi).toNat)
 case atStart=>exact⟨0,by omega,rfl,λj hj=>by omega⟩
 case round=>
  obtain⟨i,hi,rfl,hn⟩:=hrel
  have HN:=Lib.hid hn
  clear hn
  by_cases hle:i+p.size<=s.size
  ·have q1:(i:Int)+p.size<=s.size:=by omega
   by_cases he:s.extract i (i+p.size)=p
   ·have HE:Hid (∃i,Nr s p i):=Lib.hid ⟨i,hle,he⟩
    have q2:((s.extract i (i+p.size)).toList==p.toList)=true:=by rw[he];simp
    clear he
    go_wp2_with fail
    go_ret
    exact Q7 HE.out _ 0
   ·have HE:=Lib.hid he
    have q2:=AcL he
    clear he
    go_wp2_with fail
    go_round
    case rel=>
     refine⟨i+1,by omega,by go_num,λj hj=>?_⟩
     by_cases e:j=i
     ·subst e
      exact λh=>HE.out h.2
     ·exact HN.out j ZO
    case measure=>simp[intOf];omega
  ·have q1:¬((i:Int)+p.size<=s.size):=by omega
   have HE:Hid (¬∃i,Nr s p i):=Lib.hid (by
    rintro⟨j,hj⟩
    by_cases e:j<i
    ·exact HN.out j e hj
    ·have:=hj.1;omega)
   go_wp2_with fail
   go_ret
   exact Lw.no HE.out _ 0
theorem Qs (s p:ByteArray) (i:Nat):Nr s p i↔i+p.size<=s.size/\Lib.occAt (bs s) (bs p) i=true:=by
 unfold Nr
 constructor
 ·rintro⟨h1,h2⟩
  refine⟨h1,?_⟩
  rw[Lib.occAt_iff_take _ _ _ (by rw[Cf,Cf];exact h1),beq_iff_eq,Cf]
  have:=congrArg bs h2
  unfold bs at this⊢
  rw[Lib.extract_data] at this
  rw[show i+p.size-i=p.size by omega] at this
  exact this
 ·rintro⟨h1,h2⟩
  refine⟨h1,?_⟩
  rw[Lib.occAt_iff_take _ _ _ (by rw[Cf,Cf];exact h1),beq_iff_eq,Cf] at h2
  apply SY
  unfold bs at h2⊢
  rw[Lib.extract_data]
  rw[show i+p.size-i=p.size by omega]
  exact h2
theorem Pt (s p:ByteArray):Lib.contains (bs s) (bs p)=true↔∃i,Nr s p i:=by
 unfold Lib.contains
 rw[decide_eq_true_eq]
 rcases Lib.index_spec (bs s) (bs p) with⟨h1,h2⟩|⟨i,h1,h2,h3,_⟩
 ·rw[h1]
  refine⟨λh=>by omega,?_⟩
  rintro⟨j,hj⟩
  obtain⟨h4,h5⟩:=(Qs s p j).1 hj
  rw[h2 j (by rw[Cf];omega)] at h5
  cases h5
 ·refine⟨λ_=>⟨i,(Qs s p i).2 ⟨?_,h3⟩⟩,λ_=>by omega⟩
  rcases Lib.occAt_room h3 with h|h
  ·rw[Cf,Cf] at h;exact h
  ·have:p.size=0:=by rw[<-Cf,h];rfl
   rw[Cf] at h2
   omega
end
section
open Go.RowKit
open Go.Shelf
attribute [local go_sem] Oper.semAt_some
def Aan (x:Pc):Array Value:= #[.agg #[.int .u8 x.c.toNat,.bool x.one,.bool x.many]]
def E0 (b:Nat) (W W':World):Prop:=W'.heap[b]?=W.heap[b]?/\W.heap.size<=W'.heap.size
theorem E0.refl (b:Nat) (W:World):E0 b W W:=⟨rfl,Nat.le_refl _⟩
theorem E0.trans {b:Nat} {A B C:World} (h:E0 b A B) (k:E0 b B C):E0 b A C:=⟨k.1.trans h.1,Nat.le_trans h.2 k.2⟩
theorem Hf {b B:Nat} {W W':World} (h:Below B W W') (hb:b<B):E0 b W W':=⟨h.block b hb,h.size⟩
theorem WG (w:World) (o:Obj):w.grownBy (w.alloc o).drew none:=
 have h:=World.grownBy_alloc w o none
 ⟨h.os,h.tape,h.output,h.size,h.block⟩
set_option maxRecDepth 100000 in
theorem TE (n:Nat) (hn:1<=n) (l Bp:Nat) (p:ByteArray) (hp:p.size<=100) (J Jx:List Pc->World->Prop)
  (hJ:∀s A B,J s A->A.grownBy B none->J s B)
  (hY:∀pre x W,J pre W->pre.length<p.size->YieldAt Fence.wide (n-1) prog l (Aan x) W λe W'=>
   (e= .returned (.bool true)/\J (pre++[x]) W'/\E0 Bp W W')\/(e= .returned (.bool false)/\Jx (pre++[x]) W'))
  (W:World) (hc:W.cell? ⟨Bp,0,none⟩=some (.string p)) (h0:J [] W):
  CallsIn Fence.wide n prog 283 #[.func (.yield l) #[] #[],.pointer (some ⟨Bp,0,none⟩)] W λe W'=>(∃v,e= .returned v)/\
   ((∃ys,ys=AE (bs p)/\J ys W')\/(∃pre,True/\Jx pre W')):=by
 refine callsIn_of_wp func283 rfl trivial ?_ rfl
 simp only[ntmps283,List.size_toArray,List.length_cons,List.length_nil,Nat.reduceAdd,Nat.reduceSub,Array.replicate_succ,Array.replicate_zero,List.push_toArray,List.append_toArray,List.nil_append,List.cons_append]
 have hbp:=Lib.hid (Cf p)
 gi_wp2
 gi_loopw [3] (λi wr=> ∃(k:Nat) (pre:List Pc),k<=p.size/\i= .int .i64 k/\AE (bs p)=pre++AE ((bs p).drop k)/\pre.length<=k/\J pre wr/\E0 Bp W wr)
  (λi _=>p.size-(intOf i).toNat)
 case atStart=>exact⟨0,[],by omega,rfl,rfl,by simp,h0,E0.refl _ _⟩
 case round=>
  obtain⟨k,pre,hk,rfl,hpl,hlen,hJs,hbw⟩:=hrel
  have HL:=Lib.hid hpl
  have HJ:=Lib.hid hJs
  have HB:=Lib.hid hbw
  have hcx:wr.cell? ⟨Bp,0,none⟩=some (.string p):=(World.cell?_of_block (a:=⟨Bp,0,none⟩) hbw.1).trans hc
  clear hpl hJs hbw
  by_cases hlt:k<p.size
  ·have hpk:=EH p k hlt
   have hdk:=Lib.hid (DR hpk)
   have k0:(0:Int)<=k:=by omega
   have k1:(k:Int)<p.size:=by omega
   have hne:wr.heap.size≠Bp:=Nat.ne_of_gt (World.block_lt_of_cell? wr ⟨Bp,0,none⟩ hcx)
   have hca:∀o,(wr.alloc o).cell? ⟨Bp,0,none⟩=some (.string p):=λo=>(Below.cell (p:=⟨Bp,0,none⟩) (Below.alloc (Below.refl wr.heap.size wr) (Nat.le_refl _) o) (by have:=World.block_lt_of_cell? wr ⟨Bp,0,none⟩ hcx;exact this)).trans hcx
   obtain⟨st,hst⟩:∃q:Bool,((p[k].toNat:Int)==42)=q:=⟨_,rfl⟩
   obtain⟨an,han⟩:∃q:Bool,((p[k].toNat:Int)==63)=q:=⟨_,rfl⟩
   have hpx:=Lib.hid (show ET p[k]=⟨p[k],an,st⟩ by
    unfold ET
    rw[<-hst,<-han]
    congr 1<;>(rw[Bool.eq_iff_iff];simp;omega))
   have hgrow:∀o,J pre (wr.alloc o).drew:=λo=>hJ pre wr _ HJ.out (WG wr o)
   have HG:=Lib.hid hgrow
   have HBn:∀o,E0 Bp W (wr.alloc o).drew:=λo=>HB.out.trans (Hf (Below.alloc (Below.refl wr.heap.size wr) (Nat.le_refl _) o).drew (by have:=World.block_lt_of_cell? wr ⟨Bp,0,none⟩ hcx;exact this))
   have HBN:=Lib.hid HBn
   clear hgrow HBn hpk
   by_cases hesc:p[k].toNat=92/\k+1<p.size
   ·obtain⟨e1,e2⟩:=hesc
    have hl2:Hid (AE (bs p)=(pre++[⟨p[k+1],false,false⟩])++AE ((bs p).drop (k+2))):=Lib.hid (by
     rw[HL.out,hdk.out,DR (EH p (k+1) e2),IY _ _ _ e1,List.append_assoc];rfl)
    have t1:((p[k].toNat:Int)==92)=true:=by rw[e1];rfl
    have t2:(k:Int)+1<p.size:=by omega
    have e1':=Lib.hid e1
    clear e1
    gi_wp2
    gi_region
    obtain⟨fn,tmps,assign,body,hy,hR⟩:=hY pre ⟨p[k+1],false,false⟩ ((wr.alloc (.cells #[.int .u8 p[k+1].toNat,.bool false,.bool false] 310)).drew) (HG.out _) ZO
    dsimp only[Aan] at hy
    gi_wp2
    refine hR.mono ?_
    rintro e W3 (⟨rfl,hJ3,hk3⟩|⟨rfl,hJx3⟩)
    ·gi_wp2
     go_roundw
     case rel=>exact⟨k+2,_,by omega,by go_num,hl2.out,by simp;omega,hJ3,(HBN.out _).trans hk3⟩
     case measure=>simp[intOf];omega
    ·gi_wp2
     refine bodyPost_ret (results_none rfl _ _ _) rfl ?_
     exact⟨⟨_,rfl⟩,.inr ⟨_,trivial,hJx3⟩⟩
   ·have hl2:Hid (AE (bs p)=(pre++[⟨p[k],an,st⟩])++AE ((bs p).drop (k+1))):=Lib.hid (by
     rw[HL.out,hdk.out,GK _ _ (by
      by_cases e:p[k].toNat=92
      ·right
       rw[List.drop_eq_nil_of_le (by rw[hbp.out];omega)]
      ·exact .inl e),hpx.out,List.append_assoc];rfl)
    have hne2:((p[k].toNat:Int)==92)=false\/(((p[k].toNat:Int)==92)=true/\¬((k:Int)+1<p.size)):=by
     by_cases e:p[k].toNat=92
     ·right;exact⟨by rw[e];rfl,by omega⟩
     ·left;exact beq_false_of_ne ZO
    clear hesc
    rcases hne2 with t1|⟨t1,t2⟩
    all_goals
     gi_wp2
     gi_region
     obtain⟨fn,tmps,assign,body,hy,hR⟩:=hY pre ⟨p[k],an,st⟩ ((wr.alloc (.cells #[.int .u8 p[k].toNat,.bool an,.bool st] 310)).drew) (HG.out _) ZO
     dsimp only[Aan] at hy
     gi_wp2
     refine hR.mono ?_
     rintro e W3 (⟨rfl,hJ3,hk3⟩|⟨rfl,hJx3⟩)
     ·gi_wp2
      go_roundw
      case rel=>exact⟨k+1,_,by omega,by go_num,hl2.out,by simp;omega,hJ3,(HBN.out _).trans hk3⟩
      case measure=>simp[intOf];omega
     ·gi_wp2
      refine bodyPost_ret (results_none rfl _ _ _) rfl ?_
      exact⟨⟨_,rfl⟩,.inr ⟨_,trivial,hJx3⟩⟩
  ·obtain rfl:k=p.size:=by omega
   have hl2:Hid (pre=AE (bs p)):=Lib.hid (by
    have:=HL.out
    rw[List.drop_eq_nil_of_le (by rw[hbp.out];omega),GJ,List.append_nil] at this
    exact this.symm)
   gi_wp2
   go_end0
   exact⟨⟨_,rfl⟩,.inl ⟨pre,hl2.out,HJ.out⟩⟩
end
section
open Go.RowKit
def GW (c:UInt8):UInt8:=if 65<=c.toNat/\c.toNat<=90 then c+32 else c
def Bb (s:ByteArray):List UInt8:=(bs s).map GW
theorem CN (s:ByteArray):(Bb s).length=s.size:=by simp[Bb,Cf]
theorem Og (s:ByteArray) (j:Nat) (hj:j<s.size):(Bb s)[j]?=some (GW s[j]):=by simp[Bb,EH s j hj]
theorem OE (c:UInt8) (h1:65<=(c.toNat:Int)) (h2:(c.toNat:Int)<=90):((GW c).toNat:Int)=(c.toNat:Int)+32:=by
 have:GW c=c+32:=if_pos ⟨by omega,by omega⟩
 rw[this,UInt8.toNat_add]
 have:(32:UInt8).toNat=32:=rfl
 rw[this];omega
theorem Sf (c:UInt8) (h:(c.toNat:Int)<65\/90<(c.toNat:Int)):GW c=c:=if_neg ZO
theorem Xd (c:UInt8) (w:World):
  Calls prog 282 #[.int .u8 c.toNat] w λe w'=>e= .returned (bv (GW c))/\w=w':=by
 have hu:(c.toNat:Int)<256:=by have:=c.toNat_lt;omega
 by_cases h:65<=(c.toNat:Int)/\(c.toNat:Int)<=90
 ·obtain⟨h1,h2⟩:=h
  have HS:=Lib.hid (OE c h1 h2)
  go_enter func282,ntmps282
  go_wp2
  go_ret
  exact⟨by unfold bv;rw[HS.out];go_num,rfl⟩
 ·have HS:=Lib.hid (Sf c ZO)
  have h':(c.toNat:Int)<65\/90<(c.toNat:Int):=by omega
  clear h
  rcases h' with h'|h'
  all_goals
   go_enter func282,ntmps282
   go_wp2
   go_ret
   exact⟨by rw[HS.out];rfl,rfl⟩
theorem Gm (s:ByteArray) (w:World) (hs:s.size<=1000000):
  Calls prog 259 #[.string s] w λe w'=>e= .returned (.string (mk (Bb s)))/\Below w.heap.size w w':=by
 go_enter func259,ntmps259
 go_wp2_with (refine L3 rfl _ 9 240 5 rfl underlying9 underlying240 underlying5 rfl ?_;intro cap w1 hf)
 have HF:=Lib.hid hf
 clear hf
 go_loopw [4,5,10] (λx4 x5 i wr=> ∃k:Nat,k<=s.size/\i= .int .i64 k/\Below w.heap.size w wr/\
   (∀(j:Nat) (hj:j<s.size),wr.cell? ⟨w.heap.size,j,none⟩=some (bv (if j<k then GW s[j] else s[j])))/\∀j:Nat,j<s.size->wr.frozen? ⟨w.heap.size,j,none⟩=false)
  (λ_ _ i _=>s.size-(intOf i).toNat)
 case atStart=>exact⟨0,Nat.zero_le _,rfl,HF.out.below,λj hj=>by simpa using HF.out.cell j hj,HF.out.free⟩
 case round=>
  obtain⟨k,hk,rfl,hb,hc,hz⟩:=hrel
  by_cases hlt:k<s.size
  ·have hck:wr.cell? ⟨w.heap.size,k,none⟩=some (.int .u8 s[k].toNat):=by simpa[bv] using hc k hlt
   have hzk:=hz k hlt
   have HC:=Lib.hid hc
   have HZ:=Lib.hid hz
   clear hc hz
   go_wp2_with (go_at_call 282;refine(Xd _ _).mono ?_;rintro e w' ⟨rfl,rfl⟩;unfold bv)
   go_roundw
   case rel=>
    refine⟨k+1,by omega,by go_num,hb.setCell (Nat.le_refl _) _,λj hj=>?_,λj hj=>by simpa using HZ.out j hj⟩
    by_cases e:j=k
    ·subst e
     rw[World.cell?_setCell_same _ _ _ hck,if_pos ZO];rfl
    ·rw[World.cell?_setCell_other _ _ _ _ (by intro h;injection h;omega),HC.out j hj]
     by_cases hjk:j<k
     ·rw[if_pos hjk,if_pos ZO]
     ·rw[if_neg hjk,if_neg ZO]
   case measure=>simp[intOf];omega
  ·have hks:k=s.size:=by omega
   subst hks
   have HR:Sl wr (λb=>b=w.heap.size) 1 (some ⟨w.heap.size,0,none⟩) s.size ((Bb s).map bv):=
    Sl.of_cells rfl (by simp[CN]) (λj u hu=>by
     rw[List.getElem?_map,Option.map_eq_some_iff] at hu
     obtain⟨x,hx,rfl⟩:=hu
     have hj:j<s.size:=by rw[<-CN];exact(List.getElem?_eq_some_iff.1 hx).1
     rw[Og s j hj] at hx
     injection hx with hx
     subst hx
     rw[Nat.zero_add,hc j hj,if_pos hj])
   clear hc hz
   have HR':=Lib.hid HR
   clear HR
   go_wp2_with (refine Gx rfl _ 240 9 5 rfl underlying240 underlying5 underlying9 rfl HR'.out ?_)
   go_ret
   exact⟨rfl,hb⟩
end
section
open Go.RowKit
open Go.Shelf
attribute [local go_sem] Oper.semAt_some
theorem PU (n:Nat) (hn:1<=n) (Bp:Nat) (p:ByteArray) (hp:p.size<=100) (w:World) (hB:Bp<w.heap.size) (hc:w.cell? ⟨Bp,0,none⟩=some (.string p)):
  SeqStopsK Fence.wide n prog 283 #[.pointer (some ⟨Bp,0,none⟩)] (λx:Pc=> #[Value.agg #[.int .u8 x.c.toNat,.bool x.one,.bool x.many]]) (E0 Bp) (λys=>ys=AE (bs p)) (λ_=>True) p.size w:=λl J Jx W hW hJ _ hY h0=>
 TE n hn l Bp p hp J Jx (λs A B hs hg=>hJ s A B none hs hg ZX) hY W ((hW.cell (p:=⟨Bp,0,none⟩) hB).trans hc) h0
def Qt (W:World) (B:Nat) (x:Pc):Prop:=W.heap[B]?=some (.cells #[.int .u8 x.c.toNat,.bool x.one,.bool x.many] 310 (0,0))
theorem Qt.new (W:World) (x:Pc):Qt (W.alloc (.cells #[.int .u8 x.c.toNat,.bool x.one,.bool x.many] 310)) W.heap.size x:=heap_alloc_new W _
theorem Qt.cells {W:World} {B:Nat} {x:Pc} (h:Qt W B x):W.cell? ⟨B,0,none⟩=some (.int .u8 x.c.toNat)/\W.cell? ⟨B,1,none⟩=some (.bool x.one)/\W.cell? ⟨B,2,none⟩=some (.bool x.many):=by
 have h':W.heap[B]?=_:=h
 refine⟨?_,?_,?_⟩<;>(rw[cell_of_row _ _ _ _ _ (0,0) h'];rfl)
theorem AfA (W:World) (x:Pc):∀(j:Nat) (u:Value),(pcF.enc x)[j]?=some u->(W.alloc (.cells #[.int .u8 x.c.toNat,.bool x.one,.bool x.many] 310)).cell? ((⟨W.heap.size,0,none⟩:Addr).add j)=some u:=by
 obtain⟨h0,h1,h2⟩:=(Qt.new W x).cells
 intro j u hu
 match j,hu with
 |0,hu=>injection hu with hu;subst hu;exact h0
 |1,hu=>injection hu with hu;subst hu;exact h1
 |2,hu=>injection hu with hu;subst hu;exact h2
theorem PW (W:World) (l b:Nat) (o:Obj) (h:b≠l):(W.putObj l o).heap[b]?=W.heap[b]?:=by
 simp only[World.putObj]
 rw[Array.getElem?_setIfInBounds]
 simp[Ne.symm h]
theorem Ac8 {W:World} {base b k:Nat} {v q:Value} {xs:List Value} (h:W.ownsRow base 310 3 v k xs) (hb:Boxed W b 9 q):some b≠v.ownBlock:=by
 intro e
 rcases h.2 with⟨rfl,_⟩|⟨g,cap,cur,rfl,_,hh,_⟩
 ·cases e
 ·have:b=g:=by simpa[Value.ownBlock] using e
  subst this
  rw[show W.heap[b]?=_ from hb] at hh
  injection hh with hh
  injection hh with _ h2
  exact absurd h2 ZD
theorem Tn:(prog.info? 310).map (λi=>(i.zero,i.size,i.bytes))=some (some (.agg #[.int .u8 0,.bool false,.bool false]),3,3):=by kernel_rfl
def Abv (s p:ByteArray) (w:World) (e:Ending) (w':World):Prop:=∃b,e= .returned (.tuple #[.bool b,.int .i64 0])/\(b=true↔PM (AE (Bb p)) (Bb s))/\Below w.heap.size w w'
theorem TF (p:ByteArray) (w:World):Calls prog 260 #[.string p] w λe w'=>e= .returned (.func (.func 283) #[] #[.pointer (some ⟨w.heap.size,0,none⟩)])/\w'=w.alloc (.cells #[.string p] 9):=by
 go_enter func260,ntmps260
 go_wp2_with fail
 go_ret
 exact⟨rfl,rfl⟩
set_option maxRecDepth 100000 in
theorem VW (s p:ByteArray) (w:World) (hs:s.size<=2000) (hp:p.size<=100):Calls prog 217 #[.int .i64 3,.string s,.string p] w (Abv s p w):=by
 refine(callsIn_wide (n:=6)).1 ?_
 refine callsIn_of_wp_marks func217 rfl trivial ?_ rfl
 simp only[ntmps217,List.size_toArray,List.length_cons,List.length_nil,Nat.reduceAdd,Nat.reduceSub,Array.replicate_succ,Array.replicate_zero,List.push_toArray,List.append_toArray,List.nil_append,List.cons_append]
 have i1:¬((2000:Int)<s.size):=by omega
 have i2:¬((100:Int)<p.size):=by omega
 have i3:decide ((100:Int)<p.size)=false:=by simpa using i2
 clear i2
 have tok:True:=trivial
 gi_wp2_with (first
  |(refine⟨trivial,?_⟩;gi_at_call 259;clear tok;refine(callsIn_wide.2 (Gm _ _ ZO)).mono ?_;rintro e w0 ⟨rfl,hb0⟩)
  |(refine⟨trivial,?_⟩;gi_at_call 259;refine(callsIn_wide.2 (Gm _ _ ZO)).mono ?_;rintro e w1 ⟨rfl,hb1⟩)
  |(refine⟨trivial,?_⟩;gi_at_call 260;refine(callsIn_wide.2 (TF _ _)).mono ?_;rintro e w2 ⟨rfl,rfl⟩))
 have hwz:=hb1.size
 have bO:=Boxed.new w1 306 (.slice none 0 0)
 have bN:=Boxed.new (w1.alloc (.cells #[.slice none 0 0] 306)) 9 (.string (mk (Bb p)))
 rw[World.size_alloc] at bN
 have HB0:=Lib.hid ((hb0.trans (hb1.mono hb0.size)))
 have hfz:(mk (Bb p)).size=p.size:=by rw[Ij,CN]
 have hpl:(AE (Bb p)).length<=p.size:=by
  have:=IZ _ (Bb p) (Nat.le_refl _)
  rw[CN] at this
  exact this
 obtain⟨i0,hi,hz0,hz1,hz2⟩:=info_parts Tn
 have HB1:Below w.heap.size w ((w1.alloc (.cells #[.slice none 0 0] 306)).alloc (.cells #[.string (mk (Bb p))] 9)):=(HB0.out.alloc HB0.out.size _).alloc (by have:=HB0.out.size;simp;omega) _
 obtain⟨q,hq⟩:∃q,q=mk (Bb p):=⟨_,rfl⟩
 obtain⟨r,hr⟩:∃r,r=mk (Bb s):=⟨_,rfl⟩
 have hqs:bs q=Bb p:=by rw[hq,NT]
 have hrs:bs r=Bb s:=by rw[hr,NT]
 have hrz:r.size<=2000:=by rw[hr,Ij,CN];exact hs
 rw[<-hq] at HB1 bN hfz⊢
 rw[<-hr]
 rw[<-hqs] at hpl
 have HQ:=Lib.hid hqs
 have HRR:=Lib.hid hrs
 clear hq hr hqs hrs
 obtain⟨W0,hW0⟩:∃W0,(w1.alloc (.cells #[.slice none 0 0] 306)).alloc (.cells #[.string q] 9)=W0:=⟨_,rfl⟩
 have bO1:=bO.alloc (.cells #[.string q] 9)
 have hsz:W0.heap.size=w1.heap.size+2:=by rw[<-hW0];simp
 have hbz:=HB0.out.size
 have hsz1:w1.heap.size+2<=W0.heap.size:=by omega
 have HSZ:=Lib.hid hsz
 clear hsz
 rw[hW0] at HB1 bN bO1⊢
 clear hW0 bO hb0 hb1
 refine wpIn_rangeFunc_ownH rfl ZO (gf:=283) (lb:= #[.pointer (some ⟨w1.heap.size+1,0,none⟩)]) rfl trivial (enters_of func283 (by kernel_rfl) rfl)
  (PU 5 ZO (w1.heap.size+1) q ZO W0 ZO bN.cell) E0.trans (λW l o o' hl _ _ _=>⟨PW W l (w1.heap.size+1) o' ZO,by simp[World.putObj]⟩) (Below.refl _ _) (λ_=>rfl)
  (λpre W=>((∃v,Boxed W w1.heap.size 306 v/\W.ownsRow w1.heap.size 310 3 v pre.length (pre.flatMap pcF.enc)/\True)/\Boxed W (w1.heap.size+1) 9 (.string q))/\Below w1.heap.size W0 W)
  (λ_ _ _=>False)
  (OwnFrom.and (OwnFrom.and (Own.from (holdsRow_own w1.heap.size w1.heap.size 306 310 3 (λpre:List Pc=>pre.length) (λpre=>pre.flatMap pcF.enc) (λ_ _=>True)) _) (Own.from (boxed_own _ _ (λ_:List Pc=>Value.string q)) _)) (ownFrom_below ZO ZO))
  (λ_ _ _ _ _ hs _ _=>hs)
  ⟨⟨⟨_,bO1,World.ownsRow_nil _ _ _ _,trivial⟩,bN⟩,Below.refl _ _⟩
  (λx a' W=> ∃Bx,w1.heap.size+1<Bx/\Qt W Bx x/\a'= {tmps:= #[.int .i64 3,.string s,.string p,undef,undef,undef,.bool false,.int .i64 0,.string r,.string q,.pointer (some ⟨w1.heap.size,0,none⟩),.pointer (some ⟨Bx,0,none⟩),.int .i64 3,.bool false,.bool false,.int .i64 3,.bool false,.bool false,.string s,.int .i64 s.size,.bool false,.bool false,.string p,.int .i64 p.size,.bool false,.bool false,.string s,.string r,.string p,.string q,.int .i64 3,.bool false,.bool false,undef,undef,undef,.bool false,.bool false,undef,undef,undef,.string q,.func (.func 283) #[] #[.pointer (some ⟨w1.heap.size+1,0,none⟩)],.agg #[.int .u8 x.c.toNat,.bool x.one,.bool x.many],undef,undef,undef,undef,undef,undef,undef],defers:=[]})
  (λx a' _ X Y row hs hg hr=>by
   obtain⟨Bx,h1,h2,h3⟩:=hs
   refine⟨Bx,h1,?_,h3⟩
   unfold Qt at h2⊢
   rw[hg.block Bx (Array.getElem?_eq_some_iff.1 h2).1 (λe=>by
    obtain⟨_,o,ho,hc⟩:=hr Bx e.symm
    rw[h2] at ho
    cases ho
    cases hc)]
   exact h2)
  ?assign ?body ?done ?stop
 case assign=>
  rintro l pre x W K ⟨⟨⟨v,hv,hrow,_⟩,hN⟩,hB⟩ hK
  have hvl:=hv.lt
  have hB':=hB.size
  gi_wp2
  exact hK _ _ ((KeepsOthers.alloc _ _).from _) (Hf (Below.alloc (Below.refl W.heap.size W) (Nat.le_refl _) _) ZO) ⟨⟨⟨v,hv.alloc _,hrow.alloc _,trivial⟩,hN.alloc _⟩,hB.alloc ZO _⟩ ⟨W.heap.size,by omega,Qt.new W x,rfl⟩
 case body=>
  rintro l pre x a' W hl _ ⟨⟨⟨v,hv,hrow,_⟩,hN⟩,hB⟩ ⟨Bx,hBx,bX,rfl⟩ hlt
  have hc:=hv.cell
  obtain⟨x0,x1,x2⟩:=bX.cells
  have hB':=hB.size
  have HR:=Lib.hid hrow
  have HV:=Lib.hid hv
  have HBB:=Lib.hid hB
  have HN:=Lib.hid hN
  clear hrow hv hB hN
  gi_wp2_with (gi_at_builtin;refine wpListIn_append_own _ rfl _ _ 306 rfl w1.heap.size 310 i0 (.agg #[.int .u8 0,.bool false,.bool false]) 3 3 underlying306 hi hz0 hz1 hz2 rfl ZD _ _ _ rfl (HR.out.alloc _) ⟨W.heap.size,0,none⟩ 1 1 (pcF.enc x) rfl rfl (AfA W x) (pcF.one x) (by unfold maxLen;omega) ZO (by simp;omega) ?_;intro v' w2 hown' hgrow _;obtain⟨g',cap',rfl⟩:=ownsRow_succ hown';obtain⟨hv1,hv2,hr2,hk2,hb2⟩:=HV.out.appended ZD HR.out ZO (Nat.le_refl _) hown' hgrow;have hc1:=hv1.cell;have hf1:=hv1.frozen)
  have hN2:=((HN.out.alloc (.cells #[.int .u8 x.c.toNat,.bool x.one,.bool x.many] 310)).kept hgrow (Ac8 HR.out HN.out)).other ZO (B':=w1.heap.size) (.slice (some ⟨g',0,none⟩) (pre.length+1) cap')
  have hkeep:E0 (w1.heap.size+1) W (w2.setCell ⟨w1.heap.size,0,none⟩ (.slice (some ⟨g',0,none⟩) (pre.length+1) cap')):=⟨Eq.trans hN2 (Eq.symm HN.out),hb2.size⟩
  exact⟨hk2.from _,hkeep,⟨⟨_,hv2,by rw[List.flatMap_append];simpa using hr2,trivial⟩,hN2⟩,HBB.out.trans hb2⟩
 case done=>
  rintro D ys W hD rfl ⟨⟨⟨v,hv,hrow,_⟩,hN⟩,hB⟩ hK
  have hc:=hv.cell
  have hB':=hB.size
  have hrf:RF pcF W (· <W.heap.size) v (AE (bs q)):=(RF.of_own rfl hrow).mono λb hb=>hb.2
  have HR:=Lib.hid hrf
  have HBB:=Lib.hid hB
  have HK:=Lib.hid hK
  clear hrow hB hrf
  gi_wp2_with (refine⟨trivial,?_⟩;gi_at_call 261;refine(callsIn_wide.2 (RM r _ _ _ hrz ZO HR.out)).mono ?_;rintro e w3 ⟨b,rfl,hbt,d,rfl⟩;have HT:=Lib.hid hbt;clear hbt)
  refine⟨by simp,.inl ⟨_,_,rfl,run_takeDeferred HK.out,?_⟩⟩
  refine⟨_,results_tmp2 rfl _ _ _,b,rfl,by rw[<-HQ.out,<-HRR.out];exact HT.out,?_⟩
  exact(BY (HB1.trans (HBB.out.mono hbz)) d).trans (belowK_b (w:=w) (Nat.le_refl _) (W.drewN d) D _ _ ZO HK.out rfl rfl)
 case stop=>
  rintro D c pre W _ _ h _
  exact h.elim
end
section
open Go.RowKit
theorem Adt:Abo prog 240 5 1 1:=⟨underlying240,by kernel_rfl,by decide⟩
theorem UW (v:Value) (h:v.oneCell'=true):∀u∈[v],u.oneCell'=true:=by
 intro u hu
 rw[List.mem_singleton] at hu
 rw[hu];exact h
theorem Er (s:ByteArray) (w:World) (hs:s.size<=1000000):
  Calls prog 140 #[.string s] w λe w'=>e= .returned (.string (mk (Bb s)))/\Below w.heap.size w w':=by
 go_enter func140,ntmps140
 go_wp2_with fail
 go_loopw [3,4,5] (λv i x5 wr=> ∃k:Nat,k<=s.size/\i= .int .i64 k/\Below w.heap.size w wr/\wr.ownsRow w.heap.size 5 1 v k (((Bb s).take k).map bv))
  (λ_ i _ _=>s.size-(intOf i).toNat)
 case atStart=>exact⟨0,Nat.zero_le _,rfl,Below.refl _ _,World.ownsRow_nil _ _ _ _⟩
 case round=>
  obtain⟨k,hk,rfl,hb,hown⟩:=hrel
  have HO:=Lib.hid hown
  clear hown
  by_cases hlt:k<s.size
  ·have hu:(s[k].toNat:Int)<256:=by have:=s[k].toNat_lt;omega
   have HT:=Lib.hid (show(Bb s).take (k+1)=(Bb s).take k++[GW s[k]] by
    rw[List.take_add_one,Og s k hlt];rfl)
   by_cases h:65<=(s[k].toNat:Int)/\(s[k].toNat:Int)<=90
   ·obtain⟨h1,h2⟩:=h
    have HS:=Lib.hid (OE s[k] h1 h2)
    go_wp2_with (first
     |(go_at_call 98;refine(XF _ _ _ _ h1 h2).mono ?_;rintro e w' ⟨rfl,rfl⟩)
     |(refine Gw Adt rfl _ _ rfl rfl (HO.out.alloc _) rfl (Sl.new _ _ _ 1 rfl) (UW _ rfl) ZX (by unfold maxLen;omega) ZO (by have:=hb.size;simp;omega) ?_;intro A1 c1 w1 hown' hgr hb1))
    go_roundw
    case rel=>
     refine⟨k+1,by omega,by go_num,(hb.alloc hb.size _).trans hb1,?_⟩
     rw[HT.out,List.map_append]
     simpa[bv,HS.out] using hown'
    case measure=>simp[intOf];omega
   ·have h':(s[k].toNat:Int)<65\/90<(s[k].toNat:Int):=by omega
    have HS:=Lib.hid (Sf s[k] h')
    clear h
    rcases h' with h'|h'
    all_goals
     go_wp2_with (first
      |(go_at_call 98;refine(XE _ _ _ _ ?_).mono ?_;omega;rintro e w' ⟨rfl,rfl⟩)
      |(refine Gw Adt rfl _ _ rfl rfl (HO.out.alloc _) rfl (Sl.new _ _ _ 1 rfl) (UW _ rfl) ZX (by unfold maxLen;omega) ZO (by have:=hb.size;simp;omega) ?_;intro A1 c1 w1 hown' hgr hb1))
     go_roundw
     case rel=>
      refine⟨k+1,by omega,by go_num,(hb.alloc hb.size _).trans hb1,?_⟩
      rw[HT.out,List.map_append]
      simpa[bv,HS.out] using hown'
     case measure=>simp[intOf];omega
  ·have hks:k=s.size:=by omega
   subst hks
   have HW:=Lib.hid (show(Bb s).take s.size=Bb s from List.take_of_length_le (by rw[CN];omega))
   obtain⟨A,c,rfl,_,_⟩:=MQ HO.out
   go_wp2_with (refine Gx (l:=Bb s) rfl _ 240 9 5 rfl underlying240 underlying5 underlying9 rfl (by rw[<-HW.out];exact Sl.of_own HO.out) ?_)
   go_ret
   exact⟨rfl,hb⟩
end
section
open Go.RowKit
def OR (kind:Int) (s p:ByteArray):Prop:=(kind=1/\Bb s=Bb p)\/(kind=2/\∃i,Nr (mk (Bb s)) (mk (Bb p)) i)\/(kind=3/\PM (AE (Bb p)) (Bb s))
noncomputable def Li (kind:Int) (s p:ByteArray):Bool:= @decide (OR kind s p) (Classical.propDecidable _)
def FV (kind:Int) (s p:ByteArray):Int:=if kind<1\/3<kind then 2 else if 2000<s.size\/100<p.size then 1 else 0
noncomputable def PI (kind:Int) (s p:ByteArray):Bool:=if FV kind s p=0 then Li kind s p else false
theorem Ge {kind:Int} {s p:ByteArray} {b:Bool} (h:b=true↔OR kind s p):Li kind s p=b:=by
 unfold Li
 rw[Bool.eq_iff_iff, @decide_eq_true_iff _ (Classical.propDecidable (OR kind s p))]
 exact h.symm
theorem Adj (s p:ByteArray):OR 1 s p↔Bb s=Bb p:=by unfold OR;simp
theorem Adk (s p:ByteArray):OR 2 s p↔∃i,Nr (mk (Bb s)) (mk (Bb p)) i:=by unfold OR;simp
theorem Adl (s p:ByteArray):OR 3 s p↔PM (AE (Bb p)) (Bb s):=by unfold OR;simp
def Mat (kind:Int) (s p:ByteArray) (w:World) (e:Ending) (w':World):Prop:=e= .returned (.tuple #[.bool (PI kind s p),.int .i64 (FV kind s p)])/\Below w.heap.size w w'
theorem RH {kind:Int} {s p:ByteArray} (h:kind<1\/3<kind):FV kind s p=2:=if_pos h
theorem RI {kind:Int} {s p:ByteArray} (h1:1<=kind) (h3:kind<=3) (h:2000<s.size\/100<p.size):FV kind s p=1:=by unfold FV;rw[if_neg ZO,if_pos h]
theorem KK {kind:Int} {s p:ByteArray} (h1:1<=kind) (h3:kind<=3) (h:s.size<=2000) (h':p.size<=100):FV kind s p=0:=by unfold FV;rw[if_neg ZO,if_neg ZO]
theorem MH {kind:Int} {s p:ByteArray} (h:FV kind s p≠0):PI kind s p=false:=if_neg h
theorem KJ {kind:Int} {s p:ByteArray} (h:FV kind s p=0):PI kind s p=Li kind s p:=if_pos h
theorem Ro (s p:ByteArray):((mk (Bb s)).toList==(mk (Bb p)).toList)=Li 1 s p:=by
 symm
 apply Ge
 rw[Adj,beq_iff_eq]
 constructor
 ·intro h
  have:=congrArg bs (Nm h)
  rwa [NT,NT] at this
 ·intro h;rw[h]
theorem VV (kind:Int) (s p:ByteArray) (w:World) (hs:s.size<=maxLen) (hp:p.size<=maxLen) (h0:FG w):
  Calls prog 217 #[.int .i64 kind,.string s,.string p] w (Mat kind s p w):=by
 unfold maxLen at hs hp
 by_cases hk:kind<1\/3<kind
 ·have HE:=Lib.hid (RH (s:=s) (p:=p) hk)
  have HB:=Lib.hid (MH (s:=s) (p:=p) (kind:=kind) (by rw[HE.out];decide))
  rcases hk with hk|hk
  all_goals
   go_enter func217,ntmps217
   go_wp2_with fail
   go_ret2
   exact⟨by rw[HE.out,HB.out];rfl,Below.refl _ _⟩
 ·have k1:1<=kind:=by omega
  have k3:kind<=3:=by omega
  clear hk
  by_cases hz:2000<s.size\/100<p.size
  ·have HE:=Lib.hid (RI (s:=s) (p:=p) k1 k3 hz)
   have HB:=Lib.hid (MH (s:=s) (p:=p) (kind:=kind) (by rw[HE.out];decide))
   rcases hz with hz|hz
   ·have hz':(2000:Int)<s.size:=by omega
    go_enter func217,ntmps217
    go_wp2_with fail
    go_ret2
    exact⟨by rw[HE.out,HB.out];rfl,Below.refl _ _⟩
   ·have hz':(100:Int)<p.size:=by omega
    by_cases hy:(2000:Int)<s.size
    all_goals
     go_enter func217,ntmps217
     go_wp2_with fail
     go_ret2
     exact⟨by rw[HE.out,HB.out];rfl,Below.refl _ _⟩
  ·have s1:s.size<=2000:=by omega
   have p1:p.size<=100:=by omega
   have HE:=Lib.hid (KK (s:=s) (p:=p) k1 k3 s1 p1)
   have HB:=Lib.hid (KJ HE.out)
   clear hz hs hp
   have i1:¬((2000:Int)<s.size):=by omega
   have i2:¬((100:Int)<p.size):=by omega
   have i3:decide ((100:Int)<p.size)=false:=by simpa using i2
   by_cases hk3:kind=3
   ·subst hk3
    refine(VW s p w s1 p1).mono ?_
    rintro e w' ⟨b,rfl,hb,hw⟩
    refine⟨?_,hw⟩
    rw[HE.out,HB.out,Ge (by rw[Adl];exact hb)]
   ·by_cases hk1:kind=1
    ·subst hk1
     have HF:=Lib.hid (Ro s p)
     have tok:True:=trivial
     clear i2
     go_enter func217,ntmps217
     go_wp2_with (first
      |(go_at_call 259;clear tok;refine(Gm _ _ ZO).mono ?_;rintro e w1 ⟨rfl,hb1⟩)
      |(go_at_call 259;refine(Gm _ _ ZO).mono ?_;rintro e w2 ⟨rfl,hb2⟩))
     go_ret2
     refine⟨?_,hb1.trans (hb2.mono hb1.size)⟩
     rw[HE.out,HB.out,<-HF.out]
     rfl
    ·obtain rfl:kind=2:=by omega
     have tok:True:=trivial
     clear i2
     have HL:=Lib.hid h0
     clear h0
     go_enter func217,ntmps217
     go_wp2_with (first
      |(go_at_call 259;clear tok;refine(Gm _ _ ZO).mono ?_;rintro e w1 ⟨rfl,hb1⟩)
      |(go_at_call 259;refine(Gm _ _ ZO).mono ?_;rintro e w2 ⟨rfl,hb2⟩))
     obtain⟨_,m,hm⟩:=(HL.out.below hb1).below hb2
     refine(Tryz.strings_Contains (mk (Bb s)) (mk (Bb p)) m _ (by rw[Ij,CN];omega) hm).mono ?_
     rintro e w3 ⟨rfl,rfl⟩
     go_wp2_with fail
     go_ret2
     refine⟨?_,hb1.trans (hb2.mono hb1.size)⟩
     rw[HE.out,HB.out,Ge (by rw[Adk];exact(Pt (mk (Bb s)) (mk (Bb p))))]
     rfl
def Aik (kind:Int) (s p:ByteArray) (w:World) (e:Ending) (w':World):Prop:=e= .returned (.bool (Li kind s p))/\Below w.heap.size w w'
theorem RK (kind:Int) (s p:ByteArray) (w:World) (s1:s.size<=2000) (p1:p.size<=100) (k1:1<=kind) (k3:kind<=3):
  Calls prog 142 #[.int .i64 kind,.string s,.string p] w (Aik kind s p w):=by
 have tok:True:=trivial
 by_cases hk1:kind=1
 ·subst hk1
  have HF:=Lib.hid (Ro s p)
  go_enter func142,ntmps142
  go_wp2_with (first
   |(go_at_call 140;clear tok;refine(Er _ _ ZO).mono ?_;rintro e w1 ⟨rfl,hb1⟩)
   |(go_at_call 140;refine(Er _ _ ZO).mono ?_;rintro e w2 ⟨rfl,hb2⟩))
  go_ret
  refine⟨?_,hb1.trans (hb2.mono hb1.size)⟩
  rw[<-HF.out]
  rfl
 ·have e1:(kind==1)=false:=by simpa using hk1
  have hzs:(mk (Bb s)).size=s.size:=by rw[Ij,CN]
  have hzp:(mk (Bb p)).size=p.size:=by rw[Ij,CN]
  have hrs:bs (mk (Bb s))=Bb s:=NT _
  have hrp:bs (mk (Bb p))=Bb p:=NT _
  by_cases hk2:kind=2
  ·subst hk2
   have HT:Hid (∀b:Bool,(b=true↔∃i,Nr (mk (Bb s)) (mk (Bb p)) i)->Li 2 s p=b):=Lib.hid λb hb=>Ge (by rw[Adk];exact hb)
   have HI:=Lib.hid (λwx=>To (mk (Bb s)) (mk (Bb p)) wx (by rw[hzs];omega) (by rw[hzp];omega))
   clear hzs hzp hrs hrp hk1
   go_enter func142,ntmps142
   go_wp2_with (first
    |(go_at_call 140;clear tok;refine(Er _ _ ZO).mono ?_;rintro e w1 ⟨rfl,hb1⟩)
    |(go_at_call 140;refine(Er _ _ ZO).mono ?_;rintro e w2 ⟨rfl,hb2⟩))
   refine(HI.out _).mono ?_
   rintro e w3 ⟨b,rfl,hb,d,rfl⟩
   have hb':=HT.out b hb
   have HBB:=Lib.hid hb'
   clear hb hb'
   go_wp2_with fail
   go_ret
   exact⟨by rw[HBB.out];rfl,BY (hb1.trans (hb2.mono hb1.size)) _⟩
  ·obtain rfl:kind=3:=by omega
   have HT:Hid (∀b:Bool,(b=true↔PM (AE (bs (mk (Bb p)))) (bs (mk (Bb s))))->Li 3 s p=b):=Lib.hid λb hb=>Ge (by rw[Adl,<-hrs,<-hrp];exact hb)
   have HI:=Lib.hid (λwx=>YJ (mk (Bb s)) (mk (Bb p)) wx (by rw[hzs];omega) (by rw[hzp];omega))
   clear hzs hzp hrs hrp hk1 hk2
   go_enter func142,ntmps142
   go_wp2_with (first
    |(go_at_call 140;clear tok;refine(Er _ _ ZO).mono ?_;rintro e w1 ⟨rfl,hb1⟩)
    |(go_at_call 140;refine(Er _ _ ZO).mono ?_;rintro e w2 ⟨rfl,hb2⟩))
   refine(HI.out _).mono ?_
   rintro e w3 ⟨b,rfl,hb,hb3⟩
   have hb':=HT.out b hb
   have HBB:=Lib.hid hb'
   clear hb hb'
   go_wp2_with fail
   go_ret
   exact⟨by rw[HBB.out];rfl,(hb1.trans (hb2.mono hb1.size)).trans (hb3.mono (by have:=hb1.size;have:=hb2.size;omega))⟩
end
section
open Go.RowKit
theorem AcR {G:Gh} {a b:AV} {v u:Value} (h:VR G a v) (k:VR G b u):VR G (.tup [a,b]) (.tuple #[v,u]):= .tup [a,b] [v,u] rfl λi x y h1 h2=>by
 match i,h1,h2 with
 |0,h1,h2=>simp at h1 h2;subst h1 h2;exact h
 |1,h1,h2=>simp at h1 h2;subst h1 h2;exact k
 |i+2,h1,h2=>simp at h1
noncomputable def GG (m:Int) (s p:Tx):Bool:=PI m ⟨s.toArray⟩ ⟨p.toArray⟩
theorem Ua (T:Ap) (hL:Bw T) (m:Int) (s p:Tx):PC prog T 217 [.d (.int .i64 m),.d (.str s),.d (.str p)] (.tup [.d (.bool (GG m s p)),.d (.int .i64 (FV m ⟨s.toArray⟩ ⟨p.toArray⟩))]):=Hg call217 λF w vs hF hT R=>by
 obtain⟨v1,v2,v3,rfl,h1,h2,h3⟩:=Ah7 R
 obtain rfl:=h1.int_inv
 obtain⟨t2,rfl,e2,z2⟩:=h2.str_inv
 obtain⟨t3,rfl,e3,z3⟩:=h3.str_inv
 refine(VV m t2 t3 w z2 z3 (hL.lib0 hF hT)).mono ?_
 rintro e w' ⟨rfl,hb⟩
 have q2:t2=⟨s.toArray⟩:=by rw[<-e2]
 have q3:t3=⟨p.toArray⟩:=by rw[<-e3]
 rw[q2,q3]
 exact⟨_,rfl,hb,AcR (.d (.bool _)) (.d (.int _ _))⟩
theorem WS (T:Ap) (m:Int) (s p:Tx) (hs:s.length<=2000) (hp:p.length<=100) (hm:1<=m/\m<=3):PC prog T 142 [.d (.int .i64 m),.d (.str s),.d (.str p)] (.d (.bool (GG m s p))):=Hg call142 λF w vs hF hT R=>by
 obtain⟨v1,v2,v3,rfl,h1,h2,h3⟩:=Ah7 R
 obtain rfl:=h1.int_inv
 obtain⟨t2,rfl,e2,z2⟩:=h2.str_inv
 obtain⟨t3,rfl,e3,z3⟩:=h3.str_inv
 have q2:t2=⟨s.toArray⟩:=by rw[<-e2]
 have q3:t3=⟨p.toArray⟩:=by rw[<-e3]
 have n2:t2.size<=2000:=by rw[<-Bm,e2];exact hs
 have n3:t3.size<=100:=by rw[<-Bm,e3];exact hp
 refine(RK m t2 t3 w n2 n3 hm.1 hm.2).mono ?_
 rintro e w' ⟨rfl,hb⟩
 refine⟨_,rfl,hb,?_⟩
 rw[GG,<-q2,<-q3,KJ (KK hm.1 hm.2 n2 n3)]
 exact .d (.bool _)
end
section
structure Lr where
 a1:Tx
 a2:Tx
 c1:Tx
 c2:Tx
 s:Tx
structure Ms where
 f:List (Tx×Tx)
 b:Tx
def Dw (x:Lr):List AV:=[.d (.str x.a1),.d (.str x.a2),.d (.str x.c1),.d (.str x.c2),.d (.str x.s)]
def DK (m:Ms):List AV:=[.d (.slc 2 (AP m.f)),.d (.str m.b)]
structure VT (x:Lr) (m:Ms):Prop where
 h1:Cc x.a1 x.a2=0
 h2:Cc x.c1 x.c2=0
 hf:∀f∈m.f,f.1.length<=2000/\f.2.length<=2000
 hl:m.f.length<=30
def C6 (p:Int) (a:Ad):Tx:=if p=2 then a.1 else if p=3 then a.2 else adT a
theorem JX {p:Int} {a:Ad} (h:Cc a.1 a.2=0):(C6 p a).length<=100:=by
 obtain⟨_,_,hl⟩:=G5 h
 unfold C6
 split
 ·omega
 split
 ·omega
 ·simp[adT];omega
noncomputable def Ix (m:Int) (vs ks:List Tx):Bool:=vs.any λv=>ks.any λk=>GG m v k
noncomputable def DD (l:List (Tx×Tx)) (n:Tx):List Tx:=(l.filter λf=>GG 1 f.1 n).map (·.2)
theorem V0 {l:List (Tx×Tx)} {n:Tx} {k:Nat} (hk:k<l.length) (h:GG 1 (l.getD k ([],[])).1 n=false):DD (l.take (k+1)) n=DD (l.take k) n:=by
 rw[show l.getD k ([],[])=l[k]'hk by simp[List.getD,hk]] at h
 rw[List.take_add_one,List.getElem?_eq_getElem hk,DD,List.filter_append]
 simp[h,DD]
theorem Ss {l:List (Tx×Tx)} {n:Tx} {k:Nat} (hk:k<l.length) (h:GG 1 (l.getD k ([],[])).1 n=true):DD (l.take (k+1)) n=DD (l.take k) n++[(l.getD k ([],[])).2]:=by
 have e:l.getD k ([],[])=l[k]'hk:=by simp[List.getD,hk]
 rw[e] at h⊢
 rw[List.take_add_one,List.getElem?_eq_getElem hk,DD,List.filter_append]
 simp[h,DD]
theorem HY (l:List (Tx×Tx)) (n:Tx):(DD l n).length<=l.length:=by
 unfold DD;rw[List.length_map];exact List.length_filter_le _ _
theorem AaQ {l:List (Tx×Tx)} {n v:Tx} {N:Nat} (hf:∀f∈l,f.1.length<=N/\f.2.length<=N) (h:v∈DD l n):v.length<=N:=by
 obtain⟨f,hf2,rfl⟩:=List.mem_map.1 h
 exact(hf f (List.mem_filter.1 hf2).1).2
def Gb (vs:List Tx):List Ad:=vs.flatMap λs=>(Ba s).1
theorem SK {l:List Tx} {k:Nat} (h:k<l.length):Gb (l.take (k+1))=Gb (l.take k)++(Ba l[k]).1:=by
 rw[List.take_succ_eq_append_getElem h,Gb,List.flatMap_append];simp[Gb]
theorem Gc:∀(l:List Tx),(Gb l).length<=4096*l.length
 |[]=>by simp[Gb]
 |s::l=>by
  have h1:=KE s
  have h2:=Gc l
  have:Gb (s::l)=(Ba s).1++Gb l:=by simp[Gb]
  rw[this,List.length_append,List.length_cons]
  omega
theorem MC (s:Tx):∀a∈(Ba s).1,Cc a.1 a.2=0:=by
 intro a ha
 unfold Ba at ha
 split at ha
 ·cases ha
 ·split at ha
  ·cases ha
  ·rename_i l hl
   split at ha
   ·cases ha
   ·exact WL _ s l (Nat.le_refl _) hl a ha
theorem Uh {vs:List Tx} :∀a∈Gb vs,Cc a.1 a.2=0:=λa ha=>by
 obtain⟨s,_,h⟩:=List.mem_flatMap.1 ha
 exact MC s a h
noncomputable def Cm (k p:Int) (x:Lr) (m:Ms) (n:Tx):List Tx:=
 if k=8 then [C6 p (if n=toT then(x.c1,x.c2) else(x.a1,x.a2))] else if k=7 then(Gb (DD m.f n)).map (C6 p) else DD m.f n
noncomputable def FK (t:AM) (x:Lr) (m:Ms):Bool:=
 if t.kind=1 then true
 else if t.kind=10 then(if t.over=true then decide (t.limit<(x.s.length:Int)) else decide ((x.s.length:Int)<t.limit))
 else if t.kind=8 then t.names.any λn=>Ix t.mat (Cm 8 t.part x m n) t.keys
 else if t.kind=9 then !(t.names.any λn=>decide ((DD m.f n).length=0))
 else if t.kind=6\/t.kind=7 then t.names.any λn=>Ix t.mat (Cm t.kind t.part x m n) t.keys
 else false
mutual
noncomputable def Bq (x:Lr) (m:Ms):AM->Bool
 | .mk k a p ns ks o li kids=>if k=3 then !Vv x m kids else if k=5 then OG x m kids else if k=4 then OF x m kids else FK (.mk k a p ns ks o li kids) x m
noncomputable def Vv (x:Lr) (m:Ms):List AM->Bool
 |[]=>false
 |t::_=>Bq x m t
noncomputable def OG (x:Lr) (m:Ms):List AM->Bool
 |[]=>false
 |t::l=>Bq x m t||OG x m l
noncomputable def OF (x:Lr) (m:Ms):List AM->Bool
 |[]=>true
 |t::l=>Bq x m t&&OF x m l
end
theorem Df (x:Lr) (m:Ms) (t:AM):Bq x m t=if t.kind=3 then !Vv x m t.kids else if t.kind=5 then OG x m t.kids else if t.kind=4 then OF x m t.kids else FK t x m:=by cases t;rw[Bq];rfl
theorem Vw {x:Lr} {m:Ms} {l:List AM} (h:0<l.length):Vv x m l=Bq x m l[0]:=by
 cases l with
 |nil=>simp at h
 |cons a l=>rw[Vv];rfl
theorem KX (x:Lr) (m:Ms):∀l:List AM,OG x m l=l.any (Bq x m)
 |[]=>by rw[OG];rfl
 |t::l=>by rw[OG,KX x m l];rfl
theorem KW (x:Lr) (m:Ms):∀l:List AM,OF x m l=!(l.any λt=>!Bq x m t)
 |[]=>by rw[OF];rfl
 |t::l=>by rw[OF,KW x m l,List.any_cons,Bool.not_or,Bool.not_not]
inductive JT:AM->Prop where
 |mk {t:AM} (hn:∀s∈t.names,s.length<=100) (hk:∀s∈t.keys,s.length<=100) (hm:A7 t.kind 6 8=true->1<=t.mat/\t.mat<=3) (hp:A7 t.kind 7 8=true->1<=t.part/\t.part<=3) (h3:t.kind=3->0<t.kids.length) (h10:A7 t.kind 1 10=true) (h45:A7 t.kind 4 5=true->0<t.kids.length) (hs:∀y∈t.kids,JT y):JT t
theorem JT.inv {t:AM} (h:JT t):(∀s∈t.names,s.length<=100)/\(∀s∈t.keys,s.length<=100)/\(A7 t.kind 6 8=true->1<=t.mat/\t.mat<=3)/\(A7 t.kind 7 8=true->1<=t.part/\t.part<=3)/\(t.kind=3->0<t.kids.length)/\A7 t.kind 1 10=true/\(A7 t.kind 4 5=true->0<t.kids.length)/\∀y∈t.kids,JT y:=by
 cases h;exact⟨by assumption,by assumption,by assumption,by assumption,by assumption,by assumption,by assumption,by assumption⟩
theorem Qa:∀{l:List Tx},Bg l=0->∀s∈l,s.length<=100
 |[],_,s,hs=>by cases hs
 | a::l,h,s,hs=>by
  rw[Bg] at h
  split at h
  ·omega
  ·rcases List.mem_cons.1 hs with rfl|hs
   ·omega
   ·exact Qa h s hs
theorem OJ {ks:List Tx} :∀{l:List AM},CL ks l=0->∀y∈l,CW ks y=0
 |[],_,y,hy=>by cases hy
 | a::l,h,y,hy=>by
  rw[CL] at h
  split at h
  ·contradiction
  ·rename_i h1
   rcases List.mem_cons.1 hy with rfl|hy
   ·omega
   ·exact OJ h y hy
theorem JT.of (ks:List Tx) (t:AM):∀d,tF t d=0->CW ks t=0->JT t:=by
 induction t using AM.ind with
 |h t ih=>
  intro d h1 h2
  obtain⟨hk,hO,hK⟩:=Sk h1
  obtain⟨o1,o2,o3,o4,o5,o6,o7,o8,o9⟩:=JQ t hO
  rw[B1] at h2
  split at h2
  ·omega
  split at h2
  ·omega
  split at h2
  ·omega
  split at h2
  ·omega
  rename_i hn hy
  refine⟨Qa ZO,Qa ZO,λh=>(o3 h).2.2,λh=>o4 h,λh=>by rw[o1 h];decide,hk,o2,λy hy2=>ih y hy2 _ (hK y hy2) (OJ h2 y hy2)⟩
end
section
theorem Rn {l:List (Tx×Tx)} {i:Nat} {d:List D} (h:i<l.length):(AP l).getD i d=[.str (l.getD i ([],[])).1,.str (l.getD i ([],[])).2]:=by
 rw[Of l i d h];simp[Lx,List.getD,h]
attribute [local go_sem] Bi List.length_map Aq in
theorem Agr (T:Ap) (l:List Tx) (f:FuncId) (cap:List AV) (g:Tx->Bool) (F:Af) (L:List Nat) (hl:l.length<=10000000000000) (hg:∀y∈l,AC prog T f (.d (.str y)::cap) ⟨F,L⟩ (λr h=>r= .ret (.d (.bool (g y)))/\h=⟨F,L⟩)):AC prog T 214 [.d (.slc 1 (l.map Aq)),.fn f cap] (⟨F,L⟩) (λr h=> ∃i:Int,r= .ret (.d (.int .i64 i))/\decide (0<=i)=l.any g/\h=⟨F,L⟩):=by
 refine⟨call214,Ao.enterS func214 rfl ntmps214 rfl λhb=>?_⟩
 simp only[go_sem,results214]
 refine Zp 3 ?_
 refine Zs (Zp 27 ?_)
 refine Aa.block (Zy ?_)
 refine Zl 7 8 (λn lc hc=> ∃(k:Nat),n=l.length-k/\Av lc [(8,.d (.int .i64 (k:Nat)))]/\Av hc (⟨F,L⟩)/\(k<=l.length)/\((l.take k).any g=false)) ?_ ?_
 · refine ⟨_,0,rfl,ZE,ZE,?_,?_⟩
   all_goals(first|omega|rfl|simp)
 rintro _ _ _ ⟨k,rfl,⟨rfl⟩,⟨rfl⟩,h1,h2⟩
 refine Zy ?_
 refine Zp 31 ?_
 refine Zs (Zc (λhc0=>?_) λhc0=>?_)
 ·have hlt:k<l.length:=by omega
  have hki:(k:Int)<(l.length:Int):=by omega
  have zf1:=λd0_=>Al Aq l k d0_ hlt
  refine Zk ?_
  refine Zs (Aa.block (Zp 31 ?_))
  refine Zx ?_
  simp only[go_sem,zf1,hki]
  refine ZA [] [] (hg _ (List.getElem_mem hlt)) ?_
  rintro _ _ ⟨rfl,rfl⟩
  refine Zy ?_
  refine Zm 1055 ?_
  refine Zc (λhc1=>?_) λhc1=>?_
  ·refine Zp 4 (Aa.ret ?_)
   simp only[Am,Bo]
   apply Ah [] [] [] [] ZH
   · exact ⟨(k:Int),rfl,by rw[List.any_eq_true.2 ⟨_,List.getElem_mem hlt,hc1⟩];simp,rfl⟩
   · simp [Aj,Ay]
  refine Z5 ?_
  refine Z6 ?_
  refine Zf 11 16 (.e ⟨_,ZM,k+1,rfl,ZE,ZE,?_,?_⟩)
  · omega
  · rw [List.take_succ_eq_append_getElem hlt,List.any_append,h2];simpa using hc1
 have htk:l.take k=l:=List.take_of_length_le ZO
 rw[htk] at h2
 refine Z4 ?_
 refine Zm 0 ?_
 refine Zp 1 (Aa.ret ?_)
 apply Ah [] [] [] [] ZH
 · exact ⟨-1,rfl,by rw[h2];rfl,rfl⟩
 · simp [Aj,Ay]
theorem Qu (T:Ap) (l:List Tx) (f:FuncId) (cap:List AV) (g:Tx->Bool) (F:Af) (L:List Nat) (hl:l.length<=10000000000000) (hg:∀y∈l,AC prog T f (.d (.str y)::cap) ⟨F,L⟩ (λr h=>r= .ret (.d (.bool (g y)))/\h=⟨F,L⟩)):AC prog T 126 [.d (.slc 1 (l.map Aq)),.fn f cap] (⟨F,L⟩) (λr h=>r= .ret (.d (.bool (l.any g)))/\h=⟨F,L⟩):=by
 refine⟨call126,Ao.enterS func126 rfl ntmps126 rfl λhb=>?_⟩
 simp only[go_sem,results126]
 refine Zp 3 ?_
 refine Zx (Zy ?_)
 refine ZA [] [] (Agr T l f cap g _ _ hl hg) ?_
 rintro _ _ ⟨Q1,rfl,hQ1,rfl⟩
 refine Zy ?_
 refine Zm 4 ?_
 refine Aa.ret ?_
 apply Ah [] [] [] [] ZH
 · exact ⟨by rw[<-hQ1],rfl⟩
 · simp [Aj,Ay,hQ1]
theorem YI (T:Ap) (hL:Bw T) (m:Int) (v k:Tx) (bv bm:Nat) (F:Af) (L:List Nat):AC prog T 216 [.d (.str k),.ptr bm 1 0 0,.ptr bv 1 0 0] (⟨(bv,⟨1,1,[[.d (.str v)]]⟩)::(bm,⟨1,1,[[.d (.int .i64 m)]]⟩)::F,L⟩) (λr h=>r= .ret (.d (.bool (GG m v k)))/\h=⟨(bv,⟨1,1,[[.d (.str v)]]⟩)::(bm,⟨1,1,[[.d (.int .i64 m)]]⟩)::F,L⟩):=by
 refine⟨call216,Ao.enterS func216 rfl ntmps216 rfl λhb=>?_⟩
 simp only[go_sem,results216]
 refine Aa.nd λhnd=>?_
 have hq:=UR hnd
 clear hnd
 have zf1:=AY hq
 have zf2:=AZ hq
 refine Zp 7 ?_
 refine Z1 8 (Ua T hL m v k) ?_
 refine Zp 1 (Aa.ret ?_)
 apply Ah [] [] [bv,bm] [] ZH
 · exact ⟨rfl,ZR⟩
 · simp [Aj,Ay]
attribute [local go_sem] Array.isEmpty_empty in
theorem Acb (T:Ap) (hL:Bw T) (m:Int) (ks:List Tx) (v:Tx) (bk bm:Nat) (F:Af) (L:List Nat) (hk:ks.length<=10000000000000):AC prog T 215 [.d (.str v),.ptr bk 1 0 0,.ptr bm 1 0 0] (⟨(bk,⟨1,1,[[.d (.slc 1 (ks.map Aq))]]⟩)::(bm,⟨1,1,[[.d (.int .i64 m)]]⟩)::F,L⟩) (λr h=>r= .ret (.d (.bool (ks.any λk=>GG m v k)))/\h=⟨(bk,⟨1,1,[[.d (.slc 1 (ks.map Aq))]]⟩)::(bm,⟨1,1,[[.d (.int .i64 m)]]⟩)::F,L⟩):=by
 refine⟨call215,Ao.enterS func215 rfl ntmps215 rfl λhb=>?_⟩
 simp only[go_sem,results215]
 refine Aa.nd λhnd=>?_
 have hq:=UR hnd
 clear hnd
 have zf1:=AY hq
 have zf2:=AZ hq
 refine Zx ?_
 simp only[go_sem,if_true]
 intro bv fbv
 try simp only[Ab] at fbv
 refine Zx ?_
 simp only[go_sem, *]
 have hC:=Qu T ks _ _ (λk=>GG m v k) _ _ hk λy hy=>YI T hL m v y bv bm ((bk,⟨1,1,[[.d (.slc 1 (ks.map Aq))]]⟩)::F) L
 refine ZA [bv,bm] [] (hC) ?_
 rintro _ _ ⟨rfl,rfl⟩
 simp only[go_sem,if_true]
 refine Zm 16 ?_
 refine Aa.ret ?_
 apply Ah [bv] [] [bk,bm] [] ZH
 · exact ⟨rfl,ZR⟩
 · simp [Aj,Ay]
attribute [local go_sem] Array.isEmpty_empty in
theorem P6 (T:Ap) (hL:Bw T) (m:Int) (vs ks:List Tx) (hv:vs.length<=10000000000000) (hk:ks.length<=10000000000000):PC prog T 128 [.d (.int .i64 m),.d (.slc 1 (vs.map Aq)),.d (.slc 1 (ks.map Aq))] (.d (.bool (Ix m vs ks))):=by
 refine⟨call128,Ar.enterS func128 rfl ntmps128 rfl λhb=>?_⟩
 simp only[go_sem,results128]
 refine Zx ?_
 simp only[go_sem,if_true]
 intro b3
 first|intro fb3|have fb3:=True.intro
 try simp only[Ab] at fb3
 intro b5
 first|intro fb5|have fb5:=True.intro
 try simp only[Ab] at fb5
 refine Zx ?_
 simp only[go_sem,if_true]
 have hC:=Qu T vs _ _ (λv=>ks.any λk=>GG m v k) _ _ hv λy hy=>Acb T hL m ks y b5 b3 [] [] hk
 refine ZA [b5,b3] [] (hC) ?_
 rintro _ _ ⟨rfl,rfl⟩
 simp only[go_sem,if_true]
 refine Zm 32 ?_
 refine Aa.ret ?_
 simp only[go_sem,if_true]
 first|rfl|(simp[Aj,Ay,Ix];done)|(simp[Ix,Aj,Ay])
theorem AdA {α:Type} (f:α->List D) {l:List α} {k:Nat} (h:k<l.length):(l.take (k+1)).map f=(l.take k).map f++[f l[k]]:=by rw[List.take_succ_eq_append_getElem h,List.map_append];rfl
theorem Pb (T:Ap) (hL:Bw T) (p:Int) (l d:Tx) (h:Cc l d=0) (hp:1<=p/\p<=3):PC prog T 93 [.d (.int .i64 p),.agg [.d (.str l),.d (.str d)]] (.tup [.d (.str (C6 p (l,d))),.d (.int .i64 0)]):=by
 refine⟨call93,Ar.enterS func93 rfl ntmps93 rfl λhb=>?_⟩
 obtain⟨_,_,hll⟩:=G5 h
 simp only[go_sem,results93]
 refine Zx (Zy ?_)
 intro b3
 first|intro fb3|have fb3:=True.intro
 try simp only[Ab] at fb3
 refine Zs (Z1 37 (GP T hL l d ZO ZO) ?_)
 refine Zp 23 ?_
 refine Zc (λhc0=>?_) λhc0=>?_
 ·exact absurd h hc0
 refine Zk ?_
 refine Zs (Zp 18 ?_)
 refine Aa.block (Zp 7 ?_)
 refine Zc (λhc1=>?_) λhc1=>?_
 ·have h1:p=1:=by first|exact hc1|omega
  subst h1
  refine Zp 6 (Aa.ret ?_)
  simp only[go_sem]
  simp[C6,adT]
 refine Zp 11 ?_
 refine Zc (λhc2=>?_) λhc2=>?_
 ·have h1:p=2:=by first|exact hc2|omega
  subst h1
  refine Zp 6 (Aa.ret ?_)
  simp only[go_sem]
  simp[C6]
 refine Zp 9 ?_
 refine Zc (λhc3=>?_) λhc3=>?_
 ·have h1:p=3:=by first|exact hc3|omega
  subst h1
  refine Zp 6 (Aa.ret ?_)
  simp only[go_sem]
  simp[C6]
 exfalso;omega
attribute [local go_sem] Bi Hi Xp in
theorem PT (T:Ap) (hL:Bw T) (p:Int) (l:List Ad) (hp:1<=p/\p<=3) (ha:∀a∈l,Cc a.1 a.2=0) (hl:l.length<=1000000):PC prog T 129 [.d (.int .i64 p),.d (.slc 2 (Ds l))] (.d (.slc 1 ((l.map (C6 p)).map Aq))):=by
 refine⟨call129,Ar.enterS func129 rfl ntmps129 rfl λhb=>?_⟩
 simp only[go_sem,results129]
 refine Zp 3 ?_
 refine Zp 7 ?_
 refine Zs (Zp 61 ?_)
 refine Aa.block (Zy ?_)
 refine Bs 5 1 rfl rfl ZD λw0 fw0=>?_
 try simp only[Ae] at fw0
 refine Zy ?_
 refine Zl 13 18 (λn lc hc=> ∃(k w:Nat),n=l.length-k/\Av lc [(5,.own w 1 ((l.take k).map λa=>Aq (C6 p a))),(12,.d (.int .i64 (k:Nat)))]/\Av hc (⟨[],[w]⟩)/\(k<=l.length)) ⟨_,0,w0,rfl,ZE,ZE,ZI⟩ ?_
 rintro _ _ _ ⟨k,w,rfl,⟨rfl⟩,⟨rfl⟩,h1⟩
 refine Zy ?_
 refine Zp 63 ?_
 refine Zs (Zc (λhc0=>?_) λhc0=>?_)
 ·have hlt:k<l.length:=by omega
  have hki:(k:Int)<(l.length:Int):=by omega
  have hak:=ha _ (List.getElem_mem hlt)
  have zf1:=λd0_=>QB l k d0_ hlt
  refine Zk ?_
  refine Zs (Aa.block (Zx ?_))
  simp only[go_sem,zf1,hki]
  intro b7
  first|intro fb7|have fb7:=True.intro
  try simp only[Ab] at fb7
  refine Z1 235 (Pb T hL p (l[k]).1 (l[k]).2 hak hp) ?_
  refine Zq λK_ k_=>?_
  refine Zy ?_
  refine ZW λt1 ft1=>?_
  try simp only[Ae] at ft1
  refine Zy ?_
  refine k_ _ _ (Ai (Ac ?_))
  refine Zm 59 ?_
  refine Z6 ?_
  refine Ze 13 18 [b7] [] [] [t1] (.e ⟨_,ZM,k+1,t1,rfl,?_,ZE,ZN⟩)
  · (try simp only[go_sem])<;>first|exact⟨rfl⟩|(constructor;rw[AdA _ hlt])
 have htk:l.take k=l:=List.take_of_length_le ZO
 rw[htk]
 refine Z4 ?_
 refine Zm 2 ?_
 refine Zp 1 (Aa.ret ?_)
 simp only[go_sem]
 simp[Aq]
attribute [local go_sem] DK Bi EW List.map_cons List.map_nil in
theorem Su (T:Ap) (hL:Bw T) (m:Ms) (nm:Tx) (hl:m.f.length<=30):PC prog T 131 [.agg (DK m),.d (.str nm)] (.d (.slc 1 ((DD m.f nm).map Aq))):=by
 refine⟨call131,Ar.enterS func131 rfl ntmps131 rfl λhb=>?_⟩
 simp only[go_sem,results131]
 refine Zx (Zy ?_)
 intro b2
 first|intro fb2|have fb2:=True.intro
 try simp only[Ab] at fb2
 refine Zp 22 ?_
 refine Zs (Zp 117 ?_)
 refine Aa.block (Zy ?_)
 refine Bs 5 1 rfl rfl ZD λw0 fw0=>?_
 try simp only[Ae] at fw0
 refine Zy ?_
 refine Zl 13 18 (λn lc hc=> ∃(k w:Nat),n=m.f.length-k/\Av lc [(5,.own w 1 ((DD (m.f.take k) nm).map Aq)),(13,.d (.int .i64 (k:Nat)))]/\Av hc (⟨[(b2,⟨2,1,[DK m]⟩)],[w]⟩)/\(k<=m.f.length)) ⟨_,0,w0,rfl,ZE,ZE,ZI⟩ ?_
 rintro _ _ _ ⟨k,w,rfl,⟨rfl⟩,⟨rfl⟩,h1⟩
 refine Zy ?_
 refine Zp 63 ?_
 refine Zs (Zc (λhc0=>?_) λhc0=>?_)
 ·have hlt:k<m.f.length:=by omega
  have hki:(k:Int)<(m.f.length:Int):=by omega
  have hvl:=HY (m.f.take k) nm
  rw[List.length_take] at hvl
  have zf1:=λdd=>Rn (d:=dd) hlt
  refine Zk ?_
  refine Zs (Aa.block (Zx ?_))
  simp only[go_sem,zf1,hki]
  intro b7 fb7
  try simp only[Ab] at fb7
  refine Z1 239 (Ua T hL 1 (m.f.getD k ([],[])).1 nm) ?_
  refine Zp 247 ?_
  refine Zc (λhc1=>?_) λhc1=>?_
  ·refine Zq λK_ k_=>?_
   simp only[go_sem,fb7]
   refine ZW λt1 ft1=>?_
   try simp only[Ae] at ft1
   refine Zy ?_
   refine k_ _ _ (Ai (Ac ?_))
   refine Zm 59 ?_
   refine Z6 ?_
   refine Ze 13 18 [b7] [] [b2] [t1] (.e ⟨_,ZM,k+1,t1,rfl,?_,ZE,ZN⟩)
   · (try simp only[go_sem])<;>first|exact⟨rfl⟩|(constructor;rw[Ss hlt hc1,List.map_append];rfl)
  refine Z5 ?_
  refine Z6 ?_
  refine Ze 25 34 [b7] [] [b2] [w] (.e ⟨_,ZM,k+1,w,rfl,?_,ZE,ZN⟩)
  · (try simp only[go_sem])<;>first|exact⟨rfl⟩|(constructor;rw[V0 hlt hc1])
 have htk:m.f.take k=m.f:=List.take_of_length_le ZO
 rw[htk]
 refine Z4 ?_
 refine Zm 2 ?_
 refine Zp 1 (Aa.ret ?_)
 simp only[go_sem]
 try simp[Aj,Ay]
end
section
attribute [local go_sem] Dw AJ DK List.map_cons List.map_nil Bi Array.isEmpty_empty in
theorem AeE (T:Ap) (hL:Bw T) (t:AM) (x:Lr) (m:Ms) (nm:Tx) (bl bt:Nat) (F:Af) (L:List Nat) (jo:VT x m) (hp:1<=t.part/\t.part<=3) (hk:t.keys.length<=10000000000000):AC prog T 127 [.d (.str nm),.ptr bl 5 0 0,.ptr bt 8 0 0] (⟨(bl,⟨5,1,[Dw x]⟩)::(bt,⟨8,1,[AJ t]⟩)::F,L⟩) (λr h=>r= .ret (.d (.bool (Ix t.mat (Cm 8 t.part x m nm) t.keys)))/\h=⟨(bl,⟨5,1,[Dw x]⟩)::(bt,⟨8,1,[AJ t]⟩)::F,L⟩):=by
 refine⟨call127,Ao.enterS func127 rfl ntmps127 rfl λhb=>?_⟩
 simp only[go_sem,results127]
 refine Aa.nd λhnd=>?_
 have hq:=UR hnd
 clear hnd
 have zf1:=AY hq
 have zf2:=AZ hq
 refine Zp 7 ?_
 refine Zx ?_
 simp only[go_sem,if_true,zf2]
 intro b5 fb5
 try simp only[Ab] at fb5
 refine Zs (Zp 142 ?_)
 refine Zc (λhc0=>?_) λhc0=>?_
 ·have hn:nm=toT:=by exact hc0
  have e:Cm 8 t.part x m nm=[(x.c1,x.c2)].map (C6 t.part):=by rw[Cm,if_pos rfl,if_pos hn];rfl
  refine Z6 ?_
  refine Zm 6 ?_
  have hPa:=PT T hL t.part [(x.c1,x.c2)] hp (λa ha=>by rw[List.mem_singleton] at ha;subst ha;exact jo.h2) ZX
  have hFi:=P6 T hL t.mat ([(x.c1,x.c2)].map (C6 t.part)) t.keys ZX hk
  refine Zd true [0,1,2,3,4,5,6,7,8,9,10] ?_
  simp only[go_sem,if_true,zf1,fb5]
  refine Aw rfl rfl rfl rfl (hPa) rfl rfl ?_
  simp only[go_sem,if_true,zf1,fb5]
  refine Aw rfl rfl rfl rfl (hFi) rfl rfl ?_
  simp only[go_sem,if_true]
  refine Zm 2 ?_
  refine Aa.ret ?_
  apply Ah [b5] [] [bl,bt] [] (by(try simp only[go_sem,if_true])<;>rfl)
  · exact ⟨rfl,by first|rfl|(simp only[go_sem,if_true,zf1,zf2,fb5];done)⟩
  · rw [e];simp[Aj,Ay]
 have hn:¬nm=toT:=by exact hc0
 have e:Cm 8 t.part x m nm=[(x.a1,x.a2)].map (C6 t.part):=by rw[Cm,if_pos rfl,if_neg hn];rfl
 refine Zk ?_
 have hPa:=PT T hL t.part [(x.a1,x.a2)] hp (λa ha=>by rw[List.mem_singleton] at ha;subst ha;exact jo.h1) ZX
 have hFi:=P6 T hL t.mat ([(x.a1,x.a2)].map (C6 t.part)) t.keys ZX hk
 refine Zd true [0,1,2,3,4,5,6,7,8,9,10] ?_
 simp only[go_sem,if_true,zf1,fb5]
 refine Aw rfl rfl rfl rfl (hPa) rfl rfl ?_
 simp only[go_sem,if_true,zf1,fb5]
 refine Aw rfl rfl rfl rfl (hFi) rfl rfl ?_
 simp only[go_sem,if_true]
 refine Zm 4 ?_
 refine Aa.ret ?_
 apply Ah [b5] [] [bl,bt] [] (by(try simp only[go_sem,if_true])<;>rfl)
 · exact ⟨rfl,by first|rfl|(simp only[go_sem,if_true,zf1,zf2,fb5];done)⟩
 · rw [e];simp[Aj,Ay]
attribute [local go_sem] Dw AJ DK List.map_cons List.map_nil Bi Array.isEmpty_empty List.length_map in
theorem AeF (T:Ap) (hL:Bw T) (m:Ms) (nm:Tx) (bg:Nat) (F:Af) (L:List Nat) (hl:m.f.length<=30):AC prog T 130 [.d (.str nm),.ptr bg 2 0 0] (⟨(bg,⟨2,1,[DK m]⟩)::F,L⟩) (λr h=>r= .ret (.d (.bool (decide ((DD m.f nm).length=0))))/\h=⟨(bg,⟨2,1,[DK m]⟩)::F,L⟩):=by
 refine⟨call130,Ao.enterS func130 rfl ntmps130 rfl λhb=>?_⟩
 simp only[go_sem,results130]
 refine Zp 3 ?_
 refine Z1 4 (Su T hL m nm hl) ?_
 refine Aa.ret ?_
 apply Ah [] [] [bg] [] ZH
 · exact ⟨rfl,ZR⟩
 · simp [Aj,Ay]
theorem Aey (a c:List Ad):Ds a++Ds c=Ds (a++c):=by simp[Ds]
attribute [local go_sem] Dw AJ DK List.map_cons List.map_nil Bi Array.isEmpty_empty List.length_map Aey Gd Hi Aq in
theorem AeG (T:Ap) (hL:Bw T) (t:AM) (x:Lr) (m:Ms) (nm:Tx) (bg bt:Nat) (F:Af) (L:List Nat) (h8:¬t.kind=8) (hl:m.f.length<=30) (hp:t.kind=7->1<=t.part/\t.part<=3) (hk:t.keys.length<=10000000000000):AC prog T 132 [.d (.str nm),.ptr bg 2 0 0,.ptr bt 8 0 0] (⟨(bg,⟨2,1,[DK m]⟩)::(bt,⟨8,1,[AJ t]⟩)::F,L⟩) (λr h=>r= .ret (.d (.bool (Ix t.mat (Cm t.kind t.part x m nm) t.keys)))/\h=⟨(bg,⟨2,1,[DK m]⟩)::(bt,⟨8,1,[AJ t]⟩)::F,L⟩):=by
 refine⟨call132,Ao.enterS func132 rfl ntmps132 rfl λhb=>?_⟩
 have hvl:=HY m.f nm
 generalize hvs:DD m.f nm=vs at hvl
 simp only[go_sem,results132]
 refine Aa.nd λhnd=>?_
 have hq:=UR hnd
 clear hnd
 have zf1:=AY hq
 have zf2:=AZ hq
 refine Zp 7 ?_
 refine Z1 12 ((by have:=Su T hL m nm hl;rwa [hvs] at this)) ?_
 refine Zs (Zp 19 ?_)
 refine Zc (λhc0=>?_) λhc0=>?_
 ·have h7:t.kind=7:=by first|exact hc0|omega
  have e:Cm t.kind t.part x m nm=(Gb vs).map (C6 t.part):=by rw[Cm,if_neg h8,if_pos h7,hvs]
  refine Zp 7 ?_
  refine Zs (Zp 61 ?_)
  refine Aa.block (Zy ?_)
  refine Bs 6 2 rfl rfl ZD λw0 fw0=>?_
  try simp only[Ae] at fw0
  refine Zy ?_
  refine Zl 13 18 (λn lc hc=> ∃(k w:Nat),n=vs.length-k/\Av lc [(6,.own w 2 (Ds (Gb (vs.take k)))),(19,.d (.int .i64 (k:Nat)))]/\Av hc (⟨(bg,⟨2,1,[DK m]⟩)::(bt,⟨8,1,[AJ t]⟩)::F,w::L⟩)/\(k<=vs.length)/\(Ae w L)) ?_ ?_
  · refine ⟨_,0,w0,rfl,ZE,ZE,?_,?_⟩
    all_goals(first|omega|exact fw0|assumption)
  rintro _ _ _ ⟨k,w,rfl,⟨rfl⟩,⟨rfl⟩,h1,h2⟩
  refine Zy ?_
  refine Zp 63 ?_
  refine Zs (Zc (λhc1=>?_) λhc1=>?_)
  ·have hlt:k<vs.length:=by omega
   have hki:(k:Int)<(vs.length:Int):=by omega
   have hal:=Gc (vs.take k)
   rw[List.length_take] at hal
   have hrl:=KE vs[k]
   have zf3:=λd0_=>Al Aq vs k d0_ hlt
   refine Zk ?_
   refine Zs (Aa.block (Zp 63 ?_))
   refine Z1 235 (OU T hL vs[k]) ?_
   refine Zq λK_ k_=>?_
   simp only[go_sem,if_true]
   refine BF rfl rfl rfl rfl (show BL prog 144=some (36,2,32) by simp only[go_sem]) rfl rfl (by simp only[go_sem]) ZJ (by(try simp only[go_sem,Hi]);first|done|omega) (by(try simp only[go_sem,Hi]);first|done|omega) λt1 ft1=>?_
   try simp only[Ae] at ft1
   simp only[go_sem,if_true]
   refine k_ _ _ (Ai (Ac ?_))
   refine Zm 59 ?_
   refine Z6 ?_
   refine Ze 13 18 [] [] [bg,bt] [t1] (.e ⟨_,ZM,k+1,t1,rfl,?_,ZE,?_,?_⟩)
   · (try simp only[go_sem,if_true])<;>first|exact⟨rfl⟩|(constructor;rw[SK hlt])
   · omega
   · first|exact ft1|exact ft1.2|exact ft1.2.2|exact ft1.1|trivial|assumption
  have htk:vs.take k=vs:=List.take_of_length_le ZO
  rw[htk]
  refine Z4 ?_
  refine Zm 3 ?_
  refine Zy ?_
  refine X3 6 rfl (Kr.rfl' _) rfl ?_
  refine Zy ?_
  refine Zq λK_ k_=>?_
  simp only[go_sem,if_true,zf1]
  refine Aw rfl rfl rfl rfl (PT T hL t.part (Gb vs) (hp h7) Uh (by have:=Gc vs;omega)) rfl rfl ?_
  simp only[go_sem,if_true]
  refine k_ _ _ (Ac ?_)
  refine Zm 3 ?_
  refine Z1 2 (P6 T hL t.mat ((Gb vs).map (C6 t.part)) t.keys (by have:=Gc vs;simp;omega) hk) ?_
  refine Aa.ret ?_
  apply Ah [] [w] [bg,bt] [] (by(try simp only[go_sem,if_true])<;>rfl)
  · exact ⟨rfl,by first|rfl|(simp only[go_sem,if_true,zf1,zf2];done)|(simp only[go_sem,if_true,zf1,zf2];rw[h7])⟩
  · rw [e];simp[Aj,Ay]
 have h7:¬t.kind=7:=by first|exact hc0|omega
 have e:Cm t.kind t.part x m nm=vs:=by rw[Cm,if_neg h8,if_neg h7,hvs]
 refine Zk ?_
 refine Z1 2 (P6 T hL t.mat vs t.keys ZO hk) ?_
 refine Aa.ret ?_
 apply Ah [] [] [bg,bt] [] (by(try simp only[go_sem,if_true])<;>rfl)
 · exact ⟨rfl,by first|rfl|(simp only[go_sem,if_true,zf1,zf2];done)|(simp only[go_sem,if_true,zf1,zf2];rw[h7])⟩
 · rw [e];simp[Aj,Ay]
end
section
theorem Ai2 {x y z:Nat} {o o' o2:Ob} {F:Af} (h:(List.map Prod.fst ((x,o)::(y,o')::(z,o2)::F)).Nodup):x≠y/\x≠z/\y≠z:=by
 simp only[List.map_cons,List.nodup_cons,List.mem_cons,not_or] at h
 exact⟨h.1.1,h.1.2.1,h.2.1.1⟩
attribute [local go_sem] Dw AJ DK List.map_cons List.map_nil Bi Array.isEmpty_empty in
theorem Ag6 (T:Ap) (hL:Bw T) (t:AM) (x:Lr) (m:Ms) (ok:t.Ok) (jt:JT t) (jo:VT x m) (hs:x.s.length<=9223372036854775807):PC prog T 73 [.agg (AJ t),.agg (Dw x),.agg (DK m)] (.d (.bool (FK t x m))):=by
 refine⟨call73,Ar.enterS func73 rfl ntmps73 rfl λhb=>?_⟩
 obtain⟨s1,s2,s3,s4⟩:=ok.inv
 obtain⟨j1,j2,j3,j4,j5,j6,j8,j7⟩:=jt.inv
 have hkl:t.keys.length<=10000000000000:=by omega
 have hnl:t.names.length<=10000000000000:=by omega
 simp only[go_sem,results73]
 refine Zx ?_
 simp only[go_sem,if_true]
 intro b3
 first|intro fb3|have fb3:=True.intro
 try simp only[Ab] at fb3
 intro b4
 first|intro fb4|have fb4:=True.intro
 try simp only[Ab] at fb4
 intro b5
 first|intro fb5|have fb5:=True.intro
 try simp only[Ab] at fb5
 refine Zm 56 ?_
 refine Zs (Zp 23 ?_)
 refine Aa.block (Zp 31 ?_)
 refine Zc (λhc0=>?_) λhc0=>?_
 ·have e:FK t x m=true:=by rw[FK,if_pos hc0]
  refine Zp 8 (Aa.ret ?_)
  simp only[go_sem,if_true]
  rw[e];try simp[Aj,Ay]
 refine Zp 47 ?_
 refine Zc (λhc1=>?_) λhc1=>?_
 ·have e:FK t x m=(if t.over=true then decide (t.limit<(x.s.length:Int)) else decide ((x.s.length:Int)<t.limit)):=by rw[FK,if_neg hc0,if_pos hc1]
  refine Zs (Zp 67 ?_)
  refine Zc (λhc2=>?_) λhc2=>?_
  ·rw[if_pos hc2] at e
   refine Zp 4 (Aa.ret ?_)
   simp only[go_sem,if_true]
   rw[e];try simp[Aj,Ay]
  rw[if_neg (by simp[hc2])] at e
  refine Zk ?_
  refine Zp 4 (Aa.ret ?_)
  simp only[go_sem,if_true]
  rw[e];try simp[Aj,Ay]
 refine Zp 47 ?_
 refine Zc (λhc3=>?_) λhc3=>?_
 ·have e:FK t x m=t.names.any λn=>Ix t.mat (Cm 8 t.part x m n) t.keys:=by rw[FK,if_neg hc0,if_neg hc1,if_pos hc3]
  have hpp:=j4 (by simp[A7,hc3])
  refine Zx ?_
  simp only[go_sem,if_true,fb4,fb5]
  have hC:=Qu T t.names _ _ (λn=>Ix t.mat (Cm 8 t.part x m n) t.keys) _ _ hnl λy hy=>AeE T hL t x m y b4 b3 [(b5,⟨2,1,[DK m]⟩)] [] jo hpp hkl
  refine AI [b4,b3] [] rfl rfl rfl rfl (by(try simp only[go_sem,if_true,fb4,fb5])<;>rfl) rfl (hC) ?_
  rintro _ _ ⟨rfl,rfl⟩
  simp only[go_sem,if_true]
  refine Zm 8 ?_
  refine Aa.ret ?_
  simp only[go_sem,if_true]
  rw[e];try simp[Aj,Ay]
 refine Zp 45 ?_
 refine Zc (λhc4=>?_) λhc4=>?_
 ·have e:FK t x m=!(t.names.any λn=>decide ((DD m.f n).length=0)):=by rw[FK,if_neg hc0,if_neg hc1,if_neg hc3,if_pos hc4]
  refine Zx ?_
  simp only[go_sem,if_true,fb4,fb5]
  have hC:=Qu T t.names _ _ (λn=>decide ((DD m.f n).length=0)) _ _ hnl λy hy=>AeF T hL m y b5 [(b4,⟨5,1,[Dw x]⟩),(b3,⟨8,1,[AJ t]⟩)] [] jo.hl
  refine AI [b5] [] rfl rfl rfl rfl (by(try simp only[go_sem,if_true,fb5])<;>rfl) rfl (hC) ?_
  rintro _ _ ⟨rfl,rfl⟩
  simp only[go_sem,if_true]
  refine Zm 4 ?_
  refine Aa.ret ?_
  simp only[go_sem,if_true]
  rw[e];try simp[Aj,Ay]
 refine Zs (Zp 23 ?_)
 refine Zy ?_
 apply Za (z:=(_||_)) 3 40
 ·refine Aa.cond _ rfl (λhc5=>?_) λhc5=>?_
  rotate_left
  ·refine Z6 ?_
   refine Zf 3 8 (.e ⟨BD (ES hc5 rfl),⟨rfl⟩⟩)
  refine Aa.skip (Ac ?_)
  refine Zf 3 8 (.e ⟨BD (Hc hc5),⟨rfl⟩⟩)
 refine Zy ?_
 refine Zc (λhc6=>?_) λhc6=>?_
 ·have h67:t.kind=6\/t.kind=7:=by simpa using hc6
  have e:FK t x m=t.names.any λn=>Ix t.mat (Cm t.kind t.part x m n) t.keys:=by rw[FK,if_neg hc0,if_neg hc1,if_neg hc3,if_neg hc4,if_pos h67]
  refine Zx ?_
  simp only[go_sem,if_true,fb4,fb5]
  have hC:=Qu T t.names _ _ (λn=>Ix t.mat (Cm t.kind t.part x m n) t.keys) _ _ hnl λy hy=>AeG T hL t x m y b5 b3 [(b4,⟨5,1,[Dw x]⟩)] [] hc3 jo.hl (λh7=>j4 (by simp[A7,h7])) hkl
  refine AI [b5,b3] [] rfl rfl rfl rfl (by(try simp only[go_sem,if_true,fb4,fb5])<;>rfl) rfl (hC) ?_
  rintro _ _ ⟨rfl,rfl⟩
  simp only[go_sem,if_true]
  refine Zm 4 ?_
  refine Aa.ret ?_
  simp only[go_sem,if_true]
  rw[e];try simp[Aj,Ay]
 have h67:¬(t.kind=6\/t.kind=7):=by simpa using hc6
 refine Z5 ?_
 refine Zp 4 (Aa.ret ?_)
 simp only[go_sem,if_true]
 rw[show FK t x m=false by rw[FK,if_neg hc0,if_neg hc1,if_neg hc3,if_neg hc4,if_neg h67]];try simp[Aj,Ay]
attribute [local go_sem] Bi List.length_map Ef AJ in
theorem Ags (T:Ap) (l:List AM) (f:FuncId) (cap:List AV) (g:AM->Bool) (F:Af) (L:List Nat) (hl:l.length<=10000000000000) (hg:∀y∈l,AC prog T f (.agg (AJ y)::cap) ⟨F,L⟩ (λr h=>r= .ret (.d (.bool (g y)))/\h=⟨F,L⟩)):AC prog T 125 [.d (.slc 8 (l.map Ef)),.fn f cap] (⟨F,L⟩) (λr h=> ∃i:Int,r= .ret (.d (.int .i64 i))/\decide (0<=i)=l.any g/\h=⟨F,L⟩):=by
 refine⟨call125,Ao.enterS func125 rfl ntmps125 rfl λhb=>?_⟩
 simp only[go_sem,results125]
 refine Zp 3 ?_
 refine Zs (Zp 27 ?_)
 refine Aa.block (Zy ?_)
 refine Zl 7 8 (λn lc hc=> ∃(k:Nat),n=l.length-k/\Av lc [(8,.d (.int .i64 (k:Nat)))]/\Av hc (⟨F,L⟩)/\(k<=l.length)/\((l.take k).any g=false)) ?_ ?_
 · refine ⟨_,0,rfl,ZE,ZE,?_,?_⟩
   all_goals(first|omega|rfl|simp)
 rintro _ _ _ ⟨k,rfl,⟨rfl⟩,⟨rfl⟩,h1,h2⟩
 refine Zy ?_
 refine Zp 31 ?_
 refine Zs (Zc (λhc0=>?_) λhc0=>?_)
 ·have hlt:k<l.length:=by omega
  have hki:(k:Int)<(l.length:Int):=by omega
  have zf1:=λd0_=>Al Ef l k d0_ hlt
  refine Zk ?_
  refine Zs (Aa.block (Zp 31 ?_))
  refine Zx ?_
  simp only[go_sem,zf1,hki]
  refine ZA [] [] (hg _ (List.getElem_mem hlt)) ?_
  rintro _ _ ⟨rfl,rfl⟩
  refine Zy ?_
  refine Zm 1055 ?_
  refine Zc (λhc1=>?_) λhc1=>?_
  ·refine Zp 4 (Aa.ret ?_)
   simp only[Am,Bo]
   apply Ah [] [] [] [] ZH
   · exact ⟨(k:Int),rfl,by rw[List.any_eq_true.2 ⟨_,List.getElem_mem hlt,hc1⟩];simp,rfl⟩
   · simp [Aj,Ay]
  refine Z5 ?_
  refine Z6 ?_
  refine Zf 11 16 (.e ⟨_,ZM,k+1,rfl,ZE,ZE,?_,?_⟩)
  · omega
  · rw [List.take_succ_eq_append_getElem hlt,List.any_append,h2];simpa using hc1
 have htk:l.take k=l:=List.take_of_length_le ZO
 rw[htk] at h2
 refine Z4 ?_
 refine Zm 0 ?_
 refine Zp 1 (Aa.ret ?_)
 apply Ah [] [] [] [] ZH
 · exact ⟨-1,rfl,by rw[h2];rfl,rfl⟩
 · simp [Aj,Ay]
theorem AcV (T:Ap) (l:List AM) (f:FuncId) (cap:List AV) (g:AM->Bool) (F:Af) (L:List Nat) (hl:l.length<=10000000000000) (hg:∀y∈l,AC prog T f (.agg (AJ y)::cap) ⟨F,L⟩ (λr h=>r= .ret (.d (.bool (g y)))/\h=⟨F,L⟩)):AC prog T 71 [.d (.slc 8 (l.map Ef)),.fn f cap] (⟨F,L⟩) (λr h=>r= .ret (.d (.bool (l.any g)))/\h=⟨F,L⟩):=by
 refine⟨call71,Ao.enterS func71 rfl ntmps71 rfl λhb=>?_⟩
 simp only[go_sem,results71]
 refine Zp 3 ?_
 refine Zx (Zy ?_)
 refine ZA [] [] (Ags T l f cap g _ _ hl hg) ?_
 rintro _ _ ⟨Q1,rfl,hQ1,rfl⟩
 refine Zy ?_
 refine Zm 4 ?_
 refine Aa.ret ?_
 apply Ah [] [] [] [] ZH
 · exact ⟨by rw[<-hQ1],rfl⟩
 · simp [Aj,Ay,hQ1]
attribute [local go_sem] Dw AJ DK List.map_cons List.map_nil Bi Array.isEmpty_empty in
theorem Qd (T:Ap) (t:AM) (x:Lr) (m:Ms) (bl bg:Nat) (F:Af) (L:List Nat) (ih:PC prog T 35 [.agg (AJ t),.agg (Dw x),.agg (DK m)] (.d (.bool (Bq x m t)))):AC prog T 70 [.agg (AJ t),.ptr bl 5 0 0,.ptr bg 2 0 0] (⟨(bl,⟨5,1,[Dw x]⟩)::(bg,⟨2,1,[DK m]⟩)::F,L⟩) (λr h=>r= .ret (.d (.bool (Bq x m t)))/\h=⟨(bl,⟨5,1,[Dw x]⟩)::(bg,⟨2,1,[DK m]⟩)::F,L⟩):=by
 refine⟨call70,Ao.enterS func70 rfl ntmps70 rfl λhb=>?_⟩
 simp only[go_sem,results70]
 refine Aa.nd λhnd=>?_
 have hq:=UR hnd
 clear hnd
 have zf1:=AY hq
 have zf2:=AZ hq
 refine Zx ?_
 simp only[go_sem,if_true]
 intro b3 fb3
 try simp only[Ab] at fb3
 refine Z1 16 (ih) ?_
 refine Aa.ret ?_
 apply Ah [b3] [] [bl,bg] [] ZH
 · exact ⟨rfl,ZR⟩
 · simp [Aj,Ay]
attribute [local go_sem] Dw AJ DK List.map_cons List.map_nil Bi Array.isEmpty_empty in
theorem AcJ (T:Ap) (t:AM) (x:Lr) (m:Ms) (bf bl bg:Nat) (F:Af) (L:List Nat) (ih:PC prog T 35 [.agg (AJ t),.agg (Dw x),.agg (DK m)] (.d (.bool (Bq x m t)))):AC prog T 72 [.agg (AJ t),.ptr bf 1 0 0] (⟨(bf,⟨1,1,[[.fn 70 [.ptr bl 5 0 0,.ptr bg 2 0 0]]]⟩)::(bl,⟨5,1,[Dw x]⟩)::(bg,⟨2,1,[DK m]⟩)::F,L⟩) (λr h=>r= .ret (.d (.bool (!Bq x m t)))/\h=⟨(bf,⟨1,1,[[.fn 70 [.ptr bl 5 0 0,.ptr bg 2 0 0]]]⟩)::(bl,⟨5,1,[Dw x]⟩)::(bg,⟨2,1,[DK m]⟩)::F,L⟩):=by
 refine⟨call72,Ao.enterS func72 rfl ntmps72 rfl λhb=>?_⟩
 simp only[go_sem,results72]
 refine Aa.nd λhnd=>?_
 obtain⟨hq,hq2,hq3⟩:=Ai2 hnd
 clear hnd
 have zf1:=AY hq
 have zf2:=AZ hq
 have zf3:=AY hq2
 have zf4:=AZ hq2
 have zf5:=AY hq3
 have zf6:=AZ hq3
 refine Zx ?_
 simp only[go_sem,if_true]
 intro b2 fb2
 try simp only[Ab] at fb2
 refine Zx ?_
 simp only[go_sem, *]
 have hC:=Qd T t x m bl bg ((b2,⟨8,1,[AJ t]⟩)::(bf,⟨1,1,[[.fn 70 [.ptr bl 5 0 0,.ptr bg 2 0 0]]]⟩)::F) L ih
 refine ZA [bl,bg] [] (hC) ?_
 rintro _ _ ⟨rfl,rfl⟩
 simp only[go_sem,if_true]
 refine Zm 8 ?_
 refine Aa.ret ?_
 apply Ah [b2] [] [bf,bl,bg] [] ZH
 · exact ⟨rfl,ZR⟩
 · simp [Aj,Ay]
attribute [local go_sem] Dw AJ DK List.map_cons List.map_nil Bi Array.isEmpty_empty in
theorem AfO (T:Ap) (hL:Bw T) (t:AM) (x:Lr) (m:Ms) (ok:t.Ok) (jt:JT t) (jo:VT x m) (hs:x.s.length<=9223372036854775807) (ih:∀y∈t.kids,PC prog T 35 [.agg (AJ y),.agg (Dw x),.agg (DK m)] (.d (.bool (Bq x m y)))):PC prog T 35 [.agg (AJ t),.agg (Dw x),.agg (DK m)] (.d (.bool (Bq x m t))):=by
 refine⟨call35,Ar.enterS func35 rfl ntmps35 rfl λhb=>?_⟩
 obtain⟨s1,s2,s3,s4⟩:=ok.inv
 obtain⟨j1,j2,j3,j4,j5,j6,j8,j7⟩:=jt.inv
 have hkl:t.kids.length<=10000000000000:=by omega
 simp only[go_sem,results35]
 refine Zx ?_
 simp only[go_sem,if_true]
 intro b3
 first|intro fb3|have fb3:=True.intro
 try simp only[Ab] at fb3
 intro b4
 first|intro fb4|have fb4:=True.intro
 try simp only[Ab] at fb4
 intro b5
 first|intro fb5|have fb5:=True.intro
 try simp only[Ab] at fb5
 refine Zm 56 ?_
 refine Zx ?_
 simp only[go_sem,if_true]
 intro b7 fb7
 try simp only[Ab] at fb7
 refine Zs (Zp 79 ?_)
 refine Aa.block (Zp 63 ?_)
 refine Zc (λhc0=>?_) λhc0=>?_
 ·have h0:=j5 hc0
  have e:Bq x m t=!Bq x m (t.kids[0]):=by rw[Df,if_pos hc0,Vw h0]
  have zf1:=λd0_=>BJ t 0 d0_ h0
  refine Zd false [0,1,2,3,4,5,6,7] ?_
  simp only[go_sem,if_true,fb4,fb5,fb7,zf1]
  (repeat(with_reducible refine And.intro ZS ?_))
  have hC:=Qd T (t.kids[0]) x m b4 b5 [(b7,⟨1,1,[[.fn 70 [.ptr b4 5 0 0,.ptr b5 2 0 0]]]⟩),(b3,⟨8,1,[AJ t]⟩)] [] (ih _ (List.getElem_mem h0))
  refine AI [b4,b5] [] rfl rfl rfl rfl (by(try simp only[go_sem,if_true,fb4,fb5,fb7])<;>rfl) rfl (hC) ?_
  rintro _ _ ⟨rfl,rfl⟩
  simp only[go_sem,if_true]
  refine Zm 8 ?_
  refine Aa.ret ?_
  simp only[go_sem,if_true]
  rw[e];try simp[Aj,Ay]
 refine Zp 95 ?_
 refine Zc (λhc1=>?_) λhc1=>?_
 ·have e:Bq x m t=t.kids.any (Bq x m):=by rw[Df,if_neg hc0,if_pos hc1,KX]
  refine Zx ?_
  simp only[go_sem,if_true,fb4,fb5,fb7]
  have hC:=AcV T t.kids _ _ (Bq x m) _ _ hkl λy hy=>Qd T y x m b4 b5 [(b7,⟨1,1,[[.fn 70 [.ptr b4 5 0 0,.ptr b5 2 0 0]]]⟩),(b3,⟨8,1,[AJ t]⟩)] [] (ih y hy)
  rw[<-Gn] at hC
  refine AI [b4,b5] [] rfl rfl rfl rfl (by(try simp only[go_sem,if_true,fb4,fb5,fb7])<;>rfl) rfl (hC) ?_
  rintro _ _ ⟨rfl,rfl⟩
  simp only[go_sem,if_true]
  refine Zm 8 ?_
  refine Aa.ret ?_
  simp only[go_sem,if_true]
  rw[e];try simp[Aj,Ay]
 refine Zp 79 ?_
 refine Zc (λhc2=>?_) λhc2=>?_
 ·have e:Bq x m t=!(t.kids.any λy=>!Bq x m y):=by rw[Df,if_neg hc0,if_neg hc1,if_pos hc2,KW]
  refine Zx ?_
  simp only[go_sem,if_true,fb4,fb5,fb7]
  have hC:=AcV T t.kids _ _ (λy=>!Bq x m y) _ _ hkl λy hy=>AcJ T y x m b7 b4 b5 [(b3,⟨8,1,[AJ t]⟩)] [] (ih y hy)
  rw[<-Gn] at hC
  refine AI [b7,b4,b5] [] rfl rfl rfl rfl (by(try simp only[go_sem,if_true,fb4,fb5,fb7])<;>rfl) rfl (hC) ?_
  rintro _ _ ⟨rfl,rfl⟩
  simp only[go_sem,if_true]
  refine Zm 8 ?_
  refine Aa.ret ?_
  simp only[go_sem,if_true]
  rw[e];try simp[Aj,Ay]
 refine Z5 ?_
 refine Z1 8 (Ag6 T hL t x m ok jt jo hs) ?_
 refine Aa.ret ?_
 simp only[go_sem,if_true]
 rw[show Bq x m t=FK t x m by rw[Df,if_neg hc0,if_neg hc1,if_neg hc2]];try simp[Aj,Ay]
theorem Acl (T:Ap) (hL:Bw T) (x:Lr) (m:Ms) (jo:VT x m) (hs:x.s.length<=9223372036854775807) (t:AM):t.Ok->JT t->PC prog T 35 [.agg (AJ t),.agg (Dw x),.agg (DK m)] (.d (.bool (Bq x m t))):=by
 induction t using AM.ind with
 |h t ih=>exact λok jt=>AfO T hL t x m ok jt jo hs λy hy=>ih y hy (ok.inv.2.2.2 y hy) (jt.inv.2.2.2.2.2.2.2 y hy)
end
section
open Go.RowKit
open Go.RowKit
theorem Tl (t:ByteArray):(mk (Bb t)).data.toList=t.data.toList.map GW:=by simp[mk,Bb,bs]
theorem UH (T:Ap) (s:Tx) (h:s.length<=2000):PC prog T 140 [.d (.str s)] (.d (.str (s.map GW))):=Hg call140 λF w vs hF hT R=>by
 obtain⟨v,rfl,hv⟩:=AcF R
 cases hv with
 |d hv=>
  obtain⟨t,rfl,e1,_⟩:=hv.str_inv
  subst e1
  have hsz:t.size<=2000:=by rw[<-Bm];exact h
  refine(Er t w ZO).mono ?_
  rintro e w' ⟨rfl,hb⟩
  refine⟨_,rfl,hb,?_⟩
  rw[<-Tl]
  refine .d (.str _ ?_)
  rw[Ij,CN]
  unfold maxLen;omega
end
section
theorem Ahq {s p:Tx} (hs:s.length<=2000) (hp:p.length<=100):GG 1 s p=decide (s.map GW=p.map GW):=by
 have h1:(⟨s.toArray⟩:ByteArray).size<=2000:=by rw[<-Bm];exact hs
 have h2:(⟨p.toArray⟩:ByteArray).size<=100:=by rw[<-Bm];exact hp
 rw[GG,KJ (KK ZD ZD h1 h2)]
 exact Ge (by rw[Adj,decide_eq_true_iff];simp[Bb,bs])
theorem Zz {s:Tx} (h:0<(Ba s).1.length):(Ba s).2=0:=by
 unfold Ba at h⊢
 split
 ·rename_i h1;rw[if_pos h1] at h;simp at h
 ·rename_i h1
  rw[if_neg h1] at h
  split
  ·rename_i h2;rw[h2] at h;simp at h
  ·rename_i l h2
   rw[h2] at h
   split
   ·rename_i h3;simp only[if_pos h3] at h;simp at h
   ·rfl
theorem Aez {vs:List Tx} {k j:Nat} (hk:k<vs.length) (hj:j<(Ba vs[k]).1.length) (p:Int):((Gb (vs.take k)++(Ba vs[k]).1.take (j+1)).map λa=>Aq (C6 p a))=((Gb (vs.take k)++(Ba vs[k]).1.take j).map λa=>Aq (C6 p a))++[Aq (C6 p (Ba vs[k]).1[j])]:=by
 rw[List.take_succ_eq_append_getElem hj,<-List.append_assoc,List.map_append];rfl
def FN {α:Type} (g:α->Bool) (l:List α):Nat:=(l.filter g).length
theorem Yt {α:Type} {g:α->Bool} {l:List α} {k:Nat} (h:k<l.length) (hg:g l[k]=true):FN g (l.take (k+1))=FN g (l.take k)+1:=by
 rw[List.take_succ_eq_append_getElem h,FN,List.filter_append];simp[FN,hg]
theorem Ys {α:Type} {g:α->Bool} {l:List α} {k:Nat} (h:k<l.length) (hg:g l[k]=false):FN g (l.take (k+1))=FN g (l.take k):=by
 rw[List.take_succ_eq_append_getElem h,FN,List.filter_append];simp[FN,hg]
theorem Uu {α:Type} (g:α->Bool) (l:List α):FN g l<=l.length:=List.length_filter_le _ _
theorem Rb {α:Type} (g:α->Bool) (l:List α):decide ((FN g l:Int)=(l.length:Int))=l.all g:=by
 rw[Bool.eq_iff_iff,decide_eq_true_iff,List.all_eq_true,Int.ofNat_inj,FN,List.length_filter_eq_length_iff]
theorem Yr {α:Type} (g:α->Bool) (l:List α):decide (0<(FN g l:Int))=l.any g:=by
 rw[Bool.eq_iff_iff,decide_eq_true_iff,List.any_eq_true]
 constructor
 ·intro h
  have:0<(l.filter g).length:=by simpa[FN] using h
  obtain⟨a,ha⟩:=List.exists_mem_of_length_pos this
  exact⟨a,(List.mem_filter.1 ha).1,(List.mem_filter.1 ha).2⟩
 ·rintro⟨a,ha,hg⟩
  have:0<(l.filter g).length:=List.length_pos_of_mem (List.mem_filter.2 ⟨ha,hg⟩)
  simpa[FN] using this
attribute [local go_sem] Bc Xp in
theorem XJ (T:Ap) (hL:Bw T) (s:Tx):PC prog T 141 [.d (.str s)] (Gd (Ba s)):=by
 refine⟨call141,Ar.enterS func141 rfl ntmps141 rfl λhb=>?_⟩
 simp only[go_sem,results141]
 refine Zp 1 ?_
 refine Zs (Zp 9 ?_)
 refine Zc (λhc0=>?_) λhc0=>?_
 ·refine Zp 6 (Aa.ret ?_)
  simp only[go_sem]
  rw[Ba,if_pos ZO];simp[Gd,Ds,Aj,Bj,Ay]
 refine Zk ?_
 rcases hp:B6 s with _|l
 ·refine Z1 6 (Hx T hL s ZO hp) ?_
  refine Zs (Zp 9 ?_)
  refine Zc (λhc1=>?_) λhc1=>?_
  ·refine Zp 3 (Aa.ret ?_)
   simp only[go_sem]
   rw[JM ZO hp];simp[Gd,Ds,Aj,Bj,Ay]
  exact absurd hc1 (by first|(simp;done)|omega|(simp[*];done))
 refine Z1 6 (Hy T hL s ZO l hp) ?_
 refine Zs (Zp 9 ?_)
 refine Zc (λhc1=>?_) λhc1=>?_
 ·exact absurd hc1 (by first|(simp;done)|omega|(simp[*];done))
 refine Zk ?_
 refine Zs (Zp 17 ?_)
 refine Zc (λhc2=>?_) λhc2=>?_
 ·refine Zp 3 (Aa.ret ?_)
  simp only[go_sem]
  rw[IS ZO hp ZO];simp[Gd,Ds,Aj,Bj,Ay]
 refine Zk ?_
 refine Zp 3 (Aa.ret ?_)
 simp only[go_sem]
 rw[MD ZO hp ZO];simp[Gd,Ds,Aj,Bj,Ay]
theorem JZ (T:Ap) (p:Int) (l d:Tx) (hl:l.length+d.length<=1000):PC prog T 83 [.d (.int .i64 p),.agg [.d (.str l),.d (.str d)]] (.d (.str (C6 p (l,d)))):=by
 refine⟨call83,Ar.enterS func83 rfl ntmps83 rfl λhb=>?_⟩
 simp only[go_sem,results83]
 refine Zx (Zy ?_)
 intro b3
 first|intro fb3|have fb3:=True.intro
 try simp only[Ab] at fb3
 refine Zs (Zp 37 ?_)
 refine Zc (λhc0=>?_) λhc0=>?_
 ·refine Zp 4 (Aa.ret ?_)
  simp only[go_sem]
  first|(simp[C6, *];done)|(simp_all [Aj,Ay,C6,adT])
 refine Zk ?_
 refine Zs (Zp 18 ?_)
 refine Zc (λhc1=>?_) λhc1=>?_
 ·refine Zp 2 (Aa.ret ?_)
  simp only[go_sem]
  first|(simp[C6, *];done)|(simp_all [Aj,Ay,C6,adT])
 refine Zk ?_
 refine Zp 2 (Aa.ret ?_)
 simp only[go_sem]
 first|(simp[C6,adT, *];done)|(simp_all [Aj,Ay,C6,adT])
attribute [local go_sem] DK Bi EW List.map_cons List.map_nil in
theorem Vk (T:Ap) (m:Ms) (nm:Tx) (hn:nm.length<=100) (hf:∀f∈m.f,f.1.length<=2000/\f.2.length<=2000) (hl:m.f.length<=30):PC prog T 76 [.agg (DK m),.d (.str nm)] (.d (.slc 1 ((DD m.f nm).map Aq))):=by
 refine⟨call76,Ar.enterS func76 rfl ntmps76 rfl λhb=>?_⟩
 simp only[go_sem,results76]
 refine Zx (Zy ?_)
 intro b2
 first|intro fb2|have fb2:=True.intro
 try simp only[Ab] at fb2
 refine Zp 22 ?_
 refine Zs (Zp 15 ?_)
 refine Aa.block (Zy ?_)
 refine Bs 5 1 rfl rfl ZD λw0 fw0=>?_
 try simp only[Ae] at fw0
 refine Zy ?_
 refine Zl 3 12 (λn lc hc=> ∃(k w:Nat),n=m.f.length-k/\Av lc [(5,.own w 1 ((DD (m.f.take k) nm).map Aq)),(6,.d (.int .i64 (k:Nat)))]/\Av hc (⟨[(b2,⟨2,1,[DK m]⟩)],[w]⟩)/\(k<=m.f.length)) ⟨_,0,w0,rfl,ZE,ZE,ZI⟩ ?_
 rintro _ _ _ ⟨k,w,rfl,⟨rfl⟩,⟨rfl⟩,h1⟩
 refine Zy ?_
 refine Zs (Zp 271 ?_)
 refine Zc (λhc0=>?_) λhc0=>?_
 ·have hlt:k<m.f.length:=by omega
  have hki:(k:Int)<(m.f.length:Int):=by omega
  have hvl:=HY (m.f.take k) nm
  rw[List.length_take] at hvl
  have hnm:(m.f.getD k ([],[])).1.length<=2000:=by have:=hf _ (List.getElem_mem hlt);simpa[List.getD,hlt] using this.1
  have zf1:=λdd=>Rn (d:=dd) hlt
  refine Zk ?_
  refine Zs (Aa.block (Zx ?_))
  simp only[go_sem,zf1,hki]
  refine ZP (UH T (m.f.getD k ([],[])).1 hnm) ?_
  refine Zy ?_
  refine ZP (UH T nm ZO) ?_
  refine Zy ?_
  refine Zm 16399 ?_
  refine Zc (λhc1=>?_) λhc1=>?_
  ·have hm:GG 1 (m.f.getD k ([],[])).1 nm=true:=by rw[Ahq hnm hn];exact decide_eq_true hc1
   refine Zq λK_ k_=>?_
   simp only[go_sem,zf1,hki]
   refine ZW λt1 ft1=>?_
   try simp only[Ae] at ft1
   refine Zy ?_
   refine k_ _ _ (Ai (Ac ?_))
   refine Zm 15 ?_
   refine Z6 ?_
   refine Ze 3 12 [] [] [b2] [t1] (.e ⟨_,ZM,k+1,t1,rfl,?_,ZE,ZN⟩)
   · (try simp only[go_sem])<;>first|exact⟨rfl⟩|(constructor;rw[Ss hlt hm,List.map_append];rfl)
  have hm:GG 1 (m.f.getD k ([],[])).1 nm=false:=by rw[Ahq hnm hn];exact decide_eq_false hc1
  refine Z5 ?_
  refine Z6 ?_
  refine Ze 3 12 [] [] [b2] [w] (.e ⟨_,ZM,k+1,w,rfl,?_,ZE,ZN⟩)
  · (try simp only[go_sem])<;>first|exact⟨rfl⟩|(constructor;rw[V0 hlt hm])
 have htk:m.f.take k=m.f:=List.take_of_length_le ZO
 rw[htk]
 refine Z4 ?_
 refine Zm 4 ?_
 refine Zp 1 (Aa.ret ?_)
 simp only[go_sem]
 try simp[Aj,Ay]
attribute [local go_sem] Bi List.length_map Aq in
theorem Aak (T:Ap) (mm:Int) (vs ks:List Tx) (hm:1<=mm/\mm<=3) (hv:∀v∈vs,v.length<=2000) (hk:∀y∈ks,y.length<=100) (hvl:vs.length<=1000000) (hkl:ks.length<=10000000000000):PC prog T 78 [.d (.int .i64 mm),.d (.slc 1 (vs.map Aq)),.d (.slc 1 (ks.map Aq))] (.d (.bool (Ix mm vs ks))):=by
 refine⟨call78,Ar.enterS func78 rfl ntmps78 rfl λhb=>?_⟩
 simp only[go_sem,results78]
 refine Zp 7 ?_
 refine Zs (Zp 15 ?_)
 refine Aa.block (Zy ?_)
 refine Zl 7 8 (λn lc hc=> ∃(k:Nat),n=vs.length-k/\Av lc [(7,.d (.int .i64 (k:Nat)))]/\Av hc (⟨[],[]⟩)/\(k<=vs.length)/\((vs.take k).any (λv=>ks.any λy=>GG mm v y)=false)) ?_ ?_
 · refine ⟨_,0,rfl,ZE,ZE,?_,?_⟩
   all_goals(first|omega|rfl|simp)
 rintro _ _ _ ⟨k,rfl,⟨rfl⟩,⟨rfl⟩,h1,h2⟩
 refine Zy ?_
 refine Zs (Zp 143 ?_)
 refine Zc (λhc0=>?_) λhc0=>?_
 ·have hlt:k<vs.length:=by omega
  have hki:(k:Int)<(vs.length:Int):=by omega
  have zf1:=λd0_=>Al Aq vs k d0_ hlt
  refine Zk ?_
  refine Zs (Aa.block (Zp 31 ?_))
  refine Aa.block (Zy ?_)
  refine Zl 15 16 (λn lc hc=> ∃(j:Nat),n=ks.length-j/\Av lc [(8,.d (.int .i64 (j:Nat)))]/\Av hc (⟨[],[]⟩)/\(j<=ks.length)/\((ks.take j).any (λy=>GG mm vs[k] y)=false)) ?_ ?_
  · refine ⟨_,0,rfl,ZE,ZE,?_,?_⟩
    all_goals(first|omega|rfl|simp)
  rintro _ _ _ ⟨j,rfl,⟨rfl⟩,⟨rfl⟩,g1,g2⟩
  refine Zy ?_
  refine Zs (Zp 287 ?_)
  refine Zc (λhc1=>?_) λhc1=>?_
  ·have hlj:j<ks.length:=by omega
   have hji:(j:Int)<(ks.length:Int):=by omega
   have zf2:=λd0_=>Al Aq ks j d0_ hlj
   refine Zk ?_
   refine Zs (Aa.block (Zd true [0,1,2,3,4,5,6,7,8,9] ?_))
   simp only[go_sem, *]
   refine ZP (WS T mm vs[k] ks[j] (hv _ (List.getElem_mem hlt)) (hk _ (List.getElem_mem hlj)) hm) ?_
   refine Zy ?_
   refine Zm 32799 ?_
   refine Zc (λhc2=>?_) λhc2=>?_
   ·refine Zp 8 (Aa.ret ?_)
    simp only[go_sem]
    rw[Ix,List.any_eq_true.2 ⟨_,List.getElem_mem hlt,List.any_eq_true.2 ⟨_,List.getElem_mem hlj,hc2⟩⟩];try simp[Aj,Ay]
   refine Z5 ?_
   refine Z6 ?_
   refine Zf 15 16 (.e ⟨_,ZM,j+1,rfl,ZE,ZE,?_,?_⟩)
   · omega
   · rw [List.take_succ_eq_append_getElem hlj,List.any_append,g2];simpa using hc2
  have hnn:(ks.any λy=>GG mm vs[k] y)=false:=by rwa [List.take_of_length_le ZO] at g2
  refine Aa.exit (Ak (Ak (Bh (Ai (Ac ?_)))))
  refine Z6 ?_
  refine Zf 7 8 (.e ⟨_,ZM,k+1,rfl,ZE,ZE,?_,?_⟩)
  · omega
  · rw [List.take_succ_eq_append_getElem hlt,List.any_append,h2,List.any_cons,hnn];rfl
 have hz:(vs.any λv=>ks.any λy=>GG mm v y)=false:=by rwa [List.take_of_length_le ZO] at h2
 refine Z4 ?_
 refine Zm 0 ?_
 refine Zp 1 (Aa.ret ?_)
 simp only[go_sem]
 rw[Ix,hz];try simp[Aj,Ay]
attribute [local go_sem] Dw AJ DK List.map_cons List.map_nil Bi List.length_map Gd Hi Xp Aq in
theorem Z9 (T:Ap) (hL:Bw T) (t:AM) (x:Lr) (m:Ms) (nm:Tx) (jo:VT x m) (hn:nm.length<=100):PC prog T 77 [.agg (AJ t),.d (.str nm),.agg (Dw x),.agg (DK m)] (.d (.slc 1 ((Cm t.kind t.part x m nm).map Aq))):=by
 refine⟨call77,Ar.enterS func77 rfl ntmps77 rfl λhb=>?_⟩
 obtain⟨_,_,hz1⟩:=G5 jo.h1
 obtain⟨_,_,hz2⟩:=G5 jo.h2
 simp only[go_sem,results77]
 refine Zx (Zy ?_)
 intro b4
 first|intro fb4|have fb4:=True.intro
 try simp only[Ab] at fb4
 intro b6
 first|intro fb6|have fb6:=True.intro
 try simp only[Ab] at fb6
 intro b7
 first|intro fb7|have fb7:=True.intro
 try simp only[Ab] at fb7
 refine Zm 114 ?_
 refine Zs (Zp 79 ?_)
 refine Zc (λhc0=>?_) λhc0=>?_
 ·refine Zx ?_
  simp only[go_sem,fb6,fb7]
  intro b9 fb9
  try simp only[Ab] at fb9
  refine Zm 23 ?_
  refine Zs (Zp 46 ?_)
  refine Zc (λhc1=>?_) λhc1=>?_
  ·have hn2:nm=toT:=hc1
   have e:Cm t.kind t.part x m nm=[C6 t.part (x.c1,x.c2)]:=by rw[Cm,if_pos hc0,if_pos hn2]
   refine Z6 ?_
   refine Zm 5 ?_
   refine Aa.cut 4 λK_ hK_=>?_
   simp only[List.take_succ_cons,List.take_zero,List.drop_succ_cons,List.drop_zero]
   simp only[go_sem, *]
   refine ZP (JZ T t.part x.c1 x.c2 ZO) ?_
   refine Zy ?_
   refine Kq (he:=by first|rfl|kernel_rfl) rfl rfl (show BL prog 31=some (9,1,16) by simp only[go_sem]) ZH rfl ZD λt1 ft1=>?_
   try simp only[Ae] at ft1
   refine Zy ?_
   refine hK_ _ _ ?_
   refine Zm 2 ?_
   refine Aa.ret ?_
   simp only[go_sem]
   rw[e];try simp[Aq]
  have hn2:¬nm=toT:=hc1
  have e:Cm t.kind t.part x m nm=[C6 t.part (x.a1,x.a2)]:=by rw[Cm,if_pos hc0,if_neg hn2]
  refine Zk ?_
  refine Aa.cut 4 λK_ hK_=>?_
  simp only[List.take_succ_cons,List.take_zero,List.drop_succ_cons,List.drop_zero]
  simp only[go_sem, *]
  refine ZP (JZ T t.part x.a1 x.a2 ZO) ?_
  refine Zy ?_
  refine Kq (he:=by first|rfl|kernel_rfl) rfl rfl (show BL prog 31=some (9,1,16) by simp only[go_sem]) ZH rfl ZD λt2 ft2=>?_
  try simp only[Ae] at ft2
  refine Zy ?_
  refine hK_ _ _ ?_
  refine Zm 4 ?_
  refine Aa.ret ?_
  simp only[go_sem]
  rw[e];try simp[Aq]
 refine Zk ?_
 refine Z1 18 (Vk T m nm hn jo.hf jo.hl) ?_
 refine Zs (Zp 19 ?_)
 refine Zc (λhc2=>?_) λhc2=>?_
 ·have e:Cm t.kind t.part x m nm=DD m.f nm:=by rw[Cm,if_neg hc0,if_neg hc2]
  refine Zp 2 (Aa.ret ?_)
  simp only[go_sem]
  rw[e];try simp[Aj,Ay]
 have h7:t.kind=7:=by first|exact hc2|omega
 have e:Cm t.kind t.part x m nm=(Gb (DD m.f nm)).map (C6 t.part):=by rw[Cm,if_neg hc0,if_pos h7]
 have hvl:=HY m.f nm
 have hjl:=jo.hl
 generalize hvs:DD m.f nm=vs at e hvl
 refine Zk ?_
 refine Zp 7 ?_
 refine Zs (Zp 15 ?_)
 refine Aa.block (Zy ?_)
 refine Bs 11 1 rfl rfl ZD λw0 fw0=>?_
 try simp only[Ae] at fw0
 refine Zy ?_
 refine Zl 3 12 (λn lc hc=> ∃(k w:Nat),n=vs.length-k/\Av lc [(11,.own w 1 ((Gb (vs.take k)).map λa=>Aq (C6 t.part a))),(12,.d (.int .i64 (k:Nat)))]/\Av hc (⟨[(b7,⟨2,1,[DK m]⟩),(b6,⟨5,1,[Dw x]⟩),(b4,⟨8,1,[AJ t]⟩)],[w]⟩)/\(k<=vs.length)) ⟨_,0,w0,rfl,ZE,ZE,ZI⟩ ?_
 rintro _ _ _ ⟨k,w,rfl,⟨rfl⟩,⟨rfl⟩,h1⟩
 refine Zy ?_
 refine Zs (Zp 143 ?_)
 refine Zc (λhc3=>?_) λhc3=>?_
 ·have hlt:k<vs.length:=by omega
  have hki:(k:Int)<(vs.length:Int):=by omega
  have hal:=Gc (vs.take k)
  rw[List.length_take] at hal
  have hrl:=KE vs[k]
  have zf1:=λd0_=>Al Aq vs k d0_ hlt
  refine Zk ?_
  refine Zs (Aa.block (Z1 63 (XJ T hL vs[k]) ?_))
  refine Zp 127 ?_
  refine Aa.block (Zy ?_)
  refine Zl 59 68 (λn lc hc=> ∃(j w2:Nat),n=(Ba vs[k]).1.length-j/\Av lc [(11,.own w2 1 ((Gb (vs.take k)++(Ba vs[k]).1.take j).map λa=>Aq (C6 t.part a))),(15,.d (.int .i64 (j:Nat)))]/\Av hc (⟨[(b7,⟨2,1,[DK m]⟩),(b6,⟨5,1,[Dw x]⟩),(b4,⟨8,1,[AJ t]⟩)],[w2]⟩)/\(j<=(Ba vs[k]).1.length)) ?_ ?_
  · refine ⟨_,0,w,rfl,?_,ZE,ZI⟩
    · (try simp only[go_sem])<;>first|exact⟨rfl⟩|(constructor;simp)
  rintro _ _ _ ⟨j,w2,rfl,⟨rfl⟩,⟨rfl⟩,g1⟩
  refine Zy ?_
  refine Zs (Zp 16511 ?_)
  refine Zc (λhc4=>?_) λhc4=>?_
  ·have hlj:j<(Ba vs[k]).1.length:=by omega
   have hji:(j:Int)<((Ba vs[k]).1.length:Int):=by omega
   have hadr:=MC vs[k] _ (List.getElem_mem hlj)
   obtain⟨_,_,hz3⟩:=G5 hadr
   have zf2:=λd0_=>QB (Ba vs[k]).1 j d0_ hlj
   refine Zk ?_
   refine Zs (Aa.block (Zt true [0,1,2,3,4,5,6,7,8,9,10] λK_ k_=>?_))
   simp only[go_sem, *]
   refine ZP (JZ T t.part (Ba vs[k]).1[j].1 (Ba vs[k]).1[j].2 ZO) ?_
   refine Zy ?_
   refine ZW λt3 ft3=>?_
   try simp only[Ae] at ft3
   refine Zy ?_
   refine k_ _ _ (Ai (Ac ?_))
   refine Zm 127 ?_
   refine Z6 ?_
   refine Ze 59 68 [] [] [b7,b6,b4] [t3] (.e ⟨_,ZM,j+1,t3,rfl,?_,ZE,ZN⟩)
   · (try simp only[go_sem])<;>first|exact⟨rfl⟩|(constructor;have h9:=Aez hlt hlj t.part;simp only[Aq] at h9;rw[h9])
  have hje:(Ba vs[k]).1.length<=j:=by
    rcases Nat.lt_or_ge j (Ba vs[k]).1.length with h9|h9
    · have:=Zz (s:=vs[k]) ZO
      omega
    · exact h9
  have hjt:(Ba vs[k]).1.take j=(Ba vs[k]).1:=List.take_of_length_le hje
  refine Aa.exit (Ak (Ak (Bh (Ai (Ac ?_)))))
  refine Zm 15 ?_
  refine Z6 ?_
  refine Ze 3 12 [] [] [b7,b6,b4] [w2] (.e ⟨_,ZM,k+1,w2,rfl,?_,ZE,ZN⟩)
  · (try simp only[go_sem])<;>first|exact⟨rfl⟩|(constructor;first|(rw[SK hlt];done)|(rw[SK hlt,hjt];done))
 have htk:vs.take k=vs:=List.take_of_length_le ZO
 rw[htk]
 refine Z4 ?_
 refine Zm 4 ?_
 refine Zp 1 (Aa.ret ?_)
 simp only[go_sem]
 rw[e];simp[Aq]
end
section
theorem AfN {x:Lr} {m:Ms} {t:AM} (h:t.kind=4\/t.kind=5) (h0:0<t.kids.length):(decide ((FN (Bq x m) t.kids:Int)=(t.kids.length:Int))||(decide (t.kind=5)&&decide (0<(FN (Bq x m) t.kids:Int))))=Bq x m t:=by
 rw[Rb,Yr,Df,if_neg ZO]
 rcases h with h|h
 ·rw[if_neg ZO,if_pos h,KW,decide_eq_false ZO,Bool.false_and,Bool.or_false,List.not_any_eq_all_not]
  simp
 ·rw[if_pos h,KX,decide_eq_true h,Bool.true_and]
  cases ha:t.kids.all (Bq x m) with
  |false=>rw[Bool.false_or]
  |true=>
   rw[Bool.true_or,List.any_eq_true.2 ⟨_,List.getElem_mem h0,List.all_eq_true.1 ha _ (List.getElem_mem h0)⟩]
theorem Aio {x:Lr} {m:Ms} {t:AM} (h:t.kind=9):decide ((FN (λn=>decide (0<(DD m.f n).length)) t.names:Int)=(t.names.length:Int))=Bq x m t:=by
 rw[Rb,Df,if_neg ZO,if_neg ZO,if_neg ZO,FK,if_neg ZO,if_neg ZO,if_neg ZO,if_pos h,List.not_any_eq_all_not]
 congr 1
 funext n
 rw[<-decide_not]
 congr 1
 exact propext ZO
theorem Ag5 {x:Lr} {m:Ms} {t:AM} (h:t.kind=6\/t.kind=7\/t.kind=8):Bq x m t=t.names.any λn=>Ix t.mat (Cm t.kind t.part x m n) t.keys:=by
 rw[Df,if_neg ZO,if_neg ZO,if_neg ZO,FK,if_neg ZO,if_neg ZO]
 by_cases h8:t.kind=8
 ·rw[if_pos h8,h8]
 ·rw[if_neg h8,if_neg ZO,if_pos ZO]
theorem Ag4 {x:Lr} {m:Ms} {t:AM} (h1:¬t.kind=1) (h3:¬t.kind=3) (h10:¬t.kind=10) (h45:¬(t.kind=4\/t.kind=5)) (h9:¬t.kind=9) (h68:¬(t.kind=6\/t.kind=7\/t.kind=8)):Bq x m t=false:=by
 rw[Df,if_neg ZO,if_neg ZO,if_neg ZO,FK,if_neg ZO,if_neg ZO,if_neg ZO,if_neg ZO,if_neg ZO]
theorem Z8 {k p:Int} {x:Lr} {m:Ms} {n:Tx} (jo:VT x m):(Cm k p x m n).length<=1000000/\∀v∈Cm k p x m n,v.length<=2000:=by
 have hl:=HY m.f n
 have h30:=jo.hl
 have hal:=Gc (DD m.f n)
 unfold Cm
 split
 ·refine⟨by simp,λv hv=>?_⟩
  rw[List.mem_singleton] at hv
  subst hv
  split
  ·have:=JX (p:=p) (a:=(x.c1,x.c2)) jo.h2;omega
  ·have:=JX (p:=p) (a:=(x.a1,x.a2)) jo.h1;omega
 split
 ·refine⟨by rw[List.length_map];omega,λv hv=>?_⟩
  obtain⟨a,ha,rfl⟩:=List.mem_map.1 hv
  have:=JX (p:=p) (Uh a ha)
  omega
 ·exact⟨by omega,λv hv=>AaQ jo.hf hv⟩
attribute [local go_sem] Dw AJ DK List.map_cons List.map_nil Bi List.length_map Aq in
theorem AfS (T:Ap) (hL:Bw T) (t:AM) (x:Lr) (m:Ms) (ok:t.Ok) (jt:JT t) (jo:VT x m) (hs:x.s.length<=9223372036854775807) (ih:∀y∈t.kids,PC prog T 37 [.agg (AJ y),.agg (Dw x),.agg (DK m)] (.d (.bool (Bq x m y)))):PC prog T 37 [.agg (AJ t),.agg (Dw x),.agg (DK m)] (.d (.bool (Bq x m t))):=by
 refine⟨call37,Ar.enterS func37 rfl ntmps37 rfl λhb=>?_⟩
 obtain⟨s1,s2,s3,s4⟩:=ok.inv
 obtain⟨j1,j2,j3,j4,j5,j6,j8,j7⟩:=jt.inv
 have hkl:t.keys.length<=10000000000000:=by omega
 simp only[go_sem,results37]
 refine Zx (Zy ?_)
 intro b3
 first|intro fb3|have fb3:=True.intro
 try simp only[Ab] at fb3
 intro b4
 first|intro fb4|have fb4:=True.intro
 try simp only[Ab] at fb4
 intro b5
 first|intro fb5|have fb5:=True.intro
 try simp only[Ab] at fb5
 refine Zm 56 ?_
 refine Zs (Zp 23 ?_)
 refine Aa.block (Zp 31 ?_)
 refine Zc (λhc0=>?_) λhc0=>?_
 ·refine Zp 8 (Aa.ret ?_)
  simp only[go_sem]
  rw[show Bq x m t=true by rw[Df,if_neg ZO,if_neg ZO,if_neg ZO,FK,if_pos hc0]];try simp[Aj,Ay]
 refine Zp 47 ?_
 refine Zc (λhc1=>?_) λhc1=>?_
 ·have h0:=j5 hc1
  have e:Bq x m t=!Bq x m (t.kids[0]):=by rw[Df,if_pos hc1,Vw h0]
  have zf1:=λd0_=>BJ t 0 d0_ h0
  refine Zd true [0,1,2,3,4,5,6,7,8] ?_
  simp only[go_sem,fb4,fb5,zf1]
  (repeat(with_reducible refine And.intro ZS ?_))
  refine Aw rfl rfl rfl rfl (ih _ (List.getElem_mem h0)) rfl rfl ?_
  refine Zy ?_
  refine Zm 8 ?_
  refine Aa.ret ?_
  simp only[go_sem]
  rw[e];try simp[Aj,Ay]
 refine Zp 47 ?_
 refine Zc (λhc2=>?_) λhc2=>?_
 ·have e:Bq x m t=(if t.over=true then decide (t.limit<(x.s.length:Int)) else decide ((x.s.length:Int)<t.limit)):=by rw[Df,if_neg ZO,if_neg ZO,if_neg ZO,FK,if_neg hc0,if_pos hc2]
  refine Zs (Zp 67 ?_)
  refine Zc (λhc3=>?_) λhc3=>?_
  ·rw[if_pos hc3] at e
   refine Zp 4 (Aa.ret ?_)
   simp only[go_sem]
   rw[e];try simp[Aj,Ay]
  rw[if_neg (by simp[hc3])] at e
  refine Zk ?_
  refine Zp 4 (Aa.ret ?_)
  simp only[go_sem]
  rw[e];try simp[Aj,Ay]
 refine Zs (Zp 47 ?_)
 refine Zy ?_
 apply Za (z:=(_||_)) 15 43
 ·refine Aa.cond _ rfl (λhc4=>?_) λhc4=>?_
  rotate_left
  ·refine Z6 ?_
   refine Zf 15 16 (.e ⟨BD (ES hc4 rfl),⟨rfl⟩⟩)
  refine Aa.skip (Ac ?_)
  refine Zf 15 16 (.e ⟨BD (Hc hc4),⟨rfl⟩⟩)
 refine Zy ?_
 refine Zc (λhc5=>?_) λhc5=>?_
 ·have h45:t.kind=4\/t.kind=5:=by simpa using hc5
  have h0:=j8 (by simp[A7];omega)
  refine Zp 15 ?_
  refine Zs (Zp 31 ?_)
  refine Aa.block (Zy ?_)
  refine Zl 7 24 (λn lc hc=> ∃(k:Nat),n=t.kids.length-k/\Av lc [(7,.d (.int .i64 (FN (Bq x m) (t.kids.take k):Nat))),(8,.d (.int .i64 (k:Nat)))]/\Av hc (⟨[(b5,⟨2,1,[DK m]⟩),(b4,⟨5,1,[Dw x]⟩),(b3,⟨8,1,[AJ t]⟩)],[]⟩)/\(k<=t.kids.length)) ?_ ?_
  · refine ⟨_,0,rfl,?_,ZE,ZI⟩
    · (try simp only[go_sem])<;>first|exact⟨rfl⟩|(constructor;simp[FN];done)
  rintro _ _ _ ⟨k,rfl,⟨rfl⟩,⟨rfl⟩,h1⟩
  refine Zy ?_
  refine Zs (Zp 543 ?_)
  refine Zc (λhc6=>?_) λhc6=>?_
  ·have hlt:k<t.kids.length:=by omega
   have hki:(k:Int)<(t.kids.length:Int):=by omega
   have hcl:=Uu (Bq x m) (t.kids.take k)
   rw[List.length_take] at hcl
   have zf2:=λd0_=>BJ t k d0_ hlt
   refine Zk ?_
   refine Zs (Aa.block (Zd true [0,1,2,3,4,5,6,7] ?_))
   simp only[go_sem, *]
   refine ZP (ih _ (List.getElem_mem hlt)) ?_
   refine Zy ?_
   refine Zm 8223 ?_
   refine Zc (λhc7=>?_) λhc7=>?_
   ·refine Zr (Ai (Ac ?_))
    refine Z6 ?_
    refine Ze 7 24 [] [] [b5,b4,b3] [] (.e ⟨_,ZM,k+1,rfl,?_,ZE,ZN⟩)
    · (try simp only[go_sem])<;>first|exact⟨rfl⟩|(constructor;rw[Yt hlt hc7])
   refine Z5 ?_
   refine Z6 ?_
   refine Ze 7 24 [] [] [b5,b4,b3] [] (.e ⟨_,ZM,k+1,rfl,?_,ZE,ZN⟩)
   · (try simp only[go_sem])<;>first|exact⟨rfl⟩|(constructor;rw[Ys hlt hc7])
  have htk:t.kids.take k=t.kids:=List.take_of_length_le ZO
  rw[htk]
  refine Z4 ?_
  refine Zm 9 ?_
  refine Zp 2 (Aa.ret ?_)
  simp only[go_sem]
  rw[<-AfN h45 h0];try simp[Aj,Ay]
 have h45:¬(t.kind=4\/t.kind=5):=by simpa using hc5
 refine Zp 47 ?_
 refine Zc (λhc8=>?_) λhc8=>?_
 ·refine Zp 13 ?_
  refine Zs (Zp 15 ?_)
  refine Aa.block (Zy ?_)
  refine Zl 3 12 (λn lc hc=> ∃(k:Nat),n=t.names.length-k/\Av lc [(9,.d (.int .i64 (FN (λn=>decide (0<(DD m.f n).length)) (t.names.take k):Nat))),(10,.d (.int .i64 (k:Nat)))]/\Av hc (⟨[(b5,⟨2,1,[DK m]⟩),(b4,⟨5,1,[Dw x]⟩),(b3,⟨8,1,[AJ t]⟩)],[]⟩)/\(k<=t.names.length)) ?_ ?_
  · refine ⟨_,0,rfl,?_,ZE,ZI⟩
    · (try simp only[go_sem])<;>first|exact⟨rfl⟩|(constructor;simp[FN];done)
  rintro _ _ _ ⟨k,rfl,⟨rfl⟩,⟨rfl⟩,h1⟩
  refine Zy ?_
  refine Zs (Zp 271 ?_)
  refine Zc (λhc9=>?_) λhc9=>?_
  ·have hlt:k<t.names.length:=by omega
   have hki:(k:Int)<(t.names.length:Int):=by omega
   have hcl:=Uu (λn=>decide (0<(DD m.f n).length)) (t.names.take k)
   rw[List.length_take] at hcl
   have zf3:=λd0_=>Al Aq t.names k d0_ hlt
   refine Zk ?_
   refine Zs (Aa.block (Zd true [0,1,2,3,4,5,6,7,8] ?_))
   simp only[go_sem, *]
   refine ZP (Vk T m t.names[k] (j1 _ (List.getElem_mem hlt)) jo.hf jo.hl) ?_
   refine Zy ?_
   refine Zm 8207 ?_
   refine Zc (λhc10=>?_) λhc10=>?_
   ·have hcy:(λn=>decide (0<(DD m.f n).length)) t.names[k]=true:=decide_eq_true ZO
    refine Zr (Ai (Ac ?_))
    refine Z6 ?_
    refine Ze 3 12 [] [] [b5,b4,b3] [] (.e ⟨_,ZM,k+1,rfl,?_,ZE,ZN⟩)
    · (try simp only[go_sem])<;>first|exact⟨rfl⟩|(constructor;rw[Yt hlt hcy])
   have hcy:(λn=>decide (0<(DD m.f n).length)) t.names[k]=false:=decide_eq_false ZO
   refine Z5 ?_
   refine Z6 ?_
   refine Ze 3 12 [] [] [b5,b4,b3] [] (.e ⟨_,ZM,k+1,rfl,?_,ZE,ZN⟩)
   · (try simp only[go_sem])<;>first|exact⟨rfl⟩|(constructor;rw[Ys hlt hcy])
  have htk:t.names.take k=t.names:=List.take_of_length_le ZO
  rw[htk]
  refine Z4 ?_
  refine Zp 4 (Aa.ret ?_)
  simp only[go_sem]
  rw[<-Aio hc8];try simp[Aj,Ay]
 refine Zs (Zp 47 ?_)
 refine Zy ?_
 apply Za (z:=(_||(_||_))) 7 102
 ·refine Aa.cond _ rfl (λhc11=>?_) λhc11=>?_
  rotate_left
  ·refine Zp 31 ?_
   refine Aa.cond _ rfl (λhc12=>?_) λhc12=>?_
   rotate_left
   ·refine Z6 ?_
    refine Zf 7 16 (.e ⟨BD (ES hc11 (ES hc12 rfl)),⟨rfl⟩⟩)
   refine Aa.skip (Ac ?_)
   refine Zf 7 16 (.e ⟨BD (ES hc11 (Hc hc12)),⟨rfl⟩⟩)
  refine Aa.skip (Ac ?_)
  refine Zf 7 16 (.e ⟨BD (Hc hc11),⟨rfl⟩⟩)
 refine Zy ?_
 refine Zc (λhc13=>?_) λhc13=>?_
 ·have h68:t.kind=6\/t.kind=7\/t.kind=8:=by simpa[or_assoc] using hc13
  have e:=Ag5 (x:=x) (m:=m) h68
  refine Zp 15 ?_
  refine Aa.block (Zy ?_)
  refine Zl 7 8 (λn lc hc=> ∃(k:Nat),n=t.names.length-k/\Av lc [(11,.d (.int .i64 (k:Nat)))]/\Av hc (⟨[(b5,⟨2,1,[DK m]⟩),(b4,⟨5,1,[Dw x]⟩),(b3,⟨8,1,[AJ t]⟩)],[]⟩)/\(k<=t.names.length)/\((t.names.take k).any (λn=>Ix t.mat (Cm t.kind t.part x m n) t.keys)=false)) ?_ ?_
  · refine ⟨_,0,rfl,ZE,ZE,?_,?_⟩
    all_goals(first|omega|rfl|simp)
  rintro _ _ _ ⟨k,rfl,⟨rfl⟩,⟨rfl⟩,h1,h2⟩
  refine Zy ?_
  refine Zs (Zp 271 ?_)
  refine Zc (λhc14=>?_) λhc14=>?_
  ·have hlt:k<t.names.length:=by omega
   have hki:(k:Int)<(t.names.length:Int):=by omega
   obtain⟨hk1,hk2⟩:=Z8 (k:=t.kind) (p:=t.part) (n:=t.names[k]) jo
   have zf4:=λd0_=>Al Aq t.names k d0_ hlt
   refine Zk ?_
   refine Zs (Aa.block (Zd true [0,1,2,3,4,5,6,7,8,9] ?_))
   simp only[go_sem,fb4,fb5,zf4,hki]
   refine Aw rfl rfl rfl rfl (Z9 T hL t x m t.names[k] jo (j1 _ (List.getElem_mem hlt))) rfl rfl ?_
   refine Zy ?_
   refine Zm 31 ?_
   refine Z1 1039 (Aak T t.mat (Cm t.kind t.part x m t.names[k]) t.keys (j3 (by simp[A7];omega)) hk2 j2 hk1 hkl) ?_
   refine Zc (λhc15=>?_) λhc15=>?_
   ·refine Zp 8 (Aa.ret ?_)
    simp only[go_sem]
    rw[e,List.any_eq_true.2 ⟨_,List.getElem_mem hlt,hc15⟩];try simp[Aj,Ay]
   refine Z5 ?_
   refine Z6 ?_
   refine Ze 7 8 [] [] [b5,b4,b3] [] (.e ⟨_,ZM,k+1,rfl,ZE,ZE,?_,?_⟩)
   · omega
   · rw [List.take_succ_eq_append_getElem hlt,List.any_append,h2,List.any_cons,hc15];rfl
  have hz:Bq x m t=false:=by rw[e];rwa [List.take_of_length_le ZO] at h2
  refine Aa.exit (Ak (Ak (Bh (Ai (Ac ?_)))))
  refine Zm 0 ?_
  refine Zp 1 (Aa.ret ?_)
  simp only[go_sem]
  first|(rw[hz];try simp[Aj,Ay];done)|(rw[Ag4 hc0 hc1 hc2 h45 hc8 h68];try simp[Aj,Ay])
 have h68:¬(t.kind=6\/t.kind=7\/t.kind=8):=by simpa[or_assoc] using hc13
 refine Z5 ?_
 refine Zm 0 ?_
 refine Zp 1 (Aa.ret ?_)
 simp only[go_sem]
 first|(rw[hz];try simp[Aj,Ay];done)|(rw[Ag4 hc0 hc1 hc2 h45 hc8 h68];try simp[Aj,Ay])
theorem AfR (T:Ap) (hL:Bw T) (x:Lr) (m:Ms) (jo:VT x m) (hs:x.s.length<=9223372036854775807) (t:AM):t.Ok->JT t->PC prog T 37 [.agg (AJ t),.agg (Dw x),.agg (DK m)] (.d (.bool (Bq x m t))):=by
 induction t using AM.ind with
 |h t ih=>exact λok jt=>AfS T hL t x m ok jt jo hs λy hy=>ih y hy (ok.inv.2.2.2 y hy) (jt.inv.2.2.2.2.2.2.2 y hy)
end
section
open Go.RowKit
abbrev GS:List UInt8:=[102,105,108,101,105,110,116,111]
abbrev TG:List UInt8:=[114,101,106,101,99,116]
abbrev GU:List UInt8:=[105,109,97,112,52,102,108,97,103,115]
def toE (s:List UInt8):Int:=if(Ba s).2=0/\(Ba s).1.length=1 then 0 else 3
mutual
def BZ (ks:List (List UInt8)):Ax->Int
 | .mk k tx t th el=>
  if k=1 then 3
  else if k=2 then(if¬CW ks t=0 then CW ks t else if¬B9 ks th=0 then B9 ks th else B9 ks el)
  else if k=5 then(if¬Cp ks GS=0 then Cp ks GS else CT (tx.headD []))
  else if k=7 then Cp ks TG
  else if k=8\/k=9 then(if¬Cp ks GU=0 then Cp ks GU else Ln tx)
  else if k=6 then toE (tx.headD [])
  else 0
def B9 (ks:List (List UInt8)):List Ax->Int
 |[]=>0
 |c::l=>if¬BZ ks c=0 then BZ ks c else B9 ks l
end
theorem Dk (ks:List (List UInt8)) (c:Ax):BZ ks c=if c.kind=1 then 3
    else if c.kind=2 then(if¬CW ks c.test=0 then CW ks c.test else if¬B9 ks c.thn=0 then B9 ks c.thn else B9 ks c.els)
    else if c.kind=5 then(if¬Cp ks GS=0 then Cp ks GS else CT (c.texts.headD []))
    else if c.kind=7 then Cp ks TG
    else if c.kind=8\/c.kind=9 then(if¬Cp ks GU=0 then Cp ks GU else Ln c.texts)
    else if c.kind=6 then toE (c.texts.headD [])
    else 0:=by cases c;rw[BZ];rfl
theorem D0 {ks:List (List UInt8)} {l:List Ax} {k:Nat} (h:k<l.length) (hc:¬BZ ks (l[k])=0):B9 ks (l.drop k)=BZ ks (l[k]):=by rw[List.drop_eq_getElem_cons h,B9,if_pos hc]
theorem DP {ks:List (List UInt8)} {l:List Ax} {k:Nat} (h:k<l.length) (hc:BZ ks (l[k])=0):B9 ks (l.drop k)=B9 ks (l.drop (k+1)):=by rw[List.drop_eq_getElem_cons h,B9,if_neg (λh9=>h9 hc)]
theorem Ut {ks:List (List UInt8)} {l:List Ax} {k:Nat} (h:l.length<=k):B9 ks (l.drop k)=0:=by rw[List.drop_eq_nil_of_le h];rfl
def Dr (ks ks':List (List UInt8)):Prop:=∀s,s∈ks↔s∈ks'
theorem Dr.need {ks ks':List (List UInt8)} (h:Dr ks ks') (s:List UInt8):Cp ks s=Cp ks' s:=by
 unfold Cp
 by_cases h1:s∈ks
 ·rw[if_pos h1,if_pos ((h s).1 h1)]
 ·rw[if_neg h1,if_neg (λh9=>h1 ((h s).2 h9))]
mutual
theorem Q5 {ks ks':List (List UInt8)} (h:Dr ks ks'):∀t:AM,CW ks t=CW ks' t
 | .mk k m p ns ky o li kids=>by
  rw[CW,CW,NK h kids]
  have:=h Hb
  by_cases h1:Hb∈ks
  ·simp only[h1,this.1 h1]
  ·have h2:¬Hb∈ks':=λh9=>h1 (this.2 h9)
   simp only[h1,h2]
theorem NK {ks ks':List (List UInt8)} (h:Dr ks ks'):∀l:List AM,CL ks l=CL ks' l
 |[]=>rfl
 |t::l=>by rw[CL,CL,Q5 h t,NK h l]
end
mutual
theorem XN {ks ks':List (List UInt8)} (h:Dr ks ks'):∀c:Ax,BZ ks c=BZ ks' c
 | .mk k tx t th el=>by rw[BZ,BZ,Q5 h t,Dr.cmdL h th,Dr.cmdL h el,h.need,h.need,h.need]
theorem Dr.cmdL {ks ks':List (List UInt8)} (h:Dr ks ks'):∀l:List Ax,B9 ks l=B9 ks' l
 |[]=>rfl
 |c::l=>by rw[B9,B9,XN h c,Dr.cmdL h l]
end
theorem Dr.add {ks ks':List (List UInt8)} (h:Dr ks ks') (s:List UInt8):Dr (Ns s ks) (ks'++[s]):=λx=>by
 unfold Ns
 rw[List.mem_append,List.mem_singleton]
 split
 ·rename_i hs
  rw[h x]
  exact⟨.inl,λh9=>h9.elim id λh8=>by rw[h8];exact(h s).1 hs⟩
 ·rw[List.mem_append,List.mem_singleton,h x]
end
section
theorem Oj {α:Type} {l:List α} {d:α} (h:0<l.length):l.headD d=l[0]:=by cases l with
 |nil=>simp at h
 |cons x l=>rfl
theorem Tb {ks:List (List UInt8)} {c:Ax} (h:c.kind=1):BZ ks c=3:=by rw[Dk,if_pos h]
theorem LB {ks:List (List UInt8)} {c:Ax} (h:c.kind=2) (h2:¬CW ks c.test=0):BZ ks c=CW ks c.test:=by rw[Dk,if_neg ZO,if_pos h,if_pos h2]
theorem L9 {ks:List (List UInt8)} {c:Ax} (h:c.kind=2) (h2:CW ks c.test=0) (h3:¬B9 ks c.thn=0):BZ ks c=B9 ks c.thn:=by rw[Dk,if_neg ZO,if_pos h,if_neg ZO,if_pos h3]
theorem LA {ks:List (List UInt8)} {c:Ax} (h:c.kind=2) (h2:CW ks c.test=0) (h3:B9 ks c.thn=0):BZ ks c=B9 ks c.els:=by rw[Dk,if_neg ZO,if_pos h,if_neg ZO,if_neg ZO]
theorem LC {ks:List (List UInt8)} {c:Ax} (h:c.kind=5) (h2:¬Cp ks GS=0):BZ ks c=Cp ks GS:=by rw[Dk,if_neg ZO,if_neg ZO,if_pos h,if_pos h2]
theorem Pp {ks:List (List UInt8)} {c:Ax} (h:c.kind=5) (h2:Cp ks GS=0) (h0:0<c.texts.length):BZ ks c=CT (c.texts[0]):=by rw[Dk,if_neg ZO,if_neg ZO,if_pos h,if_neg ZO,Oj h0]
theorem Pq {ks:List (List UInt8)} {c:Ax} (h:c.kind=7):BZ ks c=Cp ks TG:=by rw[Dk,if_neg ZO,if_neg ZO,if_neg ZO,if_pos h]
theorem LD {ks:List (List UInt8)} {c:Ax} (h:c.kind=8\/c.kind=9) (h2:¬Cp ks GU=0):BZ ks c=Cp ks GU:=by rw[Dk,if_neg ZO,if_neg ZO,if_neg ZO,if_neg ZO,if_pos h,if_pos h2]
theorem Pr {ks:List (List UInt8)} {c:Ax} (h:c.kind=8\/c.kind=9) (h2:Cp ks GU=0):BZ ks c=Ln c.texts:=by rw[Dk,if_neg ZO,if_neg ZO,if_neg ZO,if_neg ZO,if_pos h,if_neg ZO]
theorem IM {ks:List (List UInt8)} {c:Ax} (h:c.kind=6) (h0:0<c.texts.length):BZ ks c=toE (c.texts[0]):=by rw[Dk,if_neg ZO,if_neg ZO,if_neg ZO,if_neg ZO,if_neg ZO,if_pos h,Oj h0]
theorem Yq {ks:List (List UInt8)} {c:Ax} (h1:¬c.kind=1) (h2:¬c.kind=2) (h5:¬c.kind=5) (h7:¬c.kind=7) (h8:¬c.kind=8) (h9:¬c.kind=9) (h6:¬c.kind=6):BZ ks c=0:=by rw[Dk,if_neg h1,if_neg h2,if_neg h5,if_neg h7,if_neg ZO,if_neg h6]
theorem AaK {s:List UInt8} (h:¬(Ba s).2=0\/¬(((Ba s).1.length:Nat):Int)=1):toE s=3:=by unfold toE;rw[if_neg ZO]
theorem AdX {s:List UInt8} (h:(Ba s).2=0/\(((Ba s).1.length:Nat):Int)=1):toE s=0:=by unfold toE;rw[if_pos ZO]
inductive Ax.Rd:Ax->Prop where
 |mk {c:Ax} (h1:c.kind=5\/c.kind=6->0<c.texts.length) (h2:c.texts.length<=1048576) (h3:∀s∈c.texts,s.length<=1048576) (h4:∀x∈c.thn,Ax.Rd x) (h5:∀x∈c.els,Ax.Rd x):Ax.Rd c
theorem Ax.Rd.inv {c:Ax} (h:c.Rd):(c.kind=5\/c.kind=6->0<c.texts.length)/\c.texts.length<=1048576/\(∀s∈c.texts,s.length<=1048576)/\(∀x∈c.thn,Ax.Rd x)/\(∀x∈c.els,Ax.Rd x):=by
 cases h;exact⟨by assumption,by assumption,by assumption,by assumption,by assumption⟩
attribute [local go_sem] BW AJ Bi Gd List.cons_append List.nil_append Aq in
theorem Afs (T:Ap) (hL:Bw T) (hF:T 2=Bf.map D.str) (bj t:Nat) (ks:List (List UInt8)) (c:Ax) (ok:c.Ok) (rd:c.Rd) (i1:∀(F:Af) (L:List Nat),AC prog T 58 [.ptr bj 1 0 0,.d (.slc 12 (Fw c))] ⟨(bj,⟨1,1,[[.mp t ks]]⟩)::F,t::L⟩ (λx h=>x= .ret (.d (.int .i64 (B9 ks c.thn)))/\h=⟨(bj,⟨1,1,[[.mp t ks]]⟩)::F,t::L⟩)) (i2:∀(F:Af) (L:List Nat),AC prog T 58 [.ptr bj 1 0 0,.d (.slc 12 (E6 c))] ⟨(bj,⟨1,1,[[.mp t ks]]⟩)::F,t::L⟩ (λx h=>x= .ret (.d (.int .i64 (B9 ks c.els)))/\h=⟨(bj,⟨1,1,[[.mp t ks]]⟩)::F,t::L⟩)) (F:Af) (L:List Nat):AC prog T 115 [.ptr bj 1 0 0,.agg (BW c)] (⟨(bj,⟨1,1,[[.mp t ks]]⟩)::F,t::L⟩) (λx h=>x= .ret (.d (.int .i64 (BZ ks c)))/\h=⟨(bj,⟨1,1,[[.mp t ks]]⟩)::F,t::L⟩):=by
 refine⟨call115,Ao.enterS func115 rfl ntmps115 rfl λhb=>?_⟩
 obtain⟨s1,s2,s3,s4,s5,s6⟩:=ok.inv
 obtain⟨r1,r2,r3,_,_⟩:=rd.inv
 simp only[go_sem,results115]
 refine Zx (Zy ?_)
 intro b3
 first|intro fb3|have fb3:=True.intro
 try simp only[Ab] at fb3
 refine Zs (Zp 37 ?_)
 refine Aa.block (Zp 15 ?_)
 refine Zc (λhc0=>?_) λhc0=>?_
 ·refine Zp 4 (Aa.ret ?_)
  simp only[Am,Bo]
  apply Ah [b3] [] [bj] [t] ZH
  · rw [Tb hc0]
    exact⟨rfl,by first|rfl|(simp only[go_sem,fb3];done)|(simp only[go_sem,fb3];rfl)⟩
  · simp [Aj,Ay]
 refine Zp 23 ?_
 refine Zc (λhc1=>?_) λhc1=>?_
 ·refine Zs (Zx ?_)
  simp only[go_sem,fb3]
  refine ZA [bj] [t] (Ack T bj t ks c.test s2 _ _) ?_
  rintro _ _ ⟨rfl,rfl⟩
  refine Zy ?_
  refine Zm 7 ?_
  refine Zp 23 ?_
  refine Zc (λhc2=>?_) λhc2=>?_
  ·refine Zp 4 (Aa.ret ?_)
   simp only[Am,Bo]
   apply Ah [b3] [] [bj] [t] ZH
   · rw [LB hc1 hc2]
     exact⟨rfl,by first|rfl|(simp only[go_sem,fb3];done)|(simp only[go_sem,fb3];rfl)⟩
   · simp [Aj,Ay]
  have hc2:CW ks c.test=0:=by omega
  refine Zk ?_
  refine Zs (Zx ?_)
  simp only[go_sem,fb3]
  refine ZA [bj] [t] (i1 _ _) ?_
  rintro _ _ ⟨rfl,rfl⟩
  refine Zy ?_
  refine Zm 11 ?_
  refine Zp 23 ?_
  refine Zc (λhc3=>?_) λhc3=>?_
  ·refine Zp 4 (Aa.ret ?_)
   simp only[Am,Bo]
   apply Ah [b3] [] [bj] [t] ZH
   · rw [L9 hc1 hc2 hc3]
     exact⟨rfl,by first|rfl|(simp only[go_sem,fb3];done)|(simp only[go_sem,fb3];rfl)⟩
   · simp [Aj,Ay]
  have hc3:B9 ks c.thn=0:=by omega
  refine Zk ?_
  refine Zx ?_
  simp only[go_sem,fb3]
  refine ZA [bj] [t] (i2 _ _) ?_
  rintro _ _ ⟨rfl,rfl⟩
  refine Zy ?_
  refine Zm 4 ?_
  refine Aa.ret ?_
  simp only[Am,Bo]
  apply Ah [b3] [] [bj] [t] ZH
  · rw [LA hc1 hc2 hc3]
    exact⟨rfl,by first|rfl|(simp only[go_sem,fb3];done)|(simp only[go_sem,fb3];rfl)⟩
  · simp [Aj,Ay]
 refine Zp 23 ?_
 refine Zc (λhc4=>?_) λhc4=>?_
 ·refine Zs (Zx (Zy ?_))
  refine ZA [bj] [t] (PN T bj t ks GS _ _) ?_
  rintro _ _ ⟨rfl,rfl⟩
  refine Zy ?_
  refine Zm 6 ?_
  refine Zp 11 ?_
  refine Zc (λhc5=>?_) λhc5=>?_
  ·refine Zp 2 (Aa.ret ?_)
   simp only[Am,Bo]
   apply Ah [b3] [] [bj] [t] ZH
   · rw [LC hc4 hc5]
     exact⟨rfl,by first|rfl|(simp only[go_sem,fb3];done)|(simp only[go_sem,fb3];rfl)⟩
   · simp [Aj,Ay]
  have hc5:Cp ks GS=0:=by omega
  have h0:0<c.texts.length:=r1 (.inl hc4)
  have hz0:=r3 _ (List.getElem_mem h0)
  have zf1:=λd0_=>Al Aq c.texts 0 d0_ h0
  refine Zk ?_
  refine Zx ?_
  simp only[go_sem,fb3,zf1]
  (repeat(with_reducible refine And.intro ZS ?_))
  refine Aw rfl rfl rfl rfl (OW T _ ZO) rfl rfl ?_
  refine Zy ?_
  refine Zm 2 ?_
  refine Aa.ret ?_
  simp only[Am,Bo]
  apply Ah [b3] [] [bj] [t] ZH
  · rw [Pp hc4 hc5 h0]
    exact⟨rfl,by first|rfl|(simp only[go_sem,fb3];done)|(simp only[go_sem,fb3,zf1];rfl)⟩
  · simp [Aj,Ay]
 refine Zp 23 ?_
 refine Zc (λhc6=>?_) λhc6=>?_
 ·refine Zx (Zy ?_)
  refine ZA [bj] [t] (PN T bj t ks TG _ _) ?_
  rintro _ _ ⟨rfl,rfl⟩
  refine Zy ?_
  refine Zm 4 ?_
  refine Aa.ret ?_
  simp only[Am,Bo]
  apply Ah [b3] [] [bj] [t] ZH
  · rw [Pq hc6]
    exact⟨rfl,by first|rfl|(simp only[go_sem,fb3];done)|(simp only[go_sem,fb3];rfl)⟩
  · simp [Aj,Ay]
 refine Zs (Zp 23 ?_)
 refine Zy ?_
 apply Za (z:=(_||_)) 7 53
 ·refine Aa.cond _ rfl (λhc7=>?_) λhc7=>?_
  rotate_left
  ·refine Z6 ?_
   refine Zf 7 8 (.e ⟨BD (ES hc7 rfl),⟨rfl⟩⟩)
  refine Aa.skip (Ac ?_)
  refine Zf 7 8 (.e ⟨BD (Hc hc7),⟨rfl⟩⟩)
 refine Zy ?_
 refine Zc (λhc8=>?_) λhc8=>?_
 ·have hk8:c.kind=8\/c.kind=9:=by first|exact .inl hc7|exact .inr hc8|omega
  refine Zs (Zx (Zy ?_))
  refine ZA [bj] [t] (PN T bj t ks GU _ _) ?_
  rintro _ _ ⟨rfl,rfl⟩
  refine Zy ?_
  refine Zm 6 ?_
  refine Zp 11 ?_
  refine Zc (λhc9=>?_) λhc9=>?_
  ·refine Zp 2 (Aa.ret ?_)
   simp only[Am,Bo]
   apply Ah [b3] [] [bj] [t] ZH
   · rw [LD hk8 hc9]
     exact⟨rfl,by first|rfl|(simp only[go_sem,fb3];done)|(simp only[go_sem,fb3];rfl)⟩
   · simp [Aj,Ay]
  have hc9:Cp ks GU=0:=by omega
  refine Zk ?_
  refine Zx ?_
  simp only[go_sem,fb3]
  refine ZP (YZ T hF _ ZO) ?_
  refine Zy ?_
  refine Zm 8 ?_
  refine Zp 1 (Aa.ret ?_)
  simp only[Am,Bo]
  apply Ah [b3] [] [bj] [t] ZH
  · rw [Pr hk8 hc9]
    exact⟨rfl,by first|rfl|(simp only[go_sem,fb3];done)|(simp only[go_sem,fb3];rfl)⟩
  · simp [Aj,Ay]
 refine Zp 18 ?_
 refine Zc (λhc10=>?_) λhc10=>?_
 ·have h0:0<c.texts.length:=r1 (.inr hc10)
  have hz0:=r3 _ (List.getElem_mem h0)
  have zf2:=λd0_=>Al Aq c.texts 0 d0_ h0
  refine Zx ?_
  simp only[go_sem,fb3,zf2]
  (repeat(with_reducible refine And.intro ZS ?_))
  refine Aw rfl rfl rfl rfl (OU T hL _) rfl rfl ?_
  refine Zy ?_
  refine Zm 6 ?_
  refine Zp 256 ?_
  refine Zc (λhc11=>?_) λhc11=>?_
  ·refine Zp 1 (Aa.ret ?_)
   simp only[Am,Bo]
   apply Ah [b3] [] [bj] [t] ZH
   · rw [IM hc10 h0,AaK hc11]
     exact⟨rfl,by first|rfl|(simp only[go_sem,fb3];done)|(simp only[go_sem,fb3,zf2];rfl)⟩
   · simp [Aj,Ay]
  refine Z5 ?_
  refine Zp 1 (Aa.ret ?_)
  apply Ah [b3] [] [bj] [t] ZH
  · rw [IM hc10 h0,AdX hc11]
    exact⟨rfl,by first|rfl|(simp only[go_sem,fb3];done)|(simp only[go_sem,fb3,zf2];rfl)⟩
  · simp [Aj,Ay]
 refine Z5 ?_
 refine Zp 2 (Aa.ret ?_)
 apply Ah [b3] [] [bj] [t] ZH
 · rw [Yq hc0 hc1 hc4 hc6 hc8.1 hc8.2 hc10]
   exact⟨rfl,by first|rfl|(simp only[go_sem,fb3];done)|(simp only[go_sem,fb3];rfl)⟩
 · simp [Aj,Ay]
attribute [local go_sem] BW AJ Ef AW Bi List.cons_append List.nil_append in
theorem Tu (T:Ap) (bj t:Nat) (ks:List (List UInt8)) (l:List Ax) (hll:l.length*208<=140737488355328) (ih:∀y∈l,∀(F:Af) (L:List Nat),AC prog T 115 [.ptr bj 1 0 0,.agg (BW y)] ⟨(bj,⟨1,1,[[.mp t ks]]⟩)::F,t::L⟩ (λx h=>x= .ret (.d (.int .i64 (BZ ks y)))/\h=⟨(bj,⟨1,1,[[.mp t ks]]⟩)::F,t::L⟩)) (F:Af) (L:List Nat):AC prog T 58 [.ptr bj 1 0 0,.d (.slc 12 (l.map AW))] (⟨(bj,⟨1,1,[[.mp t ks]]⟩)::F,t::L⟩) (λx h=>x= .ret (.d (.int .i64 (B9 ks l)))/\h=⟨(bj,⟨1,1,[[.mp t ks]]⟩)::F,t::L⟩):=by
 refine⟨call58,Ao.enterS func58 rfl ntmps58 rfl λhb=>?_⟩
 simp only[go_sem,results58]
 refine Zp 3 ?_
 refine Zs (Zp 29 ?_)
 refine Aa.block (Zy ?_)
 refine Zl 7 8 (λn lc hc=> ∃(k:Nat),n=l.length-k/\Av lc [(10,.d (.int .i64 (k:Nat)))]/\Av hc (⟨(bj,⟨1,1,[[.mp t ks]]⟩)::F,t::L⟩)/\(k<=l.length)/\(B9 ks l=B9 ks (l.drop k))) ?_ ?_
 · refine ⟨_,0,rfl,ZE,ZE,?_,?_⟩
   all_goals(first|omega|rfl)
 rintro _ _ _ ⟨k,rfl,⟨rfl⟩,⟨rfl⟩,m1,m2⟩
 refine Zy ?_
 refine Zp 31 ?_
 refine Zs (Zc (λhc0=>?_) λhc0=>?_)
 ·have hlt:k<l.length:=by omega
  have hki:(k:Int)<(l.length:Int):=by omega
  have zf1:=λd0_=>Al AW l k d0_ hlt
  refine Zk ?_
  refine Zs (Aa.block (Zx ?_))
  simp only[go_sem,zf1,hki]
  intro b6
  first|intro fb6|have fb6:=True.intro
  try simp only[Ab] at fb6
  refine Zx ?_
  simp only[go_sem,fb6]
  refine ZA [bj] [t] (ih _ (List.getElem_mem hlt) _ _) ?_
  rintro _ _ ⟨rfl,rfl⟩
  refine Zy ?_
  refine Zm 61 ?_
  refine Zp 95 ?_
  refine Zc (λhc1=>?_) λhc1=>?_
  ·refine Zp 2 (Aa.ret ?_)
   simp only[Am,Bo]
   apply Ah [b6] [] [bj] [t] ZH
   · rw [m2,D0 hlt hc1]
     exact⟨rfl,by first|rfl|(simp only[go_sem,fb6];done)|(simp only[go_sem,zf1,hki,fb6];rfl)⟩
   · simp [Aj,Ay]
  have hz:BZ ks (l[k])=0:=by omega
  refine Z5 ?_
  refine Z6 ?_
  refine Ze 13 16 [b6] [] [bj] [] (.e ⟨_,ZM,k+1,rfl,ZE,ZE,?_,?_⟩)
  · omega
  · rw [m2,DP hlt hz]
 refine Z4 ?_
 refine Zm 0 ?_
 refine Zp 1 (Aa.ret ?_)
 apply Ah [] [] [bj] [t] ZH
 · rw [m2,Ut ZO]
   exact⟨rfl,by first|rfl|(simp only[go_sem,];done)|(simp only[go_sem,];rfl)⟩
 · simp [Aj,Ay]
theorem Afr (T:Ap) (hL:Bw T) (hF:T 2=Bf.map D.str) (bj t:Nat) (ks:List (List UInt8)) (c:Ax) (ok:c.Ok) (rd:c.Rd) (F:Af) (L:List Nat):AC prog T 115 [.ptr bj 1 0 0,.agg (BW c)] ⟨(bj,⟨1,1,[[.mp t ks]]⟩)::F,t::L⟩ (λx h=>x= .ret (.d (.int .i64 (BZ ks c)))/\h=⟨(bj,⟨1,1,[[.mp t ks]]⟩)::F,t::L⟩):=by
 induction c using Ax.ind generalizing F L with
 |h c i1 i2=>
  obtain⟨s1,s2,s3,s4,s5,s6⟩:=ok.inv
  obtain⟨r1,r2,r3,r4,r5⟩:=rd.inv
  refine Afs T hL hF bj t ks c ok rd (λF L=>?_) (λF L=>?_) F L
  ·rw[D2];exact Tu T bj t ks _ s3 (λx hx F L=>i1 x hx (s5 x hx) (r4 x hx) F L) F L
  ·rw[C1];exact Tu T bj t ks _ s4 (λx hx F L=>i2 x hx (s6 x hx) (r5 x hx) F L) F L
theorem Zb (T:Ap) (hL:Bw T) (hF:T 2=Bf.map D.str) (bj t:Nat) (ks:List (List UInt8)) (l:List Ax) (hll:l.length*208<=140737488355328) (ok:∀x∈l,x.Ok) (rd:∀x∈l,x.Rd) (F:Af) (L:List Nat):AC prog T 58 [.ptr bj 1 0 0,.d (.slc 12 (l.map AW))] ⟨(bj,⟨1,1,[[.mp t ks]]⟩)::F,t::L⟩ (λx h=>x= .ret (.d (.int .i64 (B9 ks l)))/\h=⟨(bj,⟨1,1,[[.mp t ks]]⟩)::F,t::L⟩):=
 Tu T bj t ks l hll (λx hx F L=>Afr T hL hF bj t ks x (ok x hx) (rd x hx) F L) F L
end
section
theorem AdY {s:List UInt8} (h:B6 s=none):toE s=3:=by
 refine AaK (.inl ?_)
 unfold Ba;rw[h];split<;>(intro h9;cases h9)
theorem AdZ {s:List UInt8} {l:List Ad} (h:B6 s=some l) (h2:¬(l.length:Int)=1\/2000<(s.length:Int)):toE s=3:=by
 refine AaK ?_
 unfold Ba;rw[h];split
 ·exact .inl (by intro h9;cases h9)
 ·dsimp only;split
  ·exact .inl (by intro h9;cases h9)
  ·exact .inr (by dsimp only;omega)
theorem AhL {s:List UInt8} {l:List Ad} (h:B6 s=some l) (h2:(l.length:Int)=1/\¬2000<(s.length:Int)):toE s=0:=by
 refine AdX ?_
 unfold Ba;rw[h,if_neg ZO];dsimp only;rw[if_neg ZO];exact⟨rfl,h2.1⟩
attribute [local go_sem] AJ Ef AW Bi List.cons_append List.nil_append Gd Ds Aq in
theorem M8 (T:Ap) (hL:Bw T) (ks:List (List UInt8)) (hkn:ks.length<=1048576) (l:List Ax) (hll:l.length*208<=140737488355328) (ok:∀x∈l,x.Ok) (rd:∀x∈l,x.Rd) (i1:∀x∈l,PC prog T 64 [.d (.slc 1 (ks.map Aq)),.d (.slc 12 (Fw x))] (.d (.int .i64 (B9 ks x.thn)))) (i2:∀x∈l,PC prog T 64 [.d (.slc 1 (ks.map Aq)),.d (.slc 12 (E6 x))] (.d (.int .i64 (B9 ks x.els)))):PC prog T 64 [.d (.slc 1 (ks.map Aq)),.d (.slc 12 (l.map AW))] (.d (.int .i64 (B9 ks l))):=by
 refine⟨call64,Ar.enterS func64 rfl ntmps64 rfl λhb=>?_⟩
 simp only[go_sem,results64]
 refine Zp 3 ?_
 refine Zs (Zp 7 ?_)
 refine Aa.block (Zy ?_)
 refine Zl 3 4 (λn lc hc=> ∃(k:Nat),n=l.length-k/\Av lc [(5,.d (.int .i64 (k:Nat)))]/\Av hc (⟨[],[]⟩)/\(k<=l.length)/\(B9 ks l=B9 ks (l.drop k))) ?_ ?_
 · refine ⟨_,0,rfl,ZE,ZE,?_,?_⟩
   all_goals(first|omega|rfl)
 rintro _ _ _ ⟨k,rfl,⟨rfl⟩,⟨rfl⟩,m1,m2⟩
 refine Zy ?_
 refine Zs (Zp 71 ?_)
 refine Zc (λhc0=>?_) λhc0=>?_
 ·have hlt:k<l.length:=by omega
  have hki:(k:Int)<(l.length:Int):=by omega
  have okk:=ok _ (List.getElem_mem hlt)
  obtain⟨s1,s2,s3,s4,s5,s6⟩:=okk.inv
  obtain⟨r1,r2,r3,_,_⟩:=(rd _ (List.getElem_mem hlt)).inv
  have zf1:=λd0_=>Al AW l k d0_ hlt
  refine Zk ?_
  refine Zs (Aa.block (Zx ?_))
  simp only[go_sem,zf1,hki]
  intro b6
  first|intro fb6|have fb6:=True.intro
  try simp only[Ab] at fb6
  refine Zm 15 ?_
  refine Zp 31 ?_
  refine Zs (Zp 95 ?_)
  refine Aa.block (Zp 127 ?_)
  refine Zc (λhc1=>?_) λhc1=>?_
  ·refine Zr (Ai (Ac ?_))
   refine Zp 279 ?_
   refine Zc (λhc13=>?_) λhc13=>?_
   ·have hz:¬BZ ks (l[k])=0:=by rw[Tb hc1];first|exact hc13|decide|omega
    refine Zp 4 (Aa.ret ?_)
    simp only[go_sem]
    rw[m2,D0 hlt hz,Tb hc1];try simp[Aj,Ay]
   first|omega|simp at hc13
  refine Zp 191 ?_
  refine Zc (λhc2=>?_) λhc2=>?_
  ·refine Zx (Zy ?_)
   refine ZP (AaG T ks hkn _ s2) ?_
   refine Zy ?_
   refine Zm 31 ?_
   refine Zs (Zp 95 ?_)
   refine Zc (λhc3=>?_) λhc3=>?_
   ·refine Zq λK_ k_=>?_
    refine Zy ?_
    refine ZP (i1 _ (List.getElem_mem hlt)) ?_
    refine Zy ?_
    refine k_ _ _ (Ac ?_)
    refine Zm 31 ?_
    refine Zp 95 ?_
    refine Zc (λhc4=>?_) λhc4=>?_
    ·refine Zq λK_ k_=>?_
     refine Zy ?_
     refine ZP (i2 _ (List.getElem_mem hlt)) ?_
     refine Zy ?_
     refine k_ _ _ (Ai (Ac ?_))
     refine Zm 23 ?_
     refine Zp 47 ?_
     refine Zc (λhc13=>?_) λhc13=>?_
     ·have hz:¬BZ ks (l[k])=0:=by rw[LA hc2 hc3 hc4];first|exact hc13|decide|omega
      refine Zp 4 (Aa.ret ?_)
      simp only[go_sem]
      rw[m2,D0 hlt hz,LA hc2 hc3 hc4];try simp[Aj,Ay]
     have hz:BZ ks (l[k])=0:=by rw[LA hc2 hc3 hc4];first|done|exact hc13|omega
     refine Z5 ?_
     refine Z6 ?_
     refine Ze 3 4 [b6] [] [] [] (.e ⟨_,ZM,k+1,rfl,ZE,ZE,?_,?_⟩)
     · omega
     · rw [m2,DP hlt hz]
    refine Z5 ?_
    refine Zp 151 ?_
    refine Zc (λhc13=>?_) λhc13=>?_
    ·have hz:¬BZ ks (l[k])=0:=by rw[L9 hc2 hc3 hc4];first|exact hc13|decide|omega
     refine Zp 4 (Aa.ret ?_)
     simp only[go_sem]
     rw[m2,D0 hlt hz,L9 hc2 hc3 hc4];try simp[Aj,Ay]
    have hz:BZ ks (l[k])=0:=by rw[L9 hc2 hc3 hc4];first|done|exact hc13|omega
    refine Z5 ?_
    refine Z6 ?_
    refine Ze 3 4 [b6] [] [] [] (.e ⟨_,ZM,k+1,rfl,ZE,ZE,?_,?_⟩)
    · omega
    · rw [m2,DP hlt hz]
   refine Zk ?_
   refine Zp 159 ?_
   refine Zc (λhc4=>?_) λhc4=>?_
   ·exact absurd hc4 hc3
   refine Z5 ?_
   refine Zp 151 ?_
   refine Zc (λhc13=>?_) λhc13=>?_
   ·have hz:¬BZ ks (l[k])=0:=by rw[LB hc2 hc3];first|exact hc13|decide|omega
    refine Zp 4 (Aa.ret ?_)
    simp only[go_sem]
    rw[m2,D0 hlt hz,LB hc2 hc3];try simp[Aj,Ay]
   have hz:BZ ks (l[k])=0:=by rw[LB hc2 hc3];first|done|exact hc13|omega
   refine Z5 ?_
   refine Z6 ?_
   refine Ze 3 4 [b6] [] [] [] (.e ⟨_,ZM,k+1,rfl,ZE,ZE,?_,?_⟩)
   · omega
   · rw [m2,DP hlt hz]
  refine Zp 191 ?_
  refine Zc (λhc5=>?_) λhc5=>?_
  ·have h0:0<(l[k]).texts.length:=r1 (.inl hc5)
   have hz0:=r3 _ (List.getElem_mem h0)
   have zf2:=λd0_=>Al Aq (l[k]).texts 0 d0_ h0
   refine Z1 31 (GM T ks GS hkn) ?_
   refine Zp 95 ?_
   refine Zc (λhc6=>?_) λhc6=>?_
   ·refine Zq λK_ k_=>?_
    simp only[go_sem,zf2]
    (repeat(with_reducible refine And.intro ZS ?_))
    refine Aw rfl rfl rfl rfl (Ib T _ ZO) rfl rfl ?_
    refine Zy ?_
    refine k_ _ _ (Ai (Ac ?_))
    refine Zm 23 ?_
    refine Zp 47 ?_
    refine Zc (λhc13=>?_) λhc13=>?_
    ·have hz:¬BZ ks (l[k])=0:=by rw[Pp hc5 hc6 h0];first|exact hc13|decide|omega
     refine Zp 4 (Aa.ret ?_)
     simp only[go_sem]
     rw[m2,D0 hlt hz,Pp hc5 hc6 h0];try simp[Aj,Ay]
    have hz:BZ ks (l[k])=0:=by rw[Pp hc5 hc6 h0];first|done|exact hc13|omega
    refine Z5 ?_
    refine Z6 ?_
    refine Ze 3 4 [b6] [] [] [] (.e ⟨_,ZM,k+1,rfl,ZE,ZE,?_,?_⟩)
    · omega
    · rw [m2,DP hlt hz]
   refine Z5 ?_
   refine Zp 151 ?_
   refine Zc (λhc13=>?_) λhc13=>?_
   ·have hz:¬BZ ks (l[k])=0:=by rw[LC hc5 hc6];first|exact hc13|decide|omega
    refine Zp 4 (Aa.ret ?_)
    simp only[go_sem]
    rw[m2,D0 hlt hz,LC hc5 hc6];try simp[Aj,Ay]
   have hz:BZ ks (l[k])=0:=by rw[LC hc5 hc6];first|done|exact hc13|omega
   refine Z5 ?_
   refine Z6 ?_
   refine Ze 3 4 [b6] [] [] [] (.e ⟨_,ZM,k+1,rfl,ZE,ZE,?_,?_⟩)
   · omega
   · rw [m2,DP hlt hz]
  refine Zp 191 ?_
  refine Zc (λhc7=>?_) λhc7=>?_
  ·refine Zq λK_ k_=>?_
   refine Zy ?_
   refine ZP (GM T ks TG hkn) ?_
   refine Zy ?_
   refine k_ _ _ (Ai (Ac ?_))
   refine Zm 23 ?_
   refine Zp 47 ?_
   refine Zc (λhc13=>?_) λhc13=>?_
   ·have hz:¬BZ ks (l[k])=0:=by rw[Pq hc7];first|exact hc13|decide|omega
    refine Zp 4 (Aa.ret ?_)
    simp only[go_sem]
    rw[m2,D0 hlt hz,Pq hc7];try simp[Aj,Ay]
   have hz:BZ ks (l[k])=0:=by rw[Pq hc7];first|done|exact hc13|omega
   refine Z5 ?_
   refine Z6 ?_
   refine Ze 3 4 [b6] [] [] [] (.e ⟨_,ZM,k+1,rfl,ZE,ZE,?_,?_⟩)
   · omega
   · rw [m2,DP hlt hz]
  refine Zs (Zp 191 ?_)
  refine Zy ?_
  apply Za (z:=(_||_)) 63 57
  ·refine Aa.cond _ rfl (λhc8=>?_) λhc8=>?_
   rotate_left
   ·refine Z6 ?_
    refine Zf 63 64 (.e ⟨BD (ES hc8 rfl),⟨rfl⟩⟩)
   refine Aa.skip (Ac ?_)
   refine Zf 63 64 (.e ⟨BD (Hc hc8),⟨rfl⟩⟩)
  refine Zy ?_
  refine Zc (λhc9=>?_) λhc9=>?_
  ·refine Z1 31 (GM T ks GU hkn) ?_
   refine Zp 95 ?_
   refine Zc (λhc10=>?_) λhc10=>?_
   ·refine Zq λK_ k_=>?_
    refine Zy ?_
    refine ZP (Tt T _ ZO) ?_
    refine Zy ?_
    refine k_ _ _ (Ai (Ac ?_))
    refine Zm 23 ?_
    refine Zp 47 ?_
    refine Zc (λhc13=>?_) λhc13=>?_
    ·have hz:¬BZ ks (l[k])=0:=by rw[Pr hc9 hc10];first|exact hc13|decide|omega
     refine Zp 4 (Aa.ret ?_)
     simp only[go_sem]
     rw[m2,D0 hlt hz,Pr hc9 hc10];try simp[Aj,Ay]
    have hz:BZ ks (l[k])=0:=by rw[Pr hc9 hc10];first|done|exact hc13|omega
    refine Z5 ?_
    refine Z6 ?_
    refine Ze 3 4 [b6] [] [] [] (.e ⟨_,ZM,k+1,rfl,ZE,ZE,?_,?_⟩)
    · omega
    · rw [m2,DP hlt hz]
   refine Z5 ?_
   refine Zp 151 ?_
   refine Zc (λhc13=>?_) λhc13=>?_
   ·have hz:¬BZ ks (l[k])=0:=by rw[LD hc9 hc10];first|exact hc13|decide|omega
    refine Zp 4 (Aa.ret ?_)
    simp only[go_sem]
    rw[m2,D0 hlt hz,LD hc9 hc10];try simp[Aj,Ay]
   have hz:BZ ks (l[k])=0:=by rw[LD hc9 hc10];first|done|exact hc13|omega
   refine Z5 ?_
   refine Z6 ?_
   refine Ze 3 4 [b6] [] [] [] (.e ⟨_,ZM,k+1,rfl,ZE,ZE,?_,?_⟩)
   · omega
   · rw [m2,DP hlt hz]
  refine Zp 159 ?_
  refine Zc (λhc11=>?_) λhc11=>?_
  ·have h0:0<(l[k]).texts.length:=r1 (.inr hc11)
   have hz0:=r3 _ (List.getElem_mem h0)
   have zf3:=λd0_=>Al Aq (l[k]).texts 0 d0_ h0
   rcases hls:B6 ((l[k]).texts[0]) with _|ads
   ·refine Zx ?_
    simp only[go_sem,zf3]
    (repeat(with_reducible refine And.intro ZS ?_))
    refine Aw rfl rfl rfl rfl (Hx T hL _ ZO hls) rfl rfl ?_
    refine Zy ?_
    refine Zm 127 ?_
    refine Zp 2097175 ?_
    refine Zc (λhc12=>?_) λhc12=>?_
    ·refine Zr (Ai (Ac ?_))
     refine Zp 79 ?_
     refine Zc (λhc13=>?_) λhc13=>?_
     ·have hz:¬BZ ks (l[k])=0:=by rw[IM hc11 h0,AdY hls];first|exact hc13|decide|omega
      refine Zp 4 (Aa.ret ?_)
      simp only[go_sem]
      rw[m2,D0 hlt hz,IM hc11 h0,AdY hls];try simp[Aj,Ay]
     first|omega|simp at hc13
    exact absurd hc12 (by first|(simp;done)|omega|(simp[*];done))
   refine Zx ?_
   simp only[go_sem,zf3]
   (repeat(with_reducible refine And.intro ZS ?_))
   refine Aw rfl rfl rfl rfl (Hy T hL _ ZO ads hls) rfl rfl ?_
   refine Zy ?_
   refine Zm 127 ?_
   refine Zp 2097175 ?_
   refine Zc (λhc12=>?_) λhc12=>?_
   ·refine Zr (Ai (Ac ?_))
    refine Zp 79 ?_
    refine Zc (λhc13=>?_) λhc13=>?_
    ·have hz:¬BZ ks (l[k])=0:=by rw[IM hc11 h0,AdZ hls (hc12.imp (λh9=>h9.resolve_left ZX) id)];first|exact hc13|decide|omega
     refine Zp 4 (Aa.ret ?_)
     simp only[go_sem]
     rw[m2,D0 hlt hz,IM hc11 h0,AdZ hls (hc12.imp (λh9=>h9.resolve_left ZX) id)];try simp[Aj,Ay]
    first|omega|simp at hc13
   refine Z5 ?_
   refine Zp 79 ?_
   refine Zc (λhc13=>?_) λhc13=>?_
   ·first|omega|simp at hc13
   have hz:BZ ks (l[k])=0:=by rw[IM hc11 h0,AhL hls ⟨hc12.1.2,by omega⟩];first|done|exact hc13|omega
   refine Z5 ?_
   refine Z6 ?_
   refine Ze 3 4 [b6] [] [] [] (.e ⟨_,ZM,k+1,rfl,ZE,ZE,?_,?_⟩)
   · omega
   · rw [m2,DP hlt hz]
  refine Z5 ?_
  refine Zp 151 ?_
  refine Zc (λhc13=>?_) λhc13=>?_
  ·first|omega|simp at hc13
  have hz:BZ ks (l[k])=0:=by rw[Yq hc1 hc2 hc5 hc7 hc9.1 hc9.2 hc11];first|done|exact hc13|omega
  refine Z5 ?_
  refine Z6 ?_
  refine Ze 3 4 [b6] [] [] [] (.e ⟨_,ZM,k+1,rfl,ZE,ZE,?_,?_⟩)
  · omega
  · rw [m2,DP hlt hz]
 refine Z4 ?_
 refine Zm 0 ?_
 refine Zp 1 (Aa.ret ?_)
 simp only[go_sem]
 rw[m2,Ut ZO];try simp[Aj,Ay]
theorem R7 (T:Ap) (hL:Bw T) (ks:List (List UInt8)) (hkn:ks.length<=1048576) (l:List Ax) (hll:l.length*208<=140737488355328) (ok:∀x∈l,x.Ok) (rd:∀x∈l,x.Rd):PC prog T 64 [.d (.slc 1 (ks.map Aq)),.d (.slc 12 (l.map AW))] (.d (.int .i64 (B9 ks l))):=by
 have H:∀c:Ax,c.Ok->c.Rd->PC prog T 64 [.d (.slc 1 (ks.map Aq)),.d (.slc 12 (Fw c))] (.d (.int .i64 (B9 ks c.thn)))/\PC prog T 64 [.d (.slc 1 (ks.map Aq)),.d (.slc 12 (E6 c))] (.d (.int .i64 (B9 ks c.els))):=λc=>by
  induction c using Ax.ind with
  |h c i1 i2=>
   intro ok rd
   obtain⟨s1,s2,s3,s4,s5,s6⟩:=ok.inv
   obtain⟨_,_,_,r4,r5⟩:=rd.inv
   rw[D2,C1]
   exact⟨M8 T hL ks hkn _ s3 s5 r4 (λx hx=>(i1 x hx (s5 x hx) (r4 x hx)).1) (λx hx=>(i1 x hx (s5 x hx) (r4 x hx)).2),M8 T hL ks hkn _ s4 s6 r5 (λx hx=>(i2 x hx (s6 x hx) (r5 x hx)).1) (λx hx=>(i2 x hx (s6 x hx) (r5 x hx)).2)⟩
 exact M8 T hL ks hkn l hll ok rd (λx hx=>(H x (ok x hx) (rd x hx)).1) (λx hx=>(H x (ok x hx) (rd x hx)).2)
end
end Go.Proofs.YtidldcfpmehpiaaGreatDoor
