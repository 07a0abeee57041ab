/- Texts that the law JudgeJudges rests on, packed. -/
import Derived.Test.YtidldcfpmehpiaaGreatDoorGB
import Derived.Test.YtidldcfpmehpiaaGreatDoorGT
import Derived.Lib.IndexBytes
import Derived.Test.YtidldcfpmehpiaaGreatDoorGC
set_option linter.unusedSimpArgs false
set_option linter.unusedVariables false
set_option maxRecDepth 20000
set_option maxHeartbeats 4000000
namespace Go.Proofs.YtidldcfpmehpiaaGreatDoor
section
abbrev Str:=List UInt8
inductive Tst where
 |mk (kind mat part:Int) (names keys:List Str) (over:Bool) (limit:Int) (kids:List Tst)
 deriving Inhabited
def Tst.kind:Tst→Int| .mk k _ _ _ _ _ _ _=>k
def Tst.mat:Tst→Int| .mk _ k _ _ _ _ _ _=>k
def Tst.part:Tst→Int| .mk _ _ k _ _ _ _ _=>k
def Tst.names:Tst→List Str| .mk _ _ _ k _ _ _ _=>k
def Tst.keys:Tst→List Str| .mk _ _ _ _ k _ _ _=>k
def Tst.over:Tst→Bool| .mk _ _ _ _ _ k _ _=>k
def Tst.limit:Tst→Int| .mk _ _ _ _ _ _ k _=>k
def Tst.kids:Tst→List Tst| .mk _ _ _ _ _ _ _ k=>k
mutual
def kidsD:Tst→List (List D)
 | .mk _ _ _ _ _ _ _ kids=>kidsL kids
def kidsL:List Tst→List (List D)
 |[]=>[]
 |t::l=>[.int .i64 t.kind,.int .i64 t.mat,.int .i64 t.part,.slc 1 (t.names.map strD),.slc 1 (t.keys.map strD),.bool t.over,.int .i64 t.limit,.slc 8 (kidsD t)]::kidsL l
end
def tstD (t:Tst):List D:=[.int .i64 t.kind,.int .i64 t.mat,.int .i64 t.part,.slc 1 (t.names.map strD),.slc 1 (t.keys.map strD),.bool t.over,.int .i64 t.limit,.slc 8 (kidsD t)]
def tstA (t:Tst):List AV:=[.d (.int .i64 t.kind),.d (.int .i64 t.mat),.d (.int .i64 t.part),.d (.slc 1 (t.names.map strD)),.d (.slc 1 (t.keys.map strD)),.d (.bool t.over),.d (.int .i64 t.limit),.d (.slc 8 (kidsD t))]
theorem kidsL_eq:∀l:List Tst,kidsL l=l.map tstD
 |[]=>rfl
 |t::l=>by
  show _::kidsL l=tstD t::l.map tstD
  rw[kidsL_eq l]
  rfl
theorem kidsD_eq (t:Tst):kidsD t=t.kids.map tstD:=by
 cases t
 exact kidsL_eq _
@[go_sem] theorem kidsD_len (t:Tst):(kidsD t).length=t.kids.length:=by rw[kidsD_eq,List.length_map]
theorem kidsD_get (t:Tst) (i:Nat) (d:List D) (h:i<t.kids.length):(kidsD t).getD i d=tstD (t.kids[i]'h):=by rw[kidsD_eq];exact map_getD tstD _ _ _ h
theorem kidsD_snoc (t:Tst) (k:Nat) (h:k<t.kids.length):(kidsD t).take k++[tstD (t.kids[k]'h)]=(kidsD t).take (k+1):=by
 rw[List.take_succ_eq_append_getElem (by rw[kidsD_len];exact h)]
 simp only[kidsD_eq,List.getElem_map]
theorem map_snoc {α β:Type} (f:α→β) (l:List α) (k:Nat) (h:k<l.length):(l.map f).take k++[f (l[k]'h)]=(l.map f).take (k+1):=by
 rw[List.take_succ_eq_append_getElem (by rw[List.length_map];exact h)]
 simp only[List.getElem_map]
theorem map_all {α β:Type} (f:α→β) (l:List α) (k:Nat) (h:l.length≤k):(l.map f).take k=l.map f:=List.take_of_length_le (by rw[List.length_map];exact h)
theorem kidsD_all (t:Tst) (k:Nat) (h:t.kids.length≤k):(kidsD t).take k=kidsD t:=List.take_of_length_le (by rw[kidsD_len];exact h)
mutual
def Tst.rank:Tst→Nat
 | .mk _ _ _ _ _ _ _ kids=>Tst.rankL kids+1
def Tst.rankL:List Tst→Nat
 |[]=>0
 |t::l=>t.rank+Tst.rankL l
end
theorem Tst.rank_mem {x:Tst} :∀{l:List Tst},x∈l→x.rank≤Tst.rankL l
 |y::l,h=>by
  unfold Tst.rankL
  rcases List.mem_cons.1 h with rfl|h
  ·omega
  ·have:=Tst.rank_mem h;omega
theorem Tst.rank_kid {t x:Tst} (h:x∈t.kids):x.rank<t.rank:=by
 cases t
 have:=Tst.rank_mem h
 show x.rank<Tst.rankL _+1
 exact Nat.lt_succ_of_le this
theorem Tst.ind {p:Tst→Prop} (h:∀t,(∀x∈t.kids,p x)→p t) (t:Tst):p t:=by
 have:∀n t,Tst.rank t<n→p t:=fun n=>by
  induction n with
  |zero=>intro t ht;omega
  |succ n ih=>exact fun t ht=>h t fun x hx=>ih x (by have:=Tst.rank_kid hx;omega)
 exact this _ t (Nat.lt_succ_self _)
inductive Tst.Ok:Tst→Prop where
 |mk {t:Tst} (h1:t.names.length*16≤140737488355328) (h2:t.keys.length*16≤140737488355328) (h3:t.kids.length*112≤140737488355328) (h4:∀x∈t.kids,Tst.Ok x):Tst.Ok t
theorem Tst.Ok.inv {t:Tst} (h:t.Ok):t.names.length*16≤140737488355328∧t.keys.length*16≤140737488355328∧t.kids.length*112≤140737488355328∧∀x∈t.kids,Tst.Ok x:=by
 cases h;exact⟨by assumption,by assumption,by assumption,by assumption⟩
inductive Cmd where
 |mk (kind:Int) (texts:List Str) (test:Tst) (thn els:List Cmd)
def Cmd.kind:Cmd→Int| .mk k _ _ _ _=>k
def Cmd.texts:Cmd→List Str| .mk _ k _ _ _=>k
def Cmd.test:Cmd→Tst| .mk _ _ k _ _=>k
def Cmd.thn:Cmd→List Cmd| .mk _ _ _ k _=>k
def Cmd.els:Cmd→List Cmd| .mk _ _ _ _ k=>k
mutual
def thnD:Cmd→List (List D)
 | .mk _ _ _ l _=>cmdsL l
def elsD:Cmd→List (List D)
 | .mk _ _ _ _ l=>cmdsL l
def cmdsL:List Cmd→List (List D)
 |[]=>[]
 |c::l=>(.int .i64 c.kind:: .slc 1 (c.texts.map strD)::(tstD c.test++[.slc 12 (thnD c),.slc 12 (elsD c)]))::cmdsL l
end
def cmdD (c:Cmd):List D:= .int .i64 c.kind:: .slc 1 (c.texts.map strD)::(tstD c.test++[.slc 12 (thnD c),.slc 12 (elsD c)])
def cmdA (c:Cmd):List AV:= .d (.int .i64 c.kind):: .d (.slc 1 (c.texts.map strD))::(tstA c.test++[.d (.slc 12 (thnD c)),.d (.slc 12 (elsD c))])
theorem cmdsL_eq:∀l:List Cmd,cmdsL l=l.map cmdD
 |[]=>rfl
 |t::l=>by
  show _::cmdsL l=cmdD t::l.map cmdD
  rw[cmdsL_eq l]
  rfl
theorem thnD_eq (c:Cmd):thnD c=c.thn.map cmdD:=by cases c;exact cmdsL_eq _
theorem elsD_eq (c:Cmd):elsD c=c.els.map cmdD:=by cases c;exact cmdsL_eq _
@[go_sem] theorem thnD_len (c:Cmd):(thnD c).length=c.thn.length:=by rw[thnD_eq,List.length_map]
@[go_sem] theorem elsD_len (c:Cmd):(elsD c).length=c.els.length:=by rw[elsD_eq,List.length_map]
theorem elsD_get (c:Cmd) (i:Nat) (d:List D) (h:i<c.els.length):(elsD c).getD i d=cmdD (c.els[i]'h):=by rw[elsD_eq];exact map_getD cmdD _ _ _ h
mutual
def Cmd.rank:Cmd→Nat
 | .mk _ _ _ a b=>Cmd.rankL a+Cmd.rankL b+1
def Cmd.rankL:List Cmd→Nat
 |[]=>0
 |t::l=>t.rank+Cmd.rankL l+1
end
theorem Cmd.rank_mem {x:Cmd} :∀{l:List Cmd},x∈l→x.rank<Cmd.rankL l
 |y::l,h=>by
  unfold Cmd.rankL
  rcases List.mem_cons.1 h with rfl|h
  ·omega
  ·have:=Cmd.rank_mem h;omega
theorem Cmd.rank_eq (c:Cmd):c.rank=Cmd.rankL c.thn+Cmd.rankL c.els+1:=by cases c;simp[Cmd.rank,Cmd.thn,Cmd.els]
theorem Cmd.ind {p:Cmd→Prop} (h:∀c,(∀x∈c.thn,p x)→(∀x∈c.els,p x)→p c) (c:Cmd):p c:=by
 have:∀n c,Cmd.rank c<n→p c:=fun n=>by
  induction n with
  |zero=>intro t ht;omega
  |succ n ih=>exact fun t ht=>h t (fun x hx=>ih x (by have:=Cmd.rank_mem hx;rw[Cmd.rank_eq] at ht;omega)) fun x hx=>ih x (by have:=Cmd.rank_mem hx;rw[Cmd.rank_eq] at ht;omega)
 exact this _ c (Nat.lt_succ_self _)
inductive Cmd.Ok:Cmd→Prop where
 |mk {c:Cmd} (h1:c.texts.length*16≤140737488355328) (h2:c.test.Ok) (h3:c.thn.length*208≤140737488355328) (h4:c.els.length*208≤140737488355328) (h5:∀x∈c.thn,Cmd.Ok x) (h6:∀x∈c.els,Cmd.Ok x):Cmd.Ok c
theorem Cmd.Ok.inv {c:Cmd} (h:c.Ok):c.texts.length*16≤140737488355328∧c.test.Ok∧c.thn.length*208≤140737488355328∧c.els.length*208≤140737488355328∧(∀x∈c.thn,Cmd.Ok x)∧∀x∈c.els,Cmd.Ok x:=by
 cases h;exact⟨by assumption,by assumption,by assumption,by assumption,by assumption,by assumption⟩
attribute [go_sem] tstD tstA cmdD cmdA
end
section
def inB (n lo hi:Int):Bool:=decide (lo≤n)&&decide (n≤hi)
def bareB (t:Tst) (n k m p u l:Bool):Bool:=(n||decide (t.names.length=0))&&(k||decide (t.keys.length=0))&&(m||decide (t.mat=0))&&(p||decide (t.part=0))&&(u||(!t.over&&decide (t.limit=0)))&&(l||decide (t.kids.length=0))
def okS (t:Tst):Bool:=
 bareB t (inB t.kind 6 8||decide (t.kind=9)) (inB t.kind 6 8) (inB t.kind 6 8) (inB t.kind 6 8&&!decide (t.kind=6)) (decide (t.kind=10)) (inB t.kind 3 5)&&
 (!(inB t.kind 6 8||decide (t.kind=9))||decide (0<t.names.length))&&
 (!inB t.kind 6 8||(decide (0<t.keys.length)&&inB t.mat 1 3&&(decide (t.kind=6)||inB t.part 1 3)))&&
 (!decide (t.kind=10)||inB t.limit 0 2147483647)&&(!inB t.kind 3 5||(decide (0<t.kids.length)&&(!decide (t.kind=3)||decide (t.kids.length=1))))
mutual
def tF:Tst→Int→Int
 | .mk a b c e f g h kids,d=>if inB a 1 10=false then 2 else if 6<d then 1 else if okS (.mk a b c e f g h kids)=false then 3 else tFL kids (d+1)
def tFL:List Tst→Int→Int
 |[],_=>0
 |x::l,d=>if tF x d=0 then tFL l d else tF x d
end
theorem tF_eq (t:Tst) (d:Int):tF t d=if inB t.kind 1 10=false then 2 else if 6<d then 1 else if okS t=false then 3 else tFL t.kids (d+1):=by
 cases t;rw[tF];rfl
theorem tFL_drop (l:List Tst) (d:Int) (k:Nat) (h:k<l.length):tFL (l.drop k) d=if tF (l[k]'h) d=0 then tFL (l.drop (k+1)) d else tF (l[k]'h) d:=by
 rw[List.drop_eq_getElem_cons h,tFL]
theorem tF_kind (t:Tst) (d:Int) (h:inB t.kind 1 10=false):tF t d=2:=by rw[tF_eq,if_pos h]
theorem tF_deep (t:Tst) (d:Int) (h:inB t.kind 1 10=true) (h2:6<d):tF t d=1:=by rw[tF_eq,if_neg (by rw[h];simp),if_pos h2]
theorem tF_shape (t:Tst) (d:Int) (h:inB t.kind 1 10=true) (h2:d≤6) (h3:okS t=false):tF t d=3:=by rw[tF_eq,if_neg (by rw[h];simp),if_neg (by omega),if_pos h3]
theorem tF_kids (t:Tst) (d:Int) (h:inB t.kind 1 10=true) (h2:d≤6) (h3:okS t=true):tF t d=tFL t.kids (d+1):=by rw[tF_eq,if_neg (by rw[h];simp),if_neg (by omega),if_neg (by rw[h3];simp)]
def okC (c:Cmd):Bool:=
 decide (c.test.kind=0)&&bareB c.test false false false false false false&&decide (c.thn.length=0)&&decide (c.els.length=0)&&
 (if c.kind=1∨c.kind=8∨c.kind=9 then decide (0<c.texts.length) else if inB c.kind 5 7 then decide (c.texts.length=1) else decide (c.texts.length=0))
end
section
theorem in_c (T:Tbl) (n lo hi:Int):PC Tryz.prog T 98 [.d (.int .i64 n),.d (.int .i64 lo),.d (.int .i64 hi)] (.d (.bool (inB n lo hi))):=by
 refine⟨Tryz.call98,PCall.enter Tryz.func98 rfl Tryz.ntmps98 fun hb=>?_⟩
 simp only[go_sem,Tryz.results98]
 refine AWp.rs fun K1 hK1=>?_
 refine Zy ?_
 refine hK1 _ _ ?_
 try clear hK1 K1
 refine AWp.rs fun K2 hK2=>?_
 refine Zy ?_
 refine hK2 _ _ ?_
 try clear hK2 K2
 refine AWp.ret ?_
 simp only[go_sem]
 all_goals rfl
theorem testBare_c (T:Tbl) (t:Tst) (n k m p u l:Bool):PC Tryz.prog T 249 [.agg (tstA t),.d (.bool n),.d (.bool k),.d (.bool m),.d (.bool p),.d (.bool u),.d (.bool l)] (.d (.bool (bareB t n k m p u l))):=by
 refine⟨Tryz.call249,PCall.enter Tryz.func249 rfl Tryz.ntmps249 fun hb=>?_⟩
 simp only[go_sem,Tryz.results249]
 refine AWp.rs fun K1 hK1=>?_
 refine Zy ?_
 intro b1 fb1
 try simp only[freshL] at fb1
 refine hK1 _ _ ?_
 try clear hK1 K1
 refine AWp.seq fun K3 hK3=>?_
 refine AWp.rs fun K4 hK4=>?_
 refine Zy ?_
 (repeat(with_reducible refine And.intro ?_ ?_;grind))
 refine hK4 _ _ ?_
 try clear hK4 K4
 refine AWp.cond _ rfl (fun hc0=>?_) (fun hc0=>?_)
 ·skip
  refine AWp.rs fun K5 hK5=>?_
  refine Zy ?_
  refine hK5 _ _ ?_
  try clear hK5 K5
  refine AWp.ret ?_
  simp only[go_sem]
  all_goals grind[bareB]
 ·skip
  refine AWp.skip ?_
  refine thenQ_n ?_
  refine hK3 _ _ ?_
  try clear hK3 K3
  refine AWp.rs fun K6 hK6=>?_
  refine Zy ?_
  (repeat(with_reducible refine And.intro ?_ ?_;grind))
  refine hK6 _ _ ?_
  try clear hK6 K6
  refine AWp.ret ?_
  simp only[go_sem]
  all_goals grind[bareB]
theorem bare_c (T:Tbl) (t:Tst) (ok:t.Ok):PC Tryz.prog T 245 [.agg (tstA t)] (.d (.bool (decide (t.kind=0)&&bareB t false false false false false false))):=by
 refine⟨Tryz.call245,PCall.enter Tryz.func245 rfl Tryz.ntmps245 fun hb=>?_⟩
 obtain⟨s1,s2,s3,s4⟩:=ok.inv
 simp only[go_sem,Tryz.results245]
 refine AWp.rs fun K1 hK1=>?_
 refine Zy ?_
 intro b1 fb1
 try simp only[freshL] at fb1
 refine hK1 _ _ ?_
 try clear hK1 K1
 refine AWp.rs fun K3 hK3=>?_
 refine Zy ?_
 (repeat(with_reducible refine And.intro ?_ ?_;(intro hg;refine⟨hg,?_⟩;omega)))
 refine hK3 _ _ ?_
 try clear hK3 K3
 refine AWp.ret ?_
 simp only[go_sem]
 all_goals grind[bareB]
theorem testFault_step (T:Tbl) (t:Tst) (ok:t.Ok) (d:Int) (hd: -9≤d) (hd2:d≤7) (ih:∀x∈t.kids,∀d:Int,-9≤d→d≤7→PC Tryz.prog T 250 [.agg (tstA x),.d (.int .i64 d)] (.d (.int .i64 (tF x d)))):PC Tryz.prog T 250 [.agg (tstA t),.d (.int .i64 d)] (.d (.int .i64 (tF t d))):=by
 refine⟨Tryz.call250,PCall.enter Tryz.func250 rfl Tryz.ntmps250 fun hb=>?_⟩
 obtain⟨s1,s2,s3,s4⟩:=ok.inv
 simp only[go_sem,Tryz.results250]
 refine AWp.rs fun K1 hK1=>?_
 refine Zy ?_
 intro b1 fb1
 try simp only[freshL] at fb1
 refine hK1 _ _ ?_
 try clear hK1 K1
 refine AWp.seq fun K3 hK3=>?_
 refine AWp.rs fun K4 hK4=>?_
 refine Zy ?_
 refine ZP (in_c T _ _ _) ?_
 refine Zy ?_
 refine hK4 _ _ ?_
 try clear hK4 K4
 refine AWp.cond _ rfl (fun hc0=>?_) (fun hc0=>?_)
 ·skip
  refine AWp.rs fun K5 hK5=>?_
  refine Zy ?_
  refine hK5 _ _ ?_
  try clear hK5 K5
  refine AWp.ret ?_
  simp only[go_sem]
  rw[tF_kind];simpa using hc0
 ·skip
  have hk:inB t.kind 1 10=true:=by simpa using hc0
  refine AWp.skip ?_
  refine thenQ_n ?_
  refine hK3 _ _ ?_
  try clear hK3 K3
  refine AWp.seq fun K6 hK6=>?_
  refine AWp.rs fun K7 hK7=>?_
  refine Zy ?_
  refine hK7 _ _ ?_
  try clear hK7 K7
  refine AWp.cond _ rfl (fun hc1=>?_) (fun hc1=>?_)
  ·skip
   refine AWp.rs fun K8 hK8=>?_
   refine Zy ?_
   refine hK8 _ _ ?_
   try clear hK8 K8
   refine AWp.ret ?_
   simp only[go_sem]
   rw[tF_deep _ _ hk (by simpa using hc1)]
  ·skip
   have hd6:d≤6:=by simpa using hc1
   refine AWp.skip ?_
   refine thenQ_n ?_
   refine hK6 _ _ ?_
   try clear hK6 K6
   refine AWp.rs fun K9 hK9=>?_
   refine Zy ?_
   refine ZP (in_c T _ _ _) ?_
   refine Zy ?_
   refine hK9 _ _ ?_
   try clear hK9 K9
   refine AWp.rs fun K10 hK10=>?_
   refine Zy ?_
   refine ZP (in_c T _ _ _) ?_
   refine Zy ?_
   refine hK10 _ _ ?_
   try clear hK10 K10
   refine AWp.rs fun K11 hK11=>?_
   refine Zy ?_
   (repeat(with_reducible refine And.intro ?_ ?_;grind))
   refine ZP (testBare_c T _ _ _ _ _ _ _) ?_
   refine Zy ?_
   refine hK11 _ _ ?_
   try clear hK11 K11
   refine AWp.join (fun s h=>s=[.any,.d (.int .i64 d),.ptr b1 8 0 0,.any,.any,.d (.bool (inB t.kind 6 8)),.d (.bool (inB t.kind 3 5)),.d (.bool (bareB t (inB t.kind 6 8||decide (t.kind=9)) (inB t.kind 6 8) (inB t.kind 6 8) (inB t.kind 6 8&&!decide (t.kind=6)) (decide (t.kind=10)) (inB t.kind 3 5)&&(!(inB t.kind 6 8||decide (t.kind=9))||decide (0<t.names.length)))),.any,.any,.any,.any,.any,.any,.any,.any,.any,.any,.any,.any,.any,.any,.any,.any,.any,.any,.any,.any,.any,.any,.any,.any,.any,.any,.any,.any,.any,.any,.any,.any,.any,.any,.any,.any,.any,.any,.any,.any,.any,.any,.any,.any,.any,.any,.any,.any,.any,.any,.any,.any,.any,.any,.any,.any,.any,.any,.any,.any,.any,.any,.any,.any,.any,.any,.any,.any,.any,.any,.any,.any,.any,.any,.any,.any,.any,.any,.any,.any,.any,.any,.any,.any,.any,.any,.any,.any,.any,.any,.any,.any,.any,.any,.any,.any,.any,.any,.any,.any,.any,.any,.any,.any,.any,.any,.any,.any,.any,.any,.any,.any,.any,.any,.any,.any,.any,.any]∧h=⟨[(b1,⟨8,1,[tstA t]⟩)],[]⟩) ?_ ?_
   ·skip
    refine AWp.rs fun K12 hK12=>?_
    refine Zy ?_
    (repeat(with_reducible refine And.intro ?_ ?_;grind))
    refine hK12 _ _ ?_
    try clear hK12 K12
    refine AWp.cond _ rfl (fun hc2=>?_) (fun hc2=>?_)
    ·skip
     refine AWp.rk fun K13 hK13=>?_
     refine Zy ?_
     refine hK13 _ _ ?_
     try clear hK13 K13
     refine thenQ_n ?_
     (refine⟨0,0,_,_,?_,?_,rfl,rfl⟩)<;>try simp only[go_sem]
     all_goals(first|grind (splits:=30)|(subst hz;simp_all;done)|(subst hz;simp_all;omega)|(subst hz;simp_all;grind))
    ·skip
     refine AWp.skip ?_
     refine thenQ_n ?_
     (refine⟨0,0,_,_,?_,?_,rfl,rfl⟩)<;>try simp only[go_sem]
     all_goals(first|grind (splits:=30)|(subst hz;simp_all;done)|(subst hz;simp_all;omega)|(subst hz;simp_all;grind))
   rintro s h ⟨rfl,rfl⟩
   generalize hz:(bareB t (inB t.kind 6 8||decide (t.kind=9)) (inB t.kind 6 8) (inB t.kind 6 8) (inB t.kind 6 8&&!decide (t.kind=6)) (decide (t.kind=10)) (inB t.kind 3 5)&&(!(inB t.kind 6 8||decide (t.kind=9))||decide (0<t.names.length)))=z
   refine Zy ?_
   refine AWp.join (fun s h=>s=[.any,.d (.int .i64 d),.ptr b1 8 0 0,.any,.any,.d (.bool (inB t.kind 6 8)),.d (.bool (inB t.kind 3 5)),.d (.bool (bareB t (inB t.kind 6 8||decide (t.kind=9)) (inB t.kind 6 8) (inB t.kind 6 8) (inB t.kind 6 8&&!decide (t.kind=6)) (decide (t.kind=10)) (inB t.kind 3 5)&&(!(inB t.kind 6 8||decide (t.kind=9))||decide (0<t.names.length))&&(!inB t.kind 6 8||(decide (0<t.keys.length)&&inB t.mat 1 3&&(decide (t.kind=6)||inB t.part 1 3))))),.any,.any,.any,.any,.any,.any,.any,.any,.any,.any,.any,.any,.any,.any,.any,.any,.any,.any,.any,.any,.any,.any,.any,.any,.any,.any,.any,.any,.any,.any,.any,.any,.any,.any,.any,.any,.any,.any,.any,.any,.any,.any,.any,.any,.any,.any,.any,.any,.any,.any,.any,.any,.any,.any,.any,.any,.any,.any,.any,.any,.any,.any,.any,.any,.any,.any,.any,.any,.any,.any,.any,.any,.any,.any,.any,.any,.any,.any,.any,.any,.any,.any,.any,.any,.any,.any,.any,.any,.any,.any,.any,.any,.any,.any,.any,.any,.any,.any,.any,.any,.any,.any,.any,.any,.any,.any,.any,.any,.any,.any,.any,.any,.any,.any,.any,.any,.any,.any]∧h=⟨[(b1,⟨8,1,[tstA t]⟩)],[]⟩) ?_ ?_
   ·skip
    refine AWp.rs fun K14 hK14=>?_
    refine Zy ?_
    refine hK14 _ _ ?_
    try clear hK14 K14
    refine AWp.cond _ rfl (fun hc3=>?_) (fun hc3=>?_)
    ·skip
     refine AWp.rk fun K15 hK15=>?_
     refine Zy ?_
     refine ZQ (fun hg=>in_c T _ _ _) ?_
     refine Zy ?_
     refine ZQ (fun hg=>in_c T _ _ _) ?_
     refine Zy ?_
     (repeat(with_reducible refine And.intro ?_ ?_;grind))
     refine hK15 _ _ ?_
     try clear hK15 K15
     refine thenQ_n ?_
     (refine⟨0,0,_,_,?_,?_,rfl,rfl⟩)<;>try simp only[go_sem]
     all_goals(first|grind (splits:=30)|(subst hz;simp_all;done)|(subst hz;simp_all;omega)|(subst hz;simp_all;grind))
    ·skip
     refine AWp.skip ?_
     refine thenQ_n ?_
     (refine⟨0,0,_,_,?_,?_,rfl,rfl⟩)<;>try simp only[go_sem]
     all_goals(first|grind (splits:=30)|(subst hz;simp_all;done)|(subst hz;simp_all;omega)|(subst hz;simp_all;grind))
   rintro s h ⟨rfl,rfl⟩
   generalize hz:(bareB t (inB t.kind 6 8||decide (t.kind=9)) (inB t.kind 6 8) (inB t.kind 6 8) (inB t.kind 6 8&&!decide (t.kind=6)) (decide (t.kind=10)) (inB t.kind 3 5)&&(!(inB t.kind 6 8||decide (t.kind=9))||decide (0<t.names.length))&&(!inB t.kind 6 8||(decide (0<t.keys.length)&&inB t.mat 1 3&&(decide (t.kind=6)||inB t.part 1 3))))=z
   refine Zy ?_
   refine AWp.join (fun s h=>s=[.any,.d (.int .i64 d),.ptr b1 8 0 0,.any,.any,.d (.bool (inB t.kind 6 8)),.d (.bool (inB t.kind 3 5)),.d (.bool (bareB t (inB t.kind 6 8||decide (t.kind=9)) (inB t.kind 6 8) (inB t.kind 6 8) (inB t.kind 6 8&&!decide (t.kind=6)) (decide (t.kind=10)) (inB t.kind 3 5)&&(!(inB t.kind 6 8||decide (t.kind=9))||decide (0<t.names.length))&&(!inB t.kind 6 8||(decide (0<t.keys.length)&&inB t.mat 1 3&&(decide (t.kind=6)||inB t.part 1 3)))&&(!decide (t.kind=10)||inB t.limit 0 2147483647))),.any,.any,.any,.any,.any,.any,.any,.any,.any,.any,.any,.any,.any,.any,.any,.any,.any,.any,.any,.any,.any,.any,.any,.any,.any,.any,.any,.any,.any,.any,.any,.any,.any,.any,.any,.any,.any,.any,.any,.any,.any,.any,.any,.any,.any,.any,.any,.any,.any,.any,.any,.any,.any,.any,.any,.any,.any,.any,.any,.any,.any,.any,.any,.any,.any,.any,.any,.any,.any,.any,.any,.any,.any,.any,.any,.any,.any,.any,.any,.any,.any,.any,.any,.any,.any,.any,.any,.any,.any,.any,.any,.any,.any,.any,.any,.any,.any,.any,.any,.any,.any,.any,.any,.any,.any,.any,.any,.any,.any,.any,.any,.any,.any,.any,.any,.any,.any,.any]∧h=⟨[(b1,⟨8,1,[tstA t]⟩)],[]⟩) ?_ ?_
   ·skip
    refine AWp.rs fun K16 hK16=>?_
    refine Zy ?_
    refine hK16 _ _ ?_
    try clear hK16 K16
    refine AWp.cond _ rfl (fun hc4=>?_) (fun hc4=>?_)
    ·skip
     refine AWp.rk fun K17 hK17=>?_
     refine Zy ?_
     refine ZQ (fun hg=>in_c T _ _ _) ?_
     refine Zy ?_
     refine hK17 _ _ ?_
     try clear hK17 K17
     refine thenQ_n ?_
     (refine⟨0,0,_,_,?_,?_,rfl,rfl⟩)<;>try simp only[go_sem]
     all_goals(first|grind (splits:=30)|(subst hz;simp_all;done)|(subst hz;simp_all;omega)|(subst hz;simp_all;grind))
    ·skip
     refine AWp.skip ?_
     refine thenQ_n ?_
     (refine⟨0,0,_,_,?_,?_,rfl,rfl⟩)<;>try simp only[go_sem]
     all_goals(first|grind (splits:=30)|(subst hz;simp_all;done)|(subst hz;simp_all;omega)|(subst hz;simp_all;grind))
   rintro s h ⟨rfl,rfl⟩
   generalize hz:(bareB t (inB t.kind 6 8||decide (t.kind=9)) (inB t.kind 6 8) (inB t.kind 6 8) (inB t.kind 6 8&&!decide (t.kind=6)) (decide (t.kind=10)) (inB t.kind 3 5)&&(!(inB t.kind 6 8||decide (t.kind=9))||decide (0<t.names.length))&&(!inB t.kind 6 8||(decide (0<t.keys.length)&&inB t.mat 1 3&&(decide (t.kind=6)||inB t.part 1 3)))&&(!decide (t.kind=10)||inB t.limit 0 2147483647))=z
   refine Zy ?_
   refine AWp.join (fun s h=>s=[.any,.d (.int .i64 d),.ptr b1 8 0 0,.any,.any,.d (.bool (inB t.kind 6 8)),.d (.bool (inB t.kind 3 5)),.d (.bool (bareB t (inB t.kind 6 8||decide (t.kind=9)) (inB t.kind 6 8) (inB t.kind 6 8) (inB t.kind 6 8&&!decide (t.kind=6)) (decide (t.kind=10)) (inB t.kind 3 5)&&(!(inB t.kind 6 8||decide (t.kind=9))||decide (0<t.names.length))&&(!inB t.kind 6 8||(decide (0<t.keys.length)&&inB t.mat 1 3&&(decide (t.kind=6)||inB t.part 1 3)))&&(!decide (t.kind=10)||inB t.limit 0 2147483647)&&(!inB t.kind 3 5||(decide (0<t.kids.length)&&(!decide (t.kind=3)||decide (t.kids.length=1)))))),.any,.any,.any,.any,.any,.any,.any,.any,.any,.any,.any,.any,.any,.any,.any,.any,.any,.any,.any,.any,.any,.any,.any,.any,.any,.any,.any,.any,.any,.any,.any,.any,.any,.any,.any,.any,.any,.any,.any,.any,.any,.any,.any,.any,.any,.any,.any,.any,.any,.any,.any,.any,.any,.any,.any,.any,.any,.any,.any,.any,.any,.any,.any,.any,.any,.any,.any,.any,.any,.any,.any,.any,.any,.any,.any,.any,.any,.any,.any,.any,.any,.any,.any,.any,.any,.any,.any,.any,.any,.any,.any,.any,.any,.any,.any,.any,.any,.any,.any,.any,.any,.any,.any,.any,.any,.any,.any,.any,.any,.any,.any,.any,.any,.any,.any,.any,.any,.any]∧h=⟨[(b1,⟨8,1,[tstA t]⟩)],[]⟩) ?_ ?_
   ·skip
    refine AWp.rs fun K18 hK18=>?_
    refine Zy ?_
    refine hK18 _ _ ?_
    try clear hK18 K18
    refine AWp.cond _ rfl (fun hc5=>?_) (fun hc5=>?_)
    ·skip
     refine AWp.rk fun K19 hK19=>?_
     refine Zy ?_
     (repeat(with_reducible refine And.intro ?_ ?_;grind))
     refine hK19 _ _ ?_
     try clear hK19 K19
     refine thenQ_n ?_
     (refine⟨0,0,_,_,?_,?_,rfl,rfl⟩)<;>try simp only[go_sem]
     all_goals(first|grind (splits:=30)|(subst hz;simp_all;done)|(subst hz;simp_all;omega)|(subst hz;simp_all;grind))
    ·skip
     refine AWp.skip ?_
     refine thenQ_n ?_
     (refine⟨0,0,_,_,?_,?_,rfl,rfl⟩)<;>try simp only[go_sem]
     all_goals(first|grind (splits:=30)|(subst hz;simp_all;done)|(subst hz;simp_all;omega)|(subst hz;simp_all;grind))
   rintro s h ⟨rfl,rfl⟩
   generalize hz:(bareB t (inB t.kind 6 8||decide (t.kind=9)) (inB t.kind 6 8) (inB t.kind 6 8) (inB t.kind 6 8&&!decide (t.kind=6)) (decide (t.kind=10)) (inB t.kind 3 5)&&(!(inB t.kind 6 8||decide (t.kind=9))||decide (0<t.names.length))&&(!inB t.kind 6 8||(decide (0<t.keys.length)&&inB t.mat 1 3&&(decide (t.kind=6)||inB t.part 1 3)))&&(!decide (t.kind=10)||inB t.limit 0 2147483647)&&(!inB t.kind 3 5||(decide (0<t.kids.length)&&(!decide (t.kind=3)||decide (t.kids.length=1)))))=z
   refine Zy ?_
   refine AWp.seq fun K20 hK20=>?_
   refine AWp.rs fun K21 hK21=>?_
   refine Zy ?_
   refine hK21 _ _ ?_
   try clear hK21 K21
   refine AWp.cond _ rfl (fun hc6=>?_) (fun hc6=>?_)
   ·skip
    refine AWp.rs fun K22 hK22=>?_
    refine Zy ?_
    refine hK22 _ _ ?_
    try clear hK22 K22
    refine AWp.ret ?_
    simp only[go_sem]
    have hs:okS t=false:=by
     rw[okS];grind (splits:=30)
    rw[tF_shape _ _ hk hd6 hs]
   ·skip
    have hs:okS t=true:=by
     rw[okS];grind (splits:=30)
    have h0:=tF_kids _ _ hk hd6 hs
    refine AWp.skip ?_
    refine thenQ_n ?_
    refine hK20 _ _ ?_
    try clear hK20 K20
    refine AWp.seq fun K23 hK23=>?_
    refine AWp.rs fun K24 hK24=>?_
    refine Zy ?_
    refine hK24 _ _ ?_
    try clear hK24 K24
    refine AWp.block (AWp.loop [1,2,8] (fun n s h=> ∃(k:Nat),k≤t.kids.length∧tF t d=tFL (t.kids.drop k) (d+1)∧n=t.kids.length-k∧s=[.any,.d (.int .i64 d),.ptr b1 8 0 0,.any,.any,.any,.any,.any,.d (.int .i64 k),.any,.any,.any,.any,.any,.any,.any,.any,.any,.any,.any,.any,.any,.any,.any,.any,.any,.any,.any,.any,.any,.any,.any,.any,.any,.any,.any,.any,.any,.any,.any,.any,.any,.any,.any,.any,.any,.any,.any,.any,.any,.any,.any,.any,.any,.any,.any,.any,.any,.any,.any,.any,.any,.any,.any,.any,.any,.any,.any,.any,.any,.any,.any,.any,.any,.any,.any,.any,.any,.any,.any,.any,.any,.any,.any,.any,.any,.any,.any,.any,.any,.any,.any,.any,.any,.any,.any,.any,.any,.any,.any,.any,.any,.any,.any,.any,.any,.any,.any,.any,.any,.any,.any,.any,.any,.any,.any,.any,.any,.any,.any,.any,.any,.any,.any,.any,.any]∧h=⟨[(b1,⟨8,1,[tstA t]⟩)],[]⟩) ⟨_,0,Nat.zero_le _,h0,rfl,rfl,rfl⟩ ?_)
    rintro n s h ⟨k,hk,htf,rfl,rfl,rfl⟩
    refine Zy ?_
    refine AWp.seq fun K25 hK25=>?_
    refine AWp.rs fun K26 hK26=>?_
    refine Zy ?_
    refine hK26 _ _ ?_
    try clear hK26 K26
    refine AWp.cond _ rfl (fun hc7=>?_) (fun hc7=>?_)
    ·skip
     have hlt:k<t.kids.length:=by simpa using hc7
     refine AWp.skip ?_
     refine thenQ_n ?_
     refine hK25 _ _ ?_
     try clear hK25 K25
     refine AWp.seq fun K27 hK27=>?_
     refine AWp.block (AWp.rs fun K28 hK28=>?_)
     simp only[go_sem,kidsD_get t k _ hlt]
     (repeat(with_reducible refine And.intro ?_ ?_;omega))
     refine DW.pcr rfl rfl rfl rfl (ih _ (List.getElem_mem hlt) _ (by omega) (by omega)) rfl rfl ?_
     refine Zy ?_
     refine hK28 _ _ ?_
     try clear hK28 K28
     refine AWp.rs fun K29 hK29=>?_
     refine Zy ?_
     refine hK29 _ _ ?_
     try clear hK29 K29
     refine AWp.cond _ rfl (fun hc8=>?_) (fun hc8=>?_)
     ·skip
      refine AWp.rs fun K30 hK30=>?_
      refine Zy ?_
      refine hK30 _ _ ?_
      try clear hK30 K30
      refine AWp.ret ?_
      simp only[go_sem]
      rw[htf,tFL_drop _ _ _ hlt,if_neg (by simpa using hc8)]
     ·skip
      refine AWp.skip ?_
      refine blkQ_n (thenQ_n ?_)
      refine hK27 _ _ ?_
      try clear hK27 K27
      refine AWp.rk fun K31 hK31=>?_
      refine Zy ?_
      (repeat(with_reducible refine And.intro ?_ ?_;omega))
      refine hK31 _ _ ?_
      try clear hK31 K31
      refine thenQ_n ?_
      refine⟨_,0,0,?_,k+1,by omega,?_,rfl,rfl,rfl⟩
      ·omega
      ·rw[htf,tFL_drop _ _ _ hlt,if_pos (by simpa using hc8)]
    ·skip
     refine AWp.exit ?_
     refine thenQ_e (thenQ_e (blkQ_e (thenQ_n ?_)))
     refine hK23 _ _ ?_
     try clear hK23 K23
     refine AWp.rs fun K32 hK32=>?_
     refine Zy ?_
     refine hK32 _ _ ?_
     try clear hK32 K32
     refine AWp.ret ?_
     simp only[go_sem]
     have:t.kids.drop k=[]:=List.drop_eq_nil_of_le (by simp at hc7;omega)
     rw[htf,this,tFL]
theorem testFault_c (T:Tbl) (t:Tst) (ok:t.Ok) (d:Int) (hd: -9≤d) (hd2:d≤7):PC Tryz.prog T 250 [.agg (tstA t),.d (.int .i64 d)] (.d (.int .i64 (tF t d))):=by
 induction t using Tst.ind generalizing d with
 |h t ih=>exact testFault_step T t ok d hd hd2 fun x hx d h1 h2=>ih x hx (ok.inv.2.2.2 x hx) d h1 h2
end
section
def shB (t:Tst):Bool:=if inB t.kind 3 5 then(decide (t.kids.length=1)||(!decide (t.kind=3)&&decide (0<t.kids.length))) else if inB t.kind 6 8 then((decide (1≤t.mat)&&decide (t.mat≤3))&&decide (0<t.names.length)&&decide (0<t.keys.length)&&(decide (t.kind=6)||(decide (1≤t.part)&&decide (t.part≤3)))) else if t.kind=9 then decide (0<t.names.length) else if t.kind=10 then(decide (0≤t.limit)&&decide (t.limit≤2147483647)) else true
def eqB (t:Tst):Bool:=shB t&&((inB t.kind 6 8||decide (t.kind=9))||decide (t.names.length=0))&&((inB t.kind 6 8)||decide (t.keys.length=0))&&((inB t.kind 6 8)||decide (t.mat=0))&&((inB t.kind 6 8&&!decide (t.kind=6))||decide (t.part=0))&&(decide (t.kind=10)||!t.over)&&(decide (t.kind=10)||decide (t.limit=0))
theorem eqB_ok (t:Tst) (hk:inB t.kind 1 10=true):(eqB t&&(inB t.kind 3 5||decide (t.kids.length=0)))=okS t:=by
 have:t.kind=1∨t.kind=2∨t.kind=3∨t.kind=4∨t.kind=5∨t.kind=6∨t.kind=7∨t.kind=8∨t.kind=9∨t.kind=10:=by simp[inB] at hk;omega
 rcases this with h|h|h|h|h|h|h|h|h|h<;>simp[okS,bareB,eqB,shB,inB,h]<;>grind
def neP (t:Tst):Prop:=((((((t.names.length:Int)≠((if inB t.kind 6 8=true∨t.kind=9 then t.names else []).length:Int))∨((t.keys.length:Int)≠((if inB t.kind 6 8=true then t.keys else []).length:Int)))∨(t.mat≠if inB t.kind 6 8=true then t.mat else 0))∨(t.part≠if inB t.kind 6 8=true∧¬t.kind=6 then t.part else 0))∨(t.over≠(decide (t.kind=10)&&t.over)))∨(t.limit≠if t.kind=10 then t.limit else 0)
theorem eqB_t (t:Tst) (h:neP t):eqB t=false:=by
 unfold neP at h
 cases h1:inB t.kind 6 8<;>by_cases h9:t.kind=9<;>by_cases h6:t.kind=6<;>by_cases h10:t.kind=10<;>simp only[eqB,h1] at h⊢ <;>simp[h9,h6,h10] at h⊢ <;>grind
theorem eqB_f (t:Tst) (h:¬neP t):eqB t=shB t:=by
 unfold neP at h
 cases h1:inB t.kind 6 8<;>by_cases h9:t.kind=9<;>by_cases h6:t.kind=6<;>by_cases h10:t.kind=10<;>simp only[eqB,h1] at h⊢ <;>simp[h9,h6,h10] at h⊢ <;>grind
theorem checkTest_step (T:Tbl) (t:Tst) (ok:t.Ok) (d:Int) (hd: -9≤d) (hd2:d≤7) (ih:∀x∈t.kids,∀d:Int,-9≤d→d≤7→PC Tryz.prog T 244 [.agg (tstA x),.d (.int .i64 d)] (.d (.int .i64 (tF x d)))):PC Tryz.prog T 244 [.agg (tstA t),.d (.int .i64 d)] (.d (.int .i64 (tF t d))):=by
 refine⟨Tryz.call244,PCall.enterS Tryz.func244 rfl Tryz.ntmps244 rfl fun hb=>?_⟩
 obtain⟨s1,s2,s3,s4⟩:=ok.inv
 have kl:((t.kids.length:Int)=1)=(t.kids.length=1):=by simp only[eq_iff_iff];omega
 simp only[go_sem,Tryz.results244]
 refine Zx (Zy ?_)
 intro b1
 first|intro fb1|have fb1:=True.intro
 try simp only[freshL] at fb1
 refine Zs (Zp 2054 ?_)
 refine Zc (fun hc0=>?_) fun hc0=>?_
 ·
  refine Zp 4 ?_
  refine AWp.ret ?_
  simp only[go_sem]
  rw[tF_kind];grind[inB]
 have hk:inB t.kind 1 10=true:=by grind[inB]
 refine Zk ?_
 refine Zs (Zp 19 ?_)
 refine Zc (fun hc1=>?_) fun hc1=>?_
 ·
  refine Zp 4 ?_
  refine AWp.ret ?_
  simp only[go_sem]
  rw[tF_deep _ _ hk (by omega)]
 have hd6:d≤6:=by omega
 refine Zk ?_
 refine Zx (Zy ?_)
 intro b5
 first|intro fb5|have fb5:=True.intro
 try simp only[freshL] at fb5
 refine Zm 7 ?_
 refine Zp 15 ?_
 refine Zy ?_
 refine Zj 7 (fun lc hc=>EqS lc [(6,.d (.bool (shB t)))]∧EqS hc (⟨[(b5,⟨8,1,[[.d (.int .i64 t.kind),.d (.int .i64 (if(inB t.kind 6 8) then t.mat else 0)),.d (.int .i64 (if(inB t.kind 6 8&&!decide (t.kind=6)) then t.part else 0)),.d (.slc 1 ((if(inB t.kind 6 8||decide (t.kind=9)) then t.names else []).map strD)),.d (.slc 1 ((if(inB t.kind 6 8) then t.keys else []).map strD)),.d (.bool (decide (t.kind=10)&&t.over)),.d (.int .i64 (if t.kind=10 then t.limit else 0)),.nils]]⟩),(b1,⟨8,1,[tstA t]⟩)],[]⟩)) ?_ ?_
 ·
  refine Zp 47 ?_
  refine AWp.block (Zs (Zp 63 ?_))
  refine Zy ?_
  apply Za (z:=(_||(_||_))) 31 25
  ·
   refine AWp.cond _ rfl (fun hc2=>?_) fun hc2=>?_
   rotate_left
   ·
    refine Zp 63 ?_
    refine AWp.cond _ rfl (fun hc3=>?_) fun hc3=>?_
    rotate_left
    ·
     refine Zr (thenQ_n ?_)
     refine Zf 31 32 (.e ⟨EqS.bo (or_f hc2 (or_f hc3 rfl)),⟨rfl⟩⟩)
    refine AWp.skip (thenQ_n ?_)
    refine Zf 31 32 (.e ⟨EqS.bo (or_f hc2 (or_t hc3)),⟨rfl⟩⟩)
   refine AWp.skip (thenQ_n ?_)
   refine Zf 31 32 (.e ⟨EqS.bo (or_t hc2),⟨rfl⟩⟩)
  refine Zy ?_
  refine Zc (fun hc4=>?_) fun hc4=>?_
  ·
   have e35:inB t.kind 3 5=true:=by simp[inB];omega
   have e68:inB t.kind 6 8=false:=by simp[inB];omega
   have k9:¬t.kind=9:=by omega
   have k10:¬t.kind=10:=by omega
   refine Zr (blkQ_n (thenQ_n ?_))
   refine Zf 7 8 (.w (([(6,.d (.bool (shB t)))])) (((⟨[(b5,⟨8,1,[[.d (.int .i64 t.kind),.d (.int .i64 (if(inB t.kind 6 8) then t.mat else 0)),.d (.int .i64 (if(inB t.kind 6 8&&!decide (t.kind=6)) then t.part else 0)),.d (.slc 1 ((if(inB t.kind 6 8||decide (t.kind=9)) then t.names else []).map strD)),.d (.slc 1 ((if(inB t.kind 6 8) then t.keys else []).map strD)),.d (.bool (decide (t.kind=10)&&t.over)),.d (.int .i64 (if t.kind=10 then t.limit else 0)),.nils]]⟩),(b1,⟨8,1,[tstA t]⟩)],[]⟩:AH).objs)) ?_ ?_ ⟨⟨rfl⟩,⟨rfl⟩⟩)
   · simp only[go_sem,LeSl]<;>(first|(simp[shB,e35];done)|(simp[shB,inB,kl,hc0,hc1,hc4,e35,e68,k9,k10];done)|(simp[shB,inB,kl,hc0,hc1,hc4,e35,e68,k9,k10]<;>omega)|(simp[shB,kl,hc0,hc1,hc4,e35,e68,k9,k10]<;>grind))
   · simp only[go_sem]<;>(first|(simp[e68,k9,k10];done)|(simp[inB,kl,hc0,hc1,hc4,e35,e68,k9,k10];done)|(simp[inB,kl,hc0,hc1,hc4,e35,e68,k9,k10]<;>omega)|(simp[kl,hc0,hc1,hc4,e35,e68,k9,k10]<;>grind))
  have e35:inB t.kind 3 5=false:=by simp[inB];omega
  refine Zs (Zp 95 ?_)
  refine Zy ?_
  apply Za (z:=(_||(_||_))) 31 44
  ·
   refine AWp.cond _ rfl (fun hc5=>?_) fun hc5=>?_
   rotate_left
   ·
    refine Zp 63 ?_
    refine AWp.cond _ rfl (fun hc6=>?_) fun hc6=>?_
    rotate_left
    ·
     refine Zr (thenQ_n ?_)
     refine Zf 31 32 (.e ⟨EqS.bo (or_f hc5 (or_f hc6 rfl)),⟨rfl⟩⟩)
    refine AWp.skip (thenQ_n ?_)
    refine Zf 31 32 (.e ⟨EqS.bo (or_f hc5 (or_t hc6)),⟨rfl⟩⟩)
   refine AWp.skip (thenQ_n ?_)
   refine Zf 31 32 (.e ⟨EqS.bo (or_t hc5),⟨rfl⟩⟩)
  refine Zy ?_
  refine Zc (fun hc7=>?_) fun hc7=>?_
  ·
   have e68:inB t.kind 6 8=true:=by simp[inB];omega
   have k9:¬t.kind=9:=by omega
   have k10:¬t.kind=10:=by omega
   refine Zp 15 ?_
   refine Zs (Zp 79 ?_)
   refine Zc (fun hc8=>?_) fun hc8=>?_
   ·
    refine Zp 15 ?_
    refine Zr (thenQ_n ?_)
    refine AWp.tree true (.seg 0 (.seg 1 (.seg 2 (.seg 4 (.seg 6 (.many (.alt 3 (.many (.alt 5 (.seg 7 (.seg 8 (.seg 9 (.seg 10 (.seg 11 (.done)))))) (.alt 7 (.seg 8 (.many (.alt 5 (.seg 9 (.seg 10 (.seg 11 (.done)))) (.alt 9 (.seg 5 (.seg 10 (.seg 11 (.done)))) (.nil))))) (.nil)))) (.alt 5 (.many (.alt 3 (.seg 7 (.seg 8 (.seg 9 (.seg 10 (.seg 11 (.done)))))) (.alt 7 (.seg 3 (.seg 8 (.seg 9 (.seg 10 (.seg 11 (.done)))))) (.nil)))) (.alt 7 (.seg 3 (.seg 8 (.many (.alt 5 (.seg 9 (.seg 10 (.seg 11 (.done)))) (.alt 9 (.seg 5 (.seg 10 (.seg 11 (.done)))) (.nil)))))) (.nil)))))))))) rfl (by kernel_rfl) fun K_ hK_=>?_
    simp only[go_sem,fb5]
    refine hK_ _ _ ?_
    refine blkQ_n (thenQ_n ?_)
    refine Zf 7 8 (.w (([(6,.d (.bool (shB t)))])) (((⟨[(b5,⟨8,1,[[.d (.int .i64 t.kind),.d (.int .i64 (if(inB t.kind 6 8) then t.mat else 0)),.d (.int .i64 (if(inB t.kind 6 8&&!decide (t.kind=6)) then t.part else 0)),.d (.slc 1 ((if(inB t.kind 6 8||decide (t.kind=9)) then t.names else []).map strD)),.d (.slc 1 ((if(inB t.kind 6 8) then t.keys else []).map strD)),.d (.bool (decide (t.kind=10)&&t.over)),.d (.int .i64 (if t.kind=10 then t.limit else 0)),.nils]]⟩),(b1,⟨8,1,[tstA t]⟩)],[]⟩:AH).objs)) ?_ ?_ ⟨⟨rfl⟩,⟨rfl⟩⟩)
    · simp only[go_sem,LeSl]<;>(first|(simp[shB,e35,e68,hc8];done)|(simp[shB,inB,hc4,k9,k10,hc8];done)|(simp[shB,inB,hc4,k9,k10,hc8]<;>omega)|(simp[shB,e35,e68,hc8]<;>grind))
    · simp only[go_sem]<;>(first|(simp[e68,k9,k10,hc8];done)|(simp[inB,kl,hc0,hc1,hc4,e35,hc7,e68,k9,k10,hc8];done)|(simp[inB,kl,hc0,hc1,hc4,e35,hc7,e68,k9,k10,hc8]<;>omega)|(simp[kl,hc0,hc1,hc4,e35,hc7,e68,k9,k10,hc8]<;>grind))
   refine Zk ?_
   refine AWp.tree true (.seg 0 (.seg 1 (.seg 2 (.seg 4 (.seg 6 (.many (.alt 3 (.many (.alt 5 (.seg 7 (.seg 8 (.seg 9 (.seg 10 (.seg 11 (.done)))))) (.alt 7 (.seg 8 (.many (.alt 5 (.seg 9 (.seg 10 (.seg 11 (.done)))) (.alt 9 (.seg 5 (.seg 10 (.seg 11 (.done)))) (.nil))))) (.nil)))) (.alt 5 (.many (.alt 3 (.seg 7 (.seg 8 (.seg 9 (.seg 10 (.seg 11 (.done)))))) (.alt 7 (.seg 3 (.seg 8 (.seg 9 (.seg 10 (.seg 11 (.done)))))) (.nil)))) (.alt 7 (.seg 3 (.seg 8 (.many (.alt 5 (.seg 9 (.seg 10 (.seg 11 (.done)))) (.alt 9 (.seg 5 (.seg 10 (.seg 11 (.done)))) (.nil)))))) (.nil)))))))))) rfl (by kernel_rfl) fun K_ hK_=>?_
   simp only[go_sem,fb5]
   refine hK_ _ _ ?_
   refine blkQ_n (thenQ_n ?_)
   refine Zf 7 8 (.w (([(6,.d (.bool (shB t)))])) (((⟨[(b5,⟨8,1,[[.d (.int .i64 t.kind),.d (.int .i64 (if(inB t.kind 6 8) then t.mat else 0)),.d (.int .i64 (if(inB t.kind 6 8&&!decide (t.kind=6)) then t.part else 0)),.d (.slc 1 ((if(inB t.kind 6 8||decide (t.kind=9)) then t.names else []).map strD)),.d (.slc 1 ((if(inB t.kind 6 8) then t.keys else []).map strD)),.d (.bool (decide (t.kind=10)&&t.over)),.d (.int .i64 (if t.kind=10 then t.limit else 0)),.nils]]⟩),(b1,⟨8,1,[tstA t]⟩)],[]⟩:AH).objs)) ?_ ?_ ⟨⟨rfl⟩,⟨rfl⟩⟩)
   · simp only[go_sem,LeSl]<;>(first|(simp[shB,hc8];done)|(simp[shB,inB,hc8];done)|(simp[shB,inB,kl,hc0,hc1,hc4,e35,hc7,e68,k9,k10,hc8]<;>omega)|(simp[shB,kl,hc0,hc1,hc4,e35,hc7,e68,k9,k10,hc8]<;>grind))
   · simp only[go_sem]<;>(first|(simp[hc8];done)|(simp[inB,hc8];done)|(simp[inB,kl,hc0,hc1,hc4,e35,hc7,e68,k9,k10,hc8]<;>omega)|(simp[kl,hc0,hc1,hc4,e35,hc7,e68,k9,k10,hc8]<;>grind))
  have e68:inB t.kind 6 8=false:=by simp[inB];omega
  refine Zp 95 ?_
  refine Zc (fun hc9=>?_) fun hc9=>?_
  ·
   refine Zp 15 ?_
   refine Zr (blkQ_n (thenQ_n ?_))
   refine Zf 7 8 (.w (([(6,.d (.bool (shB t)))])) (((⟨[(b5,⟨8,1,[[.d (.int .i64 t.kind),.d (.int .i64 (if(inB t.kind 6 8) then t.mat else 0)),.d (.int .i64 (if(inB t.kind 6 8&&!decide (t.kind=6)) then t.part else 0)),.d (.slc 1 ((if(inB t.kind 6 8||decide (t.kind=9)) then t.names else []).map strD)),.d (.slc 1 ((if(inB t.kind 6 8) then t.keys else []).map strD)),.d (.bool (decide (t.kind=10)&&t.over)),.d (.int .i64 (if t.kind=10 then t.limit else 0)),.nils]]⟩),(b1,⟨8,1,[tstA t]⟩)],[]⟩:AH).objs)) ?_ ?_ ⟨⟨rfl⟩,⟨rfl⟩⟩)
   · simp only[go_sem,LeSl]<;>(first|(simp[shB,hc9];done)|(simp[shB,inB,hc9];done)|(simp[shB,inB,kl,hc0,hc1,hc4,e35,hc7,e68,hc9]<;>omega)|(simp[shB,kl,hc0,hc1,hc4,e35,hc7,e68,hc9]<;>grind))
   · simp only[go_sem]<;>(first|(simp[hc9];done)|(simp[inB,hc9];done)|(simp[inB,kl,hc0,hc1,hc4,e35,hc7,e68,hc9]<;>omega)|(simp[kl,hc0,hc1,hc4,e35,hc7,e68,hc9]<;>grind))
  refine Zp 79 ?_
  refine Zc (fun hc10=>?_) fun hc10=>?_
  ·
   refine Zp 15 ?_
   refine AWp.tree true (.seg 0 (.seg 1 (.seg 2 (.seg 4 (.many (.alt 3 (.seg 5 (.seg 6 (.seg 7 (.done)))) (.alt 5 (.seg 3 (.seg 6 (.seg 7 (.done)))) (.nil)))))))) rfl (by kernel_rfl) fun K_ hK_=>?_
   simp only[go_sem,fb5]
   refine hK_ _ _ ?_
   refine blkQ_n (thenQ_n ?_)
   refine Zf 7 8 (.w (([(6,.d (.bool (shB t)))])) (((⟨[(b5,⟨8,1,[[.d (.int .i64 t.kind),.d (.int .i64 (if(inB t.kind 6 8) then t.mat else 0)),.d (.int .i64 (if(inB t.kind 6 8&&!decide (t.kind=6)) then t.part else 0)),.d (.slc 1 ((if(inB t.kind 6 8||decide (t.kind=9)) then t.names else []).map strD)),.d (.slc 1 ((if(inB t.kind 6 8) then t.keys else []).map strD)),.d (.bool (decide (t.kind=10)&&t.over)),.d (.int .i64 (if t.kind=10 then t.limit else 0)),.nils]]⟩),(b1,⟨8,1,[tstA t]⟩)],[]⟩:AH).objs)) ?_ ?_ ⟨⟨rfl⟩,⟨rfl⟩⟩)
   · simp only[go_sem,LeSl]<;>(first|(simp[shB,hc10];done)|(simp[shB,inB,hc10];done)|(simp[shB,inB,kl,hc0,hc1,hc4,e35,hc7,e68,hc9,hc10]<;>omega)|(simp[shB,kl,hc0,hc1,hc4,e35,hc7,e68,hc9,hc10]<;>grind))
   · simp only[go_sem]<;>(first|(simp[hc10];done)|(simp[inB,hc10];done)|(simp[inB,kl,hc0,hc1,hc4,e35,hc7,e68,hc9,hc10]<;>omega)|(simp[kl,hc0,hc1,hc4,e35,hc7,e68,hc9,hc10]<;>grind))
  refine AWp.skip (blkQ_n (thenQ_n ?_))
  refine Zf 7 8 (.w (([(6,.d (.bool (shB t)))])) (((⟨[(b5,⟨8,1,[[.d (.int .i64 t.kind),.d (.int .i64 (if(inB t.kind 6 8) then t.mat else 0)),.d (.int .i64 (if(inB t.kind 6 8&&!decide (t.kind=6)) then t.part else 0)),.d (.slc 1 ((if(inB t.kind 6 8||decide (t.kind=9)) then t.names else []).map strD)),.d (.slc 1 ((if(inB t.kind 6 8) then t.keys else []).map strD)),.d (.bool (decide (t.kind=10)&&t.over)),.d (.int .i64 (if t.kind=10 then t.limit else 0)),.nils]]⟩),(b1,⟨8,1,[tstA t]⟩)],[]⟩:AH).objs)) ?_ ?_ ⟨⟨rfl⟩,⟨rfl⟩⟩)
  · simp only[go_sem,LeSl]<;>(first|(simp[shB,e35,e68,hc9,hc10];done)|(simp[shB,inB,kl,hc0,hc1,hc4,e35,hc7,e68,hc9,hc10];done)|(simp[shB,inB,kl,hc0,hc1,hc4,e35,hc7,e68,hc9,hc10]<;>omega)|(simp[shB,kl,hc0,hc1,hc4,e35,hc7,e68,hc9,hc10]<;>grind))
  · simp only[go_sem]<;>(first|(simp[hc7,e68,hc9,hc10];done)|(simp[inB,kl,hc0,hc1,hc4,e35,hc7,e68,hc9,hc10];done)|(simp[inB,kl,hc0,hc1,hc4,e35,hc7,e68,hc9,hc10]<;>omega)|(simp[kl,hc0,hc1,hc4,e35,hc7,e68,hc9,hc10]<;>grind))
 rintro _ _ ⟨⟨rfl⟩,⟨rfl⟩⟩
 refine Zy ?_
 refine Zj 3 (fun lc hc=>EqS lc [(6,.d (.bool (eqB t)))]∧EqS hc (⟨[(b1,⟨8,1,[tstA t]⟩)],[]⟩)) ?_ ?_
 ·
  refine Zp 140737488355339 ?_
  refine Zc (fun hc11=>?_) fun hc11=>?_
  ·
   have hne:neP t:=by unfold neP;simpa using hc11
   refine Zr (thenQ_n ?_)
   refine Ze 3 4 [b5] [] [] [] (.e ⟨?_,?_⟩)
   · (try simp only[go_sem])<;>first|exact⟨rfl⟩|(constructor;first|(rw[eqB_t t hne];done)|(rw[eqB_f t hne];done))
   · (try simp only[go_sem,fb5])<;>first|exact⟨rfl⟩|(constructor;skip)
  have hne:¬neP t:=by unfold neP;simpa using hc11
  refine Zk ?_
  refine Ze 3 4 [b5] [] [] [] (.e ⟨?_,?_⟩)
  · (try simp only[go_sem])<;>first|exact⟨rfl⟩|(constructor;first|(rw[eqB_t t hne];done)|(rw[eqB_f t hne];done))
  · (try simp only[go_sem,fb5])<;>first|exact⟨rfl⟩|(constructor;skip)
 rintro _ _ ⟨⟨rfl⟩,⟨rfl⟩⟩
 refine Zy ?_
 refine Zj 3 (fun lc hc=>EqS lc [(6,.d (.bool (eqB t&&(inB t.kind 3 5||decide (t.kids.length=0)))))]∧EqS hc (⟨[(b1,⟨8,1,[tstA t]⟩)],[]⟩)) ?_ ?_
 ·
  refine Zp 1031 ?_
  refine Zc (fun hc12=>?_) fun hc12=>?_
  ·
   have e35:inB t.kind 3 5=false:=by simp[inB];omega
   refine Zr (thenQ_n ?_)
   refine Zf 3 4 (.e ⟨?_,ZG⟩)
   · (try simp only[go_sem])<;>first|exact⟨rfl⟩|(constructor;simp[e35])
  have e35:inB t.kind 3 5=true:=by simp[inB];omega
  refine Zk ?_
  refine Zf 3 4 (.e ⟨?_,ZG⟩)
  · (try simp only[go_sem])<;>first|exact⟨rfl⟩|(constructor;simp[e35])
 rintro _ _ ⟨⟨rfl⟩,⟨rfl⟩⟩
 rw[eqB_ok t hk]
 refine Zy ?_
 refine Zs (Zp 19 ?_)
 refine Zc (fun hc13=>?_) fun hc13=>?_
 ·
  refine Zp 4 ?_
  refine AWp.ret ?_
  simp only[go_sem]
  rw[tF_shape _ _ hk hd6 hc13]
 have h0:=tF_kids _ _ hk hd6 hc13
 refine Zk ?_
 refine Zs (Zp 113 ?_)
 refine AWp.block (Zy ?_)
 refine Zl 7 8 (fun n lc hc=> ∃(k:Nat),n=t.kids.length-k∧EqS lc [(183,.d (.int .i64 k))]∧EqS hc (⟨[(b1,⟨8,1,[tstA t]⟩)],[]⟩)∧(k≤t.kids.length)∧(tF t d=tFL (t.kids.drop k) (d+1))) ?_ ?_
 · refine ⟨_,0,rfl,ZE,ZE,?_,?_⟩
   all_goals(first|omega|exact h0)
 rintro _ _ _ ⟨k,rfl,⟨rfl⟩,⟨rfl⟩,hk0,htf⟩
 refine Zy ?_
 refine Zp 31 ?_
 refine Zs (Zc (fun hc14=>?_) fun hc14=>?_)
 ·
  have hlt:k<t.kids.length:=by omega
  have zf1:=fun d0_=>kidsD_get t k d0_ hlt
  refine Zk ?_
  refine Zs (AWp.block (Zx ?_))
  simp only[go_sem,zf1]
  (repeat(with_reducible refine And.intro ZS ?_))
  intro bz1
  first|intro fbz1|have fbz1:=True.intro
  try simp only[freshL] at fbz1
  refine Zx ?_
  simp only[go_sem,fbz1]
  (repeat(with_reducible refine And.intro ZS ?_))
  refine DW.pcr rfl rfl rfl rfl (ih _ (List.getElem_mem hlt) _ (by omega) (by omega)) rfl rfl ?_
  refine Zy ?_
  refine Zm 61 ?_
  refine Zp 95 ?_
  refine Zc (fun hc15=>?_) fun hc15=>?_
  ·
   refine Zp 2 ?_
   refine AWp.ret ?_
   simp only[go_sem]
   rw[htf,tFL_drop _ _ _ hlt,if_neg hc15]
  refine AWp.skip (blkQ_n (thenQ_n ?_))
  refine Zr (thenQ_n ?_)
  refine Ze 13 16 [bz1] [] [] [] (.e ⟨_,ZM,k+1,rfl,ZE,ZE,?_,?_⟩)
  · omega
  · rw [htf,tFL_drop _ _ _ hlt,if_pos hc15]
 refine AWp.exit (thenQ_e (thenQ_e (blkQ_e (thenQ_n ?_))))
 refine Zm 0 ?_
 refine Zp 1 ?_
 refine AWp.ret ?_
 simp only[go_sem]
 have:t.kids.drop k=[]:=List.drop_eq_nil_of_le (by omega)
 rw[htf,this,tFL]
end
section
theorem checkTest_c (T:Tbl) (t:Tst) (ok:t.Ok) (d:Int) (hd: -9≤d) (hd2:d≤7):PC Tryz.prog T 244 [.agg (tstA t),.d (.int .i64 d)] (.d (.int .i64 (tF t d))):=by
 induction t using Tst.ind generalizing d with
 |h t ih=>exact checkTest_step T t ok d hd hd2 fun x hx d h1 h2=>ih x hx (ok.inv.2.2.2 x hx) d h1 h2
mutual
def cF:Cmd→Int→Int
 | .mk k tx t a e,d=>if inB k 1 10=false then 2 else if 6<d then 1 else if k=2 then(if 0<tx.length then 3 else if tF t 1=0 then(if cFL a (d+1)=0 then cFE e d else cFL a (d+1)) else tF t 1)
  else if okC (.mk k tx t a e)=true then 0 else 3
def cFL:List Cmd→Int→Int
 |[],_=>0
 |x::l,d=>if cF x d=0 then cFL l d else cF x d
def cFE:List Cmd→Int→Int
 |[],_=>0
 |[x],d=>if x.kind=2 then cF x d else cF x (d+1)
 |x::y::l,d=>if cF x (d+1)=0 then cFL (y::l) (d+1) else cF x (d+1)
end
theorem cF_eq (c:Cmd) (d:Int):cF c d=if inB c.kind 1 10=false then 2 else if 6<d then 1 else if c.kind=2 then(if 0<c.texts.length then 3 else if tF c.test 1=0 then(if cFL c.thn (d+1)=0 then cFE c.els d else cFL c.thn (d+1)) else tF c.test 1) else if okC c=true then 0 else 3:=by
 cases c;rw[cF];rfl
theorem cFL_drop (l:List Cmd) (d:Int) (k:Nat) (h:k<l.length):cFL (l.drop k) d=if cF (l[k]'h) d=0 then cFL (l.drop (k+1)) d else cF (l[k]'h) d:=by
 rw[List.drop_eq_getElem_cons h,cFL]
theorem cFL_end (l:List Cmd) (d:Int) (k:Nat) (h:l.length≤k):cFL (l.drop k) d=0:=by rw[List.drop_eq_nil_of_le h,cFL]
def elsifC (c:Cmd):Bool:=decide (c.els.length=1)&&decide ((c.els.headD (.mk 0 [] default [] [])).kind=2)
theorem cFE_t (c:Cmd) (d:Int) (h:elsifC c=true) (h1:0<c.els.length):cFE c.els d=cF (c.els[0]'h1) d:=by
 obtain⟨k,tx,t,a,e⟩:=c
 simp only[elsifC,Cmd.els] at*
 match e,h,h1 with
 |[x],h,h1=>simp at h;simp[cFE,h]
theorem cFE_f (c:Cmd) (d:Int) (h:elsifC c=false):cFE c.els d=cFL c.els (d+1):=by
 obtain⟨k,tx,t,a,e⟩:=c
 simp only[elsifC,Cmd.els] at*
 match e,h with
 |[],h=>simp[cFE,cFL]
 |[x],h=>simp at h;simp[cFE,cFL,h]
 |x::y::l,h=>simp[cFE,cFL]
theorem cF_kind (c:Cmd) (d:Int) (h:inB c.kind 1 10=false):cF c d=2:=by rw[cF_eq,if_pos h]
theorem cF_deep (c:Cmd) (d:Int) (h:inB c.kind 1 10=true) (h2:6<d):cF c d=1:=by rw[cF_eq,if_neg (by rw[h];simp),if_pos h2]
theorem cF_flat (c:Cmd) (d:Int) (h:inB c.kind 1 10=true) (h2:d≤6) (h3:c.kind≠2):cF c d=if okC c=true then 0 else 3:=by rw[cF_eq,if_neg (by rw[h];simp),if_neg (by omega),if_neg h3]
theorem cF_if (c:Cmd) (d:Int) (h2:d≤6) (h3:c.kind=2):cF c d=if 0<c.texts.length then 3 else if tF c.test 1=0 then(if cFL c.thn (d+1)=0 then cFE c.els d else cFL c.thn (d+1)) else tF c.test 1:=by rw[cF_eq,if_neg (by rw[h3];simp[inB]),if_neg (by omega),if_pos h3]
theorem elsD_kind (c:Cmd) (h:0<c.els.length):elsifC c=(decide (c.els.length=1)&&decide ((c.els[0]'h).kind=2)):=by
 obtain⟨k,tx,t,a,e⟩:=c
 simp only[elsifC,Cmd.els] at*
 match e,h with
 |x::l,h=>rfl
theorem elsifC_1 (c:Cmd) (h:¬c.els.length=1):elsifC c=false:=by simp[elsifC,h]
theorem okC_eq (c:Cmd):okC c=(decide (c.test.kind=0)&&bareB c.test false false false false false false&&decide (c.thn.length=0)&&decide (c.els.length=0)&&
 (if c.kind=1∨c.kind=8∨c.kind=9 then decide (0<c.texts.length) else if inB c.kind 5 7 then decide (c.texts.length=1) else decide (c.texts.length=0))):=by rw[okC]
attribute [local go_sem] List.getD_nil List.take_nil List.map_nil List.headD_nil decide_false in
theorem elsif_0 (T:Tbl) (c:Cmd) (h0:c.els.length=0):PC Tryz.prog T 251 [.agg (cmdA c)] (.d (.bool (elsifC c))):=by
 refine⟨Tryz.call251,PCall.enterS Tryz.func251 rfl Tryz.ntmps251 rfl fun hb=>?_⟩
 have hE:elsD c=[]:=by rw[elsD_eq,List.map_eq_nil_iff];exact List.eq_nil_of_length_eq_zero h0
 have hi0:((c.els.length:Int)=1)=False:=by simp only[eq_iff_iff,iff_false];omega
 simp only[go_sem,Tryz.results251]
 refine Zx ?_
 simp only[go_sem,hE]
 intro b1
 first|intro fb1|have fb1:=True.intro
 try simp only[freshL] at fb1
 refine Zp 4 ?_
 refine AWp.ret ?_
 simp only[go_sem]
 rw[elsifC_1 c (by omega),Bool.and_false]
theorem elsif_1 (T:Tbl) (c:Cmd) (h0:0<c.els.length):PC Tryz.prog T 251 [.agg (cmdA c)] (.d (.bool (elsifC c))):=by
 refine⟨Tryz.call251,PCall.enterS Tryz.func251 rfl Tryz.ntmps251 rfl fun hb=>?_⟩
 have el1:((c.els.length:Int)=1)=(c.els.length=1):=by simp only[eq_iff_iff];omega
 have zf1:=fun d0_=>elsD_get c _ d0_ h0
 simp only[go_sem,Tryz.results251]
 refine Zx (Zy ?_)
 intro b1
 first|intro fb1|have fb1:=True.intro
 try simp only[freshL] at fb1
 refine Zp 4 ?_
 refine AWp.ret ?_
 simp only[go_sem]
 rw[elsD_kind c h0]
theorem elsif_c (T:Tbl) (c:Cmd):PC Tryz.prog T 251 [.agg (cmdA c)] (.d (.bool (elsifC c))):=by
 rcases Nat.eq_zero_or_pos c.els.length with h|h
 ·exact elsif_0 T c h
 ·exact elsif_1 T c h
theorem checkAll_step (T:Tbl) (l:List Cmd) (hl:l.length*208≤140737488355328) (d:Int) (hd: -9≤d) (hd2:d≤7) (ih:∀x∈l,PC Tryz.prog T 195 [.agg (cmdA x),.d (.int .i64 d)] (.d (.int .i64 (cF x d)))):PC Tryz.prog T 112 [.d (.slc 12 (l.map cmdD)),.d (.int .i64 d)] (.d (.int .i64 (cFL l d))):=by
 refine⟨Tryz.call112,PCall.enterS Tryz.func112 rfl Tryz.ntmps112 rfl fun hb=>?_⟩
 simp only[go_sem,Tryz.results112]
 refine Zp 3 ?_
 refine Zs (Zp 30 ?_)
 refine AWp.block (Zy ?_)
 refine Zl 7 8 (fun n lc hc=> ∃(k:Nat),n=l.length-k∧EqS lc [(10,.d (.int .i64 k))]∧EqS hc (⟨[],[]⟩)∧(k≤l.length)∧(cFL l d=cFL (l.drop k) d)) ?_ ?_
 · refine ⟨_,0,rfl,ZE,ZE,?_,?_⟩
   all_goals(first|omega|rfl)
 rintro _ _ _ ⟨k,rfl,⟨rfl⟩,⟨rfl⟩,hk0,htf⟩
 refine Zy ?_
 refine Zp 31 ?_
 refine Zs (Zc (fun hc0=>?_) fun hc0=>?_)
 ·
  have hlt:k<l.length:=by omega
  have zf1:=fun d0_=>map_getD cmdD _ _ d0_ hlt
  refine Zk ?_
  refine Zs (AWp.block (Zx ?_))
  simp only[go_sem,zf1]
  (repeat(with_reducible refine And.intro ZS ?_))
  intro bz1
  first|intro fbz1|have fbz1:=True.intro
  try simp only[freshL] at fbz1
  refine Zx (Zy ?_)
  refine DW.pcr rfl rfl rfl rfl (ih _ (List.getElem_mem hlt)) rfl rfl ?_
  refine Zy ?_
  refine Zm 61 ?_
  refine Zp 95 ?_
  refine Zc (fun hc1=>?_) fun hc1=>?_
  ·
   refine Zp 2 ?_
   refine AWp.ret ?_
   simp only[go_sem]
   rw[htf,cFL_drop _ _ _ hlt,if_neg hc1]
  refine AWp.skip (blkQ_n (thenQ_n ?_))
  refine Zr (thenQ_n ?_)
  refine Ze 13 16 [bz1] [] [] [] (.e ⟨_,ZM,k+1,rfl,ZE,ZE,?_,?_⟩)
  · omega
  · rw [htf,cFL_drop _ _ _ hlt,if_pos hc1]
 refine AWp.exit (thenQ_e (thenQ_e (blkQ_e (thenQ_n ?_))))
 refine Zm 0 ?_
 refine Zp 1 ?_
 refine AWp.ret ?_
 simp only[go_sem]
 rw[htf,cFL_end _ _ _ (by omega)]
theorem listFault_step (T:Tbl) (l:List Cmd) (hl:l.length*208≤140737488355328) (d:Int) (hd: -9≤d) (hd2:d≤7) (ih:∀x∈l,PC Tryz.prog T 201 [.agg (cmdA x),.d (.int .i64 d)] (.d (.int .i64 (cF x d)))):PC Tryz.prog T 117 [.d (.slc 12 (l.map cmdD)),.d (.int .i64 d)] (.d (.int .i64 (cFL l d))):=by
 refine⟨Tryz.call117,PCall.enterS Tryz.func117 rfl Tryz.ntmps117 rfl fun hb=>?_⟩
 simp only[go_sem,Tryz.results117]
 refine Zp 3 ?_
 refine Zs (Zp 7 ?_)
 refine AWp.block (Zy ?_)
 refine Zl 3 4 (fun n lc hc=> ∃(k:Nat),n=l.length-k∧EqS lc [(5,.d (.int .i64 k))]∧EqS hc (⟨[],[]⟩)∧(k≤l.length)∧(cFL l d=cFL (l.drop k) d)) ?_ ?_
 · refine ⟨_,0,rfl,ZE,ZE,?_,?_⟩
   all_goals(first|omega|rfl)
 rintro _ _ _ ⟨k,rfl,⟨rfl⟩,⟨rfl⟩,hk0,htf⟩
 refine Zy ?_
 refine Zs (Zp 71 ?_)
 refine Zc (fun hc0=>?_) fun hc0=>?_
 ·
  have hlt:k<l.length:=by omega
  have zf1:=fun d0_=>map_getD cmdD _ _ d0_ hlt
  refine Zk ?_
  refine Zs (AWp.block (Zx ?_))
  simp only[go_sem,zf1]
  (repeat(with_reducible refine And.intro ZS ?_))
  refine DW.pcr rfl rfl rfl rfl (ih _ (List.getElem_mem hlt)) rfl rfl ?_
  refine Zy ?_
  refine Zm 15 ?_
  refine Zp 47 ?_
  refine Zc (fun hc1=>?_) fun hc1=>?_
  ·
   refine Zp 4 ?_
   refine AWp.ret ?_
   simp only[go_sem]
   rw[htf,cFL_drop _ _ _ hlt,if_neg hc1]
  refine AWp.skip (blkQ_n (thenQ_n ?_))
  refine Zr (thenQ_n ?_)
  refine Zf 3 4 (.e ⟨_,ZM,k+1,rfl,ZE,ZE,?_,?_⟩)
  · omega
  · rw [htf,cFL_drop _ _ _ hlt,if_pos hc1]
 refine AWp.exit (thenQ_e (thenQ_e (blkQ_e (thenQ_n ?_))))
 refine Zm 0 ?_
 refine Zp 1 ?_
 refine AWp.ret ?_
 simp only[go_sem]
 rw[htf,cFL_end _ _ _ (by omega)]
theorem okC_i (c:Cmd):okC c=(decide (c.test.kind=0)&&bareB c.test false false false false false false&&decide ((c.thn.length:Int)=0)&&decide ((c.els.length:Int)=0)&&
 (if c.kind=1∨c.kind=8∨c.kind=9 then decide (0<(c.texts.length:Int)) else if inB c.kind 5 7=true then decide ((c.texts.length:Int)=1) else decide ((c.texts.length:Int)=0))):=by
 rw[okC_eq]
 congr 1
 ·congr 1
  ·congr 1
   rw[decide_eq_decide];omega
  ·rw[decide_eq_decide];omega
 ·split
  ·rw[decide_eq_decide];omega
  ·split
   ·rw[decide_eq_decide];omega
   ·rw[decide_eq_decide];omega
theorem okC_iff (c:Cmd):okC c=true↔(c.test.kind=0∧bareB c.test false false false false false false=true)∧c.thn.length=0∧c.els.length=0∧((c.kind=1∨c.kind=8∨c.kind=9)→0<c.texts.length)∧(¬(c.kind=1∨c.kind=8∨c.kind=9)→(5≤c.kind∧c.kind≤7)→c.texts.length=1)∧(¬(c.kind=1∨c.kind=8∨c.kind=9)→¬(5≤c.kind∧c.kind≤7)→c.texts.length=0):=by
 rw[okC_eq]
 simp only[Bool.and_eq_true,decide_eq_true_eq]
 by_cases h1:c.kind=1∨c.kind=8∨c.kind=9
 ·simp only[if_pos h1,decide_eq_true_eq];grind
 ·by_cases h2:5≤c.kind∧c.kind≤7
  ·simp only[if_neg h1,if_pos (show inB c.kind 5 7=true by simp[inB];exact h2),decide_eq_true_eq];grind
  ·simp only[if_neg h1,if_neg (show¬inB c.kind 5 7=true by simp[inB];omega),decide_eq_true_eq];grind
theorem if0 {a b:Int} (h:(if a=0 then b else a)=0):a=0∧b=0:=by
 by_cases ha:a=0
 ·rw[if_pos ha] at h;exact⟨ha,h⟩
 ·rw[if_neg ha] at h;exact absurd h ha
theorem ifn {a b x:Int} (h:¬(if a=0 then b else a)=0):(if a=0 then(if b=0 then x else b) else a)=(if a=0 then b else a):=by
 by_cases ha:a=0
 ·rw[if_pos ha] at h⊢;rw[if_neg h,if_pos ha]
 ·rw[if_neg ha,if_neg ha]
theorem commandFault_step (T:Tbl) (c:Cmd) (ok:c.Ok) (d:Int) (hd: -9≤d) (hd2:d≤7) (i1:∀d:Int,-9≤d→d≤7→PC Tryz.prog T 117 [.d (.slc 12 (thnD c)),.d (.int .i64 d)] (.d (.int .i64 (cFL c.thn d)))) (i2:∀d:Int,-9≤d→d≤7→PC Tryz.prog T 117 [.d (.slc 12 (elsD c)),.d (.int .i64 d)] (.d (.int .i64 (cFL c.els d)))) (i3:∀x∈c.els,∀d:Int,-9≤d→d≤7→PC Tryz.prog T 201 [.agg (cmdA x),.d (.int .i64 d)] (.d (.int .i64 (cF x d)))):PC Tryz.prog T 201 [.agg (cmdA c),.d (.int .i64 d)] (.d (.int .i64 (cF c d))):=by
 refine⟨Tryz.call201,PCall.enterS Tryz.func201 rfl Tryz.ntmps201 rfl fun hb=>?_⟩
 obtain⟨s1,s2,s3,s4,s5,s6⟩:=ok.inv
 simp only[go_sem,Tryz.results201]
 refine Zx (Zy ?_)
 intro b1
 first|intro fb1|have fb1:=True.intro
 try simp only[freshL] at fb1
 refine Zs (Zx (Zy ?_))
 refine ZP (in_c T _ _ _) ?_
 refine Zy ?_
 refine Zm 134 ?_
 refine Zc (fun hc0=>?_) fun hc0=>?_
 ·
  refine Zp 4 ?_
  refine AWp.ret ?_
  simp only[go_sem]
  rw[cF_kind c d hc0]
 have hk:inB c.kind 1 10=true:=hc0
 refine Zk ?_
 refine Zs (Zp 19 ?_)
 refine Zc (fun hc1=>?_) fun hc1=>?_
 ·
  refine Zp 4 ?_
  refine AWp.ret ?_
  simp only[go_sem]
  rw[cF_deep c d hk (by omega)]
 have hd6:d≤6:=by omega
 refine Zk ?_
 refine Zs (Zp 35 ?_)
 refine Zc (fun hc2=>?_) fun hc2=>?_
 ·
  refine Zx (Zy ?_)
  refine ZQ (fun hg=>testBare_c T _ _ _ _ _ _ _) ?_
  refine Zy ?_
  refine Zm 6 ?_
  refine Zp 7 ?_
  refine Zy ?_
  refine Zj 0 (fun lc hc=>EqS lc [(5,.d (.bool (okC c)))]∧EqS hc (⟨[(b1,⟨12,1,[cmdA c]⟩)],[]⟩)) ?_ ?_
  ·
   refine Zp 32775 ?_
   refine Zc (fun hc3=>?_) fun hc3=>?_
   ·
    refine Zr (thenQ_n ?_)
    refine Zf 0 2 (.e ⟨?_,ZG⟩)
    · (try simp only[go_sem])<;>first|exact⟨rfl⟩|(constructor;first|(rw[okC_i,if_pos (by omega)];done)|(rw[okC_i,if_neg (by omega),if_pos hc4];done)|(rw[okC_i,if_neg (by omega),if_neg (by rw[hc4];simp)];done))
   refine Zx (Zy ?_)
   refine ZP (in_c T _ _ _) ?_
   refine Zy ?_
   refine Zm 70 ?_
   refine Zc (fun hc4=>?_) fun hc4=>?_
   ·
    refine Zr (thenQ_n ?_)
    refine Zf 0 1 (.e ⟨?_,ZG⟩)
    · (try simp only[go_sem])<;>first|exact⟨rfl⟩|(constructor;first|(rw[okC_i,if_pos (by omega)];done)|(rw[okC_i,if_neg (by omega),if_pos hc4];done)|(rw[okC_i,if_neg (by omega),if_neg (by rw[hc4];simp)];done))
   refine Zr (thenQ_n ?_)
   refine Zf 0 1 (.e ⟨?_,ZG⟩)
   · (try simp only[go_sem])<;>first|exact⟨rfl⟩|(constructor;first|(rw[okC_i,if_pos (by omega)];done)|(rw[okC_i,if_neg (by omega),if_pos hc4];done)|(rw[okC_i,if_neg (by omega),if_neg (by rw[hc4];simp)];done))
  rintro _ _ ⟨⟨rfl⟩,⟨rfl⟩⟩
  refine Zy ?_
  refine Zs (Zp 4 ?_)
  refine Zc (fun hc5=>?_) fun hc5=>?_
  ·
   refine Zp 1 ?_
   refine AWp.ret ?_
   simp only[go_sem]
   rw[cF_flat c d hk hd6 hc2,if_neg (by rw[hc5];simp)]
  refine Zk ?_
  refine Zp 1 ?_
  refine AWp.ret ?_
  simp only[go_sem]
  rw[cF_flat c d hk hd6 hc2,if_pos hc5]
 refine Zk ?_
 refine Zs (Zp 67 ?_)
 refine Zc (fun hc6=>?_) fun hc6=>?_
 ·
  refine Zp 4 ?_
  refine AWp.ret ?_
  simp only[go_sem]
  rw[cF_if c d hd6 hc2,if_pos (by omega)]
 have h1:cF c d=if tF c.test 1=0 then(if cFL c.thn (d+1)=0 then cFE c.els d else cFL c.thn (d+1)) else tF c.test 1:=by rw[cF_if c d hd6 hc2,if_neg (by omega)]
 refine Zk ?_
 refine Zx (Zy ?_)
 refine DW.pcr rfl rfl rfl rfl (testFault_c T _ s2 _ (by omega) (by omega)) rfl rfl ?_
 refine Zy ?_
 refine Zn 7 ?_
 refine Zj 3 (fun lc hc=>EqS lc [(7,.d (.int .i64 (if tF c.test 1=0 then cFL c.thn (d+1) else tF c.test 1)))]∧EqS hc (⟨[(b1,⟨12,1,[cmdA c]⟩)],[]⟩)) ?_ ?_
 ·
  refine Zp 23 ?_
  refine Zc (fun hc7=>?_) fun hc7=>?_
  ·
   refine Zq fun K_ k_=>?_
   refine Zy ?_
   (repeat(with_reducible refine And.intro ZS ?_))
   refine DW.pcr rfl rfl rfl rfl (i1 _ (by omega) (by omega)) rfl rfl ?_
   refine Zy ?_
   refine k_ _ _ (thenQ_n ?_)
   refine Zf 3 4 (.e ⟨?_,ZG⟩)
   · (try simp only[go_sem])<;>first|exact⟨rfl⟩|(constructor;simp[hc7])
  refine Zk ?_
  refine Zf 3 4 (.e ⟨?_,ZG⟩)
  · (try simp only[go_sem])<;>first|exact⟨rfl⟩|(constructor;simp[hc7])
 rintro _ _ ⟨⟨rfl⟩,⟨rfl⟩⟩
 refine Zy ?_
 refine Zs (Zx (Zy ?_))
 refine ZQ (fun hg=>elsif_c T _) ?_
 refine Zy ?_
 refine Zm 263 ?_
 refine Zc (fun hc8=>?_) fun hc8=>?_
 ·
  obtain⟨hz,he⟩:=hc8
  have h0:0<c.els.length:=by rcases Nat.eq_zero_or_pos c.els.length with h|h;exact absurd he (by rw[elsifC_1 c (by omega)];simp);exact h
  have zf1:=fun d0_=>elsD_get c _ d0_ h0
  refine Zq fun K_ k_=>?_
  simp only[go_sem,zf1]
  (repeat(with_reducible refine And.intro ZS ?_))
  refine DW.pcr rfl rfl rfl rfl (i3 _ (List.getElem_mem h0) _ (by omega) (by omega)) rfl rfl ?_
  refine Zy ?_
  refine k_ _ _ (thenQ_n ?_)
  refine Zm 4 ?_
  refine Zp 1 ?_
  refine AWp.ret ?_
  simp only[go_sem]
  first|(have hq:=if0 hz;rw[h1,if_pos hq.1,if_pos hq.2,cFE_t c d he h0];done)|(have hq:=if0 hc9;rw[h1,if_pos hq.1,if_pos hq.2,cFE_f c d (by rcases hc8 with h|h;exact absurd hc9 h;exact h)];done)|(rw[h1,ifn hc9])
 refine Zp 39 ?_
 refine Zc (fun hc9=>?_) fun hc9=>?_
 ·
  refine Zq fun K_ k_=>?_
  refine Zy ?_
  (repeat(with_reducible refine And.intro ZS ?_))
  refine DW.pcr rfl rfl rfl rfl (i2 _ (by omega) (by omega)) rfl rfl ?_
  refine Zy ?_
  refine k_ _ _ (thenQ_n ?_)
  refine Zm 4 ?_
  refine Zp 1 ?_
  refine AWp.ret ?_
  simp only[go_sem]
  first|(have hq:=if0 hz;rw[h1,if_pos hq.1,if_pos hq.2,cFE_t c d he h0];done)|(have hq:=if0 hc9;rw[h1,if_pos hq.1,if_pos hq.2,cFE_f c d (by rcases hc8 with h|h;exact absurd hc9 h;exact h)];done)|(rw[h1,ifn hc9])
 refine Zk ?_
 refine Zp 4 ?_
 refine AWp.ret ?_
 simp only[go_sem]
 first|(have hq:=if0 hz;rw[h1,if_pos hq.1,if_pos hq.2,cFE_t c d he h0];done)|(have hq:=if0 hc9;rw[h1,if_pos hq.1,if_pos hq.2,cFE_f c d (by rcases hc8 with h|h;exact absurd hc9 h;exact h)];done)|(rw[h1,ifn hc9])
attribute [local go_sem] List.getD_nil List.take_nil List.map_nil List.headD_nil decide_false in
theorem check_0 (T:Tbl) (c:Cmd) (ok:c.Ok) (h0:c.els.length=0) (d:Int) (hd: -9≤d) (hd2:d≤7) (i1:∀d:Int,-9≤d→d≤7→PC Tryz.prog T 112 [.d (.slc 12 (thnD c)),.d (.int .i64 d)] (.d (.int .i64 (cFL c.thn d)))) (i2:∀d:Int,-9≤d→d≤7→PC Tryz.prog T 112 [.d (.slc 12 (elsD c)),.d (.int .i64 d)] (.d (.int .i64 (cFL c.els d)))) (i3:∀x∈c.els,∀d:Int,-9≤d→d≤7→PC Tryz.prog T 195 [.agg (cmdA x),.d (.int .i64 d)] (.d (.int .i64 (cF x d)))):PC Tryz.prog T 195 [.agg (cmdA c),.d (.int .i64 d)] (.d (.int .i64 (cF c d))):=by
 refine⟨Tryz.call195,PCall.enterS Tryz.func195 rfl Tryz.ntmps195 rfl fun hb=>?_⟩
 obtain⟨s1,s2,s3,s4,s5,s6⟩:=ok.inv
 have hE:elsD c=[]:=by rw[elsD_eq,List.map_eq_nil_iff];exact List.eq_nil_of_length_eq_zero h0
 have hi0:((c.els.length:Int)=1)=False:=by simp only[eq_iff_iff,iff_false];omega
 have i2e:∀d:Int,-9≤d→d≤7→PC Tryz.prog T 112 [.d (.slc 12 []),.d (.int .i64 d)] (.d (.int .i64 (cFL c.els d))):=fun d a b=>by have:=i2 d a b;rwa [hE] at this
 simp only[go_sem,Tryz.results195]
 refine Zx ?_
 simp only[go_sem,hE]
 intro b1
 first|intro fb1|have fb1:=True.intro
 try simp only[freshL] at fb1
 refine Zs (Zp 2054 ?_)
 refine Zc (fun hc0=>?_) fun hc0=>?_
 ·
  refine Zp 4 ?_
  refine AWp.ret ?_
  simp only[go_sem]
  rw[cF_kind c d (by simp[inB];omega)]
 have hk:inB c.kind 1 10=true:=by simp[inB];omega
 refine Zk ?_
 refine Zs (Zp 19 ?_)
 refine Zc (fun hc1=>?_) fun hc1=>?_
 ·
  refine Zp 4 ?_
  refine AWp.ret ?_
  simp only[go_sem]
  rw[cF_deep c d hk (by omega)]
 have hd6:d≤6:=by omega
 refine Zk ?_
 refine Zs (Zp 35 ?_)
 refine Zc (fun hc2=>?_) fun hc2=>?_
 ·
  refine Zs (Zp 67 ?_)
  refine Zc (fun hc3=>?_) fun hc3=>?_
  ·
   refine Zp 4 ?_
   refine AWp.ret ?_
   simp only[go_sem]
   rw[cF_if c d hd6 hc2,if_pos (by omega)]
  have h1:cF c d=if tF c.test 1=0 then(if cFL c.thn (d+1)=0 then cFE c.els d else cFL c.thn (d+1)) else tF c.test 1:=by rw[cF_if c d hd6 hc2,if_neg (by omega)]
  refine Zk ?_
  refine Zs (Zx (Zy ?_))
  refine DW.pcr rfl rfl rfl rfl (checkTest_c T _ s2 _ (by omega) (by omega)) rfl rfl ?_
  refine Zy ?_
  refine Zm 7 ?_
  refine Zp 23 ?_
  refine Zc (fun hc4=>?_) fun hc4=>?_
  ·
   refine Zp 4 ?_
   refine AWp.ret ?_
   simp only[go_sem]
   rw[h1,if_neg hc4]
  refine Zk ?_
  refine Zs (Zx (Zy ?_))
  (repeat(with_reducible refine And.intro ZS ?_))
  refine DW.pcr rfl rfl rfl rfl (i1 _ (by omega) (by omega)) rfl rfl ?_
  refine Zy ?_
  refine Zm 11 ?_
  refine Zp 23 ?_
  refine Zc (fun hc5=>?_) fun hc5=>?_
  ·
   refine Zp 4 ?_
   refine AWp.ret ?_
   simp only[go_sem]
   rw[h1,if_pos hc4,if_neg hc5]
  refine Zk ?_
  refine Zs (Zp 32771 ?_)
  refine Zc (fun hc6=>?_) fun hc6=>?_
  ·
   simp at hc6
  refine Zk ?_
  refine Zx (Zy ?_)
  (repeat(with_reducible refine And.intro ZS ?_))
  refine DW.pcr rfl rfl rfl rfl (i2e _ (by omega) (by omega)) rfl rfl ?_
  refine Zy ?_
  refine Zm 4 ?_
  refine AWp.ret ?_
  simp only[go_sem]
  rw[h1,if_pos hc4,if_pos hc5,cFE_f c d (elsifC_1 c (by omega))]
 refine Zk ?_
 refine Zp 6 ?_
 refine Zs (Zp 11 ?_)
 refine AWp.block (Zs (Zp 15 ?_))
 refine Zy ?_
 apply Za (z:=(_||(_||_))) 7 68
 ·
  refine AWp.cond _ rfl (fun hc7=>?_) fun hc7=>?_
  rotate_left
  ·
   refine Zp 15 ?_
   refine AWp.cond _ rfl (fun hc8=>?_) fun hc8=>?_
   rotate_left
   ·
    refine Zr (thenQ_n ?_)
    refine Zf 7 8 (.e ⟨EqS.bo (or_f hc7 (or_f hc8 rfl)),⟨rfl⟩⟩)
   refine AWp.skip (thenQ_n ?_)
   refine Zf 7 8 (.e ⟨EqS.bo (or_f hc7 (or_t hc8)),⟨rfl⟩⟩)
  refine AWp.skip (thenQ_n ?_)
  refine Zf 7 8 (.e ⟨EqS.bo (or_t hc7),⟨rfl⟩⟩)
 refine Zy ?_
 refine Zc (fun hc9=>?_) fun hc9=>?_
 ·
  refine Zr (blkQ_n (thenQ_n ?_))
  refine Zm 3 ?_
  refine Zs (Zx (Zy ?_))
  refine ZQ (fun hg=>bare_c T _ s2) ?_
  refine Zy ?_
  (repeat(with_reducible refine And.intro ZS ?_))
  refine Zm 524288 ?_
  refine Zc (fun hc13=>?_) fun hc13=>?_
  ·
   refine Zp 1 ?_
   refine AWp.ret ?_
   simp only[go_sem]
   rw[cF_flat c d hk hd6 hc2,if_neg (by rw[okC_iff];rintro⟨⟨a1,a2⟩,a3,a4,a5,a6,a7⟩;rcases hc13 with(h|h|h)|h<;>first|omega|(rw[a2] at h;cases h))]
  refine Zk ?_
  refine Zp 1 ?_
  refine AWp.ret ?_
  simp only[go_sem]
  obtain⟨⟨g1,g2,g3⟩,g4⟩:=hc13
  rw[cF_flat c d hk hd6 hc2,if_pos ((okC_iff c).2 ⟨⟨g2,g3⟩,by omega,by omega,by omega,by omega,by omega⟩)]
 refine Zs (Zp 23 ?_)
 refine Zy ?_
 apply Za (z:=(_||(_||_))) 3 76
 ·
  refine AWp.cond _ rfl (fun hc10=>?_) fun hc10=>?_
  rotate_left
  ·
   refine Zp 15 ?_
   refine AWp.cond _ rfl (fun hc11=>?_) fun hc11=>?_
   rotate_left
   ·
    refine Zr (thenQ_n ?_)
    refine Zf 3 8 (.e ⟨EqS.bo (or_f hc10 (or_f hc11 rfl)),⟨rfl⟩⟩)
   refine AWp.skip (thenQ_n ?_)
   refine Zf 3 8 (.e ⟨EqS.bo (or_f hc10 (or_t hc11)),⟨rfl⟩⟩)
  refine AWp.skip (thenQ_n ?_)
  refine Zf 3 8 (.e ⟨EqS.bo (or_t hc10),⟨rfl⟩⟩)
 refine Zy ?_
 refine Zc (fun hc12=>?_) fun hc12=>?_
 ·
  refine Zr (blkQ_n (thenQ_n ?_))
  refine Zm 3 ?_
  refine Zs (Zx (Zy ?_))
  refine ZQ (fun hg=>bare_c T _ s2) ?_
  refine Zy ?_
  (repeat(with_reducible refine And.intro ZS ?_))
  refine Zm 524288 ?_
  refine Zc (fun hc13=>?_) fun hc13=>?_
  ·
   refine Zp 1 ?_
   refine AWp.ret ?_
   simp only[go_sem]
   rw[cF_flat c d hk hd6 hc2,if_neg (by rw[okC_iff];rintro⟨⟨a1,a2⟩,a3,a4,a5,a6,a7⟩;rcases hc13 with(h|h|h)|h<;>first|omega|(rw[a2] at h;cases h))]
  refine Zk ?_
  refine Zp 1 ?_
  refine AWp.ret ?_
  simp only[go_sem]
  obtain⟨⟨g1,g2,g3⟩,g4⟩:=hc13
  rw[cF_flat c d hk hd6 hc2,if_pos ((okC_iff c).2 ⟨⟨g2,g3⟩,by omega,by omega,by omega,by omega,by omega⟩)]
 refine AWp.skip (blkQ_n (thenQ_n ?_))
 refine Zs (Zx (Zy ?_))
 refine ZQ (fun hg=>bare_c T _ s2) ?_
 refine Zy ?_
 (repeat(with_reducible refine And.intro ZS ?_))
 refine Zm 1048576 ?_
 refine Zc (fun hc13=>?_) fun hc13=>?_
 ·
  refine Zp 1 ?_
  refine AWp.ret ?_
  simp only[go_sem]
  rw[cF_flat c d hk hd6 hc2,if_neg (by rw[okC_iff];rintro⟨⟨a1,a2⟩,a3,a4,a5,a6,a7⟩;rcases hc13 with(h|h|h)|h<;>first|omega|(rw[a2] at h;cases h))]
 refine Zk ?_
 refine Zp 1 ?_
 refine AWp.ret ?_
 simp only[go_sem]
 obtain⟨⟨g1,g2,g3⟩,g4⟩:=hc13
 rw[cF_flat c d hk hd6 hc2,if_pos ((okC_iff c).2 ⟨⟨g2,g3⟩,by omega,by omega,by omega,by omega,by omega⟩)]
theorem check_1 (T:Tbl) (c:Cmd) (ok:c.Ok) (h0:0<c.els.length) (d:Int) (hd: -9≤d) (hd2:d≤7) (i1:∀d:Int,-9≤d→d≤7→PC Tryz.prog T 112 [.d (.slc 12 (thnD c)),.d (.int .i64 d)] (.d (.int .i64 (cFL c.thn d)))) (i2:∀d:Int,-9≤d→d≤7→PC Tryz.prog T 112 [.d (.slc 12 (elsD c)),.d (.int .i64 d)] (.d (.int .i64 (cFL c.els d)))) (i3:∀x∈c.els,∀d:Int,-9≤d→d≤7→PC Tryz.prog T 195 [.agg (cmdA x),.d (.int .i64 d)] (.d (.int .i64 (cF x d)))):PC Tryz.prog T 195 [.agg (cmdA c),.d (.int .i64 d)] (.d (.int .i64 (cF c d))):=by
 refine⟨Tryz.call195,PCall.enterS Tryz.func195 rfl Tryz.ntmps195 rfl fun hb=>?_⟩
 obtain⟨s1,s2,s3,s4,s5,s6⟩:=ok.inv
 have el1:((c.els.length:Int)=1)=(c.els.length=1):=by simp only[eq_iff_iff];omega
 have zf1:=fun d0_=>elsD_get c _ d0_ h0
 simp only[go_sem,Tryz.results195]
 refine Zx (Zy ?_)
 intro b1
 first|intro fb1|have fb1:=True.intro
 try simp only[freshL] at fb1
 refine Zs (Zp 2054 ?_)
 refine Zc (fun hc0=>?_) fun hc0=>?_
 ·
  refine Zp 4 ?_
  refine AWp.ret ?_
  simp only[go_sem]
  rw[cF_kind c d (by simp[inB];omega)]
 have hk:inB c.kind 1 10=true:=by simp[inB];omega
 refine Zk ?_
 refine Zs (Zp 19 ?_)
 refine Zc (fun hc1=>?_) fun hc1=>?_
 ·
  refine Zp 4 ?_
  refine AWp.ret ?_
  simp only[go_sem]
  rw[cF_deep c d hk (by omega)]
 have hd6:d≤6:=by omega
 refine Zk ?_
 refine Zs (Zp 35 ?_)
 refine Zc (fun hc2=>?_) fun hc2=>?_
 ·
  refine Zs (Zp 67 ?_)
  refine Zc (fun hc3=>?_) fun hc3=>?_
  ·
   refine Zp 4 ?_
   refine AWp.ret ?_
   simp only[go_sem]
   rw[cF_if c d hd6 hc2,if_pos (by omega)]
  have h1:cF c d=if tF c.test 1=0 then(if cFL c.thn (d+1)=0 then cFE c.els d else cFL c.thn (d+1)) else tF c.test 1:=by rw[cF_if c d hd6 hc2,if_neg (by omega)]
  refine Zk ?_
  refine Zs (Zx (Zy ?_))
  refine DW.pcr rfl rfl rfl rfl (checkTest_c T _ s2 _ (by omega) (by omega)) rfl rfl ?_
  refine Zy ?_
  refine Zm 7 ?_
  refine Zp 23 ?_
  refine Zc (fun hc4=>?_) fun hc4=>?_
  ·
   refine Zp 4 ?_
   refine AWp.ret ?_
   simp only[go_sem]
   rw[h1,if_neg hc4]
  refine Zk ?_
  refine Zs (Zx (Zy ?_))
  (repeat(with_reducible refine And.intro ZS ?_))
  refine DW.pcr rfl rfl rfl rfl (i1 _ (by omega) (by omega)) rfl rfl ?_
  refine Zy ?_
  refine Zm 11 ?_
  refine Zp 23 ?_
  refine Zc (fun hc5=>?_) fun hc5=>?_
  ·
   refine Zp 4 ?_
   refine AWp.ret ?_
   simp only[go_sem]
   rw[h1,if_pos hc4,if_neg hc5]
  refine Zk ?_
  refine Zs (Zp 32771 ?_)
  refine Zc (fun hc6=>?_) fun hc6=>?_
  ·
   refine Zx ?_
   simp only[go_sem,zf1]
   (repeat(with_reducible refine And.intro ZS ?_))
   refine DW.pcr rfl rfl rfl rfl (i3 _ (List.getElem_mem h0) _ (by omega) (by omega)) rfl rfl ?_
   refine Zy ?_
   refine Zm 4 ?_
   refine AWp.ret ?_
   simp only[go_sem]
   rw[h1,if_pos hc4,if_pos hc5,cFE_t c d (by rw[elsD_kind c h0];simp[hc6]) h0]
  refine Zk ?_
  refine Zx (Zy ?_)
  (repeat(with_reducible refine And.intro ZS ?_))
  refine DW.pcr rfl rfl rfl rfl (i2 _ (by omega) (by omega)) rfl rfl ?_
  refine Zy ?_
  refine Zm 4 ?_
  refine AWp.ret ?_
  simp only[go_sem]
  rw[h1,if_pos hc4,if_pos hc5,cFE_f c d (by rw[elsD_kind c h0];rcases hc6 with h|h<;>simp[h])]
 refine Zk ?_
 refine Zp 6 ?_
 refine Zs (Zp 11 ?_)
 refine AWp.block (Zs (Zp 15 ?_))
 refine Zy ?_
 apply Za (z:=(_||(_||_))) 7 68
 ·
  refine AWp.cond _ rfl (fun hc7=>?_) fun hc7=>?_
  rotate_left
  ·
   refine Zp 15 ?_
   refine AWp.cond _ rfl (fun hc8=>?_) fun hc8=>?_
   rotate_left
   ·
    refine Zr (thenQ_n ?_)
    refine Zf 7 8 (.e ⟨EqS.bo (or_f hc7 (or_f hc8 rfl)),⟨rfl⟩⟩)
   refine AWp.skip (thenQ_n ?_)
   refine Zf 7 8 (.e ⟨EqS.bo (or_f hc7 (or_t hc8)),⟨rfl⟩⟩)
  refine AWp.skip (thenQ_n ?_)
  refine Zf 7 8 (.e ⟨EqS.bo (or_t hc7),⟨rfl⟩⟩)
 refine Zy ?_
 refine Zc (fun hc9=>?_) fun hc9=>?_
 ·
  refine Zr (blkQ_n (thenQ_n ?_))
  refine Zm 3 ?_
  refine Zs (Zx (Zy ?_))
  refine ZQ (fun hg=>bare_c T _ s2) ?_
  refine Zy ?_
  (repeat(with_reducible refine And.intro ZS ?_))
  refine Zm 524288 ?_
  refine Zc (fun hc13=>?_) fun hc13=>?_
  ·
   refine Zp 1 ?_
   refine AWp.ret ?_
   simp only[go_sem]
   rw[cF_flat c d hk hd6 hc2,if_neg (by rw[okC_iff];rintro⟨⟨a1,a2⟩,a3,a4,a5,a6,a7⟩;rcases hc13 with(h|h|h)|h<;>first|omega|(rw[a2] at h;cases h))]
  refine Zk ?_
  refine Zp 1 ?_
  refine AWp.ret ?_
  simp only[go_sem]
  obtain⟨⟨g1,g2,g3⟩,g4⟩:=hc13
  rw[cF_flat c d hk hd6 hc2,if_pos ((okC_iff c).2 ⟨⟨g2,g3⟩,by omega,by omega,by omega,by omega,by omega⟩)]
 refine Zs (Zp 23 ?_)
 refine Zy ?_
 apply Za (z:=(_||(_||_))) 3 76
 ·
  refine AWp.cond _ rfl (fun hc10=>?_) fun hc10=>?_
  rotate_left
  ·
   refine Zp 15 ?_
   refine AWp.cond _ rfl (fun hc11=>?_) fun hc11=>?_
   rotate_left
   ·
    refine Zr (thenQ_n ?_)
    refine Zf 3 8 (.e ⟨EqS.bo (or_f hc10 (or_f hc11 rfl)),⟨rfl⟩⟩)
   refine AWp.skip (thenQ_n ?_)
   refine Zf 3 8 (.e ⟨EqS.bo (or_f hc10 (or_t hc11)),⟨rfl⟩⟩)
  refine AWp.skip (thenQ_n ?_)
  refine Zf 3 8 (.e ⟨EqS.bo (or_t hc10),⟨rfl⟩⟩)
 refine Zy ?_
 refine Zc (fun hc12=>?_) fun hc12=>?_
 ·
  refine Zr (blkQ_n (thenQ_n ?_))
  refine Zm 3 ?_
  refine Zs (Zx (Zy ?_))
  refine ZQ (fun hg=>bare_c T _ s2) ?_
  refine Zy ?_
  (repeat(with_reducible refine And.intro ZS ?_))
  refine Zm 524288 ?_
  refine Zc (fun hc13=>?_) fun hc13=>?_
  ·
   refine Zp 1 ?_
   refine AWp.ret ?_
   simp only[go_sem]
   rw[cF_flat c d hk hd6 hc2,if_neg (by rw[okC_iff];rintro⟨⟨a1,a2⟩,a3,a4,a5,a6,a7⟩;rcases hc13 with(h|h|h)|h<;>first|omega|(rw[a2] at h;cases h))]
  refine Zk ?_
  refine Zp 1 ?_
  refine AWp.ret ?_
  simp only[go_sem]
  obtain⟨⟨g1,g2,g3⟩,g4⟩:=hc13
  rw[cF_flat c d hk hd6 hc2,if_pos ((okC_iff c).2 ⟨⟨g2,g3⟩,by omega,by omega,by omega,by omega,by omega⟩)]
 refine AWp.skip (blkQ_n (thenQ_n ?_))
 refine Zs (Zx (Zy ?_))
 refine ZQ (fun hg=>bare_c T _ s2) ?_
 refine Zy ?_
 (repeat(with_reducible refine And.intro ZS ?_))
 refine Zm 1048576 ?_
 refine Zc (fun hc13=>?_) fun hc13=>?_
 ·
  refine Zp 1 ?_
  refine AWp.ret ?_
  simp only[go_sem]
  rw[cF_flat c d hk hd6 hc2,if_neg (by rw[okC_iff];rintro⟨⟨a1,a2⟩,a3,a4,a5,a6,a7⟩;rcases hc13 with(h|h|h)|h<;>first|omega|(rw[a2] at h;cases h))]
 refine Zk ?_
 refine Zp 1 ?_
 refine AWp.ret ?_
 simp only[go_sem]
 obtain⟨⟨g1,g2,g3⟩,g4⟩:=hc13
 rw[cF_flat c d hk hd6 hc2,if_pos ((okC_iff c).2 ⟨⟨g2,g3⟩,by omega,by omega,by omega,by omega,by omega⟩)]
theorem check_step (T:Tbl) (c:Cmd) (ok:c.Ok) (d:Int) (hd: -9≤d) (hd2:d≤7) (i1:∀d:Int,-9≤d→d≤7→PC Tryz.prog T 112 [.d (.slc 12 (thnD c)),.d (.int .i64 d)] (.d (.int .i64 (cFL c.thn d)))) (i2:∀d:Int,-9≤d→d≤7→PC Tryz.prog T 112 [.d (.slc 12 (elsD c)),.d (.int .i64 d)] (.d (.int .i64 (cFL c.els d)))) (i3:∀x∈c.els,∀d:Int,-9≤d→d≤7→PC Tryz.prog T 195 [.agg (cmdA x),.d (.int .i64 d)] (.d (.int .i64 (cF x d)))):PC Tryz.prog T 195 [.agg (cmdA c),.d (.int .i64 d)] (.d (.int .i64 (cF c d))):=by
 rcases Nat.eq_zero_or_pos c.els.length with h|h
 ·exact check_0 T c ok h d hd hd2 i1 i2 i3
 ·exact check_1 T c ok h d hd hd2 i1 i2 i3
theorem check_c (T:Tbl) (c:Cmd) (ok:c.Ok) (d:Int) (hd: -9≤d) (hd2:d≤7):PC Tryz.prog T 195 [.agg (cmdA c),.d (.int .i64 d)] (.d (.int .i64 (cF c d))):=by
 induction c using Cmd.ind generalizing d with
 |h c i1 i2=>
  obtain⟨s1,s2,s3,s4,s5,s6⟩:=ok.inv
  refine check_step T c ok d hd hd2 (fun d h1 h2=>?_) (fun d h1 h2=>?_) (fun x hx d h1 h2=>i2 x hx (s6 x hx) d h1 h2)
  ·rw[thnD_eq];exact checkAll_step T _ s3 d h1 h2 fun x hx=>i1 x hx (s5 x hx) d h1 h2
  ·rw[elsD_eq];exact checkAll_step T _ s4 d h1 h2 fun x hx=>i2 x hx (s6 x hx) d h1 h2
theorem checkAll_c (T:Tbl) (l:List Cmd) (hl:l.length*208≤140737488355328) (ok:∀x∈l,x.Ok) (d:Int) (hd: -9≤d) (hd2:d≤7):PC Tryz.prog T 112 [.d (.slc 12 (l.map cmdD)),.d (.int .i64 d)] (.d (.int .i64 (cFL l d))):=
 checkAll_step T l hl d hd hd2 fun x hx=>check_c T x (ok x hx) d hd hd2
theorem commandFault_c (T:Tbl) (c:Cmd) (ok:c.Ok) (d:Int) (hd: -9≤d) (hd2:d≤7):PC Tryz.prog T 201 [.agg (cmdA c),.d (.int .i64 d)] (.d (.int .i64 (cF c d))):=by
 induction c using Cmd.ind generalizing d with
 |h c i1 i2=>
  obtain⟨s1,s2,s3,s4,s5,s6⟩:=ok.inv
  refine commandFault_step T c ok d hd hd2 (fun d h1 h2=>?_) (fun d h1 h2=>?_) (fun x hx d h1 h2=>i2 x hx (s6 x hx) d h1 h2)
  ·rw[thnD_eq];exact listFault_step T _ s3 d h1 h2 fun x hx=>i1 x hx (s5 x hx) d h1 h2
  ·rw[elsD_eq];exact listFault_step T _ s4 d h1 h2 fun x hx=>i2 x hx (s6 x hx) d h1 h2
theorem listFault_c (T:Tbl) (l:List Cmd) (hl:l.length*208≤140737488355328) (ok:∀x∈l,x.Ok) (d:Int) (hd: -9≤d) (hd2:d≤7):PC Tryz.prog T 117 [.d (.slc 12 (l.map cmdD)),.d (.int .i64 d)] (.d (.int .i64 (cFL l d))):=
 listFault_step T l hl d hd hd2 fun x hx=>commandFault_c T x (ok x hx) d hd hd2
end
section
theorem lenA {α:Type} {Y:List α} {a:α} (h:Y.length+2≤4398046511104):(Y++[a]).length+1≤4398046511104:=by
 rw[List.length_append]
 show Y.length+1+1≤4398046511104
 omega
structure Tok where
 kind:Int
 text:Str
 num:Int
def tokD (t:Tok):List D:=[.int .i64 t.kind,.str t.text,.int .i64 t.num]
def toksD (X:List Tok):List (List D):=X.map tokD
theorem toksD_len (X:List Tok):(toksD X).length=X.length:=by simp[toksD]
attribute [go_sem] toksD_len
def tW (s:Str):Tok:=⟨1,s,0⟩
def tG (s:Str):Tok:=⟨2,s,0⟩
def tN (n:Int):Tok:=⟨3,[],n⟩
def tS (s:Str):Tok:=⟨4,s,0⟩
def tM (s:Str):Tok:=⟨5,s,0⟩
def wob (b u:Nat) (X:List Tok):Nat×Ob:=(b,⟨1,1,[[.own u 3 (toksD X)]]⟩)
def WR (b:Nat) (F:List (Nat×Ob)) (L:List Nat) (X:List Tok):AR→AH→Prop:=fun x h=> ∃t,freshT t L∧x= .ret (.tup [])∧h=⟨wob b t X::F,t::L⟩
attribute [go_sem] wob
@[go_sem] theorem ite_toNat (c:Bool):(if c=true then(1:Int) else 0).toNat=if c=true then 1 else 0:=by cases c<;>rfl
@[go_sem] theorem getD2s (x y:Str) (c:Bool) (d:List D):[[D.str x],[D.str y]].getD (if c=true then 1 else 0) d=[D.str (if c=true then y else x)]:=by cases c<;>rfl
def itS:List Str→Bool→List Tok
 |[],_=>[]
 |s::l,f=>tM (if f=true then [91] else [44])::tS s::itS l false
def strsT (l:List Str):List Tok:=if l.length=1 then [tS (l.headD [])] else itS l true++[tM [93]]
theorem itS_drop (l:List Str) (k:Nat) (f:Bool) (h:k<l.length):itS (l.drop k) f=tM (if f=true then [91] else [44])::tS (l[k]'h)::itS (l.drop (k+1)) false:=by
 rw[List.drop_eq_getElem_cons h,itS]
theorem itS_end (l:List Str) (k:Nat) (f:Bool) (h:l.length≤k):itS (l.drop k) f=[]:=by rw[List.drop_eq_nil_of_le h,itS]
theorem itS_len (l:List Str) (f:Bool):(itS l f).length=2*l.length:=by
 induction l generalizing f with
 |nil=>rfl
 |cons s l ih=>simp[itS,ih];omega
theorem put_c (T:Tbl) (b u:Nat) (X:List Tok) (F:List (Nat×Ob)) (L:List Nat) (k:Int) (s:Str) (hl:X.length+1≤4398046511104):AC Tryz.prog T 196 [.ptr b 1 0 0,.d (.int .i64 k),.d (.str s)] (⟨wob b u X::F,u::L⟩) (WR b F L (X++[⟨k,s,0⟩])):=by
 refine⟨Tryz.call196,ACalls.enterS Tryz.func196 rfl Tryz.ntmps196 rfl fun hb=>?_⟩
 simp only[go_sem,Tryz.results196]
 refine Zq fun K_ k_=>?_
 refine Zy ?_
 refine ZW fun t1 ft1=>?_
 try simp only[freshT] at ft1
 refine Zy ?_
 refine k_ _ _ ?_
 apply endW_n [] [] [] [] (by(try simp only[go_sem]);rfl)
 · refine ⟨t1,by simp only[go_sem,ft1],rfl,?_⟩
   (simp only[go_sem])<;>(simp[toksD,tokD])
 · simp only[LeA,LeL]
theorem flag_c (T:Tbl) (c:Bool):PC Tryz.prog T 248 [.d (.bool c)] (.d (.int .i64 (if c=true then 1 else 0))):=by
 refine⟨Tryz.call248,PCall.enterS Tryz.func248 rfl Tryz.ntmps248 rfl fun hb=>?_⟩
 simp only[go_sem,Tryz.results248]
 refine Zp 1 ?_
 refine Zs (Zp 2 ?_)
 refine Zc (fun hc0=>?_) fun hc0=>?_
 ·
  refine Zp 1 ?_
  refine AWp.ret ?_
  simp only[go_sem]
  simp[hc0]
 refine Zk ?_
 refine Zp 1 ?_
 refine AWp.ret ?_
 simp only[go_sem]
 simp[hc0]
attribute [local go_sem] wob in
theorem list_c (T:Tbl) (b u:Nat) (X:List Tok) (F:List (Nat×Ob)) (L:List Nat) (l:List Str) (hl:X.length+(strsT l).length≤4398046511104):AC Tryz.prog T 198 [.ptr b 1 0 0,.d (.slc 1 (l.map strD))] (⟨wob b u X::F,u::L⟩) (WR b F L (X++strsT l)):=by
 refine⟨Tryz.call198,ACalls.enterS Tryz.func198 rfl Tryz.ntmps198 rfl fun hb=>?_⟩
 simp only[go_sem,Tryz.results198]
 refine Zs (Zp 19 ?_)
 refine Zc (fun hc0=>?_) fun hc0=>?_
 ·
  have h0:0<l.length:=by omega
  have hl2:(strsT l).length=1:=by rw[strsT,if_pos (by omega)];rfl
  have zf1:=fun d0_=>map_getD strD _ _ d0_ h0
  refine Zx ?_
  simp only[go_sem,zf1]
  (repeat(with_reducible refine And.intro ZS ?_))
  refine DW.acp [b] [u] rfl rfl rfl rfl (by(try simp only[go_sem]);rfl) rfl (put_c T _ _ _ _ _ _ _ (by(try simp only[List.length_append,List.length_cons,List.length_nil]);omega)) ?_
  rintro _ _ ⟨W1,fW1,rfl,rfl⟩
  try simp only[freshT,freshL] at fW1
  refine Zy ?_
  refine Zm 0 ?_
  refine AWp.ret ?_
  simp only[thenQ]
  apply endW_r [] [] [b] [W1] (by(try simp only[go_sem]);rfl)
  · refine ⟨W1,by simp only[go_sem,fW1],rfl,?_⟩
    rw[show _=_ from(show X++strsT l=X++[⟨4,l[0],0⟩] by rw[strsT,if_pos (by omega)];cases l;simp at h0;rfl)]
    (try simp only[go_sem])<;>rfl
  · simp only[LeA,LeL]
 have hl2:(strsT l).length=2*l.length+1:=by rw[strsT,if_neg (by omega)];simp[itS_len]
 refine Zk ?_
 refine Zs (Zp 57 ?_)
 refine AWp.block (Zy ?_)
 refine Zl 7 8 (fun n lc hc=> ∃(k v:Nat) (Y:List Tok),n=l.length-k∧EqS lc [(16,.d (.int .i64 k))]∧EqS hc (⟨wob b v Y::F,v::L⟩)∧(k≤l.length)∧(Y++itS (l.drop k) (decide (k=0))=X++itS l true)) ⟨_,0,u,X,rfl,ZE,ZE,ZI,ZI⟩ ?_
 rintro _ _ _ ⟨k,v,Y,rfl,⟨rfl⟩,⟨rfl⟩,hk,hY⟩
 have hYl:=congrArg List.length hY
 simp only[List.length_append,itS_len,List.length_drop] at hYl
 refine Zy ?_
 refine Zp 31 ?_
 refine Zs (Zc (fun hc1=>?_) fun hc1=>?_)
 ·
  have hlt:k<l.length:=by omega
  have e1:Y.length+2≤4398046511104:=by omega
  have zf2:=fun d0_=>map_getD strD _ _ d0_ hlt
  refine Zk ?_
  refine Zs (AWp.block (Zp 63 ?_))
  refine Zx (Zy ?_)
  refine DW.pcr rfl rfl rfl rfl (flag_c T _) rfl rfl ?_
  refine Zy ?_
  (repeat(with_reducible refine And.intro ZS ?_))
  refine DW.acp [b] [v] rfl rfl rfl rfl (by(try simp only[go_sem]);rfl) rfl (put_c T _ _ _ _ _ _ _ (by(try simp only[List.length_append,List.length_cons,List.length_nil]);omega)) ?_
  rintro _ _ ⟨W2,fW2,rfl,rfl⟩
  try simp only[freshT,freshL] at fW2
  refine Zy ?_
  refine Zm 61 ?_
  refine Zq fun K_ k_=>?_
  refine Zy ?_
  refine DW.acp [b] [W2] rfl rfl rfl rfl (by(try simp only[go_sem]);rfl) rfl (put_c T _ _ _ _ _ _ _ (lenA e1)) ?_
  rintro _ _ ⟨W3,fW3,rfl,rfl⟩
  try simp only[freshT,freshL] at fW3
  refine Zy ?_
  refine k_ _ _ (blkQ_n (thenQ_n ?_))
  refine Zm 29 ?_
  refine Zr (thenQ_n ?_)
  refine Zf 7 8 (.e ⟨_,ZM,k+1,W3,Y++[⟨5,if decide ((k:Int)=0)=true then [91] else [44],0⟩]++[⟨4,l[k],0⟩],rfl,ZE,ZE,?_,?_⟩)
  · omega
  · rw [←hY,itS_drop _ _ _ hlt];by_cases hk0:k=0<;>simp[hk0,tM,tS]
 refine AWp.exit (thenQ_e (thenQ_e (blkQ_e (thenQ_n ?_))))
 refine Zm 1 ?_
 refine Zq fun K_ k_=>?_
 refine Zy ?_
 refine DW.acp [b] [v] rfl rfl rfl rfl (by(try simp only[go_sem]);rfl) rfl (put_c T _ _ _ _ _ _ _ (by(try simp only[List.length_append,List.length_cons,List.length_nil]);omega)) ?_
 rintro _ _ ⟨W4,fW4,rfl,rfl⟩
 try simp only[freshT,freshL] at fW4
 refine Zy ?_
 refine k_ _ _ ?_
 apply endW_n [] [] [b] [W4] (by(try simp only[go_sem]);rfl)
 · refine ⟨W4,by simp only[go_sem,fW4],rfl,?_⟩
   rw[show _=_ from(show X++strsT l=Y++[⟨5,[93],0⟩] by rw[strsT,if_neg (by omega),←List.append_assoc,←hY,itS_end _ _ _ (by omega),List.append_nil];rfl)]
   (try simp only[go_sem])<;>rfl
 · simp only[LeA,LeL]
def cmdWs:List Str:=[[],[114,101,113,117,105,114,101],[105,102],[107,101,101,112],[100,105,115,99,97,114,100],[102,105,108,101,105,110,116,111],[114,101,100,105,114,101,99,116],[114,101,106,101,99,116],[115,101,116,102,108,97,103],[97,100,100,102,108,97,103],[115,116,111,112]]
theorem cmdWs_len:cmdWs.length=11:=rfl
def tstWs:List Str:=[[],[116,114,117,101],[102,97,108,115,101],[110,111,116],[97,108,108,111,102],[97,110,121,111,102],[104,101,97,100,101,114],[97,100,100,114,101,115,115],[101,110,118,101,108,111,112,101],[101,120,105,115,116,115],[115,105,122,101]]
theorem tstWs_len:tstWs.length=11:=rfl
def matWs:List Str:=[[],[105,115],[99,111,110,116,97,105,110,115],[109,97,116,99,104,101,115]]
theorem matWs_len:matWs.length=4:=rfl
def parWs:List Str:=[[],[97,108,108],[108,111,99,97,108,112,97,114,116],[100,111,109,97,105,110]]
theorem parWs_len:parWs.length=4:=rfl
def tabW (ws:List Str) (k:Int):Str:=ws.getD k.toNat []
theorem tab_at (ws:List Str) (k:Int) (h0:0≤k) (h:k<ws.length):List.take 1 (List.drop k.toNat (List.map D.str ws))=[D.str (tabW ws k)]:=by
 have hk:k.toNat<ws.length:=by omega
 rw[List.drop_eq_getElem_cons (by simpa using hk)]
 simp[tabW,List.getD,hk]
structure Tabs (T:Tbl):Prop where
 cmds:T 1=cmdWs.map D.str
 tests:T 4=tstWs.map D.str
 mats:T 6=matWs.map D.str
 parts:T 5=parWs.map D.str
mutual
def tT:Tst→List Tok
 | .mk k m p n ks o lim kids=>tW (tabW tstWs k)::(if k=3 then tK kids else if inB k 4 5=true then tTL kids true++[tM [41]] else if inB k 6 8=true then(if k=6 then [] else [tG (tabW parWs p)])++tG (tabW matWs m)::(strsT n++strsT ks) else if k=9 then strsT n else if k=10 then [tG (if o=true then [111,118,101,114] else [117,110,100,101,114]),tN lim] else [])
def tK:List Tst→List Tok
 |[]=>[]
 |x::_=>tT x
def tTL:List Tst→Bool→List Tok
 |[],_=>[]
 |x::l,f=>tM (if f=true then [40] else [44])::(tT x++tTL l false)
end
theorem tT_eq (t:Tst):tT t=tW (tabW tstWs t.kind)::(if t.kind=3 then tK t.kids else if inB t.kind 4 5=true then tTL t.kids true++[tM [41]] else if inB t.kind 6 8=true then(if t.kind=6 then [] else [tG (tabW parWs t.part)])++tG (tabW matWs t.mat)::(strsT t.names++strsT t.keys) else if t.kind=9 then strsT t.names else if t.kind=10 then [tG (if t.over=true then [111,118,101,114] else [117,110,100,101,114]),tN t.limit] else []):=by
 cases t;rw[tT];rfl
theorem tTL_drop (l:List Tst) (k:Nat) (f:Bool) (h:k<l.length):tTL (l.drop k) f=tM (if f=true then [40] else [44])::(tT (l[k]'h)++tTL (l.drop (k+1)) false):=by
 rw[List.drop_eq_getElem_cons h,tTL]
theorem tTL_end (l:List Tst) (k:Nat) (f:Bool) (h:l.length≤k):tTL (l.drop k) f=[]:=by rw[List.drop_eq_nil_of_le h,tTL]
theorem tK_eq (t:Tst) (h:0<t.kids.length):tK t.kids=tT (t.kids[0]'h):=by
 obtain⟨k,m,p,n,ks,o,lim,kids⟩:=t
 match kids,h with
 |x::l,h=>simp only[Tst.kids,tK];rfl
theorem tFL_mem (l:List Tst) (d:Int) (h:tFL l d=0):∀x∈l,tF x d=0:=by
 induction l with
 |nil=>simp
 | cons y l ih=>
  rw[tFL] at h
  intro x hx
  by_cases h1:tF y d=0
  ·rw[if_pos h1] at h
   rcases List.mem_cons.1 hx with rfl|hx
   ·exact h1
   ·exact ih h x hx
  ·rw[if_neg h1] at h;exact absurd h h1
theorem tF_ok {t:Tst} {d:Int} (h:tF t d=0):inB t.kind 1 10=true∧okS t=true∧∀x∈t.kids,tF x (d+1)=0:=by
 rw[tF_eq] at h
 by_cases h1:inB t.kind 1 10=false
 ·rw[if_pos h1] at h;omega
 ·rw[if_neg h1] at h
  by_cases h2:6<d
  ·rw[if_pos h2] at h;omega
  ·rw[if_neg h2] at h
   by_cases h3:okS t=false
   ·rw[if_pos h3] at h;omega
   ·rw[if_neg h3] at h
    exact⟨by simpa using h1,by simpa using h3,tFL_mem _ _ h⟩
theorem strsT_len (l:List Str):(strsT l).length≤2*l.length+1:=by
 unfold strsT
 split
 ·simp
 ·simp[itS_len]
end
section
theorem okS_inv (t:Tst) (h:okS t=true):(t.kind=3→t.kids.length=1)∧(inB t.kind 4 5=true→0<t.kids.length)∧(inB t.kind 6 8=true→0<t.names.length∧0<t.keys.length∧1≤t.mat∧t.mat≤3)∧(inB t.kind 7 8=true→1≤t.part∧t.part≤3)∧(t.kind=9→0<t.names.length)∧
 (inB t.kind 3 5=false→t.kids.length=0)∧(t.kind=6→t.part=0)∧(inB t.kind 6 8=false→t.mat=0∧t.part=0∧t.keys.length=0)∧(inB t.kind 6 8=false→t.kind≠9→t.names.length=0):=by
 simp only[okS,bareB,inB,Bool.and_eq_true,Bool.or_eq_true,Bool.not_eq_true',decide_eq_true_eq,decide_eq_false_iff_not,Bool.and_eq_false_iff] at h⊢
 refine⟨?_,?_,?_,?_,?_,?_,?_,?_,?_⟩<;>intro a<;>first|omega|grind (splits:=30)
attribute [local go_sem] wob List.length_map tstWs_len matWs_len parWs_len Nat.mul_one in
theorem wtest_step (T:Tbl) (b u:Nat) (X:List Tok) (F:List (Nat×Ob)) (L:List Nat) (t:Tst) (ok:t.Ok) (tb:Tabs T) (d:Int) (hF:tF t d=0) (hl:X.length+(tT t).length≤4398046511104) (ih:∀x∈t.kids,∀(u:Nat) (X:List Tok) (F:List (Nat×Ob)) (L:List Nat),X.length+(tT x).length≤4398046511104→AC Tryz.prog T 246 [.ptr b 1 0 0,.agg (tstA x)] ⟨wob b u X::F,u::L⟩ (WR b F L (X++tT x))):AC Tryz.prog T 246 [.ptr b 1 0 0,.agg (tstA t)] (⟨wob b u X::F,u::L⟩) (WR b F L (X++tT t)):=by
 refine⟨Tryz.call246,ACalls.enterS Tryz.func246 rfl Tryz.ntmps246 rfl fun hb=>?_⟩
 obtain⟨s1,s2,s3,s4⟩:=ok.inv
 obtain⟨hk,hO,hK⟩:=tF_ok hF
 obtain⟨o1,o2,o3,o4,o5,o6,o7,o8,o9⟩:=okS_inv t hO
 have hkk:1≤t.kind∧t.kind≤10:=by simpa[inB] using hk
 have hw:=tab_at tstWs t.kind (by omega) (by rw[tstWs_len];omega)
 have h1:0<(tT t).length:=by rw[tT_eq];simp
 have zf1:=tb.tests
 have zf2:=tb.mats
 have zf3:=tb.parts
 simp only[go_sem,Tryz.results246]
 refine Zx (Zy ?_)
 intro b3
 first|intro fb3|have fb3:=True.intro
 try simp only[freshL,wob] at fb3
 refine Zx ?_
 simp only[go_sem,zf1,hw,fb3]
 (repeat(with_reducible refine And.intro ZS ?_))
 refine DW.acp [b] [u] rfl rfl rfl rfl (by(try simp only[go_sem,fb3]);rfl) rfl (put_c T _ _ _ _ _ _ _ (by(try simp only[List.length_append,List.length_cons,List.length_nil]);omega)) ?_
 rintro _ _ ⟨W1,fW1,rfl,rfl⟩
 try simp only[freshT,freshL,wob] at fW1
 refine Zy ?_
 refine Zm 5 ?_
 refine Zp 11 ?_
 refine AWp.block (Zp 15 ?_)
 refine Zc (fun hc0=>?_) fun hc0=>?_
 ·
  have h0:0<t.kids.length:=by rw[o1 hc0];omega
  have hT:tT t=tW (tabW tstWs t.kind)::tT (t.kids[0]'h0):=by rw[tT_eq,if_pos hc0,tK_eq]
  have hTl:=congrArg List.length hT
  simp only[List.length_cons] at hTl
  have zf4:=fun d0_=>kidsD_get t 0 d0_ h0
  refine Zq fun K_ k_=>?_
  simp only[go_sem,fb3,zf4]
  (repeat(with_reducible refine And.intro ZS ?_))
  refine DW.acp [b] [W1] rfl rfl rfl rfl (by(try simp only[go_sem,fb3]);rfl) rfl (ih _ (List.getElem_mem h0) _ _ _ _ (by(try simp only[List.length_append,List.length_cons,List.length_nil]);omega)) ?_
  rintro _ _ ⟨W2,fW2,rfl,rfl⟩
  try simp only[freshT,freshL,wob] at fW2
  refine Zy ?_
  refine k_ _ _ (blkQ_n ?_)
  apply endW_n [b3] [] [b] [W2] (by(try simp only[go_sem]);rfl)
  · refine ⟨W2,by simp only[go_sem,fW2],rfl,?_⟩
    first|(simp only[go_sem,zf1,zf2,zf3,hw,fb3,fW1,zf4,fW2,hT,tW,tG,tM,tN,tS,List.append_assoc,List.cons_append,List.nil_append,hY];done)|(simp only[go_sem,fb3,hT,tW,List.append_assoc,List.cons_append,List.nil_append];done)|(simp only[go_sem,zf1,zf2,zf3,hw,fb3,fW1,zf4,fW2,hT,tW,tG,tM,tN,tS,List.append_assoc,List.cons_append,List.nil_append,toksD,List.map_append,List.map_cons,List.map_nil,tokD];done)
  · simp only[LeA,LeL]
 refine Zs (Zp 23 ?_)
 refine Zy ?_
 apply Za (z:=(_||_)) 7 22
 ·
  refine AWp.cond _ rfl (fun hc1=>?_) fun hc1=>?_
  rotate_left
  ·
   refine Zr (thenQ_n ?_)
   refine Zf 7 8 (.e ⟨EqS.bo (or_f hc1 rfl),⟨rfl⟩⟩)
  refine AWp.skip (thenQ_n ?_)
  refine Zf 7 8 (.e ⟨EqS.bo (or_t hc1),⟨rfl⟩⟩)
 refine Zy ?_
 refine Zc (fun hc2=>?_) fun hc2=>?_
 ·
  have e45:inB t.kind 4 5=true:=by simp[inB];omega
  have h0:=o2 e45
  have hT:tT t=tW (tabW tstWs t.kind)::(tTL t.kids true++[tM [41]]):=by rw[tT_eq,if_neg (by omega),if_pos e45]
  have hTl:=congrArg List.length hT
  simp only[List.length_cons,List.length_append,List.length_nil] at hTl
  refine Zs (Zp 225 ?_)
  refine AWp.block (Zy ?_)
  refine Zl 7 8 (fun n lc hc=> ∃(k v:Nat) (Y:List Tok),n=t.kids.length-k∧EqS lc [(28,.d (.int .i64 k))]∧EqS hc (⟨[wob b v Y,(b3,⟨8,1,[tstA t]⟩)]++F,v::L⟩)∧(k≤t.kids.length)∧(Y++tTL (t.kids.drop k) (decide (k=0))=X++tW (tabW tstWs t.kind)::tTL t.kids true)) ?_ ?_
  · refine ⟨_,0,W1,X++[⟨1,tabW tstWs t.kind,0⟩],rfl,ZE,ZE,?_,?_⟩
    all_goals(first|omega|(simp[tW];done))
  rintro _ _ _ ⟨k,v,Y,rfl,⟨rfl⟩,⟨rfl⟩,hk,hY⟩
  have hYl:=congrArg List.length hY
  simp only[List.length_append,List.length_cons] at hYl
  refine Zy ?_
  refine Zp 31 ?_
  refine Zs (Zc (fun hc3=>?_) fun hc3=>?_)
  ·
   have hlt:k<t.kids.length:=by omega
   rw[tTL_drop _ _ _ hlt] at hYl
   simp only[List.length_append,List.length_cons] at hYl
   have zf5:=fun d0_=>kidsD_get t k d0_ hlt
   refine Zk ?_
   refine Zs (AWp.block (Zx (Z3 ?_)))
   intro bz3
   first|intro fbz3|have fbz3:=True.intro
   try simp only[freshL,wob] at fbz3
   refine Zm 63 ?_
   refine Zx (Zy ?_)
   refine ZP (flag_c T _) ?_
   refine Zy ?_
   (repeat(with_reducible refine And.intro ZS ?_))
   refine DW.acp [b] [v] rfl rfl rfl rfl (by(try simp only[go_sem,fb3,fbz3]);rfl) rfl (put_c T _ _ _ _ _ _ _ (by(try simp only[List.length_append,List.length_cons,List.length_nil]);omega)) ?_
   rintro _ _ ⟨W4,fW4,rfl,rfl⟩
   try simp only[freshT,freshL,wob] at fW4
   refine Zy ?_
   refine Zm 61 ?_
   refine Zq fun K_ k_=>?_
   simp only[go_sem,fbz3]
   refine DW.acp [b] [W4] rfl rfl rfl rfl (by(try simp only[go_sem,fb3,fbz3]);rfl) rfl (ih _ (List.getElem_mem hlt) _ _ _ _ (by(try simp only[List.length_append,List.length_cons,List.length_nil]);omega)) ?_
   rintro _ _ ⟨W5,fW5,rfl,rfl⟩
   try simp only[freshT,freshL,wob] at fW5
   refine Zy ?_
   refine k_ _ _ (blkQ_n (thenQ_n ?_))
   refine Zm 29 ?_
   refine Zr (thenQ_n ?_)
   refine Ze 7 8 [bz3] [] [b,b3] [W5] (.e ⟨_,ZM,k+1,W5,Y++[⟨5,if decide ((k:Int)=0)=true then [40] else [44],0⟩]++tT (t.kids[k]'hlt),rfl,ZE,ZE,?_,?_⟩)
   · omega
   · rw [tTL_drop _ _ _ hlt] at hY;rw[←hY];by_cases hk0:k=0<;>simp[hk0,tM]
  rw[tTL_end _ _ _ (by omega),List.append_nil] at hY
  rw[tTL_end _ _ _ (by omega),List.length_nil] at hYl
  refine AWp.exit (thenQ_e (thenQ_e (blkQ_e (thenQ_n ?_))))
  refine Zm 1 ?_
  refine Zq fun K_ k_=>?_
  refine Zy ?_
  refine DW.acp [b] [v] rfl rfl rfl rfl (by(try simp only[go_sem,fb3]);rfl) rfl (put_c T _ _ _ _ _ _ _ (by(try simp only[List.length_append,List.length_cons,List.length_nil]);omega)) ?_
  rintro _ _ ⟨W6,fW6,rfl,rfl⟩
  try simp only[freshT,freshL,wob] at fW6
  refine Zy ?_
  refine k_ _ _ (blkQ_n ?_)
  apply endW_n [b3] [] [b] [W6] (by(try simp only[go_sem]);rfl)
  · refine ⟨W6,by simp only[go_sem,fW6],rfl,?_⟩
    first|(simp only[go_sem,fb3,hT,tW,tM,List.append_assoc,List.cons_append,hY];done)|(simp only[go_sem,zf1,zf2,zf3,hw,fb3,fW1,fW6,hT,tW,tG,tM,tN,tS,List.append_assoc,List.cons_append,List.nil_append];done)|(simp only[go_sem,zf1,zf2,zf3,hw,fb3,fW1,fW6,hT,tW,tG,tM,tN,tS,List.append_assoc,List.cons_append,List.nil_append,toksD,List.map_append,List.map_cons,List.map_nil,tokD];done)
  · simp only[LeA,LeL]
 have e45:inB t.kind 4 5=false:=by simp[inB];omega
 refine Zs (Zp 23 ?_)
 refine Zy ?_
 apply Za (z:=(_||(_||_))) 7 47
 ·
  refine AWp.cond _ rfl (fun hc4=>?_) fun hc4=>?_
  rotate_left
  ·
   refine Zp 15 ?_
   refine AWp.cond _ rfl (fun hc5=>?_) fun hc5=>?_
   rotate_left
   ·
    refine Zr (thenQ_n ?_)
    refine Zf 7 8 (.e ⟨EqS.bo (or_f hc4 (or_f hc5 rfl)),⟨rfl⟩⟩)
   refine AWp.skip (thenQ_n ?_)
   refine Zf 7 8 (.e ⟨EqS.bo (or_f hc4 (or_t hc5)),⟨rfl⟩⟩)
  refine AWp.skip (thenQ_n ?_)
  refine Zf 7 8 (.e ⟨EqS.bo (or_t hc4),⟨rfl⟩⟩)
 refine Zy ?_
 refine Zc (fun hc6=>?_) fun hc6=>?_
 ·
  have e68:inB t.kind 6 8=true:=by simp[inB];omega
  obtain⟨p1,p2,p3,p4⟩:=o3 e68
  have hwm:=tab_at matWs t.mat (by omega) (by rw[matWs_len];omega)
  have hT:tT t=tW (tabW tstWs t.kind)::((if t.kind=6 then [] else [tG (tabW parWs t.part)])++tG (tabW matWs t.mat)::(strsT t.names++strsT t.keys)):=by rw[tT_eq,if_neg (by omega),if_neg (by rw[e45];simp),if_pos e68]
  refine Zs (Zp 67 ?_)
  refine Zc (fun hc7=>?_) fun hc7=>?_
  ·
   obtain⟨q1,q2⟩:=o4 (by simp[inB];omega)
   have hwp:=tab_at parWs t.part (by omega) (by rw[parWs_len];omega)
   rw[if_neg hc7] at hT
   have hTl:=congrArg List.length hT
   simp only[List.length_cons,List.length_append,List.length_nil] at hTl
   refine Zq fun K_ k_=>?_
   simp only[go_sem,zf3,fb3,hwp]
   (repeat(with_reducible refine And.intro ZS ?_))
   refine DW.acp [b] [W1] rfl rfl rfl rfl (by(try simp only[go_sem,fb3]);rfl) rfl (put_c T _ _ _ _ _ _ _ (by(try simp only[List.length_append,List.length_cons,List.length_nil]);omega)) ?_
   rintro _ _ ⟨W7,fW7,rfl,rfl⟩
   try simp only[freshT,freshL,wob] at fW7
   refine Zy ?_
   refine k_ _ _ (thenQ_n ?_)
   refine Zm 3 ?_
   refine Zx ?_
   simp only[go_sem,zf2,fb3,hwm]
   (repeat(with_reducible refine And.intro ZS ?_))
   refine DW.acp [b] [W7] rfl rfl rfl rfl (by(try simp only[go_sem,fb3]);rfl) rfl (put_c T _ _ _ _ _ _ _ (by(try simp only[List.length_append,List.length_cons,List.length_nil]);omega)) ?_
   rintro _ _ ⟨W8,fW8,rfl,rfl⟩
   try simp only[freshT,freshL,wob] at fW8
   refine Zy ?_
   refine Zm 3 ?_
   refine Zx ?_
   simp only[go_sem,fb3]
   refine DW.acp [b] [W8] rfl rfl rfl rfl (by(try simp only[go_sem,fb3]);rfl) rfl (list_c T _ _ _ _ _ _ (by(try simp only[List.length_append,List.length_cons,List.length_nil]);omega)) ?_
   rintro _ _ ⟨W9,fW9,rfl,rfl⟩
   try simp only[freshT,freshL,wob] at fW9
   refine Zy ?_
   refine Zm 3 ?_
   refine Zq fun K_ k_=>?_
   simp only[go_sem,fb3]
   refine DW.acp [b] [W9] rfl rfl rfl rfl (by(try simp only[go_sem,fb3]);rfl) rfl (list_c T _ _ _ _ _ _ (by(try simp only[List.length_append,List.length_cons,List.length_nil]);omega)) ?_
   rintro _ _ ⟨W10,fW10,rfl,rfl⟩
   try simp only[freshT,freshL,wob] at fW10
   refine Zy ?_
   refine k_ _ _ (blkQ_n ?_)
   apply endW_n [b3] [] [b] [W10] (by(try simp only[go_sem]);rfl)
   · refine ⟨W10,by simp only[go_sem,fW10],rfl,?_⟩
     first|(simp only[go_sem,zf1,zf2,zf3,hw,fb3,fW1,hwm,hwp,fW7,fW8,fW9,fW10,hT,tW,tG,tM,tN,tS,List.append_assoc,List.cons_append,List.nil_append,hY];done)|(simp only[go_sem,fb3,hT,tW,tG,List.append_assoc,List.cons_append,List.nil_append];done)|(simp only[go_sem,zf1,zf2,zf3,hw,fb3,fW1,hwm,hwp,fW7,fW8,fW9,fW10,hT,tW,tG,tM,tN,tS,List.append_assoc,List.cons_append,List.nil_append,toksD,List.map_append,List.map_cons,List.map_nil,tokD];done)
   · simp only[LeA,LeL]
  rw[if_pos hc7] at hT
  have hTl:=congrArg List.length hT
  simp only[List.length_cons,List.length_append,List.length_nil] at hTl
  refine Zk ?_
  refine Zx ?_
  simp only[go_sem,zf2,fb3,hwm]
  (repeat(with_reducible refine And.intro ZS ?_))
  refine DW.acp [b] [W1] rfl rfl rfl rfl (by(try simp only[go_sem,fb3]);rfl) rfl (put_c T _ _ _ _ _ _ _ (by(try simp only[List.length_append,List.length_cons,List.length_nil]);omega)) ?_
  rintro _ _ ⟨W11,fW11,rfl,rfl⟩
  try simp only[freshT,freshL,wob] at fW11
  refine Zy ?_
  refine Zm 3 ?_
  refine Zx ?_
  simp only[go_sem,fb3]
  refine DW.acp [b] [W11] rfl rfl rfl rfl (by(try simp only[go_sem,fb3]);rfl) rfl (list_c T _ _ _ _ _ _ (by(try simp only[List.length_append,List.length_cons,List.length_nil]);omega)) ?_
  rintro _ _ ⟨W12,fW12,rfl,rfl⟩
  try simp only[freshT,freshL,wob] at fW12
  refine Zy ?_
  refine Zm 3 ?_
  refine Zq fun K_ k_=>?_
  simp only[go_sem,fb3]
  refine DW.acp [b] [W12] rfl rfl rfl rfl (by(try simp only[go_sem,fb3]);rfl) rfl (list_c T _ _ _ _ _ _ (by(try simp only[List.length_append,List.length_cons,List.length_nil]);omega)) ?_
  rintro _ _ ⟨W13,fW13,rfl,rfl⟩
  try simp only[freshT,freshL,wob] at fW13
  refine Zy ?_
  refine k_ _ _ (blkQ_n ?_)
  apply endW_n [b3] [] [b] [W13] (by(try simp only[go_sem]);rfl)
  · refine ⟨W13,by simp only[go_sem,fW13],rfl,?_⟩
    first|(simp only[go_sem,zf1,zf2,zf3,hw,fb3,fW1,hwm,fW11,fW12,fW13,hT,tW,tG,tM,tN,tS,List.append_assoc,List.cons_append,List.nil_append,hY];done)|(simp only[go_sem,fb3,hT,tW,tG,List.append_assoc,List.cons_append,List.nil_append];done)|(simp only[go_sem,zf1,zf2,zf3,hw,fb3,fW1,hwm,fW11,fW12,fW13,hT,tW,tG,tM,tN,tS,List.append_assoc,List.cons_append,List.nil_append,toksD,List.map_append,List.map_cons,List.map_nil,tokD];done)
  · simp only[LeA,LeL]
 have e68:inB t.kind 6 8=false:=by simp[inB];omega
 refine Zp 23 ?_
 refine Zc (fun hc8=>?_) fun hc8=>?_
 ·
  have hT:tT t=tW (tabW tstWs t.kind)::strsT t.names:=by rw[tT_eq,if_neg (by omega),if_neg (by rw[e45];simp),if_neg (by rw[e68];simp),if_pos hc8]
  have hTl:=congrArg List.length hT
  simp only[List.length_cons] at hTl
  refine Zq fun K_ k_=>?_
  simp only[go_sem,fb3]
  refine DW.acp [b] [W1] rfl rfl rfl rfl (by(try simp only[go_sem,fb3]);rfl) rfl (list_c T _ _ _ _ _ _ (by(try simp only[List.length_append,List.length_cons,List.length_nil]);omega)) ?_
  rintro _ _ ⟨W14,fW14,rfl,rfl⟩
  try simp only[freshT,freshL,wob] at fW14
  refine Zy ?_
  refine k_ _ _ (blkQ_n ?_)
  apply endW_n [b3] [] [b] [W14] (by(try simp only[go_sem]);rfl)
  · refine ⟨W14,by simp only[go_sem,fW14],rfl,?_⟩
    first|(simp only[go_sem,zf1,zf2,zf3,hw,fb3,fW1,fW14,hT,tW,tG,tM,tN,tS,List.append_assoc,List.cons_append,List.nil_append,hY];done)|(simp only[go_sem,fb3,hT,tW,List.append_assoc,List.cons_append,List.nil_append];done)|(simp only[go_sem,zf1,zf2,zf3,hw,fb3,fW1,fW14,hT,tW,tG,tM,tN,tS,List.append_assoc,List.cons_append,List.nil_append,toksD,List.map_append,List.map_cons,List.map_nil,tokD];done)
  · simp only[LeA,LeL]
 refine Zp 19 ?_
 refine Zc (fun hc9=>?_) fun hc9=>?_
 ·
  have hT:tT t=tW (tabW tstWs t.kind)::[tG (if t.over=true then [111,118,101,114] else [117,110,100,101,114]),tN t.limit]:=by rw[tT_eq,if_neg (by omega),if_neg (by rw[e45];simp),if_neg (by rw[e68];simp),if_neg hc8,if_pos hc9]
  have hTl:=congrArg List.length hT
  simp only[List.length_cons,List.length_nil] at hTl
  refine Zx ?_
  simp only[go_sem,fb3]
  refine ZP (flag_c T _) ?_
  refine Zy ?_
  (repeat(with_reducible refine And.intro ZS ?_))
  refine DW.acp [b] [W1] rfl rfl rfl rfl (by(try simp only[go_sem,fb3]);rfl) rfl (put_c T _ _ _ _ _ _ _ (by(try simp only[List.length_append,List.length_cons,List.length_nil]);omega)) ?_
  rintro _ _ ⟨W15,fW15,rfl,rfl⟩
  try simp only[freshT,freshL,wob] at fW15
  refine Zy ?_
  refine Zm 3 ?_
  refine Zt true [0,1,2,3,4,5,6,7,8,9,10,11,12] fun K_ k_=>?_
  simp only[go_sem,fb3]
  refine ZW fun t1 ft1=>?_
  try simp only[freshT] at ft1
  simp only[go_sem,fb3]
  refine k_ _ _ (blkQ_n ?_)
  apply endW_n [b3] [] [b] [t1] (by(try simp only[go_sem]);rfl)
  · refine ⟨t1,by simp only[go_sem,ft1],rfl,?_⟩
    first|(simp only[go_sem,zf1,zf2,zf3,hw,fb3,fW1,fW15,ft1,hT,tW,tG,tM,tN,tS,List.append_assoc,List.cons_append,List.nil_append,hY];done)|(simp only[go_sem,fb3,hT,tW,tG,tN,List.append_assoc,List.cons_append,List.nil_append];done)|(simp only[go_sem,fb3,hT,tW,tG,tN,List.append_assoc,List.cons_append,List.nil_append,toksD,List.map_append,List.map_cons,List.map_nil,tokD];done)
  · simp only[LeA,LeL]
 have hT:tT t=tW (tabW tstWs t.kind)::[]:=by rw[tT_eq,if_neg (by omega),if_neg (by rw[e45];simp),if_neg (by rw[e68];simp),if_neg hc8,if_neg hc9]
 refine AWp.skip (blkQ_n ?_)
 apply endW_n [b3] [] [b] [W1] (by(try simp only[go_sem]);rfl)
 · refine ⟨W1,by simp only[go_sem,fW1],rfl,?_⟩
   first|(simp only[go_sem,zf1,zf2,zf3,hw,fb3,fW1,hT,tW,tG,tM,tN,tS,List.append_assoc,List.cons_append,List.nil_append,hY];done)|(simp only[go_sem,fb3,hT,tW];done)|(simp only[go_sem,zf1,zf2,zf3,hw,fb3,fW1,hT,tW,tG,tM,tN,tS,List.append_assoc,List.cons_append,List.nil_append,toksD,List.map_append,List.map_cons,List.map_nil,tokD];done)
 · simp only[LeA,LeL]
theorem wtest_c (T:Tbl) (b:Nat) (tb:Tabs T) (t:Tst) (ok:t.Ok) (d:Int) (hF:tF t d=0) (u:Nat) (X:List Tok) (F:List (Nat×Ob)) (L:List Nat) (hl:X.length+(tT t).length≤4398046511104):AC Tryz.prog T 246 [.ptr b 1 0 0,.agg (tstA t)] ⟨wob b u X::F,u::L⟩ (WR b F L (X++tT t)):=by
 induction t using Tst.ind generalizing d u X F L with
 |h t ih=>exact wtest_step T b u X F L t ok tb d hF hl fun x hx u X F L h=>ih x hx (ok.inv.2.2.2 x hx) (d+1) ((tF_ok hF).2.2 x hx) u X F L h
mutual
def cmT:Cmd→List Tok
 | .mk k tx t a e=>if k=2 then tT t++tM [123]::(lsT a++tM [125]::elT e) else(if 0<tx.length then strsT tx else [])++[tM [59]]
def lsT:List Cmd→List Tok
 |[]=>[]
 |x::l=>tW (tabW cmdWs x.kind)::(cmT x++lsT l)
def elT:List Cmd→List Tok
 |[]=>[]
 |[x]=>if x.kind=2 then tW [101,108,115,105,102]::cmT x else tW [101,108,115,101]::tM [123]::(tW (tabW cmdWs x.kind)::cmT x++[tM [125]])
 |x::y::l=>tW [101,108,115,101]::tM [123]::(tW (tabW cmdWs x.kind)::(cmT x++lsT (y::l))++[tM [125]])
end
theorem cmT_eq (c:Cmd):cmT c=if c.kind=2 then tT c.test++tM [123]::(lsT c.thn++tM [125]::elT c.els) else(if 0<c.texts.length then strsT c.texts else [])++[tM [59]]:=by
 cases c;rw[cmT];rfl
theorem lsT_drop (l:List Cmd) (k:Nat) (h:k<l.length):lsT (l.drop k)=tW (tabW cmdWs (l[k]'h).kind)::(cmT (l[k]'h)++lsT (l.drop (k+1))):=by
 rw[List.drop_eq_getElem_cons h,lsT]
theorem lsT_end (l:List Cmd) (k:Nat) (h:l.length≤k):lsT (l.drop k)=[]:=by rw[List.drop_eq_nil_of_le h,lsT]
theorem elT_t (c:Cmd) (h:elsifC c=true) (h1:0<c.els.length):elT c.els=tW [101,108,115,105,102]::cmT (c.els[0]'h1):=by
 obtain⟨k,tx,t,a,e⟩:=c
 simp only[elsifC,Cmd.els] at*
 match e,h,h1 with
 |[x],h,h1=>simp at h;simp[elT,h]
theorem elT_f (c:Cmd) (h:elsifC c=false) (h1:0<c.els.length):elT c.els=tW [101,108,115,101]::tM [123]::(lsT c.els++[tM [125]]):=by
 obtain⟨k,tx,t,a,e⟩:=c
 simp only[elsifC,Cmd.els] at*
 match e,h,h1 with
 |[x],h,h1=>simp at h;simp[elT,lsT,h]
 |x::y::l,h,h1=>simp[elT,lsT]
theorem elT_0 (c:Cmd) (h:c.els.length=0):elT c.els=[]:=by
 rw[List.eq_nil_of_length_eq_zero h,elT]
theorem cFL_mem (l:List Cmd) (d:Int) (h:cFL l d=0):∀x∈l,cF x d=0:=by
 induction l with
 |nil=>simp
 | cons y l ih=>
  rw[cFL] at h
  intro x hx
  by_cases h1:cF y d=0
  ·rw[if_pos h1] at h
   rcases List.mem_cons.1 hx with rfl|hx
   ·exact h1
   ·exact ih h x hx
  ·rw[if_neg h1] at h;exact absurd h h1
theorem cF_ok {c:Cmd} {d:Int} (h:cF c d=0):inB c.kind 1 10=true∧(c.kind=2→tF c.test 1=0∧(∀x∈c.thn,cF x (d+1)=0)∧(elsifC c=true→∀x∈c.els,cF x d=0)∧(elsifC c=false→∀x∈c.els,cF x (d+1)=0))∧(c.kind≠2→okC c=true):=by
 rw[cF_eq] at h
 by_cases h1:inB c.kind 1 10=false
 ·rw[if_pos h1] at h;omega
 ·rw[if_neg h1] at h
  by_cases h2:6<d
  ·rw[if_pos h2] at h;omega
  ·rw[if_neg h2] at h
   refine⟨by simpa using h1,fun h3=>?_,fun h3=>?_⟩
   ·rw[if_pos h3] at h
    by_cases h4:0<c.texts.length
    ·rw[if_pos h4] at h;omega
    ·rw[if_neg h4] at h
     by_cases h5:tF c.test 1=0
     ·rw[if_pos h5] at h
      by_cases h6:cFL c.thn (d+1)=0
      ·rw[if_pos h6] at h
       refine⟨h5,cFL_mem _ _ h6,fun h7 x hx=>?_,fun h7=>?_⟩
       ·have h8:c.els.length=1:=by simp[elsifC] at h7;exact h7.1
        rw[cFE_t c d h7 (by omega)] at h
        obtain⟨i,hi,rfl⟩:=List.getElem_of_mem hx
        have:i=0:=by omega
        subst this;exact h
       ·rw[cFE_f c d h7] at h
        exact cFL_mem _ _ h
      ·rw[if_neg h6] at h;exact absurd h h6
     ·rw[if_neg h5] at h;exact absurd h h5
   ·rw[if_neg h3] at h
    by_cases h4:okC c=true
    ·exact h4
    ·rw[if_neg h4] at h;omega
end
section
attribute [local go_sem] wob in
theorem wblock_step (T:Tbl) (b u:Nat) (X:List Tok) (F:List (Nat×Ob)) (L:List Nat) (l:List Cmd) (hll:l.length*208≤140737488355328) (hl:X.length+(tM [123]::(lsT l++[tM [125]])).length≤4398046511104) (ih:∀x∈l,∀(u:Nat) (X:List Tok) (F:List (Nat×Ob)) (L:List Nat),X.length+(tW (tabW cmdWs x.kind)::cmT x).length≤4398046511104→AC Tryz.prog T 113 [.ptr b 1 0 0,.agg (cmdA x)] ⟨wob b u X::F,u::L⟩ (WR b F L (X++tW (tabW cmdWs x.kind)::cmT x))):AC Tryz.prog T 247 [.ptr b 1 0 0,.d (.slc 12 (l.map cmdD))] (⟨wob b u X::F,u::L⟩) (WR b F L (X++tM [123]::(lsT l++[tM [125]]))):=by
 refine⟨Tryz.call247,ACalls.enterS Tryz.func247 rfl Tryz.ntmps247 rfl fun hb=>?_⟩
 simp only[List.length_cons,List.length_append,List.length_nil] at hl
 simp only[go_sem,Tryz.results247]
 refine Zx (Zy ?_)
 refine DW.acp [b] [u] rfl rfl rfl rfl (by(try simp only[go_sem]);rfl) rfl (put_c T _ _ _ _ _ _ _ (by(try simp only[List.length_cons,List.length_append,List.length_nil]);omega)) ?_
 rintro _ _ ⟨W1,fW1,rfl,rfl⟩
 try simp only[freshT,freshL,wob] at fW1
 refine Zy ?_
 refine Zs (Zp 113 ?_)
 refine AWp.block (Zy ?_)
 refine Zl 7 8 (fun n lc hc=> ∃(k v:Nat) (Y:List Tok),n=l.length-k∧EqS lc [(10,.d (.int .i64 k))]∧EqS hc (⟨[wob b v Y]++F,v::L⟩)∧(k≤l.length)∧(Y++lsT (l.drop k)=X++tM [123]::lsT l)) ?_ ?_
 · refine ⟨_,0,W1,X++[⟨5,[123],0⟩],rfl,ZE,ZE,?_,?_⟩
   all_goals(first|omega|(simp[tM];done))
 rintro _ _ _ ⟨k,v,Y,rfl,⟨rfl⟩,⟨rfl⟩,hk,hY⟩
 have hYl:=congrArg List.length hY
 simp only[List.length_cons,List.length_append] at hYl
 refine Zy ?_
 refine Zp 31 ?_
 refine Zs (Zc (fun hc0=>?_) fun hc0=>?_)
 ·
  have hlt:k<l.length:=by omega
  rw[lsT_drop _ _ hlt] at hYl
  simp only[List.length_cons,List.length_append] at hYl
  have zf1:=fun d0_=>map_getD cmdD _ _ d0_ hlt
  refine Zk ?_
  refine Zs (AWp.block (Zx ?_))
  simp only[go_sem,zf1]
  (repeat(with_reducible refine And.intro ZS ?_))
  intro bz2
  first|intro fbz2|have fbz2:=True.intro
  try simp only[freshL,wob] at fbz2
  refine Zq fun K_ k_=>?_
  simp only[go_sem,fbz2]
  refine DW.acp [b] [v] rfl rfl rfl rfl (by(try simp only[go_sem,fbz2]);rfl) rfl (ih _ (List.getElem_mem hlt) _ _ _ _ (by(try simp only[List.length_cons]);omega)) ?_
  rintro _ _ ⟨W3,fW3,rfl,rfl⟩
  try simp only[freshT,freshL,wob] at fW3
  refine Zy ?_
  refine k_ _ _ (blkQ_n (thenQ_n ?_))
  refine Zm 29 ?_
  refine Zr (thenQ_n ?_)
  refine Ze 7 8 [bz2] [] [b] [W3] (.e ⟨_,ZM,k+1,W3,Y++(tW (tabW cmdWs (l[k]'hlt).kind)::cmT (l[k]'hlt)),rfl,ZE,ZE,?_,?_⟩)
  · omega
  · rw [←hY,lsT_drop _ _ hlt];simp
 rw[lsT_end _ _ (by omega),List.append_nil] at hY
 rw[lsT_end _ _ (by omega),List.length_nil] at hYl
 refine AWp.exit (thenQ_e (thenQ_e (blkQ_e (thenQ_n ?_))))
 refine Zm 1 ?_
 refine Zq fun K_ k_=>?_
 refine Zy ?_
 refine DW.acp [b] [v] rfl rfl rfl rfl (by(try simp only[go_sem]);rfl) rfl (put_c T _ _ _ _ _ _ _ (by(try simp only[List.length_cons,List.length_append,List.length_nil]);omega)) ?_
 rintro _ _ ⟨W4,fW4,rfl,rfl⟩
 try simp only[freshT,freshL,wob] at fW4
 refine Zy ?_
 refine k_ _ _ ?_
 apply endW_n [] [] [b] [W4] (by(try simp only[go_sem]);rfl)
 · refine ⟨W4,by simp only[go_sem,fW4],rfl,?_⟩
   (simp only[go_sem,tM,List.append_assoc,List.cons_append,hY];done)
 · simp only[LeA,LeL]
attribute [local go_sem] wob List.getD_nil List.take_nil List.map_nil List.headD_nil decide_false in
theorem wbranch_0 (T:Tbl) (b u:Nat) (X:List Tok) (F:List (Nat×Ob)) (L:List Nat) (c:Cmd) (ok:c.Ok) (h0:c.els.length=0) (tb:Tabs T) (h2:c.kind=2) (d:Int) (hF:cF c d=0) (hl:X.length+(cmT c).length≤4398046511104) (i1:∀(u:Nat) (X:List Tok) (F:List (Nat×Ob)) (L:List Nat),X.length+(tM [123]::(lsT c.thn++[tM [125]])).length≤4398046511104→AC Tryz.prog T 247 [.ptr b 1 0 0,.d (.slc 12 (thnD c))] ⟨wob b u X::F,u::L⟩ (WR b F L (X++tM [123]::(lsT c.thn++[tM [125]])))) (i2:∀(u:Nat) (X:List Tok) (F:List (Nat×Ob)) (L:List Nat),X.length+(tM [123]::(lsT c.els++[tM [125]])).length≤4398046511104→AC Tryz.prog T 247 [.ptr b 1 0 0,.d (.slc 12 (elsD c))] ⟨wob b u X::F,u::L⟩ (WR b F L (X++tM [123]::(lsT c.els++[tM [125]])))):AC Tryz.prog T 197 [.ptr b 1 0 0,.agg (cmdA c)] (⟨wob b u X::F,u::L⟩) (WR b F L (X++cmT c)):=by
 refine⟨Tryz.call197,ACalls.enterS Tryz.func197 rfl Tryz.ntmps197 rfl fun hb=>?_⟩
 obtain⟨s1,s2,s3,s4,s5,s6⟩:=ok.inv
 obtain⟨hk,hok,_⟩:=cF_ok hF
 obtain⟨hft,_,_,_⟩:=hok h2
 have hT:cmT c=tT c.test++tM [123]::(lsT c.thn++tM [125]::elT c.els):=by rw[cmT_eq,if_pos h2]
 have hTl:=congrArg List.length hT
 simp only[List.length_cons,List.length_append] at hTl
 have hE:elsD c=[]:=by rw[elsD_eq,List.map_eq_nil_iff];exact List.eq_nil_of_length_eq_zero h0
 have hi0:((c.els.length:Int)=1)=False:=by simp only[eq_iff_iff,iff_false];omega
 rw[elT_0 c h0] at hT hTl
 have zf1:=tb.cmds
 simp only[go_sem,Tryz.results197]
 refine Zx ?_
 simp only[go_sem,hE]
 intro b3
 first|intro fb3|have fb3:=True.intro
 try simp only[freshL,wob] at fb3
 refine Zx ?_
 simp only[go_sem,fb3]
 refine DW.acp [b] [u] rfl rfl rfl rfl (by(try simp only[go_sem,fb3]);rfl) rfl (wtest_c T _ tb c.test s2 1 hft _ _ _ _ (by(try simp only[List.length_cons,List.length_append,List.length_nil]);omega)) ?_
 rintro _ _ ⟨W1,fW1,rfl,rfl⟩
 try simp only[freshT,freshL,wob] at fW1
 refine Zy ?_
 refine Zm 5 ?_
 refine Zx ?_
 simp only[go_sem,fb3]
 refine DW.acp [b] [W1] rfl rfl rfl rfl (by(try simp only[go_sem,fb3]);rfl) rfl (i1 _ _ _ _ (by(try simp only[List.length_cons,List.length_append,List.length_nil]);omega)) ?_
 rintro _ _ ⟨W2,fW2,rfl,rfl⟩
 try simp only[freshT,freshL,wob] at fW2
 refine Zy ?_
 refine Zm 3 ?_
 refine AWp.block (Zp 7 ?_)
 refine Zc (fun hc0=>?_) fun hc0=>?_
 ·
  first|omega|(simp at hc0)
 refine Zp 11 ?_
 refine Zc (fun hc1=>?_) fun hc1=>?_
 ·
  first|omega|(simp at hc1)
 refine AWp.skip (blkQ_n ?_)
 apply endW_n [b3] [] [b] [W2] (by(try simp only[go_sem]);rfl)
 · refine ⟨W2,by simp only[go_sem,fW2],rfl,?_⟩
   (simp only[go_sem,fb3,tM,List.append_assoc,hT];done)
 · simp only[LeA,LeL]
attribute [local go_sem] wob in
theorem wbranch_1 (T:Tbl) (b u:Nat) (X:List Tok) (F:List (Nat×Ob)) (L:List Nat) (c:Cmd) (ok:c.Ok) (h0:0<c.els.length) (tb:Tabs T) (h2:c.kind=2) (d:Int) (hF:cF c d=0) (hl:X.length+(cmT c).length≤4398046511104) (i1:∀(u:Nat) (X:List Tok) (F:List (Nat×Ob)) (L:List Nat),X.length+(tM [123]::(lsT c.thn++[tM [125]])).length≤4398046511104→AC Tryz.prog T 247 [.ptr b 1 0 0,.d (.slc 12 (thnD c))] ⟨wob b u X::F,u::L⟩ (WR b F L (X++tM [123]::(lsT c.thn++[tM [125]])))) (i2:∀(u:Nat) (X:List Tok) (F:List (Nat×Ob)) (L:List Nat),X.length+(tM [123]::(lsT c.els++[tM [125]])).length≤4398046511104→AC Tryz.prog T 247 [.ptr b 1 0 0,.d (.slc 12 (elsD c))] ⟨wob b u X::F,u::L⟩ (WR b F L (X++tM [123]::(lsT c.els++[tM [125]])))) (i3:(c.els[0]'h0).kind=2→∀(u:Nat) (X:List Tok) (F:List (Nat×Ob)) (L:List Nat),X.length+(cmT (c.els[0]'h0)).length≤4398046511104→AC Tryz.prog T 197 [.ptr b 1 0 0,.agg (cmdA (c.els[0]'h0))] ⟨wob b u X::F,u::L⟩ (WR b F L (X++cmT (c.els[0]'h0)))):AC Tryz.prog T 197 [.ptr b 1 0 0,.agg (cmdA c)] (⟨wob b u X::F,u::L⟩) (WR b F L (X++cmT c)):=by
 refine⟨Tryz.call197,ACalls.enterS Tryz.func197 rfl Tryz.ntmps197 rfl fun hb=>?_⟩
 obtain⟨s1,s2,s3,s4,s5,s6⟩:=ok.inv
 obtain⟨hk,hok,_⟩:=cF_ok hF
 obtain⟨hft,_,_,_⟩:=hok h2
 have hT:cmT c=tT c.test++tM [123]::(lsT c.thn++tM [125]::elT c.els):=by rw[cmT_eq,if_pos h2]
 have hTl:=congrArg List.length hT
 simp only[List.length_cons,List.length_append] at hTl
 have el1:((c.els.length:Int)=1)=(c.els.length=1):=by simp only[eq_iff_iff];omega
 have zf1:=tb.cmds
 have zf2:=fun d0_=>elsD_get c _ d0_ h0
 simp only[go_sem,Tryz.results197]
 refine Zx (Zy ?_)
 intro b3
 first|intro fb3|have fb3:=True.intro
 try simp only[freshL,wob] at fb3
 refine Zx ?_
 simp only[go_sem,fb3]
 refine DW.acp [b] [u] rfl rfl rfl rfl (by(try simp only[go_sem,fb3]);rfl) rfl (wtest_c T _ tb c.test s2 1 hft _ _ _ _ (by(try simp only[List.length_cons,List.length_append,List.length_nil]);omega)) ?_
 rintro _ _ ⟨W1,fW1,rfl,rfl⟩
 try simp only[freshT,freshL,wob] at fW1
 refine Zy ?_
 refine Zm 5 ?_
 refine Zx ?_
 simp only[go_sem,fb3]
 refine DW.acp [b] [W1] rfl rfl rfl rfl (by(try simp only[go_sem,fb3]);rfl) rfl (i1 _ _ _ _ (by(try simp only[List.length_cons,List.length_append,List.length_nil]);omega)) ?_
 rintro _ _ ⟨W2,fW2,rfl,rfl⟩
 try simp only[freshT,freshL,wob] at fW2
 refine Zy ?_
 refine Zm 3 ?_
 refine AWp.block (Zp 7 ?_)
 refine Zc (fun hc0=>?_) fun hc0=>?_
 ·
  have he:elsifC c=true:=by rw[elsD_kind c h0];simp[hc0]
  rw[elT_t c he h0] at hT hTl
  simp only[List.length_cons] at hTl
  refine Zx (Zy ?_)
  refine DW.acp [b] [W2] rfl rfl rfl rfl (by(try simp only[go_sem,fb3]);rfl) rfl (put_c T _ _ _ _ _ _ _ (by(try simp only[List.length_cons,List.length_append,List.length_nil]);omega)) ?_
  rintro _ _ ⟨W3,fW3,rfl,rfl⟩
  try simp only[freshT,freshL,wob] at fW3
  refine Zy ?_
  refine Zq fun K_ k_=>?_
  simp only[go_sem,zf2,fb3]
  (repeat(with_reducible refine And.intro ZS ?_))
  refine DW.acp [b] [W3] rfl rfl rfl rfl (by(try simp only[go_sem,fb3]);rfl) rfl (i3 hc0.2 _ _ _ _ (by(try simp only[List.length_cons,List.length_append,List.length_nil]);omega)) ?_
  rintro _ _ ⟨W4,fW4,rfl,rfl⟩
  try simp only[freshT,freshL,wob] at fW4
  refine Zy ?_
  refine k_ _ _ (blkQ_n ?_)
  apply endW_n [b3] [] [b] [W4] (by(try simp only[go_sem]);rfl)
  · refine ⟨W4,by simp only[go_sem,fW4],rfl,?_⟩
    (simp only[go_sem,fb3,tW,tM,List.append_assoc,List.cons_append,List.nil_append,hT];done)
  · simp only[LeA,LeL]
 have he:elsifC c=false:=by rw[elsD_kind c h0];rcases hc0 with h|h<;>simp[h]
 rw[elT_f c he h0] at hT hTl
 simp only[List.length_cons,List.length_append,List.length_nil] at hTl
 refine Zp 11 ?_
 refine Zc (fun hc1=>?_) fun hc1=>?_
 ·
  refine Zx (Zy ?_)
  refine DW.acp [b] [W2] rfl rfl rfl rfl (by(try simp only[go_sem,fb3]);rfl) rfl (put_c T _ _ _ _ _ _ _ (by(try simp only[List.length_cons,List.length_append,List.length_nil]);omega)) ?_
  rintro _ _ ⟨W5,fW5,rfl,rfl⟩
  try simp only[freshT,freshL,wob] at fW5
  refine Zy ?_
  refine Zq fun K_ k_=>?_
  simp only[go_sem,fb3]
  refine DW.acp [b] [W5] rfl rfl rfl rfl (by(try simp only[go_sem,fb3]);rfl) rfl (i2 _ _ _ _ (by(try simp only[List.length_cons,List.length_append,List.length_nil]);omega)) ?_
  rintro _ _ ⟨W6,fW6,rfl,rfl⟩
  try simp only[freshT,freshL,wob] at fW6
  refine Zy ?_
  refine k_ _ _ (blkQ_n ?_)
  apply endW_n [b3] [] [b] [W6] (by(try simp only[go_sem]);rfl)
  · refine ⟨W6,by simp only[go_sem,fW6],rfl,?_⟩
    (simp only[go_sem,fb3,tW,tM,List.append_assoc,List.cons_append,List.nil_append,hT];done)
  · simp only[LeA,LeL]
 omega
attribute [local go_sem] wob cmdWs_len List.length_map Nat.mul_one in
theorem wcmd_step (T:Tbl) (b u:Nat) (X:List Tok) (F:List (Nat×Ob)) (L:List Nat) (c:Cmd) (ok:c.Ok) (tb:Tabs T) (d:Int) (hF:cF c d=0) (hl:X.length+(tW (tabW cmdWs c.kind)::cmT c).length≤4398046511104) (ib:c.kind=2→∀(u:Nat) (X:List Tok) (F:List (Nat×Ob)) (L:List Nat),X.length+(cmT c).length≤4398046511104→AC Tryz.prog T 197 [.ptr b 1 0 0,.agg (cmdA c)] ⟨wob b u X::F,u::L⟩ (WR b F L (X++cmT c))):AC Tryz.prog T 113 [.ptr b 1 0 0,.agg (cmdA c)] (⟨wob b u X::F,u::L⟩) (WR b F L (X++tW (tabW cmdWs c.kind)::cmT c)):=by
 refine⟨Tryz.call113,ACalls.enterS Tryz.func113 rfl Tryz.ntmps113 rfl fun hb=>?_⟩
 obtain⟨s1,s2,s3,s4,s5,s6⟩:=ok.inv
 obtain⟨hk,_,hok⟩:=cF_ok hF
 have hkk:1≤c.kind∧c.kind≤10:=by simpa[inB] using hk
 have hw:=tab_at cmdWs c.kind (by omega) (by rw[cmdWs_len];omega)
 simp only[List.length_cons] at hl
 have zf1:=tb.cmds
 simp only[go_sem,Tryz.results113]
 refine Zx (Zy ?_)
 intro b3
 first|intro fb3|have fb3:=True.intro
 try simp only[freshL,wob] at fb3
 refine Zx ?_
 simp only[go_sem,zf1,hw,fb3]
 (repeat(with_reducible refine And.intro ZS ?_))
 refine DW.acp [b] [u] rfl rfl rfl rfl (by(try simp only[go_sem,fb3]);rfl) rfl (put_c T _ _ _ _ _ _ _ (by(try simp only[List.length_cons,List.length_append,List.length_nil]);omega)) ?_
 rintro _ _ ⟨W1,fW1,rfl,rfl⟩
 try simp only[freshT,freshL,wob] at fW1
 refine Zy ?_
 refine Zm 5 ?_
 refine Zs (Zp 19 ?_)
 refine Zc (fun hc0=>?_) fun hc0=>?_
 ·
  refine Zx ?_
  simp only[go_sem,fb3]
  refine DW.acp [b] [W1] rfl rfl rfl rfl (by(try simp only[go_sem,fb3]);rfl) rfl (ib hc0 _ _ _ _ (by(try simp only[List.length_cons,List.length_append,List.length_nil]);omega)) ?_
  rintro _ _ ⟨W2,fW2,rfl,rfl⟩
  try simp only[freshT,freshL,wob] at fW2
  refine Zy ?_
  refine Zm 0 ?_
  refine AWp.ret ?_
  simp only[thenQ]
  apply endW_r [b3] [] [b] [W2] (by(try simp only[go_sem]);rfl)
  · refine ⟨W2,by simp only[go_sem,fW2],rfl,?_⟩
    first|(simp only[go_sem,zf1,hw,fb3,fW1,fW2,tW,tG,tM,tN,tS,List.append_assoc,List.cons_append,List.nil_append,hT];done)|(simp only[go_sem,fb3,tW,List.append_assoc,List.cons_append,List.nil_append];done)
  · simp only[LeA,LeL]
 have hT:cmT c=(if 0<c.texts.length then strsT c.texts else [])++[tM [59]]:=by rw[cmT_eq,if_neg hc0]
 refine Zk ?_
 refine Zs (Zp 67 ?_)
 refine Zc (fun hc1=>?_) fun hc1=>?_
 ·
  rw[if_pos (by omega)] at hT
  have hTl:=congrArg List.length hT
  simp only[List.length_cons,List.length_append,List.length_nil] at hTl
  refine Zq fun K_ k_=>?_
  simp only[go_sem,fb3]
  refine DW.acp [b] [W1] rfl rfl rfl rfl (by(try simp only[go_sem,fb3]);rfl) rfl (list_c T _ _ _ _ _ _ (by(try simp only[List.length_append,List.length_cons,List.length_nil]);omega)) ?_
  rintro _ _ ⟨W3,fW3,rfl,rfl⟩
  try simp only[freshT,freshL,wob] at fW3
  refine Zy ?_
  refine k_ _ _ (thenQ_n ?_)
  refine Zm 1 ?_
  refine Zq fun K_ k_=>?_
  refine Zy ?_
  refine DW.acp [b] [W3] rfl rfl rfl rfl (by(try simp only[go_sem,fb3]);rfl) rfl (put_c T _ _ _ _ _ _ _ (by(try simp only[List.length_cons,List.length_append,List.length_nil]);omega)) ?_
  rintro _ _ ⟨W4,fW4,rfl,rfl⟩
  try simp only[freshT,freshL,wob] at fW4
  refine Zy ?_
  refine k_ _ _ ?_
  apply endW_n [b3] [] [b] [W4] (by(try simp only[go_sem]);rfl)
  · refine ⟨W4,by simp only[go_sem,fW4],rfl,?_⟩
    first|(simp only[go_sem,fb3,tW,tM,List.append_assoc,List.cons_append,List.nil_append,hT];done)|(simp only[go_sem,zf1,hw,fb3,fW1,fW3,fW4,tW,tG,tM,tN,tS,List.append_assoc,List.cons_append,List.nil_append];done)
  · simp only[LeA,LeL]
 rw[if_neg (by omega)] at hT
 have hTl:=congrArg List.length hT
 simp only[List.length_cons,List.length_append,List.length_nil] at hTl
 refine Zk ?_
 refine Zq fun K_ k_=>?_
 refine Zy ?_
 refine DW.acp [b] [W1] rfl rfl rfl rfl (by(try simp only[go_sem,fb3]);rfl) rfl (put_c T _ _ _ _ _ _ _ (by(try simp only[List.length_cons,List.length_append,List.length_nil]);omega)) ?_
 rintro _ _ ⟨W5,fW5,rfl,rfl⟩
 try simp only[freshT,freshL,wob] at fW5
 refine Zy ?_
 refine k_ _ _ ?_
 apply endW_n [b3] [] [b] [W5] (by(try simp only[go_sem]);rfl)
 · refine ⟨W5,by simp only[go_sem,fW5],rfl,?_⟩
   first|(simp only[go_sem,fb3,tW,tM,List.append_assoc,List.cons_append,List.nil_append,hT];done)|(simp only[go_sem,zf1,hw,fb3,fW1,fW5,tW,tG,tM,tN,tS,List.append_assoc,List.cons_append,List.nil_append];done)
 · simp only[LeA,LeL]
theorem wbranch_c (T:Tbl) (b:Nat) (tb:Tabs T) (c:Cmd) (ok:c.Ok) (d:Int) (hF:cF c d=0):(c.kind=2→∀(u:Nat) (X:List Tok) (F:List (Nat×Ob)) (L:List Nat),X.length+(cmT c).length≤4398046511104→AC Tryz.prog T 197 [.ptr b 1 0 0,.agg (cmdA c)] ⟨wob b u X::F,u::L⟩ (WR b F L (X++cmT c)))∧(∀(u:Nat) (X:List Tok) (F:List (Nat×Ob)) (L:List Nat),X.length+(tW (tabW cmdWs c.kind)::cmT c).length≤4398046511104→AC Tryz.prog T 113 [.ptr b 1 0 0,.agg (cmdA c)] ⟨wob b u X::F,u::L⟩ (WR b F L (X++tW (tabW cmdWs c.kind)::cmT c))):=by
 induction c using Cmd.ind generalizing d with
 | h c i1 i2=>
  obtain⟨s1,s2,s3,s4,s5,s6⟩:=ok.inv
  obtain⟨hk,hok,_⟩:=cF_ok hF
  have hb:c.kind=2→∀(u:Nat) (X:List Tok) (F:List (Nat×Ob)) (L:List Nat),X.length+(cmT c).length≤4398046511104→AC Tryz.prog T 197 [.ptr b 1 0 0,.agg (cmdA c)] ⟨wob b u X::F,u::L⟩ (WR b F L (X++cmT c)):=fun h2 u X F L hl=>by
   obtain⟨hft,ha,hb,hc⟩:=hok h2
   have j1:∀(u:Nat) (X:List Tok) (F:List (Nat×Ob)) (L:List Nat),X.length+(tM [123]::(lsT c.thn++[tM [125]])).length≤4398046511104→AC Tryz.prog T 247 [.ptr b 1 0 0,.d (.slc 12 (thnD c))] ⟨wob b u X::F,u::L⟩ (WR b F L (X++tM [123]::(lsT c.thn++[tM [125]]))):=by
    rw[thnD_eq]
    exact fun u X F L hl=>wblock_step T b u X F L c.thn s3 hl fun x hx=>(i1 x hx (s5 x hx) (d+1) (ha x hx)).2
   have j2:∀(u:Nat) (X:List Tok) (F:List (Nat×Ob)) (L:List Nat),X.length+(tM [123]::(lsT c.els++[tM [125]])).length≤4398046511104→AC Tryz.prog T 247 [.ptr b 1 0 0,.d (.slc 12 (elsD c))] ⟨wob b u X::F,u::L⟩ (WR b F L (X++tM [123]::(lsT c.els++[tM [125]]))):=by
    rw[elsD_eq]
    refine fun u X F L hl=>wblock_step T b u X F L c.els s4 hl fun x hx=>?_
    cases he:elsifC c with
    |true=>exact(i2 x hx (s6 x hx) d (hb he x hx)).2
    |false=>exact(i2 x hx (s6 x hx) (d+1) (hc he x hx)).2
   rcases Nat.eq_zero_or_pos c.els.length with h0|h0
   ·exact wbranch_0 T b u X F L c ok h0 tb h2 d hF hl j1 j2
   ·refine wbranch_1 T b u X F L c ok h0 tb h2 d hF hl j1 j2 fun h3=>?_
    have hm:=List.getElem_mem h0
    cases he:elsifC c with
    |true=>exact(i2 _ hm (s6 _ hm) d (hb he _ hm)).1 h3
    |false=>exact(i2 _ hm (s6 _ hm) (d+1) (hc he _ hm)).1 h3
  exact⟨hb,fun u X F L hl=>wcmd_step T b u X F L c ok tb d hF hl hb⟩
end
section
theorem tab_get (ws:List Str) (k:Int) (h0:0≤k) (h:k<ws.length):(ws.map fun s=>[D.str s]).getD k.toNat []=[D.str (tabW ws k)]:=by
 have hk:k.toNat<ws.length:=by omega
 rw[map_getD _ _ _ _ hk]
 simp[tabW,List.getD,hk]
theorem commandWord_c (T:Tbl) (k:Int) (h0:0≤k) (h1:k<11):PC Tryz.prog T 190 [.d (.int .i64 k)] (.d (.str (tabW cmdWs k))):=by
 refine⟨Tryz.call190,PCall.enterS Tryz.func190 rfl Tryz.ntmps190 rfl fun hb=>?_⟩
 have hw:List.getD [[D.str []],[D.str [114,101,113,117,105,114,101]],[D.str [105,102]],[D.str [107,101,101,112]],[D.str [100,105,115,99,97,114,100]],[D.str [102,105,108,101,105,110,116,111]],[D.str [114,101,100,105,114,101,99,116]],[D.str [114,101,106,101,99,116]],[D.str [115,101,116,102,108,97,103]],[D.str [97,100,100,102,108,97,103]],[D.str [115,116,111,112]]] k.toNat []=[D.str (tabW cmdWs k)]:=tab_get cmdWs k h0 h1
 simp only[go_sem,Tryz.results190]
 refine Zp 1 ?_
 refine Zp 2 ?_
 refine AWp.ret ?_
 simp only[go_sem]
 skip
theorem testWord_c (T:Tbl) (k:Int) (h0:0≤k) (h1:k<11):PC Tryz.prog T 273 [.d (.int .i64 k)] (.d (.str (tabW tstWs k))):=by
 refine⟨Tryz.call273,PCall.enterS Tryz.func273 rfl Tryz.ntmps273 rfl fun hb=>?_⟩
 have hw:List.getD [[D.str []],[D.str [116,114,117,101]],[D.str [102,97,108,115,101]],[D.str [110,111,116]],[D.str [97,108,108,111,102]],[D.str [97,110,121,111,102]],[D.str [104,101,97,100,101,114]],[D.str [97,100,100,114,101,115,115]],[D.str [101,110,118,101,108,111,112,101]],[D.str [101,120,105,115,116,115]],[D.str [115,105,122,101]]] k.toNat []=[D.str (tabW tstWs k)]:=tab_get tstWs k h0 h1
 simp only[go_sem,Tryz.results273]
 refine Zp 1 ?_
 refine Zp 2 ?_
 refine AWp.ret ?_
 simp only[go_sem]
 skip
theorem matchWord_c (T:Tbl) (k:Int) (h0:0≤k) (h1:k<4):PC Tryz.prog T 276 [.d (.int .i64 k)] (.d (.str (tabW matWs k))):=by
 refine⟨Tryz.call276,PCall.enterS Tryz.func276 rfl Tryz.ntmps276 rfl fun hb=>?_⟩
 have hw:List.getD [[D.str []],[D.str [105,115]],[D.str [99,111,110,116,97,105,110,115]],[D.str [109,97,116,99,104,101,115]]] k.toNat []=[D.str (tabW matWs k)]:=tab_get matWs k h0 h1
 simp only[go_sem,Tryz.results276]
 refine Zp 1 ?_
 refine Zp 2 ?_
 refine AWp.ret ?_
 simp only[go_sem]
 skip
theorem partWord_c (T:Tbl) (k:Int) (h0:0≤k) (h1:k<4):PC Tryz.prog T 275 [.d (.int .i64 k)] (.d (.str (tabW parWs k))):=by
 refine⟨Tryz.call275,PCall.enterS Tryz.func275 rfl Tryz.ntmps275 rfl fun hb=>?_⟩
 have hw:List.getD [[D.str []],[D.str [97,108,108]],[D.str [108,111,99,97,108,112,97,114,116]],[D.str [100,111,109,97,105,110]]] k.toNat []=[D.str (tabW parWs k)]:=tab_get parWs k h0 h1
 simp only[go_sem,Tryz.results275]
 refine Zp 1 ?_
 refine Zp 2 ?_
 refine AWp.ret ?_
 simp only[go_sem]
 skip
theorem tok_c (T:Tbl) (k:Int) (s:Str):PC Tryz.prog T 202 [.d (.int .i64 k),.d (.str s)] (.agg [.d (.int .i64 k),.d (.str s),.d (.int .i64 0)]):=by
 refine⟨Tryz.call202,PCall.enterS Tryz.func202 rfl Tryz.ntmps202 rfl fun hb=>?_⟩
 simp only[go_sem,Tryz.results202]
 refine Zx (Zy ?_)
 intro bz1
 first|intro fbz1|have fbz1:=True.intro
 try simp only[freshL] at fbz1
 refine Zp 4 ?_
 refine AWp.ret ?_
 simp only[go_sem]
 skip
def itR:List Str→Bool→List Tok
 |[],_=>[]
 |s::l,f=>(if f=true then [] else [tM [44]])++tS s::itR l false
theorem itR_drop (l:List Str) (k:Nat) (f:Bool) (h:k<l.length):itR (l.drop k) f=(if f=true then [] else [tM [44]])++tS (l[k]'h)::itR (l.drop (k+1)) false:=by
 rw[List.drop_eq_getElem_cons h,itR]
theorem itR_end (l:List Str) (k:Nat) (f:Bool) (h:l.length≤k):itR (l.drop k) f=[]:=by rw[List.drop_eq_nil_of_le h,itR]
theorem itR_f (l:List Str):itR l false=itS l false:=by
 induction l with
 |nil=>rfl
 |cons s l ih=>simp[itR,itS,ih]
theorem itR_t (l:List Str) (h:0<l.length):tM [91]::itR l true=itS l true:=by
 cases l with
 |nil=>simp at h
 |cons s l=>simp[itR,itS,itR_f]
theorem itR_len (l:List Str) (f:Bool):(itR l f).length≤2*l.length:=by
 induction l generalizing f with
 |nil=>simp[itR]
 |cons s l ih=>cases f<;>simp[itR]<;>have:=ih false<;>omega
theorem strsShown_c (T:Tbl) (l:List Str) (h0:0<l.length) (hl:(strsT l).length≤4398046511104):PC Tryz.prog T 252 [.d (.slc 1 (l.map strD))] (.d (.slc 3 (toksD (strsT l)))):=by
 refine⟨Tryz.call252,PCall.enterS Tryz.func252 rfl Tryz.ntmps252 rfl fun hb=>?_⟩
 have zf1:=fun d0_=>map_getD strD _ _ d0_ h0
 simp only[go_sem,Tryz.results252]
 refine Zp 1 ?_
 refine Zs (Zp 9 ?_)
 refine Zc (fun hc0=>?_) fun hc0=>?_
 ·
  refine Zx ?_
  simp only[go_sem,zf1]
  (repeat(with_reducible refine And.intro ZS ?_))
  refine DW.pcr rfl rfl rfl rfl (tok_c T _ _) rfl rfl ?_
  refine Zy ?_
  refine Zm 2 ?_
  refine AWp.ret ?_
  simp only[go_sem]
  rw[strsT,if_pos (by omega)];cases l;simp at h0;simp[toksD,tokD,tS,List.headD]
 have hl2:(strsT l).length=2*l.length+1:=by rw[strsT,if_neg (by omega)];simp[itS_len]
 refine Zk ?_
 refine AWp.cut 1 fun K_ hK_=>?_
 simp only[List.take_succ_cons,List.take_zero,List.drop_succ_cons,List.drop_zero]
 refine Zy ?_
 refine ZP (tok_c T _ _) ?_
 refine Zy ?_
 refine DW.bsO (he:=by first|rfl|kernel_rfl) rfl rfl (show slI Tryz.prog 113=some (169,3,32) by simp only[go_sem]) (by(try simp only[go_sem]);rfl) rfl (by decide) fun t1 ft1=>?_
 try simp only[freshT] at ft1
 refine Zy ?_
 refine hK_ _ _ ?_
 refine Zs (Zp 7 ?_)
 refine AWp.block (Zy ?_)
 refine Zl 1 6 (fun n lc hc=> ∃(k v:Nat) (Y:List Tok),n=l.length-k∧EqS lc [(3,.own v 3 (toksD Y)),(4,.d (.int .i64 k))]∧EqS hc (⟨[],[v]⟩)∧(k≤l.length)∧(Y++itR (l.drop k) (decide (k=0))=tM [91]::itR l true)) ?_ ?_
 · refine ⟨_,0,t1,[tM [91]],rfl,?_,ZE,ZI,ZI⟩
   · (try simp only[go_sem])<;>first|exact⟨rfl⟩|(constructor;simp[toksD,tokD,tM];done)
 rintro _ _ _ ⟨k,v,Y,rfl,⟨rfl⟩,⟨rfl⟩,hk,hY⟩
 have hYl:=congrArg List.length hY
 have:=itR_len l true
 simp only[List.length_append,List.length_cons] at hYl
 refine Zy ?_
 refine Zs (Zp 71 ?_)
 refine Zc (fun hc1=>?_) fun hc1=>?_
 ·
  have hlt:k<l.length:=by omega
  rw[itR_drop _ _ _ hlt] at hYl
  simp only[List.length_append,List.length_cons] at hYl
  have zf2:=fun d0_=>map_getD strD _ _ d0_ hlt
  refine Zk ?_
  refine Zs (AWp.block (Zs (Zp 39 ?_)))
  refine Zc (fun hc2=>?_) fun hc2=>?_
  ·
   have hk0:¬k=0:=by omega
   refine Zq fun K_ k_=>?_
   refine Zy ?_
   refine ZP (tok_c T _ _) ?_
   refine Zy ?_
   refine ZW fun t2 ft2=>?_
   try simp only[freshT] at ft2
   refine Zy ?_
   refine k_ _ _ (thenQ_n ?_)
   refine Zm 7 ?_
   refine Zq fun K_ k_=>?_
   refine Z3 ?_
   refine ZP (tok_c T _ _) ?_
   refine Zy ?_
   refine ZW fun t3 ft3=>?_
   try simp only[freshT] at ft3
   refine Zy ?_
   refine k_ _ _ (blkQ_n (thenQ_n ?_))
   refine Zm 7 ?_
   refine Zr (thenQ_n ?_)
   refine Ze 1 6 [] [] [] [t3] (.e ⟨_,ZM,k+1,t3,Y++(if k=0 then [] else [tM [44]])++[tS (l[k]'hlt)],rfl,?_,ZE,?_,?_⟩)
   · (try simp only[go_sem])<;>first|exact⟨rfl⟩|(constructor;simp[toksD,tokD,tM,tS,hk0])
   · omega
   · rw [←hY,itR_drop _ _ _ hlt];by_cases hk0:k=0<;>simp[hk0]
  have hk0:k=0:=by omega
  refine Zk ?_
  refine Zq fun K_ k_=>?_
  simp only[go_sem,zf2]
  (repeat(with_reducible refine And.intro ZS ?_))
  refine DW.pcr rfl rfl rfl rfl (tok_c T _ _) rfl rfl ?_
  refine Zy ?_
  refine ZW fun t4 ft4=>?_
  try simp only[freshT] at ft4
  refine Zy ?_
  refine k_ _ _ (blkQ_n (thenQ_n ?_))
  refine Zm 7 ?_
  refine Zr (thenQ_n ?_)
  refine Ze 1 6 [] [] [] [t4] (.e ⟨_,ZM,k+1,t4,Y++(if k=0 then [] else [tM [44]])++[tS (l[k]'hlt)],rfl,?_,ZE,?_,?_⟩)
  · (try simp only[go_sem])<;>first|exact⟨rfl⟩|(constructor;simp[toksD,tokD,tS,hk0])
  · omega
  · rw [←hY,itR_drop _ _ _ hlt];by_cases hk0:k=0<;>simp[hk0]
 refine AWp.exit (thenQ_e (thenQ_e (blkQ_e (thenQ_n ?_))))
 refine Zx (Zy ?_)
 refine ZP (tok_c T _ _) ?_
 refine Zy ?_
 refine ZW fun t5 ft5=>?_
 try simp only[freshT] at ft5
 refine Zy ?_
 refine Zm 2 ?_
 refine AWp.ret ?_
 simp only[go_sem]
 have e:strsT l=Y++[tM [93]]:=by rw[strsT,if_neg (by omega),←itR_t l h0,←hY,itR_end _ _ _ (by omega),List.append_nil]
 rw[e];simp[toksD,tokD,tM]
def pT (t:Tst):List Tok:=if 0<t.part then [tG (tabW parWs t.part)] else []
def mT (t:Tst):List Tok:=if 0<t.mat then [tG (tabW matWs t.mat)] else []
def nT (t:Tst):List Tok:=if 0<(t.names.length:Int) then strsT t.names else []
def kT (t:Tst):List Tok:=if 0<(t.keys.length:Int) then strsT t.keys else []
def zT (t:Tst):List Tok:=if t.kind=10 then [tG (if t.over=true then [111,118,101,114] else [117,110,100,101,114]),tN t.limit] else []
def st0 (t:Tst):List Tok:=[tW (tabW tstWs t.kind)]
def st1 (t:Tst):List Tok:=st0 t++pT t
def st2 (t:Tst):List Tok:=st1 t++mT t
def st3 (t:Tst):List Tok:=st2 t++nT t
def st4 (t:Tst):List Tok:=st3 t++kT t
def st5 (t:Tst):List Tok:=st4 t++zT t
theorem st5_eq (t:Tst) (h:okS t=true) (h3:¬t.kind=3) (hz:t.kids.length=0):tT t=st5 t:=by
 obtain⟨o1,o2,o3,o4,o5,o6,o7,o8,o9⟩:=okS_inv t h
 have e45:inB t.kind 4 5=false:=by
  cases e:inB t.kind 4 5 with
  |false=>rfl
  |true=>have:=o2 e;omega
 rw[tT_eq,if_neg h3,if_neg (by rw[e45];simp)]
 simp only[st5,st4,st3,st2,st1,st0,pT,mT,nT,kT,zT]
 cases e68:inB t.kind 6 8 with
 | true=>
  have hk:6≤t.kind∧t.kind≤8:=by simpa[inB] using e68
  obtain⟨p1,p2,p3,p4⟩:=o3 e68
  rw[if_pos rfl,if_pos (by omega:0<t.mat),if_pos (by omega:0<(t.names.length:Int)),if_pos (by omega:0<(t.keys.length:Int)),if_neg (by omega:¬t.kind=10)]
  by_cases h6:t.kind=6
  ·rw[if_pos h6,if_neg (by rw[o7 h6];omega)];simp
  ·obtain⟨q1,q2⟩:=o4 (by simp[inB];omega)
   rw[if_neg h6,if_pos (by omega)];simp
 | false=>
  obtain⟨r1,r2,r3⟩:=o8 e68
  rw[if_neg (by simp),if_neg (by omega:¬0<t.part),if_neg (by omega:¬0<t.mat),if_neg (by omega:¬0<(t.keys.length:Int))]
  by_cases h9:t.kind=9
  ·have:=o5 h9
   rw[if_pos h9,if_pos (by omega:0<(t.names.length:Int)),if_neg (by omega:¬t.kind=10)];simp
  ·have h8:=o9 e68 h9
   rw[if_neg h9,if_neg (by omega:¬0<(t.names.length:Int))]
   by_cases h10:t.kind=10
   ·simp[h10]
   ·simp[h10]
theorem parOk (t:Tst) (h:okS t=true):t.part<4∧t.mat<4:=by
 obtain⟨o1,o2,o3,o4,o5,o6,o7,o8,o9⟩:=okS_inv t h
 cases e:inB t.kind 6 8 with
 |false=>have:=o8 e;omega
 |true=>
  have hk:6≤t.kind∧t.kind≤8:=by simpa[inB] using e
  have:=o3 e
  by_cases h6:t.kind=6
  ·have:=o7 h6;omega
  ·have:=o4 (by simp[inB];omega);omega
theorem st_len (t:Tst):(st0 t).length=1∧(st1 t).length=1+(pT t).length∧(st2 t).length=(st1 t).length+(mT t).length∧(st3 t).length=(st2 t).length+(nT t).length∧(st4 t).length=(st3 t).length+(kT t).length∧(st5 t).length=(st4 t).length+(zT t).length:=by
 refine⟨?_,?_,?_,?_,?_,?_⟩<;>simp[st5,st4,st3,st2,st1,st0]<;>omega
def tRL:List Tst→Bool→List Tok
 |[],_=>[]
 |x::l,f=>(if f=true then [] else [tM [44]])++(tT x++tRL l false)
theorem tRL_drop (l:List Tst) (k:Nat) (f:Bool) (h:k<l.length):tRL (l.drop k) f=(if f=true then [] else [tM [44]])++(tT (l[k]'h)++tRL (l.drop (k+1)) false):=by
 rw[List.drop_eq_getElem_cons h,tRL]
theorem tRL_end (l:List Tst) (k:Nat) (f:Bool) (h:l.length≤k):tRL (l.drop k) f=[]:=by rw[List.drop_eq_nil_of_le h,tRL]
theorem tRL_f (l:List Tst):tRL l false=tTL l false:=by
 induction l with
 |nil=>rw[tRL,tTL]
 |cons s l ih=>simp[tRL,tTL,ih]
theorem tRL_t (l:List Tst) (h:0<l.length):tM [40]::tRL l true=tTL l true:=by
 cases l with
 |nil=>simp at h
 |cons s l=>simp[tRL,tTL,tRL_f]
theorem testShown_step (T:Tbl) (t:Tst) (ok:t.Ok) (d:Int) (hF:tF t d=0) (hl:(tT t).length≤4398046511104) (ih:∀x∈t.kids,(tT x).length≤4398046511104→PC Tryz.prog T 253 [.agg (tstA x)] (.d (.slc 3 (toksD (tT x))))):PC Tryz.prog T 253 [.agg (tstA t)] (.d (.slc 3 (toksD (tT t)))):=by
 refine⟨Tryz.call253,PCall.enterS Tryz.func253 rfl Tryz.ntmps253 rfl fun hb=>?_⟩
 obtain⟨s1,s2,s3,s4⟩:=ok.inv
 obtain⟨hk,hO,hK⟩:=tF_ok hF
 obtain⟨o1,o2,o3,o4,o5,o6,o7,o8,o9⟩:=okS_inv t hO
 have hkk:1≤t.kind∧t.kind≤10:=by simpa[inB] using hk
 obtain⟨l0,l1,l2,l3,l4,l5⟩:=st_len t
 obtain⟨pk1,pk2⟩:=parOk t hO
 simp only[go_sem,Tryz.results253]
 refine Zx (Zy ?_)
 intro b3
 first|intro fb3|have fb3:=True.intro
 try simp only[freshL] at fb3
 refine AWp.cut 4 fun K_ hK_=>?_
 simp only[List.take_succ_cons,List.take_zero,List.drop_succ_cons,List.drop_zero]
 refine Zy ?_
 refine DW.pcr rfl rfl rfl rfl (testWord_c T _ (by omega) (by omega)) rfl rfl ?_
 refine Zy ?_
 refine ZP (tok_c T _ _) ?_
 refine Zy ?_
 refine DW.bsO (he:=by first|rfl|kernel_rfl) rfl rfl (show slI Tryz.prog 113=some (169,3,32) by simp only[go_sem]) (by(try simp only[go_sem]);rfl) rfl (by decide) fun t1 ft1=>?_
 try simp only[freshT] at ft1
 refine Zy ?_
 refine hK_ _ _ ?_
 refine Zm 10 ?_
 refine Zs (Zp 19 ?_)
 refine Zc (fun hc0=>?_) fun hc0=>?_
 ·
  have h0:0<t.kids.length:=by rw[o1 hc0];omega
  have hT:tT t=tW (tabW tstWs t.kind)::tT (t.kids[0]'h0):=by rw[tT_eq,if_pos hc0,tK_eq]
  have hTl:=congrArg List.length hT
  simp only[List.length_cons] at hTl
  have zf1:=fun d0_=>kidsD_get t 0 d0_ h0
  refine Zx ?_
  simp only[go_sem,zf1]
  (repeat(with_reducible refine And.intro ZS ?_))
  refine DW.pcr rfl rfl rfl rfl (ih _ (List.getElem_mem h0) (by omega)) rfl rfl ?_
  refine Zy ?_
  refine ZW fun t2 ft2=>?_
  try simp only[freshT] at ft2
  refine Zy ?_
  refine Zm 2 ?_
  refine AWp.ret ?_
  simp only[go_sem]
  rw[hT];simp[toksD,tokD,tW]
 refine Zk ?_
 refine Zs (Zp 67 ?_)
 refine Zc (fun hc1=>?_) fun hc1=>?_
 ·
  have h0:0<t.kids.length:=by omega
  have e45:inB t.kind 4 5=true:=by
    cases e:inB t.kind 3 5 with
    |false=>have:=o6 e;omega
    |true=>simp[inB] at e⊢;omega
  have hT:tT t=tW (tabW tstWs t.kind)::(tM [40]::tRL t.kids true++[tM [41]]):=by rw[tT_eq,if_neg hc0,if_pos e45,tRL_t _ h0]
  have hTl:=congrArg List.length hT
  simp only[List.length_cons,List.length_append,List.length_nil] at hTl
  refine Zx (Zy ?_)
  refine ZP (tok_c T _ _) ?_
  refine Zy ?_
  refine DW.app rfl rfl rfl rfl (show slI Tryz.prog 113=some (169,3,32) by simp only[go_sem]) rfl rfl (by simp only[go_sem]) (by first|exact .inl rfl|exact .inr rfl) (by first|(simp only[go_sem,List.length_cons,List.length_nil]<;>omega)|(simp<;>omega)) (by first|(simp only[go_sem,List.length_cons,List.length_nil]<;>omega)|(simp<;>omega)) fun t3 ft3=>?_
  try simp only[freshT] at ft3
  refine Zy ?_
  refine Zm 3 ?_
  refine Zs (Zp 7 ?_)
  refine AWp.block (Zy ?_)
  refine Zl 1 6 (fun n lc hc=> ∃(k v:Nat) (Y:List Tok),n=t.kids.length-k∧EqS lc [(3,.own v 3 (toksD Y)),(4,.d (.int .i64 k))]∧EqS hc (⟨[(b3,⟨8,1,[tstA t]⟩)],[v]⟩)∧(k≤t.kids.length)∧(Y++tRL (t.kids.drop k) (decide (k=0))=tW (tabW tstWs t.kind)::tM [40]::tRL t.kids true)) ?_ ?_
  · refine ⟨_,0,t3,[tW (tabW tstWs t.kind),tM [40]],rfl,?_,ZE,ZI,ZI⟩
    · (try simp only[go_sem])<;>first|exact⟨rfl⟩|(constructor;simp[toksD,tokD,tM,tW];done)
  rintro _ _ _ ⟨k,v,Y,rfl,⟨rfl⟩,⟨rfl⟩,hk2,hY⟩
  have hYl:=congrArg List.length hY
  simp only[List.length_append,List.length_cons] at hYl
  refine Zy ?_
  refine Zs (Zp 135 ?_)
  refine Zc (fun hc2=>?_) fun hc2=>?_
  ·
   have hlt:k<t.kids.length:=by omega
   rw[tRL_drop _ _ _ hlt] at hYl
   simp only[List.length_append] at hYl
   have zf2:=fun d0_=>kidsD_get t k d0_ hlt
   refine Zk ?_
   refine Zs (AWp.block (Zs (Zp 39 ?_)))
   refine Zc (fun hc3=>?_) fun hc3=>?_
   ·
    have hk0:¬k=0:=by omega
    simp only[hk0,decide_false,Bool.false_eq_true,if_false,List.length_cons,List.length_nil] at hYl
    refine Zq fun K_ k_=>?_
    refine Zy ?_
    refine ZP (tok_c T _ _) ?_
    refine Zy ?_
    refine ZW fun t4 ft4=>?_
    try simp only[freshT] at ft4
    refine Zy ?_
    refine k_ _ _ (thenQ_n ?_)
    refine Zm 7 ?_
    refine Zq fun K_ k_=>?_
    refine Z3 ?_
    refine ZP (ih _ (List.getElem_mem hlt) (by omega)) ?_
    refine Zy ?_
    refine ZW fun t5 ft5=>?_
    try simp only[freshT] at ft5
    refine Zy ?_
    refine k_ _ _ (blkQ_n (thenQ_n ?_))
    refine Zm 7 ?_
    refine Zr (thenQ_n ?_)
    refine Ze 1 6 [] [] [] [t5] (.e ⟨_,ZM,k+1,t5,Y++(if k=0 then [] else [tM [44]])++tT (t.kids[k]'hlt),rfl,?_,ZE,?_,?_⟩)
    · (try simp only[go_sem])<;>first|exact⟨rfl⟩|(constructor;simp[toksD,tokD,tM,hk0])
    · omega
    · rw [←hY,tRL_drop _ _ _ hlt];by_cases hk0:k=0<;>simp[hk0]
   have hk0:k=0:=by omega
   refine Zk ?_
   refine Zq fun K_ k_=>?_
   simp only[go_sem,zf2]
   (repeat(with_reducible refine And.intro ZS ?_))
   refine DW.pcr rfl rfl rfl rfl (ih _ (List.getElem_mem hlt) (by omega)) rfl rfl ?_
   refine Zy ?_
   refine ZW fun t6 ft6=>?_
   try simp only[freshT] at ft6
   refine Zy ?_
   refine k_ _ _ (blkQ_n (thenQ_n ?_))
   refine Zm 7 ?_
   refine Zr (thenQ_n ?_)
   refine Ze 1 6 [] [] [] [t6] (.e ⟨_,ZM,k+1,t6,Y++(if k=0 then [] else [tM [44]])++tT (t.kids[k]'hlt),rfl,?_,ZE,?_,?_⟩)
   · (try simp only[go_sem])<;>first|exact⟨rfl⟩|(constructor;simp[toksD,hk0])
   · omega
   · rw [←hY,tRL_drop _ _ _ hlt];by_cases hk0:k=0<;>simp[hk0]
  refine AWp.exit (thenQ_e (thenQ_e (blkQ_e (thenQ_n ?_))))
  refine Zx (Zy ?_)
  refine ZP (tok_c T _ _) ?_
  refine Zy ?_
  refine ZW fun t7 ft7=>?_
  try simp only[freshT] at ft7
  refine Zy ?_
  refine Zm 2 ?_
  refine AWp.ret ?_
  simp only[go_sem]
  have e:tT t=Y++[tM [41]]:=by
    rw[tRL_end _ _ _ (by omega),List.append_nil] at hY
    rw[hT,hY];rfl
  rw[e];simp[toksD,tokD,tM]
 have hT:tT t=st5 t:=st5_eq t hO hc0 (by omega)
 have hTl:=congrArg List.length hT
 refine Zk ?_
 refine Zs (Zp 35 ?_)
 refine Zy ?_
 refine Zi 1 (fun lc hc=> ∃(v:Nat),EqS lc [(3,.own v 3 (toksD (st1 t)))]∧EqS hc (⟨[(b3,⟨8,1,[tstA t]⟩)],[v]⟩)) ?_ ?_
 ·
  refine Zc (fun hc4=>?_) fun hc4=>?_
  ·
   have hg:pT t=[tG (tabW parWs t.part)]:=if_pos hc4
   have hgl:=congrArg List.length hg
   simp only[List.length_cons,List.length_nil] at hgl
   refine Zq fun K_ k_=>?_
   refine Zy ?_
   refine DW.pcr rfl rfl rfl rfl (partWord_c T _ (by omega) (by omega)) rfl rfl ?_
   refine Zy ?_
   refine ZP (tok_c T _ _) ?_
   refine Zy ?_
   refine DW.app rfl rfl rfl rfl (show slI Tryz.prog 113=some (169,3,32) by simp only[go_sem]) rfl rfl (by simp only[go_sem]) (by first|exact .inl rfl|exact .inr rfl) (by first|(simp only[go_sem,List.length_cons,List.length_nil]<;>omega)|(simp<;>omega)) (by first|(simp only[go_sem,List.length_cons,List.length_nil]<;>omega)|(simp<;>omega)) fun t8 ft8=>?_
   try simp only[freshT] at ft8
   refine Zy ?_
   refine k_ _ _ (thenQ_n ?_)
   refine Ze 1 2 [] [] [] [t8] (.e ⟨t8,?_,ZG⟩)
   · (try simp only[go_sem])<;>first|exact⟨rfl⟩|(constructor;first|(rw[st1,hg];simp[toksD,tokD,tG,tW,st0];done)|(rw[st1,hg];simp[toksD,tokD,tG,tW,tN,st0,hc9]))
  have hg:pT t=[]:=if_neg (show¬0<t.part by omega)
  refine Zk ?_
  refine Ze 1 2 [] [] [] [t1] (.e ⟨t1,?_,ZG⟩)
  · (try simp only[go_sem])<;>first|exact⟨rfl⟩|(constructor;first|(rw[st1,hg];simp[toksD,tokD,tW,st0];done)|(rw[st1,hg];simp[toksD,tokD,tG,tW,tN,st0,hc9]))
 rintro _ _ ⟨v,⟨rfl⟩,⟨rfl⟩⟩
 refine Zy ?_
 refine Zs (Zp 19 ?_)
 refine Zy ?_
 refine Zi 1 (fun lc hc=> ∃(v:Nat),EqS lc [(3,.own v 3 (toksD (st2 t)))]∧EqS hc (⟨[(b3,⟨8,1,[tstA t]⟩)],[v]⟩)) ?_ ?_
 ·
  refine Zc (fun hc5=>?_) fun hc5=>?_
  ·
   have hg:mT t=[tG (tabW matWs t.mat)]:=if_pos hc5
   have hgl:=congrArg List.length hg
   simp only[List.length_cons,List.length_nil] at hgl
   refine Zq fun K_ k_=>?_
   refine Zy ?_
   refine DW.pcr rfl rfl rfl rfl (matchWord_c T _ (by omega) (by omega)) rfl rfl ?_
   refine Zy ?_
   refine ZP (tok_c T _ _) ?_
   refine Zy ?_
   refine DW.app rfl rfl rfl rfl (show slI Tryz.prog 113=some (169,3,32) by simp only[go_sem]) rfl rfl (by simp only[go_sem]) (by first|exact .inl rfl|exact .inr rfl) (by first|(simp only[go_sem,List.length_cons,List.length_nil]<;>omega)|(simp<;>omega)) (by first|(simp only[go_sem,List.length_cons,List.length_nil]<;>omega)|(simp<;>omega)) fun t9 ft9=>?_
   try simp only[freshT] at ft9
   refine Zy ?_
   refine k_ _ _ (thenQ_n ?_)
   refine Ze 1 2 [] [] [] [t9] (.e ⟨t9,?_,ZG⟩)
   · (try simp only[go_sem])<;>first|exact⟨rfl⟩|(constructor;first|(rw[st2,hg];simp[toksD,tokD,tG];done)|(rw[st2,hg];simp[toksD,tokD,tG,tW,tN,st0,hc9]))
  have hg:mT t=[]:=if_neg (show¬0<t.mat by omega)
  refine Zk ?_
  refine Ze 1 2 [] [] [] [v] (.e ⟨v,?_,ZG⟩)
  · (try simp only[go_sem])<;>first|exact⟨rfl⟩|(constructor;first|(rw[st2,hg];simp[toksD];done)|(rw[st2,hg];simp[toksD,tokD,tG,tW,tN,st0,hc9]))
 rintro _ _ ⟨v,⟨rfl⟩,⟨rfl⟩⟩
 refine Zy ?_
 refine Zs (Zp 35 ?_)
 refine Zy ?_
 refine Zi 1 (fun lc hc=> ∃(v:Nat),EqS lc [(3,.own v 3 (toksD (st3 t)))]∧EqS hc (⟨[(b3,⟨8,1,[tstA t]⟩)],[v]⟩)) ?_ ?_
 ·
  refine Zc (fun hc6=>?_) fun hc6=>?_
  ·
   have hg:nT t=strsT t.names:=if_pos hc6
   have hgl:=congrArg List.length hg
   refine Zq fun K_ k_=>?_
   refine Zy ?_
   refine DW.pcr rfl rfl rfl rfl (strsShown_c T _ (by omega) (by omega)) rfl rfl ?_
   refine Zy ?_
   refine DW.app rfl rfl rfl rfl (show slI Tryz.prog 113=some (169,3,32) by simp only[go_sem]) rfl rfl (by simp only[go_sem]) (by first|exact .inl rfl|exact .inr rfl) (by first|(simp only[go_sem]<;>omega)|(simp<;>omega)) (by first|(simp only[go_sem]<;>omega)|(simp<;>omega)) fun t10 ft10=>?_
   try simp only[freshT] at ft10
   refine Zy ?_
   refine k_ _ _ (thenQ_n ?_)
   refine Ze 1 2 [] [] [] [t10] (.e ⟨t10,?_,ZG⟩)
   · (try simp only[go_sem])<;>first|exact⟨rfl⟩|(constructor;first|(rw[st3,hg];simp[toksD];done)|(rw[st3,hg];simp[toksD,tokD,tG,tW,tN,st0,hc9]))
  have hg:nT t=[]:=if_neg (show¬0<(t.names.length:Int) by omega)
  refine Zk ?_
  refine Ze 1 2 [] [] [] [v] (.e ⟨v,?_,ZG⟩)
  · (try simp only[go_sem])<;>first|exact⟨rfl⟩|(constructor;first|(rw[st3,hg];simp[toksD];done)|(rw[st3,hg];simp[toksD,tokD,tG,tW,tN,st0,hc9]))
 rintro _ _ ⟨v,⟨rfl⟩,⟨rfl⟩⟩
 refine Zy ?_
 refine Zs (Zp 35 ?_)
 refine Zy ?_
 refine Zi 1 (fun lc hc=> ∃(v:Nat),EqS lc [(3,.own v 3 (toksD (st4 t)))]∧EqS hc (⟨[(b3,⟨8,1,[tstA t]⟩)],[v]⟩)) ?_ ?_
 ·
  refine Zc (fun hc7=>?_) fun hc7=>?_
  ·
   have hg:kT t=strsT t.keys:=if_pos hc7
   have hgl:=congrArg List.length hg
   refine Zq fun K_ k_=>?_
   refine Zy ?_
   refine DW.pcr rfl rfl rfl rfl (strsShown_c T _ (by omega) (by omega)) rfl rfl ?_
   refine Zy ?_
   refine DW.app rfl rfl rfl rfl (show slI Tryz.prog 113=some (169,3,32) by simp only[go_sem]) rfl rfl (by simp only[go_sem]) (by first|exact .inl rfl|exact .inr rfl) (by first|(simp only[go_sem]<;>omega)|(simp<;>omega)) (by first|(simp only[go_sem]<;>omega)|(simp<;>omega)) fun t11 ft11=>?_
   try simp only[freshT] at ft11
   refine Zy ?_
   refine k_ _ _ (thenQ_n ?_)
   refine Ze 1 2 [] [] [] [t11] (.e ⟨t11,?_,ZG⟩)
   · (try simp only[go_sem])<;>first|exact⟨rfl⟩|(constructor;first|(rw[st4,hg];simp[toksD];done)|(rw[st4,hg];simp[toksD,tokD,tG,tW,tN,st0,hc9]))
  have hg:kT t=[]:=if_neg (show¬0<(t.keys.length:Int) by omega)
  refine Zk ?_
  refine Ze 1 2 [] [] [] [v] (.e ⟨v,?_,ZG⟩)
  · (try simp only[go_sem])<;>first|exact⟨rfl⟩|(constructor;first|(rw[st4,hg];simp[toksD];done)|(rw[st4,hg];simp[toksD,tokD,tG,tW,tN,st0,hc9]))
 rintro _ _ ⟨v,⟨rfl⟩,⟨rfl⟩⟩
 refine Zy ?_
 refine Zs (Zp 19 ?_)
 refine Zy ?_
 refine Zi 0 (fun lc hc=> ∃(v:Nat),EqS lc [(3,.own v 3 (toksD (st5 t)))]∧EqS hc (⟨[(b3,⟨8,1,[tstA t]⟩)],[v]⟩)) ?_ ?_
 ·
  refine Zc (fun hc8=>?_) fun hc8=>?_
  ·
   have hg:zT t=[tG (if t.over=true then [111,118,101,114] else [117,110,100,101,114]),tN t.limit]:=if_pos hc8
   have hgl:=congrArg List.length hg
   simp only[List.length_cons,List.length_nil] at hgl
   refine Zp 7 ?_
   refine Zs (Zp 23 ?_)
   refine Zc (fun hc9=>?_) fun hc9=>?_
   ·
    refine Zr (thenQ_n ?_)
    refine Zt true [0,1,2,3,4,5,6,7,8] fun K_ k_=>?_
    refine Zy ?_
    refine ZP (tok_c T _ _) ?_
    refine Zy ?_
    refine ZW fun t12 ft12=>?_
    try simp only[freshT] at ft12
    refine Zy ?_
    refine k_ _ _ (thenQ_n ?_)
    refine Ze 0 2 [] [] [] [t12] (.e ⟨t12,?_,ZG⟩)
    · (try simp only[go_sem])<;>first|exact⟨rfl⟩|(constructor;first|(rw[st5,hg];simp[toksD,tokD,tG,tN];done)|(rw[st5,hg];simp[toksD,tokD,tG,tN,hc9]))
   refine Zk ?_
   refine Zt true [0,1,2,3,4,5,6,7,8] fun K_ k_=>?_
   refine Zy ?_
   refine ZP (tok_c T _ _) ?_
   refine Zy ?_
   refine ZW fun t13 ft13=>?_
   try simp only[freshT] at ft13
   refine Zy ?_
   refine k_ _ _ (thenQ_n ?_)
   refine Ze 0 2 [] [] [] [t13] (.e ⟨t13,?_,ZG⟩)
   · (try simp only[go_sem])<;>first|exact⟨rfl⟩|(constructor;first|(rw[st5,hg];simp[toksD,tokD,tG,tN];done)|(rw[st5,hg];simp[toksD,tokD,tG,tN,hc9]))
  have hg:zT t=[]:=if_neg hc8
  refine Zk ?_
  refine Ze 0 2 [] [] [] [v] (.e ⟨v,?_,ZG⟩)
  · (try simp only[go_sem])<;>first|exact⟨rfl⟩|(constructor;first|(rw[st5,hg];simp[toksD];done)|(rw[st5,hg];simp[toksD,tokD,tG,tW,tN,st0,hc9]))
 rintro _ _ ⟨v,⟨rfl⟩,⟨rfl⟩⟩
 refine Zy ?_
 refine Zp 1 ?_
 refine AWp.ret ?_
 simp only[go_sem]
 rw[hT]
theorem testShown_c (T:Tbl) (t:Tst) (ok:t.Ok) (d:Int) (hF:tF t d=0) (hl:(tT t).length≤4398046511104):PC Tryz.prog T 253 [.agg (tstA t)] (.d (.slc 3 (toksD (tT t)))):=by
 induction t using Tst.ind generalizing d with
 |h t ih=>exact testShown_step T t ok d hF hl fun x hx h=>ih x hx (ok.inv.2.2.2 x hx) (d+1) ((tF_ok hF).2.2 x hx) h
theorem lsT_mem (l:List Cmd) (x:Cmd) (h:x∈l):(cmT x).length≤(lsT l).length:=by
 induction l with
 |nil=>simp at h
 |cons y l ih=>
  rw[lsT]
  simp only[List.length_cons,List.length_append]
  rcases List.mem_cons.1 h with rfl|h
  ·omega
  ·have:=ih h;omega
end
section
theorem restShown_step (T:Tbl) (c:Cmd) (ok:c.Ok) (d:Int) (hF:cF c d=0) (hl:(cmT c).length≤4398046511104) (i1:c.kind=2→PC Tryz.prog T 118 [.d (.slc 12 (thnD c))] (.d (.slc 3 (toksD (lsT c.thn))))) (i2:c.kind=2→elsifC c=false→0<c.els.length→PC Tryz.prog T 118 [.d (.slc 12 (elsD c))] (.d (.slc 3 (toksD (lsT c.els))))) (i3:c.kind=2→elsifC c=true→∀h:0<c.els.length,PC Tryz.prog T 203 [.agg (cmdA (c.els[0]'h))] (.d (.slc 3 (toksD (cmT (c.els[0]'h)))))):PC Tryz.prog T 203 [.agg (cmdA c)] (.d (.slc 3 (toksD (cmT c)))):=by
 refine⟨Tryz.call203,PCall.enterS Tryz.func203 rfl Tryz.ntmps203 rfl fun hb=>?_⟩
 obtain⟨s1,s2,s3,s4,s5,s6⟩:=ok.inv
 obtain⟨hk,hok,_⟩:=cF_ok hF
 simp only[go_sem,Tryz.results203]
 refine Zx (Zy ?_)
 intro b3
 first|intro fb3|have fb3:=True.intro
 try simp only[freshL] at fb3
 refine Zp 10 ?_
 refine Zy ?_
 refine AWp.ownNilS 3 3 rfl rfl (by decide) fun u fu=>?_
 try simp only[freshT] at fu
 refine Zy ?_
 refine Zs (Zp 19 ?_)
 refine Zc (fun hc0=>?_) fun hc0=>?_
 ·
  have hT:cmT c=(if 0<c.texts.length then strsT c.texts else [])++[tM [59]]:=by rw[cmT_eq,if_neg hc0]
  refine Zs (Zp 67 ?_)
  refine Zc (fun hc1=>?_) fun hc1=>?_
  ·
   rw[if_pos (by omega)] at hT
   have hTl:=congrArg List.length hT
   simp only[List.length_cons,List.length_append,List.length_nil] at hTl
   refine Zq fun K_ k_=>?_
   refine Zy ?_
   refine DW.pcr rfl rfl rfl rfl (strsShown_c T _ (by omega) (by omega)) rfl rfl ?_
   refine Zy ?_
   refine DW.app rfl rfl rfl rfl (show slI Tryz.prog 113=some (169,3,32) by simp only[go_sem]) rfl rfl (by simp only[go_sem]) (by first|exact .inl rfl|exact .inr rfl) (by first|(simp only[go_sem,List.length_nil]<;>omega)|(simp<;>omega)) (by first|(simp only[go_sem,List.length_nil]<;>omega)|(simp<;>omega)) fun t1 ft1=>?_
   try simp only[freshT] at ft1
   refine Zy ?_
   refine k_ _ _ (thenQ_n ?_)
   refine Zm 2 ?_
   refine Zx (Zy ?_)
   refine DW.pcr rfl rfl rfl rfl (tok_c T _ _) rfl rfl ?_
   refine Zy ?_
   refine DW.app rfl rfl rfl rfl (show slI Tryz.prog 113=some (169,3,32) by simp only[go_sem]) rfl rfl (by simp only[go_sem]) (by first|exact .inl rfl|exact .inr rfl) (by first|(simp only[go_sem,List.length_cons,List.length_nil]<;>omega)|(simp<;>omega)) (by first|(simp only[go_sem,List.length_cons,List.length_nil]<;>omega)|(simp<;>omega)) fun t2 ft2=>?_
   try simp only[freshT] at ft2
   refine Zy ?_
   refine Zm 1 ?_
   refine AWp.ret ?_
   simp only[go_sem]
   simp[toksD,tokD,tM,hT]
  rw[if_neg (by omega)] at hT
  have hTl:=congrArg List.length hT
  simp only[List.length_cons,List.length_append,List.length_nil] at hTl
  refine Zk ?_
  refine Zx (Zy ?_)
  refine DW.pcr rfl rfl rfl rfl (tok_c T _ _) rfl rfl ?_
  refine Zy ?_
  refine DW.app rfl rfl rfl rfl (show slI Tryz.prog 113=some (169,3,32) by simp only[go_sem]) rfl rfl (by simp only[go_sem]) (by first|exact .inl rfl|exact .inr rfl) (by first|(simp only[go_sem,List.length_cons,List.length_nil]<;>omega)|(simp<;>omega)) (by first|(simp only[go_sem,List.length_cons,List.length_nil]<;>omega)|(simp<;>omega)) fun t3 ft3=>?_
  try simp only[freshT] at ft3
  refine Zy ?_
  refine Zm 2 ?_
  refine AWp.ret ?_
  simp only[go_sem]
  simp[toksD,tokD,tM,hT]
 obtain⟨hft,hf1,hf2,hf3⟩:=hok hc0
 have hT:cmT c=tT c.test++tM [123]::(lsT c.thn++tM [125]::elT c.els):=by rw[cmT_eq,if_pos hc0]
 have hTl:=congrArg List.length hT
 simp only[List.length_cons,List.length_append] at hTl
 refine Zk ?_
 refine Zx (Zy ?_)
 refine DW.pcr rfl rfl rfl rfl (testShown_c T _ s2 1 hft (by omega)) rfl rfl ?_
 refine Zy ?_
 refine DW.app rfl rfl rfl rfl (show slI Tryz.prog 113=some (169,3,32) by simp only[go_sem]) rfl rfl (by simp only[go_sem]) (by first|exact .inl rfl|exact .inr rfl) (by first|(simp only[go_sem,List.length_nil]<;>omega)|(simp<;>omega)) (by first|(simp only[go_sem,List.length_nil]<;>omega)|(simp<;>omega)) fun t4 ft4=>?_
 try simp only[freshT] at ft4
 refine Zy ?_
 refine Zm 3 ?_
 refine Zx (Zy ?_)
 refine DW.pcr rfl rfl rfl rfl (tok_c T _ _) rfl rfl ?_
 refine Zy ?_
 refine DW.app rfl rfl rfl rfl (show slI Tryz.prog 113=some (169,3,32) by simp only[go_sem]) rfl rfl (by simp only[go_sem]) (by first|exact .inl rfl|exact .inr rfl) (by first|(simp only[go_sem,List.length_cons,List.length_nil]<;>omega)|(simp<;>omega)) (by first|(simp only[go_sem,List.length_cons,List.length_nil]<;>omega)|(simp<;>omega)) fun t5 ft5=>?_
 try simp only[freshT] at ft5
 refine Zy ?_
 refine Zm 3 ?_
 refine Zx (Zy ?_)
 refine DW.pcr rfl rfl rfl rfl (i1 hc0) rfl rfl ?_
 refine Zy ?_
 refine DW.app rfl rfl rfl rfl (show slI Tryz.prog 113=some (169,3,32) by simp only[go_sem]) rfl rfl (by simp only[go_sem]) (by first|exact .inl rfl|exact .inr rfl) (by first|(simp only[go_sem,List.length_append,List.length_cons,List.length_nil]<;>omega)|(simp<;>omega)) (by first|(simp only[go_sem,List.length_append,List.length_cons,List.length_nil]<;>omega)|(simp<;>omega)) fun t6 ft6=>?_
 try simp only[freshT] at ft6
 refine Zy ?_
 refine Zm 3 ?_
 refine Zx (Zy ?_)
 refine DW.pcr rfl rfl rfl rfl (tok_c T _ _) rfl rfl ?_
 refine Zy ?_
 refine DW.app rfl rfl rfl rfl (show slI Tryz.prog 113=some (169,3,32) by simp only[go_sem]) rfl rfl (by simp only[go_sem]) (by first|exact .inl rfl|exact .inr rfl) (by first|(simp only[go_sem,List.length_append,List.length_cons,List.length_nil]<;>omega)|(simp<;>omega)) (by first|(simp only[go_sem,List.length_append,List.length_cons,List.length_nil]<;>omega)|(simp<;>omega)) fun t7 ft7=>?_
 try simp only[freshT] at ft7
 refine Zy ?_
 refine Zm 3 ?_
 refine Zs (Zx (Zy ?_))
 refine DW.pcr rfl rfl rfl rfl (elsif_c T _) rfl rfl ?_
 refine Zy ?_
 refine Zc (fun hc2=>?_) fun hc2=>?_
 ·
  have h0:0<c.els.length:=by rcases Nat.eq_zero_or_pos c.els.length with h|h;exact absurd hc2 (by rw[elsifC_1 c (by omega)];simp);exact h
  rw[elT_t c hc2 h0] at hT hTl
  simp only[List.length_cons] at hTl
  have zf1:=fun d0_=>elsD_get c _ d0_ h0
  refine Zx (Zy ?_)
  refine DW.pcr rfl rfl rfl rfl (tok_c T _ _) rfl rfl ?_
  refine Zy ?_
  refine DW.app rfl rfl rfl rfl (show slI Tryz.prog 113=some (169,3,32) by simp only[go_sem]) rfl rfl (by simp only[go_sem]) (by first|exact .inl rfl|exact .inr rfl) (by first|(simp only[go_sem,List.length_append,List.length_cons,List.length_nil]<;>omega)|(simp<;>omega)) (by first|(simp only[go_sem,List.length_append,List.length_cons,List.length_nil]<;>omega)|(simp<;>omega)) fun t8 ft8=>?_
  try simp only[freshT] at ft8
  refine Zy ?_
  refine Zm 3 ?_
  refine Zx ?_
  simp only[go_sem,zf1]
  (repeat(with_reducible refine And.intro ZS ?_))
  refine DW.pcr rfl rfl rfl rfl (i3 hc0 hc2 h0) rfl rfl ?_
  refine Zy ?_
  refine DW.app rfl rfl rfl rfl (show slI Tryz.prog 113=some (169,3,32) by simp only[go_sem]) rfl rfl (by simp only[go_sem]) (by first|exact .inl rfl|exact .inr rfl) (by first|(simp only[go_sem,List.length_append,List.length_cons,List.length_nil]<;>omega)|(simp<;>omega)) (by first|(simp only[go_sem,List.length_append,List.length_cons,List.length_nil]<;>omega)|(simp<;>omega)) fun t9 ft9=>?_
  try simp only[freshT] at ft9
  refine Zy ?_
  refine Zm 2 ?_
  refine AWp.ret ?_
  simp only[go_sem]
  simp[toksD,tokD,tM,tW,hT]
 refine Zk ?_
 refine Zs (Zp 131 ?_)
 refine Zc (fun hc3=>?_) fun hc3=>?_
 ·
  rw[elT_f c hc2 (by omega)] at hT hTl
  simp only[List.length_cons,List.length_append,List.length_nil] at hTl
  refine Zx (Zy ?_)
  refine DW.pcr rfl rfl rfl rfl (tok_c T _ _) rfl rfl ?_
  refine Zy ?_
  refine DW.pcr rfl rfl rfl rfl (tok_c T _ _) rfl rfl ?_
  refine Zy ?_
  refine DW.app rfl rfl rfl rfl (show slI Tryz.prog 113=some (169,3,32) by simp only[go_sem]) rfl rfl (by simp only[go_sem]) (by first|exact .inl rfl|exact .inr rfl) (by first|(simp only[go_sem,List.length_append,List.length_cons,List.length_nil]<;>omega)|(simp<;>omega)) (by first|(simp only[go_sem,List.length_append,List.length_cons,List.length_nil]<;>omega)|(simp<;>omega)) fun t10 ft10=>?_
  try simp only[freshT] at ft10
  refine Zy ?_
  refine Zm 3 ?_
  refine Zx (Zy ?_)
  refine DW.pcr rfl rfl rfl rfl (i2 hc0 hc2 (by omega)) rfl rfl ?_
  refine Zy ?_
  refine DW.app rfl rfl rfl rfl (show slI Tryz.prog 113=some (169,3,32) by simp only[go_sem]) rfl rfl (by simp only[go_sem]) (by first|exact .inl rfl|exact .inr rfl) (by first|(simp only[go_sem,List.length_append,List.length_cons,List.length_nil]<;>omega)|(simp<;>omega)) (by first|(simp only[go_sem,List.length_append,List.length_cons,List.length_nil]<;>omega)|(simp<;>omega)) fun t11 ft11=>?_
  try simp only[freshT] at ft11
  refine Zy ?_
  refine Zm 2 ?_
  refine Zq fun K_ k_=>?_
  refine Zy ?_
  refine DW.pcr rfl rfl rfl rfl (tok_c T _ _) rfl rfl ?_
  refine Zy ?_
  refine DW.app rfl rfl rfl rfl (show slI Tryz.prog 113=some (169,3,32) by simp only[go_sem]) rfl rfl (by simp only[go_sem]) (by first|exact .inl rfl|exact .inr rfl) (by first|(simp only[go_sem,List.length_append,List.length_cons,List.length_nil]<;>omega)|(simp<;>omega)) (by first|(simp only[go_sem,List.length_append,List.length_cons,List.length_nil]<;>omega)|(simp<;>omega)) fun t12 ft12=>?_
  try simp only[freshT] at ft12
  refine Zy ?_
  refine k_ _ _ (thenQ_n ?_)
  refine Zm 1 ?_
  refine Zp 1 ?_
  refine AWp.ret ?_
  simp only[go_sem]
  simp[toksD,tokD,tM,tW,hT]
 rw[elT_0 c (by omega)] at hT hTl
 simp only[List.length_nil] at hTl
 refine Zk ?_
 refine Zp 2 ?_
 refine AWp.ret ?_
 simp only[go_sem]
 simp[toksD,tokD,tM,hT]
theorem listShown_step (T:Tbl) (l:List Cmd) (hll:l.length*208≤140737488355328) (hl:(lsT l).length≤4398046511104) (hk:∀x∈l,1≤x.kind∧x.kind≤10) (ih:∀x∈l,PC Tryz.prog T 203 [.agg (cmdA x)] (.d (.slc 3 (toksD (cmT x))))):PC Tryz.prog T 118 [.d (.slc 12 (l.map cmdD))] (.d (.slc 3 (toksD (lsT l)))):=by
 refine⟨Tryz.call118,PCall.enterS Tryz.func118 rfl Tryz.ntmps118 rfl fun hb=>?_⟩
 simp only[go_sem,Tryz.results118]
 refine Zp 1 ?_
 refine Zp 3 ?_
 refine Zy ?_
 refine AWp.ownNilS 3 3 rfl rfl (by decide) fun u fu=>?_
 try simp only[freshT] at fu
 refine Zy ?_
 refine Zs (Zp 7 ?_)
 refine AWp.block (Zy ?_)
 refine Zl 1 6 (fun n lc hc=> ∃(k v:Nat) (Y:List Tok),n=l.length-k∧EqS lc [(3,.own v 3 (toksD Y)),(4,.d (.int .i64 k))]∧EqS hc (⟨[],[v]⟩)∧(k≤l.length)∧(Y++lsT (l.drop k)=lsT l)) ?_ ?_
 · refine ⟨_,0,u,[],rfl,?_,ZE,ZI,ZI⟩
   · (try simp only[go_sem])<;>first|exact⟨rfl⟩|(constructor;simp[toksD];done)
 rintro _ _ _ ⟨k,v,Y,rfl,⟨rfl⟩,⟨rfl⟩,hk2,hY⟩
 have hYl:=congrArg List.length hY
 simp only[List.length_append] at hYl
 refine Zy ?_
 refine Zs (Zp 71 ?_)
 refine Zc (fun hc0=>?_) fun hc0=>?_
 ·
  have hlt:k<l.length:=by omega
  rw[lsT_drop _ _ hlt] at hYl
  simp only[List.length_append,List.length_cons] at hYl
  obtain⟨k1,k2⟩:=hk _ (List.getElem_mem hlt)
  have zf1:=fun d0_=>map_getD cmdD _ _ d0_ hlt
  refine Zk ?_
  refine Zs (AWp.block (Zx (Z3 ?_)))
  refine DW.pcr rfl rfl rfl rfl (commandWord_c T _ (by omega) (by omega)) rfl rfl ?_
  refine Zy ?_
  refine ZP (tok_c T _ _) ?_
  refine Zy ?_
  refine ZW fun t1 ft1=>?_
  try simp only[freshT] at ft1
  refine Zy ?_
  refine Zm 7 ?_
  refine Zq fun K_ k_=>?_
  refine Z3 ?_
  refine ZP (ih _ (List.getElem_mem hlt)) ?_
  refine Zy ?_
  refine DW.app rfl rfl rfl rfl (show slI Tryz.prog 113=some (169,3,32) by simp only[go_sem]) rfl rfl (by simp only[go_sem]) (by first|exact .inl rfl|exact .inr rfl) (by first|(simp only[go_sem,List.length_append,List.length_cons,List.length_nil]<;>omega)|(simp<;>omega)) (by first|(simp only[go_sem,List.length_append,List.length_cons,List.length_nil]<;>omega)|(simp<;>omega)) fun t2 ft2=>?_
  try simp only[freshT] at ft2
  refine Zy ?_
  refine k_ _ _ (blkQ_n (thenQ_n ?_))
  refine Zm 7 ?_
  refine Zr (thenQ_n ?_)
  refine Ze 1 6 [] [] [] [t2] (.e ⟨_,ZM,k+1,t2,Y++tW (tabW cmdWs (l[k]'hlt).kind)::cmT (l[k]'hlt),rfl,?_,ZE,?_,?_⟩)
  · (try simp only[go_sem])<;>first|exact⟨rfl⟩|(constructor;simp[toksD,tokD,tW])
  · omega
  · rw [←hY,lsT_drop _ _ hlt];simp
 refine AWp.exit (thenQ_e (thenQ_e (blkQ_e (thenQ_n ?_))))
 refine Zp 2 ?_
 refine AWp.ret ?_
 simp only[go_sem]
 have e:lsT l=Y:=by rw[lsT_end _ _ (by omega),List.append_nil] at hY;exact hY.symm
 rw[e]
theorem restShown_c (T:Tbl) (c:Cmd) (ok:c.Ok) (d:Int) (hF:cF c d=0) (hl:(cmT c).length≤4398046511104):PC Tryz.prog T 203 [.agg (cmdA c)] (.d (.slc 3 (toksD (cmT c)))):=by
 induction c using Cmd.ind generalizing d with
 | h c i1 i2=>
  obtain⟨s1,s2,s3,s4,s5,s6⟩:=ok.inv
  obtain⟨hk,hok,_⟩:=cF_ok hF
  have kn:∀x d,cF x d=0→1≤x.kind∧x.kind≤10:=fun x d h=>by simpa[inB] using(cF_ok h).1
  have hT:c.kind=2→(cmT c).length=(tT c.test).length+((lsT c.thn).length+((elT c.els).length+1)+1):=fun h2=>by rw[cmT_eq,if_pos h2];simp
  refine restShown_step T c ok d hF hl (fun h2=>?_) (fun h2 he h0=>?_) (fun h2 he h0=>?_)
  ·have:=hT h2
   obtain⟨_,ha,_,_⟩:=hok h2
   rw[thnD_eq]
   exact listShown_step T _ s3 (by omega) (fun x hx=>kn x _ (ha x hx)) fun x hx=>i1 x hx (s5 x hx) _ (ha x hx) (by have:=lsT_mem _ _ hx;omega)
  ·have:=hT h2
   obtain⟨_,_,_,ha⟩:=hok h2
   have ha:=ha he
   rw[elT_f c he h0] at this
   simp only[List.length_cons,List.length_append,List.length_nil] at this
   rw[elsD_eq]
   exact listShown_step T _ s4 (by omega) (fun x hx=>kn x _ (ha x hx)) fun x hx=>i2 x hx (s6 x hx) _ (ha x hx) (by have:=lsT_mem _ _ hx;omega)
  ·have:=hT h2
   obtain⟨_,_,ha,_⟩:=hok h2
   rw[elT_t c he h0] at this
   simp only[List.length_cons] at this
   have hm:=List.getElem_mem h0
   exact i2 _ hm (s6 _ hm) _ (ha he _ hm) (by omega)
theorem listShown_c (T:Tbl) (l:List Cmd) (hll:l.length*208≤140737488355328) (ok:∀x∈l,x.Ok) (d:Int) (hF:cFL l d=0) (hl:(lsT l).length≤4398046511104):PC Tryz.prog T 118 [.d (.slc 12 (l.map cmdD))] (.d (.slc 3 (toksD (lsT l)))):=
 listShown_step T l hll hl (fun x hx=>by simpa[inB] using(cF_ok (cFL_mem _ _ hF x hx)).1) fun x hx=>restShown_c T x (ok x hx) d (cFL_mem _ _ hF x hx) (by have:=lsT_mem _ _ hx;omega)
def chkE (l:List Cmd):Int:=if cFL l 0=0 then(if 400<((lsT l).length:Int) then 5 else 0) else cFL l 0
theorem cmdsFault_c (T:Tbl) (l:List Cmd) (hll:l.length*208≤140737488355328) (ok:∀x∈l,x.Ok) (hl:(lsT l).length≤4398046511104):PC Tryz.prog T 63 [.d (.slc 12 (l.map cmdD))] (.d (.int .i64 (chkE l))):=by
 refine⟨Tryz.call63,PCall.enterS Tryz.func63 rfl Tryz.ntmps63 rfl fun hb=>?_⟩
 simp only[go_sem,Tryz.results63]
 refine Zp 1 ?_
 refine Zx (Zy ?_)
 refine DW.pcr rfl rfl rfl rfl (listFault_c T _ hll ok _ (by omega) (by omega)) rfl rfl ?_
 refine Zy ?_
 refine Zs (Zx (Zy ?_))
 refine DW.pcgr rfl rfl rfl rfl rfl (fun hg=>listShown_c T l hll ok 0 (by simpa using hg) hl) (fun hg=>by(try simp only[go_sem])<;>first|exact hg|(exfalso;simp at hg;done)|(simpa using hg)|grind) rfl rfl ?_
 refine Zy ?_
 refine Zm 2050 ?_
 refine Zc (fun hc0=>?_) fun hc0=>?_
 ·
  refine Zr (thenQ_n ?_)
  refine Zp 1 ?_
  refine AWp.ret ?_
  simp only[go_sem]
  first|(obtain⟨g1,g2⟩:=hc0;rw[chkE,if_pos g1,if_pos g2];done)|(rw[chkE];split;(rcases hc0 with h|h;contradiction;rw[if_neg (by omega)];assumption);rfl)
 refine Zk ?_
 refine Zp 1 ?_
 refine AWp.ret ?_
 simp only[go_sem]
 first|(obtain⟨g1,g2⟩:=hc0;rw[chkE,if_pos g1,if_pos g2];done)|(rw[chkE];split;(rcases hc0 with h|h;contradiction;rw[if_neg (by omega)];assumption);rfl)
end
section
attribute [local go_sem] wob in
theorem Check_c (T:Tbl) (l:List Cmd) (hll:l.length*208≤140737488355328) (ok:∀x∈l,x.Ok) (hl:(lsT l).length≤4398046511104) (tb:Tabs T):PC Tryz.prog T 56 [.d (.slc 12 (l.map cmdD))] (.d (.int .i64 (chkE l))):=by
 refine⟨Tryz.call56,PCall.enterS Tryz.func56 rfl Tryz.ntmps56 rfl fun hb=>?_⟩
 simp only[go_sem,Tryz.results56]
 refine Zp 1 ?_
 refine Zs (Zx (Zy ?_))
 refine DW.pcr rfl rfl rfl rfl (checkAll_c T _ hll ok _ (by omega) (by omega)) rfl rfl ?_
 refine Zy ?_
 refine Zp 35 ?_
 refine Zc (fun hc0=>?_) fun hc0=>?_
 ·
  refine Zp 2 ?_
  refine AWp.ret ?_
  simp only[go_sem]
  rw[chkE,if_neg hc0]
 have h0:=cFL_mem _ _ hc0
 refine Zk ?_
 refine Zx (Zy ?_)
 intro b
 first|intro fb|have fb:=True.intro
 try simp only[freshL,wob] at fb
 refine Zm 5 ?_
 refine Zy ?_
 refine AWp.ownNilH b 0 0 3 (by(try simp only[go_sem])<;>rfl) rfl rfl (by decide) fun u fu=>?_
 try simp only[freshT] at fu
 refine Zy ?_
 refine Zs (Zp 30 ?_)
 refine AWp.block (Zy ?_)
 refine Zl 7 8 (fun n lc hc=> ∃(k v:Nat) (Y:List Tok),n=l.length-k∧EqS lc [(16,.d (.int .i64 k))]∧EqS hc (⟨[wob b v Y],[v]⟩)∧(k≤l.length)∧(Y++lsT (l.drop k)=lsT l)) ⟨_,0,u,[],rfl,ZE,ZE,ZI,ZI⟩ ?_
 rintro _ _ _ ⟨k,v,Y,rfl,⟨rfl⟩,⟨rfl⟩,hk2,hY⟩
 have hYl:=congrArg List.length hY
 simp only[List.length_append] at hYl
 refine Zy ?_
 refine Zp 31 ?_
 refine Zs (Zc (fun hc1=>?_) fun hc1=>?_)
 ·
  have hlt:k<l.length:=by omega
  rw[lsT_drop _ _ hlt] at hYl
  simp only[List.length_cons,List.length_append] at hYl
  have hkl:=h0 _ (List.getElem_mem hlt)
  have zf1:=fun d0_=>map_getD cmdD _ _ d0_ hlt
  refine Zk ?_
  refine Zs (AWp.block (Zx ?_))
  simp only[go_sem,zf1]
  (repeat(with_reducible refine And.intro ZS ?_))
  intro bz1
  first|intro fbz1|have fbz1:=True.intro
  try simp only[freshL,wob] at fbz1
  refine Zq fun K_ k_=>?_
  simp only[go_sem,fbz1]
  refine DW.acp [b] [v] rfl rfl rfl rfl (by(try simp only[go_sem,fbz1])<;>rfl) rfl ((wbranch_c T b tb _ (ok _ (List.getElem_mem hlt)) 0 hkl).2 _ _ _ _ (by(try simp only[List.length_cons]);omega)) ?_
  rintro _ _ ⟨W2,fW2,rfl,rfl⟩
  try simp only[freshT] at fW2
  refine Zy ?_
  refine k_ _ _ (blkQ_n (thenQ_n ?_))
  refine Zm 29 ?_
  refine Zr (thenQ_n ?_)
  refine Ze 7 8 [bz1] [] [b] [W2] (.e ⟨_,ZM,k+1,W2,Y++(tW (tabW cmdWs (l[k]'hlt).kind)::cmT (l[k]'hlt)),rfl,ZE,ZE,?_,?_⟩)
  · omega
  · rw [←hY,lsT_drop _ _ hlt];simp
 rw[lsT_end _ _ (by omega),List.append_nil] at hY
 subst hY
 refine AWp.exit (thenQ_e (thenQ_e (blkQ_e (thenQ_n ?_))))
 refine Zm 1 ?_
 refine Zs (Zp 64 ?_)
 refine Zc (fun hc2=>?_) fun hc2=>?_
 ·
  refine Zp 1 ?_
  refine AWp.ret ?_
  simp only[go_sem]
  rw[chkE,if_pos hc0,if_pos hc2]
 refine Zk ?_
 refine Zp 1 ?_
 refine AWp.ret ?_
 simp only[go_sem]
 rw[chkE,if_pos hc0,if_neg (by omega)]
end
section
open Go.RowKit
section
variable {P:Program} {T:Tbl} {G:Gh} {f:FuncId}
theorem PC.old {args:List AV} {r:AV} (hcall:∀az w,(callFunc f az).run P w= .ok (.enter f az) w)
  (H:∀(F:Frz) (w:World) (vs:Array Value),(∀b o u,F b o=some u→w.cell? ⟨b,o,none⟩=some u)→(∀g j x,(T g)[j]?=some x→∃u,F g j=some u∧VD F x u)→SlR (gh0 w F) args vs→Calls P f vs w fun e w'=> ∃v,e= .returned v∧Below w.heap.size w w'∧VR (gh0 w F) r v):PC P T f args r:=by
 refine⟨hcall,fun F w vs hF hT R=>(H F w vs hF hT R).mono ?_⟩
 rintro e w' ⟨v,rfl,hb,hv⟩
 refine⟨v,F,rfl,hb,fun _ _ _ e=>e,fun _ _ _ e=> .inl e,fun b o u e=>?_,hv⟩
 have h1:=hF b o u e
 have hlt:b<w.heap.size:=World.block_lt_of_cell? (w:=w) (a:=⟨b,o,none⟩) h1
 rw[←h1]
 exact World.cell?_of_block (w:=w) (a:=⟨b,o,none⟩) (hb.block b hlt)
theorem slr1 {a:AV} {vs:Array Value} (R:SlR G [a] vs):∃v,vs= #[v]∧VR G a v:=by
 obtain⟨h1,h2⟩:=R
 obtain⟨v,h3,h4⟩:=h2 0 a rfl
 refine⟨v,?_,h4⟩
 apply Array.ext_getElem?
 intro i
 cases i with
 |zero=>simpa using h3
 |succ i=>rw[Array.getElem?_eq_none (by rw[h1];simp),Array.getElem?_eq_none (by simp)]
theorem slr2 {a b:AV} {vs:Array Value} (R:SlR G [a,b] vs):∃v u,vs= #[v,u]∧VR G a v∧VR G b u:=by
 obtain⟨h1,h2⟩:=R
 obtain⟨v,h3,h4⟩:=h2 0 a rfl
 obtain⟨u,h5,h6⟩:=h2 1 b rfl
 refine⟨v,u,?_,h4,h6⟩
 apply Array.ext_getElem?
 intro i
 match i with
 |0=>simpa using h3
 |1=>simpa using h5
 |i+2=>rw[Array.getElem?_eq_none (by rw[h1];simp),Array.getElem?_eq_none (by simp)]
theorem slr3 {a b c:AV} {vs:Array Value} (R:SlR G [a,b,c] vs):∃v u x,vs= #[v,u,x]∧VR G a v∧VR G b u∧VR G c x:=by
 obtain⟨h1,h2⟩:=R
 obtain⟨v,h3,h4⟩:=h2 0 a rfl
 obtain⟨u,h5,h6⟩:=h2 1 b rfl
 obtain⟨x,h7,h8⟩:=h2 2 c rfl
 refine⟨v,u,x,?_,h4,h6,h8⟩
 apply Array.ext_getElem?
 intro i
 match i with
 |0=>simpa using h3
 |1=>simpa using h5
 |2=>simpa using h7
 |i+3=>rw[Array.getElem?_eq_none (by rw[h1];simp),Array.getElem?_eq_none (by simp)]
theorem VR.agg_inv {l:List AV} {v:Value} (h:VR G (.agg l) v):∃vs:Array Value,v= .agg vs∧SlR G l vs:=by
 cases h with
 |agg _ vs hl h=>
  refine⟨vs.toArray,rfl,by simpa using hl,fun i a e=>?_⟩
  have hi:i<vs.length:=by rw[hl];exact(List.getElem?_eq_some_iff.1 e).1
  exact⟨vs[i],by simp[hi],h i a _ e (List.getElem?_eq_getElem hi)⟩
theorem tbl_cell {F:Frz} {w:World} {g j:Nat} {x:D} (hF:∀b o u,F b o=some u→w.cell? ⟨b,o,none⟩=some u) (hT:∀g j x,(T g)[j]?=some x→∃u,F g j=some u∧VD F x u) (h:(T g)[j]?=some x):∃u,w.cell? ⟨g,j,none⟩=some u∧VD F x u:=by
 obtain⟨u,h1,h2⟩:=hT g j x h
 exact⟨u,hF _ _ _ h1,h2⟩
end
end
section
def marksL:List UInt8:=[33,35,36,37,38,39,42,43,45,47,61,63,94,95,123,124,125,126,96]
def alnumB (c:UInt8):Bool:=(97≤c.toNat&&c.toNat≤122)||(65≤c.toNat&&c.toNat≤90)||(48≤c.toNat&&c.toNat≤57)
def atomB (c:UInt8):Bool:=alnumB c||decide (0≤Lib.indexByte marksL c)
def dotGo:Bool→List UInt8→Bool
 |d,[]=>!d
 |d,c::r=>if c=46 then !d&&dotGo true r else atomB c&&dotGo false r
end
section
def adrE (l d:Tx):Int:=if dotGo true l=false∨dotGo true d=false then 3 else if 99<l.length+d.length then 1 else 0
theorem adrE_nil_l (d:Tx):adrE [] d≠0:=by simp[adrE,dotGo]
theorem adrE_nil_d (l:Tx):adrE l []≠0:=by simp[adrE,dotGo]
abbrev Ad:=Tx×Tx
def blkB (c:UInt8):Bool:=c==32||c==9
def runB (c:UInt8):Bool:=atomB c||c==46
def skipS:Tx→Tx:=List.dropWhile blkB
def runS:Tx→Tx:=List.takeWhile runB
def offS:Tx→Tx:=List.dropWhile runB
def quoS:Tx→Option Tx
 |[]=>none
 |[c]=>if c=34 then some [] else none
 |c::x::r=>if c=34 then some (x::r) else if c=92 then quoS r else quoS (x::r)
def bareS (l:Tx):Tx→Option (Ad×Tx)
 |[]=>none
 |c::r=>if c=64∧adrE l (runS r)=0 then some ((l,runS r),offS r) else none
theorem skip_le (s:Tx):(skipS s).length≤s.length:=by unfold skipS;exact(List.dropWhile_sublist _).length_le
theorem off_le (s:Tx):(offS s).length≤s.length:=by unfold offS;exact(List.dropWhile_sublist _).length_le
theorem run_off (s:Tx):runS s++offS s=s:=List.takeWhile_append_dropWhile ..
theorem off_lt (s:Tx) (h:runS s≠[]):(offS s).length<s.length:=by
 have:=congrArg List.length (run_off s)
 have h2:0<(runS s).length:=List.length_pos_iff.2 h
 simp only[List.length_append] at this
 omega
theorem quo_lt:∀(s r:Tx),quoS s=some r→r.length<s.length
 |[],r,h=>by simp[quoS] at h
 |[c],r,h=>by
  simp only[quoS] at h
  split at h
  ·injection h with h;subst h;simp
  ·cases h
 | c::x::s,r,h=>by
  simp only[quoS] at h
  split at h
  ·injection h with h;subst h;simp
  ·split at h
   ·have:=quo_lt s r h;simp;omega
   ·have:=quo_lt (x::s) r h;simp at this⊢;omega
theorem bare_le {l s:Tx} {a:Ad} {r:Tx} (h:bareS l s=some (a,r)):r.length<s.length:=by
 cases s with
 |nil=>simp[bareS] at h
 | cons c s=>
  simp only[bareS] at h
  split at h
  ·injection h with h;injection h with h1 h2;subst h2
   have:=off_le s
   simp;omega
  ·cases h
def gtS:Option (Ad×Tx)→Option (Ad×Tx)
 |some (a,c::r)=>if c=62 then some (a,r) else none
 |_=>none
def addrS (first:Bool) (s:Tx):Option (Ad×Tx):=
 if(skipS s).head?=some 34 then
  match h:quoS (skipS s).tail with
  |none=>none
  |some r=>addrS false r
 else if(skipS s).head?=some 60 then gtS (bareS (runS (skipS s).tail) (offS (skipS s).tail))
 else if first=true∧(offS (skipS s)).head?=some 64 then bareS (runS (skipS s)) (offS (skipS s))
 else if h:runS (skipS s)=[] then none else addrS false (offS (skipS s))
 termination_by s.length
 decreasing_by
  ·have h1:=quo_lt _ _ h
   have h2:=skip_le s
   have h3:(skipS s).tail.length≤(skipS s).length:=by simp
   omega
  ·have h1:=off_lt _ h
   have h2:=skip_le s
   omega
theorem gt_lt {o:Option (Ad×Tx)} {a:Ad} {r:Tx} (h:gtS o=some (a,r)):∃q,o=some (a,62::q)∧r=q:=by
 unfold gtS at h
 split at h
 ·split at h
  ·rename_i hc;subst hc;injection h with h;injection h with h1 h2;exact⟨_,by rw[h1],h2.symm⟩
  ·cases h
 ·cases h
theorem addr_lt (n:Nat):∀(first:Bool) (s:Tx) (a:Ad) (r:Tx),s.length≤n→addrS first s=some (a,r)→r.length<s.length:=by
 induction n with
 |zero=>
  intro first s a r hs h
  have:s=[]:=List.eq_nil_of_length_eq_zero (by omega)
  subst this
  unfold addrS at h
  simp[skipS,offS,runS] at h
 | succ n ih=>
  intro first s a r hs h
  have hk:=skip_le s
  unfold addrS at h
  split at h
  ·rename_i h0
   split at h
   ·cases h
   ·rename_i q hq
    have h1:=quo_lt _ _ hq
    have h2:(skipS s).tail.length+1=(skipS s).length:=by
     cases e:skipS s with
     |nil=>rw[e] at h0;simp at h0
     |cons c t=>simp
    have:=ih false q a r (by omega) h
    omega
  ·split at h
   ·obtain⟨q,h1,rfl⟩:=gt_lt h
    have h2:=bare_le h1
    have h3:=off_le (skipS s).tail
    have h4:(skipS s).tail.length≤(skipS s).length:=by simp
    simp at h2
    omega
   ·split at h
    ·have:=bare_le h
     have:=off_le (skipS s)
     omega
    ·split at h
     ·cases h
     ·rename_i h0
      have h1:=off_lt _ h0
      have:=ih false _ a r (by omega) h
      omega
def listS (s:Tx):Option (List Ad):=
 match h:addrS true s with
 |none=>none
 |some (a,r)=>
  match h2:skipS r with
  |[]=>some [a]
  |c::q=>if c=44 then(listS q).map (a:: ·) else none
 termination_by s.length
 decreasing_by
  have h1:=addr_lt _ true s a r (Nat.le_refl _) h
  have h3:=skip_le r
  rw[h2] at h3
  simp at h3
  omega
structure Bt where
 text:Tx
 run:Bool
 quo:Bool
 apart:Bool
def bitsS (ap:Bool) (s:Tx):Option (List Bt):=
 match s with
 |[]=>some []
 | c::r=>
  if blkB c=true then bitsS true r
  else if h:runB c=true then(bitsS false (offS (c::r))).map (⟨runS (c::r),true,false,ap⟩:: ·)
  else if c≠34 then(bitsS false r).map (⟨[c],false,false,ap⟩:: ·)
  else match h2:quoS r with
   |none=>none
   |some q=>(bitsS false q).map (⟨[],false,true,ap⟩:: ·)
 termination_by s.length
 decreasing_by
  ·simp
  ·exact off_lt _ (by simp[runS,h])
  ·simp
  ·have:=quo_lt _ _ h2;simp;omega
def plainB:List Bt→Option (Ad×List Bt)
 |a::b::c::t=>if a.run=true∧b.text=[64]∧c.run=true∧b.apart=false∧c.apart=false∧adrE a.text c.text=0 then some ((a.text,c.text),t) else none
 |_=>none
def wordB (b:Bt):Bool:=b.run||b.quo
def angB:List Bt→Option (Ad×List Bt)
 |[]=>none
 | x::l=>if x.text=[60] then
   match plainB l with
   |some (a,y::t)=>if l.head?.map Bt.apart=some false∧y.text=[62]∧y.apart=false then some (a,t) else none
   |_=>none
  else none
def addrB (l:List Bt):Option (Ad×List Bt):=
 match plainB l with
 |some x=>some x
 |none=>angB (l.dropWhile wordB)
theorem plainB_len {l:List Bt} {a:Ad} {t:List Bt} (h:plainB l=some (a,t)):t.length+3=l.length:=by
 unfold plainB at h
 split at h
 ·split at h
  ·injection h with h;injection h with h1 h2;subst h2;simp
  ·cases h
 ·cases h
theorem angB_len {l:List Bt} {a:Ad} {t:List Bt} (h:angB l=some (a,t)):t.length<l.length:=by
 cases l with
 |nil=>simp[angB] at h
 | cons x l=>
  simp only[angB] at h
  split at h
  ·split at h
   ·rename_i a' y t' hp
    have:=plainB_len hp
    split at h
    ·injection h with h;injection h with h1 h2;subst h2;simp at this⊢;omega
    ·cases h
   ·cases h
  ·cases h
theorem addrB_len {l:List Bt} {a:Ad} {t:List Bt} (h:addrB l=some (a,t)):t.length<l.length:=by
 unfold addrB at h
 split at h
 ·rename_i hp;injection h with h;subst h;have:=plainB_len hp;omega
 ·have:=angB_len h
  have h2:=(List.dropWhile_sublist (l:=l) wordB).length_le
  omega
def listB (l:List Bt):Option (List Ad):=
 match h:addrB l with
 |none=>none
 |some (a,[])=>some [a]
 |some (a,x::t)=>if x.text=[44] then(listB t).map (a:: ·) else none
 termination_by l.length
 decreasing_by
  have:=addrB_len h
  simp at this
  omega
end
section
theorem run_blank {c:UInt8} (h:blkB c=true):runB c=false:=by
 simp only[blkB,Bool.or_eq_true,beq_iff_eq] at h
 rcases h with rfl|rfl<;>decide
theorem run34:runB 34=false:=by decide
theorem run60:runB 60=false:=by decide
theorem run62:runB 62=false:=by decide
theorem run64:runB 64=false:=by decide
theorem run44:runB 44=false:=by decide
theorem blk34:blkB 34=false:=by decide
theorem blk60:blkB 60=false:=by decide
theorem blk62:blkB 62=false:=by decide
theorem blk64:blkB 64=false:=by decide
theorem blk44:blkB 44=false:=by decide
theorem bits_nil (ap:Bool):bitsS ap []=some []:=by unfold bitsS;rfl
theorem bits_blank {c:UInt8} {r:Tx} {ap:Bool} (h:blkB c=true):bitsS ap (c::r)=bitsS true r:=by rw[bitsS];simp[h]
theorem bits_run {c:UInt8} {r:Tx} {ap:Bool} (h:runB c=true):bitsS ap (c::r)=(bitsS false (offS (c::r))).map (⟨runS (c::r),true,false,ap⟩:: ·):=by
 have hb:blkB c=false:=by
  cases e:blkB c with
  |false=>rfl
  |true=>rw[run_blank e] at h;cases h
 rw[bitsS];simp[h,hb]
theorem bits_one {c:UInt8} {r:Tx} {ap:Bool} (hb:blkB c=false) (h:runB c=false) (hq:c≠34):bitsS ap (c::r)=(bitsS false r).map (⟨[c],false,false,ap⟩:: ·):=by rw[bitsS];simp[h,hb,hq]
theorem bits_quo {r:Tx} {ap:Bool} :bitsS ap (34::r)=match quoS r with|none=>none|some q=>(bitsS false q).map (⟨[],false,true,ap⟩:: ·):=by
 rw[bitsS]
 simp only[blk34,run34,Bool.false_eq_true,if_false,dite_false,ne_eq,not_true_eq_false]
 split<;>rename_i h<;>rw[h]
theorem bits_quoN {r:Tx} {ap:Bool} (h:quoS r=none):bitsS ap (34::r)=none:=by rw[bits_quo,h]
theorem bits_quoS {r q:Tx} {ap:Bool} (h:quoS r=some q):bitsS ap (34::r)=(bitsS false q).map (⟨[],false,true,ap⟩:: ·):=by rw[bits_quo,h]
theorem skip_cons {c:UInt8} {r:Tx} (h:blkB c=true):skipS (c::r)=skipS r:=by unfold skipS;rw[List.dropWhile_cons,if_pos h]
theorem skip_stay {c:UInt8} {r:Tx} (h:blkB c=false):skipS (c::r)=c::r:=by unfold skipS;rw[List.dropWhile_cons,if_neg (by rw[h];decide)]
theorem skip_head:∀(s:Tx) (c:UInt8) (r:Tx),skipS s=c::r→blkB c=false
 |[],c,r,h=>by simp[skipS] at h
 |x::s,c,r,h=>by
  cases e:blkB x with
  |true=>rw[skip_cons e] at h;exact skip_head s c r h
  |false=>rw[skip_stay e] at h;injection h with h1 h2;rw[←h1];exact e
theorem bits_skip:∀(s:Tx) (ap:Bool),bitsS ap s=bitsS ap (skipS s)∨(bitsS ap s=bitsS true (skipS s))
 |[],ap=> .inl rfl
 | c::r,ap=>by
  cases e:blkB c with
  |true=>
   rw[bits_blank e,skip_cons e]
   rcases bits_skip r true with h|h<;>exact .inr h
  |false=>rw[skip_stay e];exact .inl rfl
theorem bits_skip' (s:Tx) (ap:Bool):∃ap',bitsS ap s=bitsS ap' (skipS s):=by
 rcases bits_skip s ap with h|h
 ·exact⟨_,h⟩
 ·exact⟨_,h⟩
theorem apart_true:∀(s:Tx) (x:Bt) (t:List Bt),bitsS true s=some (x::t)→x.apart=true
 |[],x,t,h=>by rw[bits_nil] at h;cases h
 | c::r,x,t,h=>by
  cases e:blkB c with
  |true=>rw[bits_blank e] at h;exact apart_true r x t h
  | false=>
   cases e2:runB c with
   |true=>rw[bits_run e2] at h;obtain⟨_,_,h1⟩:=Option.map_eq_some_iff.1 h;injection h1 with h1 _;rw[←h1]
   | false=>
    by_cases e3:c=34
    ·subst e3
     cases e4:quoS r with
     |none=>rw[bits_quoN e4] at h;cases h
     |some q=>rw[bits_quoS e4] at h;obtain⟨_,_,h1⟩:=Option.map_eq_some_iff.1 h;injection h1 with h1 _;rw[←h1]
    ·rw[bits_one e e2 e3] at h;obtain⟨_,_,h1⟩:=Option.map_eq_some_iff.1 h;injection h1 with h1 _;rw[←h1]
theorem runS_cons {c:UInt8} {r:Tx} (h:runB c=true):runS (c::r)=c::runS r:=by unfold runS;rw[List.takeWhile_cons,if_pos h]
theorem runS_no {c:UInt8} {r:Tx} (h:runB c=false):runS (c::r)=[]:=by unfold runS;rw[List.takeWhile_cons,if_neg (by rw[h];decide)]
theorem offS_no {c:UInt8} {r:Tx} (h:runB c=false):offS (c::r)=c::r:=by unfold offS;rw[List.dropWhile_cons,if_neg (by rw[h];decide)]
theorem runS_nil:runS []=[]:=rfl
theorem offS_nil:offS []=[]:=rfl
theorem head_mark {m:UInt8} (hm:runB m=false) (s:Tx) (x:Bt) (t:List Bt) (h:bitsS false s=some (x::t)) (ht:x.text=[m]) (ha:x.apart=false):∃r,s=m::r∧bitsS false r=some t:=by
 cases s with
 |nil=>rw[bits_nil] at h;cases h
 | cons c r=>
  cases e:blkB c with
  |true=>rw[bits_blank e] at h;rw[apart_true r x t h] at ha;cases ha
  | false=>
   cases e2:runB c with
   |true=>
    rw[bits_run e2] at h;obtain⟨_,_,h1⟩:=Option.map_eq_some_iff.1 h;injection h1 with h1 _
    rw[←h1] at ht
    dsimp only at ht
    rw[runS_cons e2] at ht
    injection ht with h3 h4
    rw[h3,hm] at e2;cases e2
   | false=>
    by_cases e3:c=34
    ·subst e3
     cases e4:quoS r with
     |none=>rw[bits_quoN e4] at h;cases h
     |some q=>rw[bits_quoS e4] at h;obtain⟨_,_,h1⟩:=Option.map_eq_some_iff.1 h;injection h1 with h1 _;rw[←h1] at ht;cases ht
    ·rw[bits_one e e2 e3] at h;obtain⟨l,h1,h2⟩:=Option.map_eq_some_iff.1 h;injection h2 with h2 h3
     rw[←h2] at ht
     injection ht with ht
     subst ht;subst h3
     exact⟨r,rfl,h1⟩
theorem head_run {ap:Bool} (s:Tx) (x:Bt) (t:List Bt) (h:bitsS ap s=some (x::t)) (hr:x.run=true):runS (skipS s)≠[]∧x.text=runS (skipS s)∧bitsS false (offS (skipS s))=some t:=by
 obtain⟨ap',h'⟩:=bits_skip' s ap
 rw[h'] at h
 have hh:=skip_head s
 generalize skipS s=q at h hh
 cases q with
 |nil=>rw[bits_nil] at h;cases h
 | cons c r=>
  have e:=hh c r rfl
  cases e2:runB c with
  |true=>
   rw[bits_run e2] at h;obtain⟨l,h1,h2⟩:=Option.map_eq_some_iff.1 h;injection h2 with h2 h3
   subst h3
   rw[←h2]
   exact⟨by rw[runS_cons e2];simp,rfl,h1⟩
  | false=>
   by_cases e3:c=34
   ·subst e3
    cases e4:quoS r with
    |none=>rw[bits_quoN e4] at h;cases h
    |some q=>rw[bits_quoS e4] at h;obtain⟨_,_,h1⟩:=Option.map_eq_some_iff.1 h;injection h1 with h1 _;rw[←h1] at hr;cases hr
   ·rw[bits_one e e2 e3] at h;obtain⟨l,h1,h2⟩:=Option.map_eq_some_iff.1 h;injection h2 with h2 h3
    rw[←h2] at hr;cases hr
theorem skip_apart (s:Tx) (x:Bt) (t:List Bt) (h:bitsS false s=some (x::t)) (ha:x.apart=false):skipS s=s:=by
 cases s with
 |nil=>rfl
 |cons c r=>
  cases e:blkB c with
  |true=>rw[bits_blank e] at h;rw[apart_true r x t h] at ha;cases ha
  |false=>exact skip_stay e
theorem bits_runs {ap:Bool} {s:Tx} (h:runS s≠[]):bitsS ap s=(bitsS false (offS s)).map (⟨runS s,true,false,ap⟩:: ·):=by
 cases s with
 |nil=>exact absurd rfl h
 |cons c r=>
  cases e:runB c with
  |true=>exact bits_run e
  |false=>rw[runS_no e] at h;exact absurd rfl h
theorem plain_fw {ap:Bool} {s:Tx} {l:List Bt} (h:bitsS ap s=some l) {a:Ad} {t:List Bt} (hp:plainB l=some (a,t)):∃r,bareS (runS (skipS s)) (offS (skipS s))=some (a,r)∧bitsS false r=some t:=by
 unfold plainB at hp
 split at hp
 ·rename_i x y z t'
  split at hp
  ·rename_i hc
   obtain⟨c1,c2,c3,c4,c5,c6⟩:=hc
   injection hp with hp;injection hp with hp1 hp2;subst hp2
   obtain⟨h1,h2,h3⟩:=head_run _ _ _ h c1
   obtain⟨q,h4,h5⟩:=head_mark run64 _ _ _ h3 c2 c4
   obtain⟨h6,h7,h8⟩:=head_run _ _ _ h5 c3
   have h9:=skip_apart _ _ _ h5 c5
   rw[h9] at h7 h8
   refine⟨offS q,?_,h8⟩
   rw[h4,bareS,if_pos ⟨rfl,by rw[←h2,←h7];exact c6⟩,←hp1,h2,h7]
  ·cases hp
 ·cases hp
theorem bare_inv {w q:Tx} {a:Ad} {r:Tx} (h:bareS w q=some (a,r)):∃p,q=64::p∧adrE w (runS p)=0∧a=(w,runS p)∧r=offS p∧w≠[]∧runS p≠[]:=by
 cases q with
 |nil=>simp[bareS] at h
 | cons c p=>
  simp only[bareS] at h
  split at h
  ·rename_i hc
   injection h with h;injection h with h1 h2
   refine⟨p,by rw[hc.1],hc.2,h1.symm,h2.symm,fun e=>?_,fun e=>?_⟩
   ·rw[e] at hc;exact adrE_nil_l _ hc.2
   ·rw[e] at hc;exact adrE_nil_d _ hc.2
  ·cases h
theorem bare_bits {w q:Tx} {a:Ad} {r:Tx} (h:bareS w q=some (a,r)):bitsS false q=(bitsS false r).map (fun t=>⟨[64],false,false,false⟩::⟨a.2,true,false,false⟩::t):=by
 obtain⟨p,rfl,h2,rfl,rfl,h5,h6⟩:=bare_inv h
 rw[bits_one blk64 run64 (by decide),bits_runs h6]
 cases bitsS false (offS p)<;>rfl
theorem plain_bw {ap:Bool} {s:Tx} {a:Ad} {r:Tx} (hb:bareS (runS (skipS s)) (offS (skipS s))=some (a,r)):∃ap',bitsS ap s=(bitsS false r).map (fun t=>⟨a.1,true,false,ap'⟩::⟨[64],false,false,false⟩::⟨a.2,true,false,false⟩::t)∧∀t,plainB (⟨a.1,true,false,ap'⟩::⟨[64],false,false,false⟩::⟨a.2,true,false,false⟩::t)=some (a,t):=by
 obtain⟨ap',h'⟩:=bits_skip' s ap
 obtain⟨p,h1,h2,h3,h4,h5,h6⟩:=bare_inv hb
 refine⟨ap',?_,fun t=>?_⟩
 ·rw[h',bits_runs h5,bare_bits hb,h3]
  cases bitsS false r<;>rfl
 ·rw[h3];simp[plainB,h2]
theorem gt_bits {q:Tx} {a:Ad} {r:Tx} (h:gtS (bareS (runS q) (offS q))=some (a,r)):bareS (runS q) (offS q)=some (a,62::r):=by
 obtain⟨p,h1,h2⟩:=gt_lt h
 rw[h1,h2]
theorem ang_bw {q:Tx} {ap:Bool} {a:Ad} {r:Tx} (h:gtS (bareS (runS q) (offS q))=some (a,r)):∃pre,bitsS ap (60::q)=(bitsS false r).map (pre++ ·)∧∀t,angB (pre++t)=some (a,t)∧(pre++t).dropWhile wordB=pre++t:=by
 have hb:=gt_bits h
 obtain⟨p,h1,h2,h3,h4,h5,h6⟩:=bare_inv hb
 refine⟨[⟨[60],false,false,ap⟩,⟨a.1,true,false,false⟩,⟨[64],false,false,false⟩,⟨a.2,true,false,false⟩,⟨[62],false,false,false⟩],?_,fun t=>?_⟩
 ·rw[bits_one blk60 run60 (by decide),bits_runs h5,bare_bits hb,bits_one blk62 run62 (by decide),h3]
  cases bitsS false r<;>rfl
 ·rw[h3];simp[angB,plainB,h2,wordB]
theorem ang_fw {q:Tx} {ap:Bool} {l:List Bt} (h:bitsS ap (60::q)=some l) {a:Ad} {t:List Bt} (ha:angB l=some (a,t)):∃r,gtS (bareS (runS q) (offS q))=some (a,r)∧bitsS false r=some t:=by
 rw[bits_one blk60 run60 (by decide)] at h
 cases e:bitsS false q with
 |none=>rw[e] at h;cases h
 | some l'=>
  rw[e] at h
  injection h with h
  subst h
  simp only[angB,if_true] at ha
  split at ha
  ·rename_i a' y t' hp
   split at ha
   ·rename_i hc
    obtain⟨c1,c2,c3⟩:=hc
    injection ha with ha;injection ha with h1 h2
    subst h1;subst h2
    obtain⟨r,hr1,hr2⟩:=plain_fw e hp
    have hsk:skipS q=q:=by
     cases l' with
     |nil=>simp at c1
     |cons z l''=>simp at c1;exact skip_apart _ _ _ e c1
    rw[hsk] at hr1
    obtain⟨r2,hr3,hr4⟩:=head_mark run62 _ _ _ hr2 c2 c3
    refine⟨r2,?_,hr4⟩
    rw[hr1,hr3];simp[gtS]
   ·cases ha
  ·cases ha
theorem addrS_34 {first:Bool} {s r:Tx} (h:skipS s=34::r):addrS first s=match quoS r with|none=>none|some q=>addrS false q:=by
 rw[addrS]
 simp only[h,List.head?_cons,if_true,List.tail_cons]
 split<;>rename_i e<;>simp only[h,List.tail_cons] at e<;>rw[e]
theorem addrS_60 {first:Bool} {s r:Tx} (h:skipS s=60::r):addrS first s=gtS (bareS (runS r) (offS r)):=by
 rw[addrS]
 simp only[h,List.head?_cons,List.tail_cons]
 rw[if_neg (by decide),if_true]
theorem addrS_x {first:Bool} {s:Tx} (h1:(skipS s).head?≠some 34) (h2:(skipS s).head?≠some 60):addrS first s=if first=true∧(offS (skipS s)).head?=some 64 then bareS (runS (skipS s)) (offS (skipS s)) else if runS (skipS s)=[] then none else addrS false (offS (skipS s)):=by
 rw[addrS,if_neg h1,if_neg h2]
 rfl
theorem addr_false (n:Nat):∀(s:Tx) (ap:Bool),s.length≤n→
  (∀a r,addrS false s=some (a,r)→∃pre,bitsS ap s=(bitsS false r).map (pre++ ·)∧∀t,angB ((pre++t).dropWhile wordB)=some (a,t))∧
  (∀l a t,bitsS ap s=some l→angB (l.dropWhile wordB)=some (a,t)→∃r,addrS false s=some (a,r)):=by
 induction n with
 |zero=>
  intro s ap hs
  have:s=[]:=List.eq_nil_of_length_eq_zero (by omega)
  subst this
  refine⟨fun a r h=>?_,fun l a t h h2=>?_⟩
  ·unfold addrS at h;simp[skipS,offS,runS] at h
  ·rw[bits_nil] at h;injection h with h;subst h;simp[angB] at h2
 | succ n ih=>
  intro s ap hs
  obtain⟨ap',h'⟩:=bits_skip' s ap
  have hk:=skip_le s
  have hh:=skip_head s
  rw[h']
  cases e:skipS s with
  |nil=>
   rw[addrS_x (by rw[e];simp) (by rw[e];simp),e]
   refine⟨fun a r h=>?_,fun l a t h h2=>?_⟩
   ·simp[runS_nil,offS_nil] at h
   ·rw[bits_nil] at h;injection h with h;subst h;simp[angB] at h2
  | cons c r=>
   have hb:=hh c r e
   rw[e] at hk
   simp only[List.length_cons] at hk
   by_cases c1:c=34
   ·subst c1
    rw[addrS_34 e]
    cases e4:quoS r with
    |none=>
     dsimp only
     refine⟨fun a r h=>(by cases h),fun l a t h h2=>?_⟩
     rw[bits_quoN e4] at h;cases h
    | some q=>
     dsimp only
     have hq:=quo_lt _ _ e4
     obtain⟨i1,i2⟩:=ih q false (by omega)
     rw[bits_quoS e4]
     refine⟨fun a r h=>?_,fun l a t h h2=>?_⟩
     ·obtain⟨pre,p1,p2⟩:=i1 a r h
      refine⟨⟨[],false,true,ap'⟩::pre,?_,fun t=>?_⟩
      ·rw[p1];cases bitsS false r<;>rfl
      ·rw[List.cons_append,List.dropWhile_cons,if_pos (by rfl)];exact p2 t
     ·cases e5:bitsS false q with
      |none=>rw[e5] at h;cases h
      |some l'=>
       rw[e5] at h;injection h with h;subst h
       rw[List.dropWhile_cons,if_pos (by rfl)] at h2
       exact i2 l' a t e5 h2
   ·by_cases c2:c=60
    ·subst c2
     rw[addrS_60 e]
     refine⟨fun a r h=>?_,fun l a t h h2=>?_⟩
     ·obtain⟨pre,p1,p2⟩:=ang_bw (ap:=ap') h
      refine⟨pre,p1,fun t=>?_⟩
      rw[(p2 t).2];exact(p2 t).1
     ·have hne:l.dropWhile wordB=l:=by
       rw[bits_one blk60 run60 (by decide)] at h
       cases e5:bitsS false r with
       |none=>rw[e5] at h;cases h
       |some l'=>rw[e5] at h;injection h with h;subst h;rw[List.dropWhile_cons,if_neg (by simp[wordB])]
      rw[hne] at h2
      obtain⟨r2,h3,_⟩:=ang_fw h h2
      exact⟨r2,h3⟩
    ·rw[addrS_x (by rw[e];simpa using c1) (by rw[e];simpa using c2),e]
     simp only[Bool.false_eq_true,false_and,if_false]
     cases e2:runB c with
     | false=>
      rw[runS_no e2,if_pos rfl]
      refine⟨fun a r h=>(by cases h),fun l a t h h2=>?_⟩
      rw[bits_one hb e2 c1] at h
      cases e5:bitsS false r with
      |none=>rw[e5] at h;cases h
      |some l'=>
       rw[e5] at h;injection h with h;subst h
       rw[List.dropWhile_cons,if_neg (by simp[wordB])] at h2
       simp[angB,c2] at h2
     | true=>
      have hrun:runS (c::r)≠[]:=by rw[runS_cons e2];simp
      rw[if_neg hrun]
      have ho:=off_lt _ hrun
      simp only[List.length_cons] at ho
      obtain⟨i1,i2⟩:=ih (offS (c::r)) false (by omega)
      rw[bits_run e2]
      refine⟨fun a r' h=>?_,fun l a t h h2=>?_⟩
      ·obtain⟨pre,p1,p2⟩:=i1 a r' h
       refine⟨⟨runS (c::r),true,false,ap'⟩::pre,?_,fun t=>?_⟩
       ·rw[p1];cases bitsS false r'<;>rfl
       ·rw[List.cons_append,List.dropWhile_cons,if_pos (by rfl)];exact p2 t
      ·cases e5:bitsS false (offS (c::r)) with
       |none=>rw[e5] at h;cases h
       |some l'=>
        rw[e5] at h;injection h with h;subst h
        rw[List.dropWhile_cons,if_pos (by rfl)] at h2
        exact i2 l' a t e5 h2
theorem addrS_tf {s:Tx} (h:(skipS s).head?=some 34∨(skipS s).head?=some 60∨(offS (skipS s)).head?≠some 64):addrS true s=addrS false s:=by
 cases e:skipS s with
 |nil=>
  have h1:=addrS_x (first:=true) (s:=s) (by rw[e];simp) (by rw[e];simp)
  have h2:=addrS_x (first:=false) (s:=s) (by rw[e];simp) (by rw[e];simp)
  rw[h1,h2,e];simp[offS_nil]
 | cons c r=>
  by_cases c1:c=34
  ·subst c1;rw[addrS_34 e,addrS_34 e]
  ·by_cases c2:c=60
   ·subst c2;rw[addrS_60 e,addrS_60 e]
   ·have h1:=addrS_x (first:=true) (s:=s) (by rw[e];simpa using c1) (by rw[e];simpa using c2)
    have h2:=addrS_x (first:=false) (s:=s) (by rw[e];simpa using c1) (by rw[e];simpa using c2)
    rw[h1,h2]
    rw[e] at h
    simp only[List.head?_cons,Option.some.injEq,c1,c2,false_or] at h
    rw[e,if_neg (fun hh:true=true∧_=>h hh.2),if_neg (fun hh:false=true∧_=>h hh.2)]
theorem addr_true (s:Tx) (ap:Bool):
  (∀a r,addrS true s=some (a,r)→∃pre,bitsS ap s=(bitsS false r).map (pre++ ·)∧∀t,bitsS false r=some t→addrB (pre++t)=some (a,t))∧
  (∀l a t,bitsS ap s=some l→addrB l=some (a,t)→∃r,addrS true s=some (a,r)):=by
 obtain⟨f1,f2⟩:=addr_false s.length s ap (Nat.le_refl _)
 by_cases hc:(skipS s).head?=some 34∨(skipS s).head?=some 60∨(offS (skipS s)).head?≠some 64
 ·rw[addrS_tf hc]
  have hnb:∀a r,bareS (runS (skipS s)) (offS (skipS s))=some (a,r)→False:=by
   intro a r hb
   obtain⟨p,h1,_,_,_,h5,_⟩:=bare_inv hb
   rw[h1] at hc
   simp only[List.head?_cons,ne_eq,not_true_eq_false,or_false] at hc
   cases e:skipS s with
   |nil=>rw[e] at h5;exact h5 rfl
   |cons c r=>
    rw[e] at hc h5
    simp only[List.head?_cons,Option.some.injEq] at hc
    rcases hc with rfl|rfl
    ·exact h5 (runS_no run34)
    ·exact h5 (runS_no run60)
  have hpl:∀l,bitsS ap s=some l→plainB l=none:=by
   intro l hl
   cases e:plainB l with
   |none=>rfl
   |some x=>obtain⟨a,t⟩:=x;obtain⟨r,h1,_⟩:=plain_fw hl e;exact(hnb _ _ h1).elim
  refine⟨fun a r h=>?_,fun l a t h h2=>?_⟩
  ·obtain⟨pre,p1,p2⟩:=f1 a r h
   refine⟨pre,p1,fun t ht=>?_⟩
   unfold addrB
   rw[hpl (pre++t) (by rw[p1,ht];rfl)]
   exact p2 t
  ·unfold addrB at h2
   rw[hpl l h] at h2
   exact f2 l a t h h2
 ·simp only[not_or,ne_eq,Classical.not_not] at hc
  obtain⟨c1,c2,c3⟩:=hc
  rw[addrS_x c1 c2,if_pos ⟨rfl,c3⟩]
  refine⟨fun a r h=>?_,fun l a t h h2=>?_⟩
  ·obtain⟨ap',p1,p2⟩:=plain_bw (ap:=ap) h
   refine⟨[⟨a.1,true,false,ap'⟩,⟨[64],false,false,false⟩,⟨a.2,true,false,false⟩],p1,fun t _=>?_⟩
   have:=p2 t
   unfold addrB
   simp only[List.cons_append,List.nil_append]
   rw[this]
  ·unfold addrB at h2
   split at h2
   ·rename_i x hp
    obtain⟨a',t'⟩:=x
    obtain⟨r,h3,_⟩:=plain_fw h hp
    injection h2 with h2;injection h2 with h4 h5
    exact⟨r,by rw[←h4];exact h3⟩
   ·exfalso
    obtain⟨ap',h'⟩:=bits_skip' s ap
    rw[h'] at h
    by_cases hr:runS (skipS s)=[]
    ·have:offS (skipS s)=skipS s:=by
      have:=run_off (skipS s);rw[hr] at this;exact this
     rw[this] at c3
     cases e:skipS s with
     |nil=>rw[e] at c3;simp at c3
     | cons c r=>
      rw[e] at c3 h
      simp only[List.head?_cons,Option.some.injEq] at c3
      subst c3
      rw[bits_one blk64 run64 (by decide)] at h
      cases e5:bitsS false r with
      |none=>rw[e5] at h;cases h
      |some l'=>
       rw[e5] at h;injection h with h;subst h
       rw[List.dropWhile_cons,if_neg (by simp[wordB])] at h2
       simp[angB] at h2
    ·rw[bits_runs hr] at h
     cases e:offS (skipS s) with
     |nil=>rw[e] at c3;simp at c3
     | cons c r=>
      rw[e] at c3 h
      simp only[List.head?_cons,Option.some.injEq] at c3
      subst c3
      rw[bits_one blk64 run64 (by decide)] at h
      cases e5:bitsS false r with
      |none=>rw[e5] at h;cases h
      |some l'=>
       rw[e5] at h
       simp only[Option.map_some,Option.some.injEq] at h
       subst h
       rw[List.dropWhile_cons,if_pos (by rfl),List.dropWhile_cons,if_neg (by simp[wordB])] at h2
       simp[angB] at h2
theorem listB_none {l:List Bt} (h:addrB l=none):listB l=none:=by
 unfold listB;split<;>rename_i e<;>rw[h] at e<;>first|rfl|cases e
theorem listB_one {l:List Bt} {a:Ad} (h:addrB l=some (a,[])):listB l=some [a]:=by
 unfold listB;split<;>rename_i e<;>rw[h] at e
 ·cases e
 ·injection e with e;injection e with e1 e2;rw[e1]
 ·injection e with e;injection e with e1 e2;cases e2
theorem listB_more {l t:List Bt} {x:Bt} {a:Ad} (h:addrB l=some (a,x::t)):listB l=if x.text=[44] then(listB t).map (a:: ·) else none:=by
 rw[listB];split<;>rename_i e<;>rw[h] at e
 ·cases e
 ·injection e with e;injection e with e1 e2;cases e2
 ·injection e with e;injection e with e1 e2;injection e2 with e2 e3;rw[e1,e2,e3]
theorem listS_none {s:Tx} (h:addrS true s=none):listS s=none:=by
 unfold listS;split<;>rename_i e<;>rw[h] at e<;>first|rfl|cases e
theorem listS_some {s r:Tx} {a:Ad} (h:addrS true s=some (a,r)):listS s=match skipS r with|[]=>some [a]|c::q=>if c=44 then(listS q).map (a:: ·) else none:=by
 rw[listS];split<;>rename_i e<;>rw[h] at e
 ·cases e
 ·injection e with e;injection e with e1 e2
  subst e1;subst e2
  split<;>rename_i e3<;>rw[e3]
theorem list_bits (n:Nat):∀(s:Tx) (ap:Bool),s.length≤n→(bitsS ap s).bind listB=listS s:=by
 induction n with
 |zero=>
  intro s ap hs
  have:s=[]:=List.eq_nil_of_length_eq_zero (by omega)
  subst this
  rw[bits_nil,listS_none (by unfold addrS;simp[skipS,offS,runS])]
  exact listB_none (by simp[addrB,plainB,angB])
 | succ n ih=>
  intro s ap hs
  obtain⟨f1,f2⟩:=addr_true s ap
  cases e:addrS true s with
  | none=>
   rw[listS_none e]
   cases e1:bitsS ap s with
   |none=>rfl
   |some l=>
    refine listB_none ?_
    cases e2:addrB l with
    |none=>rfl
    |some x=>obtain⟨a,t⟩:=x;obtain⟨r,h⟩:=f2 l a t e1 e2;rw[e] at h;cases h
  | some x=>
   obtain⟨a,r⟩:=x
   have hlt:=addr_lt s.length true s a r (Nat.le_refl _) e
   rw[listS_some e]
   obtain⟨pre,p1,p2⟩:=f1 a r e
   rw[p1]
   obtain⟨ap',h'⟩:=bits_skip' r false
   have hh:=skip_head r
   have hk:=skip_le r
   generalize skipS r=q at h' hh hk
   cases q with
   |nil=>
    rw[bits_nil] at h'
    rw[h']
    exact listB_one (p2 [] h')
   | cons c q=>
    have hb:=hh c q rfl
    simp only[List.length_cons] at hk
    dsimp only
    by_cases c1:c=44
    ·subst c1
     rw[if_pos rfl]
     rw[bits_one blk44 run44 (by decide)] at h'
     cases e5:bitsS false q with
     |none=>
      rw[h',e5]
      have:=ih q false (by omega)
      rw[e5] at this
      rw[←this];rfl
     |some t=>
      rw[e5] at h'
      have h2:=p2 _ h'
      rw[h']
      show listB _=_
      rw[listB_more h2,if_pos rfl]
      have:=ih q false (by omega)
      rw[e5] at this
      rw[←this];rfl
    ·rw[if_neg c1]
     cases e5:bitsS false r with
     |none=>rfl
     | some l=>
      rw[h'] at e5
      have hx:∃x t,l=x::t∧x.text≠[44]:=by
       cases e2:runB c with
       | true=>
        rw[bits_run e2] at e5
        cases e6:bitsS false (offS (c::q)) with
        |none=>rw[e6] at e5;cases e5
        |some l'=>
         rw[e6] at e5;injection e5 with e5
         exact⟨_,_,e5.symm,by rw[runS_cons e2];simp;intro h;exact absurd h c1⟩
       | false=>
        by_cases c3:c=34
        ·subst c3
         cases e4:quoS q with
         |none=>rw[bits_quoN e4] at e5;cases e5
         |some q'=>
          rw[bits_quoS e4] at e5
          cases e6:bitsS false q' with
          |none=>rw[e6] at e5;cases e5
          |some l'=>rw[e6] at e5;injection e5 with e5;exact⟨_,_,e5.symm,by simp⟩
        ·rw[bits_one hb e2 c3] at e5
         cases e6:bitsS false q with
         |none=>rw[e6] at e5;cases e5
         |some l'=>rw[e6] at e5;injection e5 with e5;exact⟨_,_,e5.symm,by simpa using c1⟩
      obtain⟨x,t,rfl,hx⟩:=hx
      have h2:=p2 _ (h'.trans e5)
      show listB _=_
      rw[listB_more h2,if_neg hx]
def listR (s:Tx):List Ad×Int:=if 2000<s.length then([],1) else match listS s with|none=>([],3)|some l=>if 20<l.length then([],5) else(l,0)
end
section
structure OpS where
 kind:Int
 dst:Int
 test:Tst
 what:Cmd
end
section
open Go.RowKit
section
variable {P:Program} {T:Tbl} {h:AH} {sl:List AV} {ops:Array Oper} {rest:List Oper} {o:Oper} {K:List AV→AH→Prop} {X:AV→AH→Prop}
end
end
section
section
variable {P:Program} {T:Tbl} {Q:AQ} {sl:List AV} {c:Code} {L:List Nat} {H H':List (Nat×Ob)}
theorem LeH.pm (p:H.Perm H'):LeH ⟨H,L⟩ ⟨H',L⟩:=LeH.perm ⟨p,.refl _⟩
theorem AWp.pm (p:H.Perm H') (K:AWp P T c Q sl ⟨H',L⟩):AWp P T c Q sl ⟨H,L⟩:=AWp.leH (LeH.pm p) K
end
theorem bne_l {x y:Nat} (h:x≠y):(x==y)=false:=by simpa using h
theorem bne_r {x y:Nat} (h:x≠y):(y==x)=false:=by simpa using fun e=>h e.symm
theorem nd2 {x y:Nat} {o o':Ob} {F:List (Nat×Ob)} (h:(List.map Prod.fst ((x,o)::(y,o')::F)).Nodup):x≠y:=by
 simp only[List.map_cons,List.nodup_cons,List.mem_cons,not_or] at h
 exact h.1.1
end
section
end
section
abbrev envT:List UInt8:=[101,110,118,101,108,111,112,101]
abbrev fromT:List UInt8:=[102,114,111,109]
abbrev toT:List UInt8:=[116,111]
def needE (ks:List (List UInt8)) (s:List UInt8):Int:=if s∈ks then 0 else 8
theorem need_c (T:Tbl) (bj t:Nat) (ks:List (List UInt8)) (s:List UInt8) (F:List (Nat×Ob)) (L:List Nat):AC Tryz.prog T 200 [.ptr bj 1 0 0,.d (.str s)] (⟨(bj,⟨1,1,[[.mp t ks]]⟩)::F,t::L⟩) (fun x h=>x= .ret (.d (.int .i64 (needE ks s)))∧h=⟨(bj,⟨1,1,[[.mp t ks]]⟩)::F,t::L⟩):=by
 refine⟨Tryz.call200,ACalls.enterS Tryz.func200 rfl Tryz.ntmps200 rfl fun hb=>?_⟩
 simp only[go_sem,Tryz.results200]
 refine Zp 3 ?_
 refine Zs (Zx (Zy ?_))
 refine DW.lookM (t:=t) (ks:=ks) (s:=s) rfl rfl Tryz.underlying119 Tryz.underlying9 (fun w=>rfl) rfl rfl (by simp) ?_
 refine Zy ?_
 intro b5
 first|intro fb5|have fb5:=True.intro
 try simp only[freshL] at fb5
 refine DW.store0 rfl rfl (fun w=>rfl) rfl rfl ?_
 refine Zy ?_
 refine Zm 8 ?_
 refine Zp 4 ?_
 refine Zc (fun hc0=>?_) fun hc0=>?_
 ·
  refine Zp 1 ?_
  refine AWp.ret ?_
  simp only[thenQ]
  apply endW_r [b5] [] [bj] [] (by(try simp only[go_sem]);rfl)
  · rw [needE,if_neg (by simpa using hc0)]
    exact⟨rfl,by first|rfl|(simp only[go_sem,fb5];done)|(simp only[go_sem,fb5];rfl)⟩
  · simp [LeA,LeD]
 refine Zk ?_
 refine Zp 1 ?_
 refine AWp.ret ?_
 apply endW_r [b5] [] [bj] [] (by(try simp only[go_sem]);rfl)
 · rw [needE,if_pos (by simpa using hc0)]
   exact⟨rfl,by first|rfl|(simp only[go_sem,fb5];done)|(simp only[go_sem,fb5];rfl)⟩
 · simp [LeA,LeD]
end
section
def namesE:List (List UInt8)→Int
 |[]=>0
 |s::l=>if¬s=fromT∧¬s=toT then 7 else namesE l
def sizeE:List (List UInt8)→Int
 |[]=>0
 |s::l=>if 100<s.length then 1 else sizeE l
mutual
def tstE (ks:List (List UInt8)):Tst→Int
 | .mk k _ _ ns ky _ _ kids=>if k=8∧¬envT∈ks then 8 else if k=8∧¬namesE ns=0 then 7 else if¬sizeE ns=0 then 1 else if¬sizeE ky=0 then 1 else tstEL ks kids
def tstEL (ks:List (List UInt8)):List Tst→Int
 |[]=>0
 |t::l=>if¬tstE ks t=0 then tstE ks t else tstEL ks l
end
theorem tstE_eq (ks:List (List UInt8)) (t:Tst):tstE ks t=if t.kind=8∧¬envT∈ks then 8 else if t.kind=8∧¬namesE t.names=0 then 7 else if¬sizeE t.names=0 then 1 else if¬sizeE t.keys=0 then 1 else tstEL ks t.kids:=by cases t;rw[tstE];rfl
theorem namesE_t {l:List (List UInt8)} {k:Nat} (h:k<l.length) (hc:¬l[k]=fromT∧¬l[k]=toT):namesE (l.drop k)=7:=by rw[List.drop_eq_getElem_cons h,namesE,if_pos hc]
theorem namesE_f {l:List (List UInt8)} {k:Nat} (h:k<l.length) (hc:¬(¬l[k]=fromT∧¬l[k]=toT)):namesE (l.drop k)=namesE (l.drop (k+1)):=by rw[List.drop_eq_getElem_cons h,namesE,if_neg hc]
theorem namesE_e {l:List (List UInt8)} {k:Nat} (h:l.length≤k):namesE (l.drop k)=0:=by rw[List.drop_eq_nil_of_le h];rfl
theorem sizeE_t {l:List (List UInt8)} {k:Nat} (h:k<l.length) (hc:100<(l[k]).length):sizeE (l.drop k)=1:=by rw[List.drop_eq_getElem_cons h,sizeE,if_pos hc]
theorem sizeE_f {l:List (List UInt8)} {k:Nat} (h:k<l.length) (hc:¬100<(l[k]).length):sizeE (l.drop k)=sizeE (l.drop (k+1)):=by rw[List.drop_eq_getElem_cons h,sizeE,if_neg hc]
theorem sizeE_e {l:List (List UInt8)} {k:Nat} (h:l.length≤k):sizeE (l.drop k)=0:=by rw[List.drop_eq_nil_of_le h];rfl
theorem tstEL_t {ks:List (List UInt8)} {l:List Tst} {k:Nat} (h:k<l.length) (hc:¬tstE ks (l[k])=0):tstEL ks (l.drop k)=tstE ks (l[k]):=by rw[List.drop_eq_getElem_cons h,tstEL,if_pos hc]
theorem tstEL_f {ks:List (List UInt8)} {l:List Tst} {k:Nat} (h:k<l.length) (hc:tstE ks (l[k])=0):tstEL ks (l.drop k)=tstEL ks (l.drop (k+1)):=by rw[List.drop_eq_getElem_cons h,tstEL,if_neg (fun h9=>h9 hc)]
theorem tstEL_e {ks:List (List UInt8)} {l:List Tst} {k:Nat} (h:l.length≤k):tstEL ks (l.drop k)=0:=by rw[List.drop_eq_nil_of_le h];rfl
attribute [local go_sem] tstA icast8 strD tstD in
theorem jtest_s (T:Tbl) (bj t:Nat) (ks:List (List UInt8)) (tt:Tst) (ok:tt.Ok) (ih:∀y∈tt.kids,∀(F:List (Nat×Ob)) (L:List Nat),AC Tryz.prog T 199 [.ptr bj 1 0 0,.agg (tstA y)] ⟨(bj,⟨1,1,[[.mp t ks]]⟩)::F,t::L⟩ (fun x h=>x= .ret (.d (.int .i64 (tstE ks y)))∧h=⟨(bj,⟨1,1,[[.mp t ks]]⟩)::F,t::L⟩)) (F:List (Nat×Ob)) (L:List Nat):AC Tryz.prog T 199 [.ptr bj 1 0 0,.agg (tstA tt)] (⟨(bj,⟨1,1,[[.mp t ks]]⟩)::F,t::L⟩) (fun x h=>x= .ret (.d (.int .i64 (tstE ks tt)))∧h=⟨(bj,⟨1,1,[[.mp t ks]]⟩)::F,t::L⟩):=by
 refine⟨Tryz.call199,ACalls.enterS Tryz.func199 rfl Tryz.ntmps199 rfl fun hb=>?_⟩
 obtain⟨s1,s2,s3,s4⟩:=ok.inv
 simp only[go_sem,Tryz.results199]
 refine Zx (Zy ?_)
 intro b3
 first|intro fb3|have fb3:=True.intro
 try simp only[freshL] at fb3
 refine Zs (Zp 69 ?_)
 refine Zc (fun hc0=>?_) fun hc0=>?_
 ·
  refine Zs (Zx (Zy ?_))
  refine ZA [bj] [t] (need_c T bj t ks envT _ _) ?_
  rintro _ _ ⟨rfl,rfl⟩
  refine Zy ?_
  refine Zp 135 ?_
  refine Zc (fun hc1=>?_) fun hc1=>?_
  ·
   have he:tt.kind=8∧¬envT∈ks:=⟨hc0,fun h9=>hc1 (if_pos h9)⟩
   refine Zp 4 ?_
   refine AWp.ret ?_
   simp only[thenQ]
   apply endW_r [b3] [] [bj] [t] (by(try simp only[go_sem]);rfl)
   · rw [tstE_eq,if_pos he]
     exact⟨rfl,by first|rfl|(simp only[go_sem,fb3];done)|(simp only[go_sem,fb3];rfl)⟩
   · simp [LeA,LeD,needE,he.2]
  have he:envT∈ks:=Decidable.byContradiction fun h9=>by rw[needE,if_neg h9] at hc1;omega
  refine Zk ?_
  refine Zp 227 ?_
  refine AWp.block (Zy ?_)
  refine Zl 15 16 (fun n lc hc=> ∃(k:Nat),n=tt.names.length-k∧EqS lc [(26,.d (.int .i64 (k:Nat)))]∧EqS hc (⟨(bj,⟨1,1,[[.mp t ks]]⟩)::(b3,⟨8,1,[[.d (.int .i64 tt.kind),.d (.int .i64 tt.mat),.d (.int .i64 tt.part),.d (.slc 1 (tt.names.map strD)),.d (.slc 1 (tt.keys.map strD)),.d (.bool tt.over),.d (.int .i64 tt.limit),.d (.slc 8 (kidsD tt))]]⟩)::F,t::L⟩)∧(k≤tt.names.length)∧(namesE tt.names=namesE (tt.names.drop k))) ?_ ?_
  · refine ⟨_,0,rfl,ZE,ZE,?_,?_⟩
    all_goals(first|omega|rfl)
  rintro _ _ _ ⟨k,rfl,⟨rfl⟩,⟨rfl⟩,m1,m2⟩
  refine Zy ?_
  refine Zp 63 ?_
  refine Zs (Zc (fun hc2=>?_) fun hc2=>?_)
  ·
   have hlt:k<tt.names.length:=by omega
   have hki:(k:Int)<(tt.names.length:Int):=by omega
   have zf1:=fun d0_=>map_getD strD tt.names k d0_ hlt
   refine Zk ?_
   refine Zs (AWp.block (Zp 63 ?_))
   refine Zp 2107 ?_
   refine Zc (fun hc3=>?_) fun hc3=>?_
   ·
    refine Zp 4 ?_
    refine AWp.ret ?_
    simp only[thenQ,blkQ]
    apply endW_r [b3] [] [bj] [t] (by(try simp only[go_sem]);rfl)
    · rw [tstE_eq,if_neg (fun h9=>h9.2 he),if_pos ⟨hc0,by rw[m2,namesE_t hlt hc3];decide⟩]
      exact⟨rfl,by first|rfl|(simp only[go_sem,fb3];done)|(simp only[go_sem,fb3,zf1,hki];rfl)⟩
    · simp [LeA,LeD]
   have hbad:¬(¬tt.names[k]=fromT∧¬tt.names[k]=toT):=by rintro⟨h8,h9⟩;first|exact hc3 ⟨h8,h9⟩|exact hc3 h8 h9|exact hc3.elim (fun h7=>h8 h7) (fun h7=>h9 h7)|(simp[h8,h9] at hc3)
   refine AWp.skip (blkQ_n (thenQ_n ?_))
   refine Zr (thenQ_n ?_)
   refine Ze 15 16 [] [] [bj,b3] [] (.e ⟨_,ZM,k+1,rfl,ZE,ZE,?_,?_⟩)
   · omega
   · rw [m2,namesE_f hlt hbad]
  have hn:namesE tt.names=0:=by rw[m2,namesE_e (by omega)]
  clear m1 m2
  refine AWp.exit (thenQ_e (thenQ_e (blkQ_e (thenQ_n ?_))))
  refine Zm 3 ?_
  refine Zs (Zp 195 ?_)
  refine Zy ?_
  refine AWp.ord [] [] [bj] [] (by(try simp only[go_sem,fb3]);rfl) ?_
  refine AWp.block (Zl 7 8 (fun n lc hc=> ∃(k:Nat),n=2-k∧EqS lc [(42,.d (.int .i64 (k:Nat)))]∧EqS hc (⟨(bj,⟨1,1,[[.mp t ks]]⟩)::(b3,⟨8,1,[[.d (.int .i64 tt.kind),.d (.int .i64 tt.mat),.d (.int .i64 tt.part),.d (.slc 1 (tt.names.map strD)),.d (.slc 1 (tt.keys.map strD)),.d (.bool tt.over),.d (.int .i64 tt.limit),.d (.slc 8 (kidsD tt))]]⟩)::F,t::L⟩)∧(k≤2)∧(1≤k→sizeE tt.names=0)∧(2≤k→sizeE tt.keys=0)) ?_ ?_)
  · refine ⟨_,0,rfl,ZE,ZE,?_,?_,?_⟩
    all_goals(first|omega|(intro h9;omega))
  rintro _ _ _ ⟨k,rfl,⟨rfl⟩,⟨rfl⟩,z0,z1,z2⟩
  refine Zy ?_
  refine Zp 31 ?_
  refine Zs (Zc (fun hc4=>?_) fun hc4=>?_)
  ·
   refine Zk ?_
   refine Zs (AWp.block ?_)
   obtain rfl|rfl:k=0∨k=1:=by omega
   ·
    refine Zp 31 ?_
    refine Zp 251 ?_
    refine AWp.block (Zy ?_)
    refine Zl 63 64 (fun n lc hc=> ∃(q:Nat),n=tt.names.length-q∧EqS lc [(47,.d (.int .i64 (q:Nat)))]∧EqS hc (⟨(bj,⟨1,1,[[.mp t ks]]⟩)::(b3,⟨8,1,[[.d (.int .i64 tt.kind),.d (.int .i64 tt.mat),.d (.int .i64 tt.part),.d (.slc 1 (tt.names.map strD)),.d (.slc 1 (tt.keys.map strD)),.d (.bool tt.over),.d (.int .i64 tt.limit),.d (.slc 8 (kidsD tt))]]⟩)::F,t::L⟩)∧(q≤tt.names.length)∧(sizeE tt.names=sizeE (tt.names.drop q))) ?_ ?_
    · refine ⟨_,0,rfl,ZE,ZE,?_,?_⟩
      all_goals(first|omega|rfl)
    rintro _ _ _ ⟨q,rfl,⟨rfl⟩,⟨rfl⟩,m1,m2⟩
    refine Zy ?_
    refine Zp 255 ?_
    refine Zs (Zc (fun hc5=>?_) fun hc5=>?_)
    ·
     have hlt:q<tt.names.length:=by omega
     have hqi:(q:Int)<(tt.names.length:Int):=by omega
     have zf2:=fun d0_=>map_getD strD tt.names q d0_ hlt
     refine Zk ?_
     refine Zs (AWp.block (Zp 255 ?_))
     refine Zp 1275 ?_
     refine Zc (fun hc6=>?_) fun hc6=>?_
     ·
      have hsz:¬sizeE tt.names=0:=by rw[m2,sizeE_t hlt (by omega)];decide
      refine Zp 4 ?_
      refine AWp.ret ?_
      simp only[thenQ,blkQ]
      apply endW_r [b3] [] [bj] [t] (by(try simp only[go_sem]);rfl)
      · rw [tstE_eq,if_neg (fun h9=>h9.2 he),if_neg (fun h9=>h9.2 hn),if_pos hsz]
        exact⟨rfl,by first|rfl|(simp only[go_sem,fb3];done)|(simp only[go_sem,fb3,zf2,hqi];rfl)⟩
      · simp [LeA,LeD]
     have hs:¬100<(tt.names[q]).length:=by omega
     refine AWp.skip (blkQ_n (thenQ_n ?_))
     refine Zr (thenQ_n ?_)
     refine Ze 63 64 [] [] [bj,b3] [] (.e ⟨_,ZM,q+1,rfl,ZE,ZE,?_,?_⟩)
     · omega
     · rw [m2,sizeE_f hlt hs]
    have hsz:sizeE tt.names=0:=by rw[m2,sizeE_e (by omega)]
    refine AWp.exit (thenQ_e (thenQ_e (blkQ_e (blkQ_n (thenQ_n ?_)))))
    refine Zm 15 ?_
    refine Zr (thenQ_n ?_)
    refine Ze 7 8 [] [] [bj,b3] [] (.e ⟨_,ZM,1,rfl,ZE,ZE,?_,?_,?_⟩)
    · omega
    · intro h9;exact hsz
    · intro h9;omega
   refine Zp 31 ?_
   refine Zp 251 ?_
   refine AWp.block (Zy ?_)
   refine Zl 63 64 (fun n lc hc=> ∃(q:Nat),n=tt.keys.length-q∧EqS lc [(47,.d (.int .i64 (q:Nat)))]∧EqS hc (⟨(bj,⟨1,1,[[.mp t ks]]⟩)::(b3,⟨8,1,[[.d (.int .i64 tt.kind),.d (.int .i64 tt.mat),.d (.int .i64 tt.part),.d (.slc 1 (tt.names.map strD)),.d (.slc 1 (tt.keys.map strD)),.d (.bool tt.over),.d (.int .i64 tt.limit),.d (.slc 8 (kidsD tt))]]⟩)::F,t::L⟩)∧(q≤tt.keys.length)∧(sizeE tt.keys=sizeE (tt.keys.drop q))) ?_ ?_
   · refine ⟨_,0,rfl,ZE,ZE,?_,?_⟩
     all_goals(first|omega|rfl)
   rintro _ _ _ ⟨q,rfl,⟨rfl⟩,⟨rfl⟩,m1,m2⟩
   refine Zy ?_
   refine Zp 255 ?_
   refine Zs (Zc (fun hc5=>?_) fun hc5=>?_)
   ·
    have hlt:q<tt.keys.length:=by omega
    have hqi:(q:Int)<(tt.keys.length:Int):=by omega
    have zf3:=fun d0_=>map_getD strD tt.keys q d0_ hlt
    refine Zk ?_
    refine Zs (AWp.block (Zp 255 ?_))
    refine Zp 1275 ?_
    refine Zc (fun hc6=>?_) fun hc6=>?_
    ·
     have hsz:¬sizeE tt.keys=0:=by rw[m2,sizeE_t hlt (by omega)];decide
     refine Zp 4 ?_
     refine AWp.ret ?_
     simp only[thenQ,blkQ]
     apply endW_r [b3] [] [bj] [t] (by(try simp only[go_sem]);rfl)
     · rw [tstE_eq,if_neg (fun h9=>h9.2 he),if_neg (fun h9=>h9.2 hn),if_neg (fun h9=>h9 (z1 (by omega))),if_pos hsz]
       exact⟨rfl,by first|rfl|(simp only[go_sem,fb3];done)|(simp only[go_sem,fb3,zf3,hqi];rfl)⟩
     · simp [LeA,LeD]
    have hs:¬100<(tt.keys[q]).length:=by omega
    refine AWp.skip (blkQ_n (thenQ_n ?_))
    refine Zr (thenQ_n ?_)
    refine Ze 63 64 [] [] [bj,b3] [] (.e ⟨_,ZM,q+1,rfl,ZE,ZE,?_,?_⟩)
    · omega
    · rw [m2,sizeE_f hlt hs]
   have hsz:sizeE tt.keys=0:=by rw[m2,sizeE_e (by omega)]
   refine AWp.exit (thenQ_e (thenQ_e (blkQ_e (blkQ_n (thenQ_n ?_)))))
   refine Zm 15 ?_
   refine Zr (thenQ_n ?_)
   refine Ze 7 8 [] [] [bj,b3] [] (.e ⟨_,ZM,2,rfl,ZE,ZE,?_,?_,?_⟩)
   · omega
   · intro h9;exact z1 (by omega)
   · intro h9;exact hsz
  have hs1:=z1 (by omega)
  have hs2:=z2 (by omega)
  refine AWp.exit (thenQ_e (thenQ_e (blkQ_e (thenQ_n ?_))))
  refine Zs (Zp 449 ?_)
  refine AWp.block (Zy ?_)
  refine Zl 7 8 (fun n lc hc=> ∃(q:Nat),n=tt.kids.length-q∧EqS lc [(59,.d (.int .i64 (q:Nat)))]∧EqS hc (⟨(bj,⟨1,1,[[.mp t ks]]⟩)::(b3,⟨8,1,[[.d (.int .i64 tt.kind),.d (.int .i64 tt.mat),.d (.int .i64 tt.part),.d (.slc 1 (tt.names.map strD)),.d (.slc 1 (tt.keys.map strD)),.d (.bool tt.over),.d (.int .i64 tt.limit),.d (.slc 8 (kidsD tt))]]⟩)::F,t::L⟩)∧(q≤tt.kids.length)∧(tstEL ks tt.kids=tstEL ks (tt.kids.drop q))) ?_ ?_
  · refine ⟨_,0,rfl,ZE,ZE,?_,?_⟩
    all_goals(first|omega|rfl)
  rintro _ _ _ ⟨q,rfl,⟨rfl⟩,⟨rfl⟩,m3,m4⟩
  refine Zy ?_
  refine Zp 31 ?_
  refine Zs (Zc (fun hc7=>?_) fun hc7=>?_)
  ·
   have hlt:q<tt.kids.length:=by omega
   have hqi:(q:Int)<(tt.kids.length:Int):=by omega
   have zf4:=fun d0_=>kidsD_get tt q d0_ hlt
   refine Zk ?_
   refine Zs (AWp.block (Zx ?_))
   simp only[go_sem,zf4,hqi]
   intro b13
   first|intro fb13|have fb13:=True.intro
   try simp only[freshL] at fb13
   refine Zx ?_
   simp only[go_sem,fb13]
   refine ZA [bj] [t] (ih _ (List.getElem_mem hlt) _ _) ?_
   rintro _ _ ⟨rfl,rfl⟩
   refine Zy ?_
   refine Zm 61 ?_
   refine Zp 95 ?_
   refine Zc (fun hc8=>?_) fun hc8=>?_
   ·
    refine Zp 2 ?_
    refine AWp.ret ?_
    simp only[thenQ,blkQ]
    apply endW_r [b3,b13] [] [bj] [t] (by(try simp only[go_sem]);rfl)
    · rw [tstE_eq,if_neg (fun h9=>h9.2 he),if_neg (fun h9=>h9.2 hn),if_neg (fun h9=>h9 hs1),if_neg (fun h9=>h9 hs2),m4,tstEL_t hlt hc8]
      exact⟨rfl,by first|rfl|(simp only[go_sem,fb3,fb13];done)|(simp only[go_sem,fb3,zf4,hqi,fb13];rfl)⟩
    · simp [LeA,LeD]
   have hz8:tstE ks (tt.kids[q])=0:=by omega
   refine AWp.skip (blkQ_n (thenQ_n ?_))
   refine Zr (thenQ_n ?_)
   refine Ze 13 16 [b13] [] [bj,b3] [] (.e ⟨_,ZM,q+1,rfl,ZE,ZE,?_,?_⟩)
   · omega
   · rw [m4,tstEL_f hlt hz8]
  refine AWp.exit (thenQ_e (thenQ_e (blkQ_e (thenQ_n ?_))))
  refine Zm 0 ?_
  refine Zp 1 ?_
  refine AWp.ret ?_
  apply endW_r [b3] [] [bj] [t] (by(try simp only[go_sem]);rfl)
  · rw [tstE_eq,if_neg (fun h9=>h9.2 he),if_neg (fun h9=>h9.2 hn),if_neg (fun h9=>h9 hs1),if_neg (fun h9=>h9 hs2),m4,tstEL_e (by omega)]
    exact⟨rfl,by first|rfl|(simp only[go_sem,fb3];done)|(simp only[go_sem,fb3];rfl)⟩
  · simp [LeA,LeD]
 refine Zk ?_
 refine Zs (Zp 387 ?_)
 refine Zy ?_
 refine AWp.ord [] [] [bj] [] (by(try simp only[go_sem,fb3]);rfl) ?_
 refine AWp.block (Zl 7 8 (fun n lc hc=> ∃(k:Nat),n=2-k∧EqS lc [(42,.d (.int .i64 (k:Nat)))]∧EqS hc (⟨(bj,⟨1,1,[[.mp t ks]]⟩)::(b3,⟨8,1,[[.d (.int .i64 tt.kind),.d (.int .i64 tt.mat),.d (.int .i64 tt.part),.d (.slc 1 (tt.names.map strD)),.d (.slc 1 (tt.keys.map strD)),.d (.bool tt.over),.d (.int .i64 tt.limit),.d (.slc 8 (kidsD tt))]]⟩)::F,t::L⟩)∧(k≤2)∧(1≤k→sizeE tt.names=0)∧(2≤k→sizeE tt.keys=0)) ?_ ?_)
 · refine ⟨_,0,rfl,ZE,ZE,?_,?_,?_⟩
   all_goals(first|omega|(intro h9;omega))
 rintro _ _ _ ⟨k,rfl,⟨rfl⟩,⟨rfl⟩,z0,z1,z2⟩
 refine Zy ?_
 refine Zp 31 ?_
 refine Zs (Zc (fun hc4=>?_) fun hc4=>?_)
 ·
  refine Zk ?_
  refine Zs (AWp.block ?_)
  obtain rfl|rfl:k=0∨k=1:=by omega
  ·
   refine Zp 31 ?_
   refine Zp 251 ?_
   refine AWp.block (Zy ?_)
   refine Zl 63 64 (fun n lc hc=> ∃(q:Nat),n=tt.names.length-q∧EqS lc [(47,.d (.int .i64 (q:Nat)))]∧EqS hc (⟨(bj,⟨1,1,[[.mp t ks]]⟩)::(b3,⟨8,1,[[.d (.int .i64 tt.kind),.d (.int .i64 tt.mat),.d (.int .i64 tt.part),.d (.slc 1 (tt.names.map strD)),.d (.slc 1 (tt.keys.map strD)),.d (.bool tt.over),.d (.int .i64 tt.limit),.d (.slc 8 (kidsD tt))]]⟩)::F,t::L⟩)∧(q≤tt.names.length)∧(sizeE tt.names=sizeE (tt.names.drop q))) ?_ ?_
   · refine ⟨_,0,rfl,ZE,ZE,?_,?_⟩
     all_goals(first|omega|rfl)
   rintro _ _ _ ⟨q,rfl,⟨rfl⟩,⟨rfl⟩,m1,m2⟩
   refine Zy ?_
   refine Zp 255 ?_
   refine Zs (Zc (fun hc5=>?_) fun hc5=>?_)
   ·
    have hlt:q<tt.names.length:=by omega
    have hqi:(q:Int)<(tt.names.length:Int):=by omega
    have zf5:=fun d0_=>map_getD strD tt.names q d0_ hlt
    refine Zk ?_
    refine Zs (AWp.block (Zp 255 ?_))
    refine Zp 1275 ?_
    refine Zc (fun hc6=>?_) fun hc6=>?_
    ·
     have hsz:¬sizeE tt.names=0:=by rw[m2,sizeE_t hlt (by omega)];decide
     refine Zp 4 ?_
     refine AWp.ret ?_
     simp only[thenQ,blkQ]
     apply endW_r [b3] [] [bj] [t] (by(try simp only[go_sem]);rfl)
     · rw [tstE_eq,if_neg (fun h9=>hc0 h9.1),if_neg (fun h9=>hc0 h9.1),if_pos hsz]
       exact⟨rfl,by first|rfl|(simp only[go_sem,fb3];done)|(simp only[go_sem,fb3,zf5,hqi];rfl)⟩
     · simp [LeA,LeD]
    have hs:¬100<(tt.names[q]).length:=by omega
    refine AWp.skip (blkQ_n (thenQ_n ?_))
    refine Zr (thenQ_n ?_)
    refine Ze 63 64 [] [] [bj,b3] [] (.e ⟨_,ZM,q+1,rfl,ZE,ZE,?_,?_⟩)
    · omega
    · rw [m2,sizeE_f hlt hs]
   have hsz:sizeE tt.names=0:=by rw[m2,sizeE_e (by omega)]
   refine AWp.exit (thenQ_e (thenQ_e (blkQ_e (blkQ_n (thenQ_n ?_)))))
   refine Zm 15 ?_
   refine Zr (thenQ_n ?_)
   refine Ze 7 8 [] [] [bj,b3] [] (.e ⟨_,ZM,1,rfl,ZE,ZE,?_,?_,?_⟩)
   · omega
   · intro h9;exact hsz
   · intro h9;omega
  refine Zp 31 ?_
  refine Zp 251 ?_
  refine AWp.block (Zy ?_)
  refine Zl 63 64 (fun n lc hc=> ∃(q:Nat),n=tt.keys.length-q∧EqS lc [(47,.d (.int .i64 (q:Nat)))]∧EqS hc (⟨(bj,⟨1,1,[[.mp t ks]]⟩)::(b3,⟨8,1,[[.d (.int .i64 tt.kind),.d (.int .i64 tt.mat),.d (.int .i64 tt.part),.d (.slc 1 (tt.names.map strD)),.d (.slc 1 (tt.keys.map strD)),.d (.bool tt.over),.d (.int .i64 tt.limit),.d (.slc 8 (kidsD tt))]]⟩)::F,t::L⟩)∧(q≤tt.keys.length)∧(sizeE tt.keys=sizeE (tt.keys.drop q))) ?_ ?_
  · refine ⟨_,0,rfl,ZE,ZE,?_,?_⟩
    all_goals(first|omega|rfl)
  rintro _ _ _ ⟨q,rfl,⟨rfl⟩,⟨rfl⟩,m1,m2⟩
  refine Zy ?_
  refine Zp 255 ?_
  refine Zs (Zc (fun hc5=>?_) fun hc5=>?_)
  ·
   have hlt:q<tt.keys.length:=by omega
   have hqi:(q:Int)<(tt.keys.length:Int):=by omega
   have zf6:=fun d0_=>map_getD strD tt.keys q d0_ hlt
   refine Zk ?_
   refine Zs (AWp.block (Zp 255 ?_))
   refine Zp 1275 ?_
   refine Zc (fun hc6=>?_) fun hc6=>?_
   ·
    have hsz:¬sizeE tt.keys=0:=by rw[m2,sizeE_t hlt (by omega)];decide
    refine Zp 4 ?_
    refine AWp.ret ?_
    simp only[thenQ,blkQ]
    apply endW_r [b3] [] [bj] [t] (by(try simp only[go_sem]);rfl)
    · rw [tstE_eq,if_neg (fun h9=>hc0 h9.1),if_neg (fun h9=>hc0 h9.1),if_neg (fun h9=>h9 (z1 (by omega))),if_pos hsz]
      exact⟨rfl,by first|rfl|(simp only[go_sem,fb3];done)|(simp only[go_sem,fb3,zf6,hqi];rfl)⟩
    · simp [LeA,LeD]
   have hs:¬100<(tt.keys[q]).length:=by omega
   refine AWp.skip (blkQ_n (thenQ_n ?_))
   refine Zr (thenQ_n ?_)
   refine Ze 63 64 [] [] [bj,b3] [] (.e ⟨_,ZM,q+1,rfl,ZE,ZE,?_,?_⟩)
   · omega
   · rw [m2,sizeE_f hlt hs]
  have hsz:sizeE tt.keys=0:=by rw[m2,sizeE_e (by omega)]
  refine AWp.exit (thenQ_e (thenQ_e (blkQ_e (blkQ_n (thenQ_n ?_)))))
  refine Zm 15 ?_
  refine Zr (thenQ_n ?_)
  refine Ze 7 8 [] [] [bj,b3] [] (.e ⟨_,ZM,2,rfl,ZE,ZE,?_,?_,?_⟩)
  · omega
  · intro h9;exact z1 (by omega)
  · intro h9;exact hsz
 have hs1:=z1 (by omega)
 have hs2:=z2 (by omega)
 refine AWp.exit (thenQ_e (thenQ_e (blkQ_e (thenQ_n ?_))))
 refine Zs (Zp 449 ?_)
 refine AWp.block (Zy ?_)
 refine Zl 7 8 (fun n lc hc=> ∃(q:Nat),n=tt.kids.length-q∧EqS lc [(59,.d (.int .i64 (q:Nat)))]∧EqS hc (⟨(bj,⟨1,1,[[.mp t ks]]⟩)::(b3,⟨8,1,[[.d (.int .i64 tt.kind),.d (.int .i64 tt.mat),.d (.int .i64 tt.part),.d (.slc 1 (tt.names.map strD)),.d (.slc 1 (tt.keys.map strD)),.d (.bool tt.over),.d (.int .i64 tt.limit),.d (.slc 8 (kidsD tt))]]⟩)::F,t::L⟩)∧(q≤tt.kids.length)∧(tstEL ks tt.kids=tstEL ks (tt.kids.drop q))) ?_ ?_
 · refine ⟨_,0,rfl,ZE,ZE,?_,?_⟩
   all_goals(first|omega|rfl)
 rintro _ _ _ ⟨q,rfl,⟨rfl⟩,⟨rfl⟩,m3,m4⟩
 refine Zy ?_
 refine Zp 31 ?_
 refine Zs (Zc (fun hc7=>?_) fun hc7=>?_)
 ·
  have hlt:q<tt.kids.length:=by omega
  have hqi:(q:Int)<(tt.kids.length:Int):=by omega
  have zf7:=fun d0_=>kidsD_get tt q d0_ hlt
  refine Zk ?_
  refine Zs (AWp.block (Zx ?_))
  simp only[go_sem,zf7,hqi]
  intro b13
  first|intro fb13|have fb13:=True.intro
  try simp only[freshL] at fb13
  refine Zx ?_
  simp only[go_sem,fb13]
  refine ZA [bj] [t] (ih _ (List.getElem_mem hlt) _ _) ?_
  rintro _ _ ⟨rfl,rfl⟩
  refine Zy ?_
  refine Zm 61 ?_
  refine Zp 95 ?_
  refine Zc (fun hc8=>?_) fun hc8=>?_
  ·
   refine Zp 2 ?_
   refine AWp.ret ?_
   simp only[thenQ,blkQ]
   apply endW_r [b3,b13] [] [bj] [t] (by(try simp only[go_sem]);rfl)
   · rw [tstE_eq,if_neg (fun h9=>hc0 h9.1),if_neg (fun h9=>hc0 h9.1),if_neg (fun h9=>h9 hs1),if_neg (fun h9=>h9 hs2),m4,tstEL_t hlt hc8]
     exact⟨rfl,by first|rfl|(simp only[go_sem,fb3,fb13];done)|(simp only[go_sem,fb3,zf7,hqi,fb13];rfl)⟩
   · simp [LeA,LeD]
  have hz8:tstE ks (tt.kids[q])=0:=by omega
  refine AWp.skip (blkQ_n (thenQ_n ?_))
  refine Zr (thenQ_n ?_)
  refine Ze 13 16 [b13] [] [bj,b3] [] (.e ⟨_,ZM,q+1,rfl,ZE,ZE,?_,?_⟩)
  · omega
  · rw [m4,tstEL_f hlt hz8]
 refine AWp.exit (thenQ_e (thenQ_e (blkQ_e (thenQ_n ?_))))
 refine Zm 0 ?_
 refine Zp 1 ?_
 refine AWp.ret ?_
 apply endW_r [b3] [] [bj] [t] (by(try simp only[go_sem]);rfl)
 · rw [tstE_eq,if_neg (fun h9=>hc0 h9.1),if_neg (fun h9=>hc0 h9.1),if_neg (fun h9=>h9 hs1),if_neg (fun h9=>h9 hs2),m4,tstEL_e (by omega)]
   exact⟨rfl,by first|rfl|(simp only[go_sem,fb3];done)|(simp only[go_sem,fb3];rfl)⟩
 · simp [LeA,LeD]
end
end Go.Proofs.YtidldcfpmehpiaaGreatDoor
