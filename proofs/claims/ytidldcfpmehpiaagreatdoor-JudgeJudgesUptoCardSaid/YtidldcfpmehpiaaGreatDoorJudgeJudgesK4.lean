/- Texts that the law JudgeJudges rests on, packed. -/
import Derived.Test.YtidldcfpmehpiaaGreatDoorJudgeJudgesK3
import Derived.Test.YtidldcfpmehpiaaGreatDoorGB
import Derived.Test.YtidldcfpmehpiaaGreatDoorJudgeJudgesK1
import Derived.Test.YtidldcfpmehpiaaGreatDoorGC
import Derived.Test.YtidldcfpmehpiaaGreatDoorJudgeJudgesK2
import Derived.Test.YtidldcfpmehpiaaGreatDoorGD
set_option linter.unusedSimpArgs false
set_option linter.unusedVariables false
set_option maxRecDepth 20000
set_option maxHeartbeats 4000000
namespace Go.Proofs.YtidldcfpmehpiaaGreatDoor
section
theorem AWp.cellD {P:Program} {T:Tbl} {Q:AQ} {sl:List AV} {code:Code} {b i j t k:Nat} {rows:List (List D)} {h:AH} {ob:Ob} {r:List AV} (hg:getO b h.objs=some ob) (hr:ob.rows[i]?=some r) (hj:r[j]?=some (.own t k rows)) (H:AWp P T code Q sl ⟨setO b ⟨ob.k,ob.c,ob.rows.set i (r.set j (.d (.slc k rows)))⟩ h.objs,h.live⟩):AWp P T code Q sl h:=by
 intro G w a S R
 exact H G w a (S.recell hg hr hj (a':= .d (.slc k rows)) rfl fun v hv=>by cases hv with|own hd _=>exact .d hd) R
theorem acs_s {l:List AcS} {k:Nat} (h:k<l.length):acsD (l.take (k+1))=acsD (l.take k)++[[.int .i64 l[k].k,.str l[k].t,.int .i64 l[k].f]]:=by rw[List.take_succ_eq_append_getElem h,acsD,List.map_append];rfl
theorem acs_get (l:List AcS) (i:Nat) (d:List D) (h:i<l.length):(acsD l).getD i d=[.int .i64 l[i].k,.str l[i].t,.int .i64 l[i].f]:=map_getD acD _ _ _ h
def coA (c:Co):List AV:=[.d (.slc 3 (acsD c.a)),.d (.int .i64 c.fl),.d (.bool c.ak),.d (.int .i64 c.ft)]
theorem listOf_1 (T:Tbl) (hL:LibT T) (s:Tx) (p:Ad) (h:(listR s).1=[p]):PC Tryz.prog T 82 [.d (.str s)] (.tup [.d (.slc 2 [[.str p.1,.str p.2]]),.d (.bool true)]):=by
 unfold listR at h
 split at h
 ·simp at h
 split at h
 ·simp at h
 rename_i l hl
 split at h
 ·simp at h
 dsimp only at h
 subst h
 have:=listOf_c T hL s (by omega)
 rw[hl] at this
 exact this
def fl1 (z:Cmd) (fl:Int):Int:=if z.kind=3∨z.kind=5 then fl else 0
def tx2 (z:Cmd):Tx:=if z.kind=6 then prtT 1 ((listR (z.texts.headD [])).1.headD ([],[])) else z.texts.headD []
def aR (fl:Int) (z:Cmd):AcS:=⟨z.kind,tx2 z,fl1 z fl⟩
theorem hd_t {l:List Tx} (h:0<l.length):l.headD []=l[0]:=by cases l with|nil=>simp at h|cons a l=>rfl
theorem hd_f {l:List Tx} (h:¬0<l.length):l.headD []=[]:=by cases l with|nil=>rfl|cons a l=>simp at h
theorem aR_eq {z:Cmd} {fl:Int} (jc:JC z) (h2:¬z.kind=2) (h1:¬z.kind=1) (h8:¬z.kind=8) (h9:¬z.kind=9):aR fl z=actOf fl z:=by
 have j0:=jc.inv.2.2.1
 by_cases k5:z.kind=5
 ·rw[aR,fl1,if_pos (.inr k5),tx2,if_neg (by omega),actOf,if_pos k5]
 by_cases k3:z.kind=3
 ·rw[aR,fl1,if_pos (.inl k3),tx2,if_neg (by omega),actOf,if_neg k5,if_pos k3,j0 (by omega)];rfl
 by_cases k6:z.kind=6
 ·rw[aR,fl1,if_neg (by omega),tx2,if_pos k6,actOf,if_neg k5,if_neg k3,if_pos k6]
 by_cases k7:z.kind=7
 ·rw[aR,fl1,if_neg (by omega),tx2,if_neg k6,actOf,if_neg k5,if_neg k3,if_neg k6,if_pos k7]
 ·rw[aR,fl1,if_neg (by omega),tx2,if_neg k6,actOf,if_neg k5,if_neg k3,if_neg k6,if_neg k7,j0 (by omega)];rfl
theorem tx_6 {z:Cmd} {s:Tx} {p:Ad} (h:z.kind=6) (hs:z.texts=[s]) (hp:(listR s).1=[p]):tx2 z=prtT 1 p:=by
 rw[tx2,if_pos h,hs,show([s]:List Tx).headD []=s from rfl,hp];rfl
theorem any_s {A:List AcS} {k:Nat} (g:AcS→Bool) (h:k<A.length):(A.take (k+1)).any g=((A.take k).any g||g A[k]):=by rw[List.take_succ_eq_append_getElem h,List.any_append];simp
attribute [local go_sem] icast8 acsD_len in
theorem acts_o (T:Tbl) (l:List AcS) (hl:l.length≤1000) (F:List (Nat×Ob)) (L:List Nat):AC Tryz.prog T 85 [.d (.slc 3 (acsD l))] (⟨F,L⟩) (fun x h=> ∃v,freshT v L∧x= .ret (.own v 3 (acsD l))∧h=⟨F,v::L⟩):=by
 refine⟨Tryz.call85,ACalls.enterS Tryz.func85 rfl Tryz.ntmps85 rfl fun hb=>?_⟩
 simp only[go_sem,Tryz.results85]
 refine Zp 1 ?_
 refine Zp 3 ?_
 refine Zs (Zp 7 ?_)
 refine AWp.block (Zy ?_)
 refine AWp.ownNilS 3 3 rfl rfl (by decide) fun w0 fw0=>?_
 try simp only[freshT] at fw0
 refine Zy ?_
 refine Zl 1 6 (fun n lc hc=> ∃(k w:Nat),n=l.length-k∧EqS lc [(3,.own w 3 (acsD (l.take k))),(4,.d (.int .i64 (k:Nat)))]∧EqS hc (⟨F,w::L⟩)∧(k≤l.length)∧(freshT w L)) ?_ ?_
 · refine ⟨_,0,w0,rfl,ZE,ZE,?_,?_⟩
   all_goals(first|omega|exact fw0|assumption)
 rintro _ _ _ ⟨k,w,rfl,⟨rfl⟩,⟨rfl⟩,h1,h2⟩
 refine Zy ?_
 refine Zs (Zp 71 ?_)
 refine Zc (fun hc0=>?_) fun hc0=>?_
 ·
  have hlt:k<l.length:=by omega
  have hki:(k:Int)<(l.length:Int):=by omega
  have zf1:=fun d0_=>acs_get l k d0_ hlt
  refine Zk ?_
  refine Zs (AWp.block (Zq fun K_ k_=>?_))
  try simp only[go_sem,fw0,zf1,hki]
  (repeat(with_reducible refine And.intro ZS ?_))
  refine DW.app rfl rfl rfl rfl (show slI Tryz.prog 44=some (103,3,32) by simp only[go_sem]) rfl rfl (by simp only[go_sem,fw0,zf1,hki]) (by first|exact .inl rfl|exact .inr rfl) (by(try simp only[go_sem,List.length_map,List.length_take,acsD_len,List.length_append,List.length_cons,List.length_nil]);first|done|omega) (by(try simp only[go_sem,List.length_map,List.length_take,acsD_len,List.length_append,List.length_cons,List.length_nil]);first|done|omega) fun t1 ft1=>?_
  try simp only[freshT] at ft1
  try simp only[go_sem,fw0,zf1,hki,ft1]
  (repeat(with_reducible refine And.intro ZS ?_))
  refine k_ _ _ (blkQ_n (thenQ_n ?_))
  refine Zm 7 ?_
  refine Zr (thenQ_n ?_)
  refine Ze 1 6 [] [] [] [t1] (.e ⟨_,ZM,k+1,t1,rfl,?_,ZE,?_,?_⟩)
  · (try simp only[go_sem,fw0,zf1,hki,ft1])<;>first|exact⟨rfl⟩|(constructor;rw[acs_s hlt])
  · omega
  · first|exact ft1|exact ft1.2|exact ft1.2.2|exact ft1.1|trivial|assumption
 have htk:l.take k=l:=List.take_of_length_le (by omega)
 rw[htk]
 refine AWp.exit (thenQ_e (thenQ_e (blkQ_e (thenQ_n ?_))))
 refine Zp 2 ?_
 refine AWp.ret ?_
 try simp only[thenQ,blkQ]
 apply endW_r [] [] [] [] (by(try simp only[go_sem,fw0])<;>rfl)
 · exact ⟨w,h2,rfl,by first|rfl|(simp only[go_sem,fw0];done)⟩
 · simp [LeA,LeL]
attribute [local go_sem] cmdA cmdD tstA tstD List.map_cons List.map_nil List.cons_append List.nil_append icast8 strD coA acsD_len in
theorem on_c (T:Tbl) (hL:LibT T) (c:Co) (z:Cmd) (ok:z.Ok) (jc:JC z) (hif:¬z.kind=2) (h0:c.ft=0) (h5:Is5 c.fl) (h6:c.a.length≤6):PC Tryz.prog T 41 [.agg (coA c),.agg (cmdA z)] (.tup [.agg (coA (doC c z).1),.d (.bool (doC c z).2)]):=by
 refine⟨Tryz.call41,PCall.enterS Tryz.func41 rfl Tryz.ntmps41 rfl fun hb=>?_⟩
 obtain⟨A,fl,ak,ft⟩:=c
 dsimp only at h0 h5 h6
 subst h0
 obtain⟨s1,s2,s3,s4,s5,s6⟩:=ok.inv
 obtain⟨j5,j6,j0,jn,jt,ja,je⟩:=jc.inv
 simp only[go_sem,Tryz.results41]
 refine Zx ?_
 try simp only[go_sem]
 (repeat(with_reducible refine And.intro ZS ?_))
 intro b2
 first|intro fb2|have fb2:=True.intro
 try simp only[freshL] at fb2
 try simp only[go_sem,fb2]
 (repeat(with_reducible refine And.intro ZS ?_))
 intro b3
 first|intro fb3|have fb3:=True.intro
 try simp only[freshL] at fb3
 try simp only[go_sem,fb2,fb3]
 (repeat(with_reducible refine And.intro ZS ?_))
 intro b4
 first|intro fb4|have fb4:=True.intro
 try simp only[freshL] at fb4
 try simp only[go_sem,fb2,fb3,fb4]
 (repeat(with_reducible refine And.intro ZS ?_))
 refine Zs (Zp 8220 ?_)
 refine Zc (fun hc0=>?_) fun hc0=>?_
 ·
  have hk:z.kind=10:=by simpa using hc0
  have e:=doC_10 (c:=⟨A,fl,ak,0⟩) hk
  refine Zp 12 ?_
  refine AWp.ret ?_
  try simp only[go_sem,fb2,fb3,fb4]
  rw[e];simp[LeA,LeL,LeD,coA]
 have k10:¬z.kind=10:=by simpa using hc0
 refine Zk ?_
 refine Zs (Zp 71 ?_)
 refine Zc (fun hc1=>?_) fun hc1=>?_
 ·
  have e:=doC_1 (c:=⟨A,fl,ak,0⟩) hc1
  refine Zp 12 ?_
  refine AWp.ret ?_
  try simp only[go_sem,fb2,fb3,fb4]
  rw[e];simp[LeA,LeL,LeD,coA]
 refine Zk ?_
 refine Zs (Zp 2055 ?_)
 refine Zc (fun hc2=>?_) fun hc2=>?_
 ·
  have hk89:z.kind=8∨z.kind=9:=by first|exact hc2|omega
  refine Z1 15 (flagsOf_v T z.texts jn) ?_
  refine Zs (Zp 77 ?_)
  refine Zc (fun hc3=>?_) fun hc3=>?_
  ·
   have e:=doC_9 (c:=⟨A,fl,ak,0⟩) (show z.kind=9 by first|exact hc3|omega)
   refine Zq fun K_ k_=>?_
   try simp only[go_sem,fb2,fb3,fb4]
   (repeat(with_reducible refine And.intro ZS ?_))
   refine DW.pcr rfl rfl rfl rfl (join_c T _ _ (flR_is z.texts) h5) rfl rfl ?_
   try simp only[go_sem,fb2,fb3,fb4]
   (repeat(with_reducible refine And.intro ZS ?_))
   refine k_ _ _ (thenQ_n ?_)
   refine Zm 7 ?_
   refine Zp 3 ?_
   refine Zp 6 ?_
   refine AWp.ret ?_
   try simp only[go_sem,fb2,fb3,fb4]
   rw[e];simp[LeA,LeL,LeD,coA]
  have e:=doC_8 (c:=⟨A,fl,ak,0⟩) (show z.kind=8 by omega)
  refine Zk ?_
  refine Zp 3 ?_
  refine Zp 6 ?_
  refine AWp.ret ?_
  try simp only[go_sem,fb2,fb3,fb4]
  rw[e];simp[LeA,LeL,LeD,coA]
 have k8:¬z.kind=8:=by omega
 have k9:¬z.kind=9:=by omega
 have ea:=(doC_a (c:=⟨A,fl,ak,0⟩) k10 k8 k9 hc1).trans (by rw[←aR_eq jc hif hc1 k8 k9])
 refine Zk ?_
 refine Zx ?_
 try simp only[go_sem,fb2,fb3,fb4]
 (repeat(with_reducible refine And.intro ZS ?_))
 intro b8
 first|intro fb8|have fb8:=True.intro
 try simp only[freshL] at fb8
 try simp only[go_sem,fb2,fb3,fb4,fb8]
 (repeat(with_reducible refine And.intro ZS ?_))
 refine Zm 15 ?_
 refine Zs (Zp 2063 ?_)
 refine Zy ?_
 refine Zi 15 (fun lc hc=>EqS lc []∧EqS hc (⟨[(b8,⟨3,1,[[.d (.int .i64 z.kind),.d (.str []),.d (.int .i64 (fl1 z fl))]]⟩),(b4,⟨4,1,[[.nils,.d (.int .i64 0),.d (.bool false),.d (.int .i64 0)]]⟩),(b3,⟨12,1,[cmdA z]⟩),(b2,⟨4,1,[[.d (.slc 3 (acsD A)),.d (.int .i64 fl),.d (.bool ak),.d (.int .i64 0)]]⟩)],[]⟩)) ?_ ?_
 ·
  refine Zc (fun hc4=>?_) fun hc4=>?_
  ·
   refine Zr (thenQ_n ?_)
   refine Ze 15 0 [] [] [b8,b4,b3,b2] [] (.e ⟨ZG,?_⟩)
   · (try simp only[go_sem,fb2,fb3,fb4,fb8])<;>first|exact⟨rfl⟩|(constructor;first|(rw[fl1,if_pos (by omega)];done)|(rw[fl1,if_neg (by omega)];done))
  refine Zk ?_
  refine Ze 15 0 [] [] [b8,b4,b3,b2] [] (.e ⟨ZG,?_⟩)
  · (try simp only[go_sem,fb2,fb3,fb4,fb8])<;>first|exact⟨rfl⟩|(constructor;first|(rw[fl1,if_pos (by omega)];done)|(rw[fl1,if_neg (by omega)];done))
 rintro _ _ ⟨⟨rfl⟩,⟨rfl⟩⟩
 refine Zy ?_
 refine Zs (Zp 143 ?_)
 refine Zy ?_
 refine Zi 15 (fun lc hc=>EqS lc []∧EqS hc (⟨[(b8,⟨3,1,[[.d (.int .i64 z.kind),.d (.str (z.texts.headD [])),.d (.int .i64 (fl1 z fl))]]⟩),(b4,⟨4,1,[[.nils,.d (.int .i64 0),.d (.bool false),.d (.int .i64 0)]]⟩),(b3,⟨12,1,[cmdA z]⟩),(b2,⟨4,1,[[.d (.slc 3 (acsD A)),.d (.int .i64 fl),.d (.bool ak),.d (.int .i64 0)]]⟩)],[]⟩)) ?_ ?_
 ·
  refine Zc (fun hc5=>?_) fun hc5=>?_
  ·
   have hl0:0<z.texts.length:=by omega
   have zf1:=fun d0_=>map_getD strD z.texts 0 d0_ hl0
   refine Zr (thenQ_n ?_)
   refine Ze 15 0 [] [] [b8,b4,b3,b2] [] (.e ⟨ZG,?_⟩)
   · (try simp only[go_sem,fb2,fb3,fb4,fb8,zf1])<;>first|exact⟨rfl⟩|(constructor;first|(rw[hd_t hl0];done)|(rw[hd_f (by omega)];done))
  refine Zk ?_
  refine Ze 15 0 [] [] [b8,b4,b3,b2] [] (.e ⟨ZG,?_⟩)
  · (try simp only[go_sem,fb2,fb3,fb4,fb8])<;>first|exact⟨rfl⟩|(constructor;first|(rw[hd_t hl0];done)|(rw[hd_f (by omega)];done))
 rintro _ _ ⟨⟨rfl⟩,⟨rfl⟩⟩
 refine Zy ?_
 refine Zs (Zp 77 ?_)
 refine Zy ?_
 refine Zi 7 (fun lc hc=>EqS lc []∧EqS hc (⟨[(b8,⟨3,1,[[.d (.int .i64 z.kind),.d (.str (tx2 z)),.d (.int .i64 (fl1 z fl))]]⟩),(b4,⟨4,1,[[.nils,.d (.int .i64 0),.d (.bool false),.d (.int .i64 0)]]⟩),(b3,⟨12,1,[cmdA z]⟩),(b2,⟨4,1,[[.d (.slc 3 (acsD A)),.d (.int .i64 fl),.d (.bool ak),.d (.int .i64 0)]]⟩)],[]⟩)) ?_ ?_
 ·
  refine Zc (fun hc6=>?_) fun hc6=>?_
  ·
   obtain⟨s,⟨al,ad⟩,hs,hp,ha0,hsl⟩:=j6 hc6
   have hsd:z.texts.headD []=s:=by rw[hs];rfl
   refine Z1 15 (listOf_1 T hL s (al,ad) hp) ?_
   refine Zq fun K_ k_=>?_
   try simp only[go_sem,fb2,fb3,fb4,fb8,hsd]
   (repeat(with_reducible refine And.intro ZS ?_))
   refine DW.pcr rfl rfl rfl rfl (rpart_c T 1 al ad (by obtain⟨_,_,hll⟩:=adr_run ha0;dsimp only at hll;omega)) rfl rfl ?_
   try simp only[go_sem,fb2,fb3,fb4,fb8,hsd]
   (repeat(with_reducible refine And.intro ZS ?_))
   refine k_ _ _ (thenQ_n ?_)
   refine Ze 7 0 [] [] [b8,b4,b3,b2] [] (.e ⟨ZG,?_⟩)
   · (try simp only[go_sem,fb2,fb3,fb4,fb8,hsd])<;>first|exact⟨rfl⟩|(constructor;first|(rw[tx2,if_neg (show¬z.kind=6 from hc6)];done)|(rw[tx_6 hc6 hs hp,hc6,hs];done)|(rw[tx_6 hc6 hs hp,hc6,hs];rfl))
  refine Zk ?_
  refine Ze 7 0 [] [] [b8,b4,b3,b2] [] (.e ⟨ZG,?_⟩)
  · (try simp only[go_sem,fb2,fb3,fb4,fb8])<;>first|exact⟨rfl⟩|(constructor;first|(rw[tx2,if_neg (show¬z.kind=6 from hc6)];done)|(rw[tx_6 hc6 hs hp,hc6,hs];done)|(rw[tx_6 hc6 hs hp,hc6,hs];rfl))
 rintro _ _ ⟨⟨rfl⟩,⟨rfl⟩⟩
 refine Zy ?_
 refine Zp 7 ?_
 refine Zp 15 ?_
 refine Zs (Zp 31 ?_)
 refine AWp.block (Zy ?_)
 refine Zl 7 24 (fun n lc hc=> ∃(k:Nat),n=A.length-k∧EqS lc [(11,.d (.bool ((A.take k).any (sameA (aR fl z))))),(12,.d (.int .i64 (k:Nat)))]∧EqS hc (⟨[(b8,⟨3,1,[[.d (.int .i64 z.kind),.d (.str (tx2 z)),.d (.int .i64 (fl1 z fl))]]⟩),(b4,⟨4,1,[[.nils,.d (.int .i64 0),.d (.bool false),.d (.int .i64 0)]]⟩),(b3,⟨12,1,[cmdA z]⟩),(b2,⟨4,1,[[.d (.slc 3 (acsD A)),.d (.int .i64 fl),.d (.bool true),.d (.int .i64 0)]]⟩)],[]⟩)∧(k≤A.length)∧((A.take k).any (clashB (aR fl z))=false)) ?_ ?_
 · refine ⟨_,0,rfl,?_,ZE,?_,?_⟩
   · (try simp only[go_sem,fb2,fb3,fb4,fb8])<;>first|exact⟨rfl⟩|(constructor;first|rfl|(simp;done))
   all_goals(first|omega|rfl|(simp;done))
 rintro _ _ _ ⟨k,rfl,⟨rfl⟩,⟨rfl⟩,h1,h2⟩
 refine Zy ?_
 refine Zs (Zp 543 ?_)
 refine Zc (fun hc7=>?_) fun hc7=>?_
 ·
  have hlt:k<A.length:=by omega
  have hki:(k:Int)<(A.length:Int):=by omega
  have hsm:sameA (aR fl z) A[k]=(decide (A[k].k=z.kind)&&decide (A[k].t=tx2 z)):=by
    simp only[sameA,aR]
    by_cases q1:A[k].k=z.kind<;>by_cases q2:A[k].t=tx2 z<;>simp[q1,q2]
  have zf2:=fun d0_=>acs_get A k d0_ hlt
  refine Zk ?_
  refine Zs (AWp.block (Zx ?_))
  try simp only[go_sem,fb2,fb3,fb4,fb8,zf2,hki]
  (repeat(with_reducible refine And.intro ZS ?_))
  intro b13
  first|intro fb13|have fb13:=True.intro
  try simp only[freshL] at fb13
  try simp only[go_sem,fb2,fb3,fb4,fb8,zf2,hki,fb13]
  (repeat(with_reducible refine And.intro ZS ?_))
  refine Zm 63 ?_
  refine Zs (Zx ?_)
  try simp only[go_sem,fb2,fb3,fb4,fb8,zf2,hki,fb13]
  (repeat(with_reducible refine And.intro ZS ?_))
  refine DW.pcgr rfl rfl rfl rfl rfl (fun hg=>soft_c T _) (fun hg=>by(try simp only[go_sem,fb2,fb3,fb4,fb8,zf2,hki,fb13])<;>first|exact hg|(exfalso;simp at hg;done)|(simpa using hg)|grind) rfl rfl ?_
  try simp only[go_sem,fb2,fb3,fb4,fb8,zf2,hki,fb13]
  (repeat(with_reducible refine And.intro ZS ?_))
  refine DW.pcgr rfl rfl rfl rfl rfl (fun hg=>soft_c T _) (fun hg=>by(try simp only[go_sem,fb2,fb3,fb4,fb8,zf2,hki,fb13])<;>first|exact hg|(exfalso;simp at hg;done)|(simpa using hg)|grind) rfl rfl ?_
  try simp only[go_sem,fb2,fb3,fb4,fb8,zf2,hki,fb13]
  (repeat(with_reducible refine And.intro ZS ?_))
  refine Zm 1073741887 ?_
  refine Zc (fun hc8=>?_) fun hc8=>?_
  ·
   have hcl:A.any (clashB (aR fl z))=true:=List.any_eq_true.2 ⟨A[k],List.getElem_mem hlt,by simp only[clashB,aR,hardB] at*;simp at hc8⊢;grind⟩
   have e:doC ⟨A,fl,ak,0⟩ z=(⟨A,fl,true,9⟩,false):=ea.trans (addC_1 hcl)
   refine Zp 3 ?_
   refine Zp 6 ?_
   refine AWp.ret ?_
   try simp only[go_sem,fb2,fb3,fb4,fb8,zf2,hki,fb13]
   rw[e];simp[LeA,LeL,LeD,coA]
  have hcl:clashB (aR fl z) A[k]=false:=by simp only[clashB,aR,hardB] at*;simp at hc8⊢;grind
  refine Zk ?_
  refine Zr (blkQ_n (thenQ_n ?_))
  refine Zm 31 ?_
  refine Zr (thenQ_n ?_)
  refine Ze 7 24 [b13] [] [b8,b4,b3,b2] [] (.e ⟨_,ZM,k+1,rfl,?_,ZE,?_,?_⟩)
  · (try simp only[go_sem,fb2,fb3,fb4,fb8,zf2,hki,fb13])<;>first|exact⟨rfl⟩|(constructor;rw[any_s _ hlt,hsm])
  · omega
  · rw [any_s _ hlt,h2,hcl];rfl
 have htk:A.take k=A:=List.take_of_length_le (by omega)
 rw[htk] at h2
 refine AWp.exit (thenQ_e (thenQ_e (blkQ_e (thenQ_n ?_))))
 refine Zs (Zp 71 ?_)
 refine Zc (fun hc9=>?_) fun hc9=>?_
 ·
  rw[htk] at hc9
  have e:doC ⟨A,fl,ak,0⟩ z=(⟨A,fl,true,0⟩,true):=ea.trans (addC_2 h2 hc9)
  refine Zp 6 ?_
  refine AWp.ret ?_
  try simp only[go_sem,fb2,fb3,fb4,fb8,htk]
  rw[e];simp[LeA,LeL,LeD,coA]<;>simp[acsD,acD,aR]
 rw[htk] at hc9
 have h9:A.any (sameA (aR fl z))=false:=by simpa using hc9
 refine Zk ?_
 refine Zs (Zp 135 ?_)
 refine Zc (fun hc10=>?_) fun hc10=>?_
 ·
  have e:doC ⟨A,fl,ak,0⟩ z=(⟨A,fl,true,5⟩,false):=ea.trans (addC_3 h2 h9 (show A.length=6 by omega))
  refine Zp 3 ?_
  refine Zp 6 ?_
  refine AWp.ret ?_
  try simp only[go_sem,fb2,fb3,fb4,fb8,htk]
  rw[e];simp[LeA,LeL,LeD,coA]<;>simp[acsD,acD,aR]
 have e:doC ⟨A,fl,ak,0⟩ z=(⟨A++[aR fl z],fl,true,0⟩,true):=ea.trans (addC_4 h2 h9 (show¬A.length=6 by omega))
 refine Zk ?_
 refine AWp.trees false (.seg 0 (.many (.alt 1 (.many (.alt 2 (.seg 3 (.seg 4 (.seg 5 (.seg 6 (.seg 7 .done))))) (.alt 3 (.many (.alt 2 (.seg 4 (.seg 5 (.seg 6 (.seg 7 .done)))) (.alt 4 (.seg 2 (.seg 5 (.seg 6 (.seg 7 .done)))) .nil))) .nil))) (.alt 3 (.many (.alt 1 (.many (.alt 2 (.seg 4 (.seg 5 (.seg 6 (.seg 7 .done)))) (.alt 4 (.seg 2 (.seg 5 (.seg 6 (.seg 7 .done)))) .nil))) (.alt 4 (.seg 1 (.seg 2 (.seg 5 (.seg 6 (.seg 7 .done))))) .nil))) .nil)))) rfl (by kernel_rfl) fun K_ hK_=>?_
 try simp only[go_sem,fb2,fb3,fb4,fb8,htk]
 (repeat(with_reducible refine And.intro ZS ?_))
 refine⟨?_,?_⟩
 ·
  try simp only[go_sem,fb2,fb3,fb4,fb8,htk]
  refine⟨?_,?_⟩
  ·
   try simp only[go_sem,fb2,fb3,fb4,fb8,htk]
   refine DW.acp [] [] rfl rfl rfl rfl (by(try simp only[go_sem,fb2,fb3,fb4,fb8])<;>rfl) rfl (acts_o T A (by omega) _ _) ?_
   rintro _ _ ⟨tc,ftc,rfl,rfl⟩
   try simp only[freshT] at ftc
   try simp only[go_sem,fb2,fb3,fb4,fb8,htk,ftc]
   (repeat(with_reducible refine And.intro ZS ?_))
   refine DW.app (tk:=tc) rfl rfl rfl rfl (show slI Tryz.prog 44=some (103,3,32) by simp only[go_sem]) rfl rfl (by simp[ftc]) (by first|exact .inl rfl|exact .inr rfl) (by(try simp only[go_sem,List.length_map,List.length_take,acsD_len,List.length_append,List.length_cons,List.length_nil]);first|done|omega) (by(try simp only[go_sem,List.length_map,List.length_take,acsD_len,List.length_append,List.length_cons,List.length_nil]);first|done|omega) fun t9 ft9=>?_
   try simp only[freshT] at ft9
   try simp only[go_sem,fb2,fb3,fb4,fb8,htk,ftc,ft9]
   (repeat(with_reducible refine And.intro ZS ?_))
   refine hK_ _ _ ?_
   refine Zm 3 ?_
   refine Zy ?_
   refine AWp.cellD (b:=b2) (i:=0) (j:=0) (by(try simp only[go_sem,fb2,fb3,fb4,fb8]);rfl) rfl rfl ?_
   simp only[go_sem,setO,fb2,fb3,fb4,fb8]
   refine Zp 6 ?_
   refine AWp.ret ?_
   try simp only[go_sem,fb2,fb3,fb4,fb8,htk,ftc,ft9]
   rw[e];simp[LeA,LeL,LeD,coA]<;>simp[acsD,acD,aR]
  ·
   try simp only[go_sem,fb2,fb3,fb4,fb8,htk]
   refine⟨?_,?_⟩
   ·
    try simp only[go_sem,fb2,fb3,fb4,fb8,htk]
    refine DW.acp [] [] rfl rfl rfl rfl (by(try simp only[go_sem,fb2,fb3,fb4,fb8])<;>rfl) rfl (acts_o T A (by omega) _ _) ?_
    rintro _ _ ⟨tc,ftc,rfl,rfl⟩
    try simp only[freshT] at ftc
    try simp only[go_sem,fb2,fb3,fb4,fb8,htk,ftc]
    (repeat(with_reducible refine And.intro ZS ?_))
    refine DW.app (tk:=tc) rfl rfl rfl rfl (show slI Tryz.prog 44=some (103,3,32) by simp only[go_sem]) rfl rfl (by simp[ftc]) (by first|exact .inl rfl|exact .inr rfl) (by(try simp only[go_sem,List.length_map,List.length_take,acsD_len,List.length_append,List.length_cons,List.length_nil]);first|done|omega) (by(try simp only[go_sem,List.length_map,List.length_take,acsD_len,List.length_append,List.length_cons,List.length_nil]);first|done|omega) fun t9 ft9=>?_
    try simp only[freshT] at ft9
    try simp only[go_sem,fb2,fb3,fb4,fb8,htk,ftc,ft9]
    (repeat(with_reducible refine And.intro ZS ?_))
    refine hK_ _ _ ?_
    refine Zm 3 ?_
    refine Zy ?_
    refine AWp.cellD (b:=b2) (i:=0) (j:=0) (by(try simp only[go_sem,fb2,fb3,fb4,fb8]);rfl) rfl rfl ?_
    simp only[go_sem,setO,fb2,fb3,fb4,fb8]
    refine Zp 6 ?_
    refine AWp.ret ?_
    try simp only[go_sem,fb2,fb3,fb4,fb8,htk,ftc,ft9]
    rw[e];simp[LeA,LeL,LeD,coA]<;>simp[acsD,acD,aR]
   ·
    try simp only[go_sem,fb2,fb3,fb4,fb8,htk]
    refine DW.acp [] [] rfl rfl rfl rfl (by(try simp only[go_sem,fb2,fb3,fb4,fb8])<;>rfl) rfl (acts_o T A (by omega) _ _) ?_
    rintro _ _ ⟨tc,ftc,rfl,rfl⟩
    try simp only[freshT] at ftc
    try simp only[go_sem,fb2,fb3,fb4,fb8,htk,ftc]
    (repeat(with_reducible refine And.intro ZS ?_))
    refine DW.app (tk:=tc) rfl rfl rfl rfl (show slI Tryz.prog 44=some (103,3,32) by simp only[go_sem]) rfl rfl (by simp[ftc]) (by first|exact .inl rfl|exact .inr rfl) (by(try simp only[go_sem,List.length_map,List.length_take,acsD_len,List.length_append,List.length_cons,List.length_nil]);first|done|omega) (by(try simp only[go_sem,List.length_map,List.length_take,acsD_len,List.length_append,List.length_cons,List.length_nil]);first|done|omega) fun t9 ft9=>?_
    try simp only[freshT] at ft9
    try simp only[go_sem,fb2,fb3,fb4,fb8,htk,ftc,ft9]
    (repeat(with_reducible refine And.intro ZS ?_))
    refine hK_ _ _ ?_
    refine Zm 3 ?_
    refine Zy ?_
    refine AWp.cellD (b:=b2) (i:=0) (j:=0) (by(try simp only[go_sem,fb2,fb3,fb4,fb8]);rfl) rfl rfl ?_
    simp only[go_sem,setO,fb2,fb3,fb4,fb8]
    refine Zp 6 ?_
    refine AWp.ret ?_
    try simp only[go_sem,fb2,fb3,fb4,fb8,htk,ftc,ft9]
    rw[e];simp[LeA,LeL,LeD,coA]<;>simp[acsD,acD,aR]
 ·
  try simp only[go_sem,fb2,fb3,fb4,fb8,htk]
  refine⟨?_,?_⟩
  ·
   try simp only[go_sem,fb2,fb3,fb4,fb8,htk]
   refine⟨?_,?_⟩
   ·
    try simp only[go_sem,fb2,fb3,fb4,fb8,htk]
    refine DW.acp [] [] rfl rfl rfl rfl (by(try simp only[go_sem,fb2,fb3,fb4,fb8])<;>rfl) rfl (acts_o T A (by omega) _ _) ?_
    rintro _ _ ⟨tc,ftc,rfl,rfl⟩
    try simp only[freshT] at ftc
    try simp only[go_sem,fb2,fb3,fb4,fb8,htk,ftc]
    (repeat(with_reducible refine And.intro ZS ?_))
    refine DW.app (tk:=tc) rfl rfl rfl rfl (show slI Tryz.prog 44=some (103,3,32) by simp only[go_sem]) rfl rfl (by simp[ftc]) (by first|exact .inl rfl|exact .inr rfl) (by(try simp only[go_sem,List.length_map,List.length_take,acsD_len,List.length_append,List.length_cons,List.length_nil]);first|done|omega) (by(try simp only[go_sem,List.length_map,List.length_take,acsD_len,List.length_append,List.length_cons,List.length_nil]);first|done|omega) fun t9 ft9=>?_
    try simp only[freshT] at ft9
    try simp only[go_sem,fb2,fb3,fb4,fb8,htk,ftc,ft9]
    (repeat(with_reducible refine And.intro ZS ?_))
    refine hK_ _ _ ?_
    refine Zm 3 ?_
    refine Zy ?_
    refine AWp.cellD (b:=b2) (i:=0) (j:=0) (by(try simp only[go_sem,fb2,fb3,fb4,fb8]);rfl) rfl rfl ?_
    simp only[go_sem,setO,fb2,fb3,fb4,fb8]
    refine Zp 6 ?_
    refine AWp.ret ?_
    try simp only[go_sem,fb2,fb3,fb4,fb8,htk,ftc,ft9]
    rw[e];simp[LeA,LeL,LeD,coA]<;>simp[acsD,acD,aR]
   ·
    try simp only[go_sem,fb2,fb3,fb4,fb8,htk]
    refine DW.acp [] [] rfl rfl rfl rfl (by(try simp only[go_sem,fb2,fb3,fb4,fb8])<;>rfl) rfl (acts_o T A (by omega) _ _) ?_
    rintro _ _ ⟨tc,ftc,rfl,rfl⟩
    try simp only[freshT] at ftc
    try simp only[go_sem,fb2,fb3,fb4,fb8,htk,ftc]
    (repeat(with_reducible refine And.intro ZS ?_))
    refine DW.app (tk:=tc) rfl rfl rfl rfl (show slI Tryz.prog 44=some (103,3,32) by simp only[go_sem]) rfl rfl (by simp[ftc]) (by first|exact .inl rfl|exact .inr rfl) (by(try simp only[go_sem,List.length_map,List.length_take,acsD_len,List.length_append,List.length_cons,List.length_nil]);first|done|omega) (by(try simp only[go_sem,List.length_map,List.length_take,acsD_len,List.length_append,List.length_cons,List.length_nil]);first|done|omega) fun t9 ft9=>?_
    try simp only[freshT] at ft9
    try simp only[go_sem,fb2,fb3,fb4,fb8,htk,ftc,ft9]
    (repeat(with_reducible refine And.intro ZS ?_))
    refine hK_ _ _ ?_
    refine Zm 3 ?_
    refine Zy ?_
    refine AWp.cellD (b:=b2) (i:=0) (j:=0) (by(try simp only[go_sem,fb2,fb3,fb4,fb8]);rfl) rfl rfl ?_
    simp only[go_sem,setO,fb2,fb3,fb4,fb8]
    refine Zp 6 ?_
    refine AWp.ret ?_
    try simp only[go_sem,fb2,fb3,fb4,fb8,htk,ftc,ft9]
    rw[e];simp[LeA,LeL,LeD,coA]<;>simp[acsD,acD,aR]
  ·
   try simp only[go_sem,fb2,fb3,fb4,fb8,htk]
   refine DW.acp [] [] rfl rfl rfl rfl (by(try simp only[go_sem,fb2,fb3,fb4,fb8])<;>rfl) rfl (acts_o T A (by omega) _ _) ?_
   rintro _ _ ⟨tc,ftc,rfl,rfl⟩
   try simp only[freshT] at ftc
   try simp only[go_sem,fb2,fb3,fb4,fb8,htk,ftc]
   (repeat(with_reducible refine And.intro ZS ?_))
   refine DW.app (tk:=tc) rfl rfl rfl rfl (show slI Tryz.prog 44=some (103,3,32) by simp only[go_sem]) rfl rfl (by simp[ftc]) (by first|exact .inl rfl|exact .inr rfl) (by(try simp only[go_sem,List.length_map,List.length_take,acsD_len,List.length_append,List.length_cons,List.length_nil]);first|done|omega) (by(try simp only[go_sem,List.length_map,List.length_take,acsD_len,List.length_append,List.length_cons,List.length_nil]);first|done|omega) fun t9 ft9=>?_
   try simp only[freshT] at ft9
   try simp only[go_sem,fb2,fb3,fb4,fb8,htk,ftc,ft9]
   (repeat(with_reducible refine And.intro ZS ?_))
   refine hK_ _ _ ?_
   refine Zm 3 ?_
   refine Zy ?_
   refine AWp.cellD (b:=b2) (i:=0) (j:=0) (by(try simp only[go_sem,fb2,fb3,fb4,fb8]);rfl) rfl rfl ?_
   simp only[go_sem,setO,fb2,fb3,fb4,fb8]
   refine Zp 6 ?_
   refine AWp.ret ?_
   try simp only[go_sem,fb2,fb3,fb4,fb8,htk,ftc,ft9]
   rw[e];simp[LeA,LeL,LeD,coA]<;>simp[acsD,acD,aR]
end
section
noncomputable section
mutual
def allX (x:Lr) (m:Ms):Cmd→Co→Co×Bool
 | .mk k tx t th el,c=>if k=2 then(if tellJ x m t=true then allL x m th c else allL x m el c) else doC c (.mk k tx t th el)
def allL (x:Lr) (m:Ms):List Cmd→Co→Co×Bool
 |[],c=>(c,true)
 |y::l,c=>if(allX x m y c).2=true then allL x m l (allX x m y c).1 else allX x m y c
end
end
theorem allX_eq (x:Lr) (m:Ms) (z:Cmd) (c:Co):allX x m z c=if z.kind=2 then(if tellJ x m z.test=true then allL x m z.thn c else allL x m z.els c) else doC c z:=by cases z;rw[allX];rfl
theorem allX_o {x:Lr} {m:Ms} {z:Cmd} {c:Co} (h:¬z.kind=2):allX x m z c=doC c z:=by rw[allX_eq,if_neg h]
theorem allX_t {x:Lr} {m:Ms} {z:Cmd} {c:Co} (h:z.kind=2) (h2:tellJ x m z.test=true):allX x m z c=allL x m z.thn c:=by rw[allX_eq,if_pos h,if_pos h2]
theorem allX_f {x:Lr} {m:Ms} {z:Cmd} {c:Co} (h:z.kind=2) (h2:¬tellJ x m z.test=true):allX x m z c=allL x m z.els c:=by rw[allX_eq,if_pos h,if_neg h2]
theorem allL_t {x:Lr} {m:Ms} {l:List Cmd} {k:Nat} {c:Co} {r:Co×Bool} (h:k<l.length) (e:allX x m (l[k]) c=r) (hc:r.2=true):allL x m (l.drop k) c=allL x m (l.drop (k+1)) r.1:=by rw[List.drop_eq_getElem_cons h,allL,e,if_pos hc]
theorem allL_f {x:Lr} {m:Ms} {l:List Cmd} {k:Nat} {c:Co} {r:Co×Bool} (h:k<l.length) (e:allX x m (l[k]) c=r) (hc:¬r.2=true):allL x m (l.drop k) c=r:=by rw[List.drop_eq_getElem_cons h,allL,e,if_neg hc]
theorem addC_le {c:Co} (h:c.a.length≤6) (a:AcS):(addC c a).1.a.length≤6:=by
 unfold addC
 split
 ·exact h
 split
 ·exact h
 split
 ·exact h
 ·simp only[List.length_append,List.length_singleton];omega
theorem doC_le {c:Co} (h:c.a.length≤6) (z:Cmd):(doC c z).1.a.length≤6:=by
 unfold doC
 split
 ·exact h
 split
 ·exact h
 split
 ·exact h
 split
 ·exact h
 ·exact addC_le h _
mutual
theorem allX_le (x:Lr) (m:Ms):∀(z:Cmd) {c:Co},c.a.length≤6→(allX x m z c).1.a.length≤6
 | .mk k tx t th el,c,h=>by
  rw[allX]
  split
  ·split
   ·exact allL_le x m th h
   ·exact allL_le x m el h
  ·exact doC_le h _
theorem allL_le (x:Lr) (m:Ms):∀(l:List Cmd) {c:Co},c.a.length≤6→(allL x m l c).1.a.length≤6
 |[],c,h=>by rw[allL];exact h
 |y::l,c,h=>by
  rw[allL]
  split
  ·exact allL_le x m l (allX_le x m y h)
  ·exact allX_le x m y h
end
attribute [local go_sem] lrA msA cmdA cmdD tstD tstA List.map_cons List.map_nil List.length_map icast8 in
theorem jdall_s (T:Tbl) (hL:LibT T) (hF:T 2=flagT.map D.str) (x:Lr) (m:Ms) (jo:JOk x m) (hs:x.s.length≤9223372036854775807) (w bb cc:Nat) (c:Co) (F:List (Nat×Ob)) (L:List Nat) (hX:cc=0→c.a=[]) (hlX:c.a.length≤6) (l:List Cmd) (hll:l.length*208≤140737488355328) (okl:∀y∈l,y.Ok) (jcl:∀y∈l,JC y) (ihthn:∀y∈l,∀(bb cc:Nat) (c:Co) (F:List (Nat×Ob)) (L:List Nat),(cc=0→c.a=[])→c.a.length≤6→AC Tryz.prog T 39 [.ptr w 4 0 0,.d (.slc 12 (thnD y)),.agg (lrA x),.agg (msA m)] ⟨crO w bb cc c F,L⟩ (fun r h=> ∃b2 c2,(c2=0→(allL x m y.thn c).1.a=[])∧r= .ret (.d (.bool (allL x m y.thn c).2))∧h=⟨crO w b2 c2 (allL x m y.thn c).1 F,L⟩)) (ihels:∀y∈l,∀(bb cc:Nat) (c:Co) (F:List (Nat×Ob)) (L:List Nat),(cc=0→c.a=[])→c.a.length≤6→AC Tryz.prog T 39 [.ptr w 4 0 0,.d (.slc 12 (elsD y)),.agg (lrA x),.agg (msA m)] ⟨crO w bb cc c F,L⟩ (fun r h=> ∃b2 c2,(c2=0→(allL x m y.els c).1.a=[])∧r= .ret (.d (.bool (allL x m y.els c).2))∧h=⟨crO w b2 c2 (allL x m y.els c).1 F,L⟩)):AC Tryz.prog T 39 [.ptr w 4 0 0,.d (.slc 12 (l.map cmdD)),.agg (lrA x),.agg (msA m)] (⟨crO w bb cc c F,L⟩) (fun r h=> ∃b2 c2,(c2=0→(allL x m l c).1.a=[])∧r= .ret (.d (.bool (allL x m l c).2))∧h=⟨crO w b2 c2 (allL x m l c).1 F,L⟩):=by
 refine⟨Tryz.call39,ACalls.enterS Tryz.func39 rfl Tryz.ntmps39 rfl fun hb=>?_⟩
 simp only[go_sem,Tryz.results39]
 refine Zx ?_
 try simp only[go_sem]
 (repeat(with_reducible refine And.intro ZS ?_))
 intro b6
 first|intro fb6|have fb6:=True.intro
 try simp only[freshL] at fb6
 try simp only[go_sem,fb6]
 (repeat(with_reducible refine And.intro ZS ?_))
 intro b7
 first|intro fb7|have fb7:=True.intro
 try simp only[freshL] at fb7
 try simp only[go_sem,fb6,fb7]
 (repeat(with_reducible refine And.intro ZS ?_))
 refine Zs (Zp 945 ?_)
 refine AWp.block (Zy ?_)
 refine Zl 31 32 (fun n lc hc=> ∃(k b9 c9:Nat) (Y:Co),n=l.length-k∧EqS lc [(14,.d (.int .i64 (k:Nat)))]∧EqS hc (⟨(b7,⟨2,1,[msA m]⟩)::(b6,⟨5,1,[lrA x]⟩)::crO w b9 c9 Y F,L⟩)∧(k≤l.length)∧(allL x m l c=allL x m (l.drop k) Y)∧(c9=0→Y.a=[])∧(Y.a.length≤6)) ?_ ?_
 · refine ⟨_,0,bb,cc,c,rfl,ZE,ZE,?_,?_,?_,?_⟩
   all_goals(first|omega|rfl|exact hX|exact hlX)
 rintro _ _ _ ⟨k,b9,c9,Y,rfl,⟨rfl⟩,⟨rfl⟩,m1,m2,m3,m4⟩
 refine Zy ?_
 refine Zp 127 ?_
 refine Zs (Zc (fun hc0=>?_) fun hc0=>?_)
 ·
  have hlt:k<l.length:=by omega
  have okk:=okl _ (List.getElem_mem hlt)
  have jk:=jcl _ (List.getElem_mem hlt)
  obtain⟨s1,s2,s3,s4,s5,s6⟩:=okk.inv
  have zf1:=fun d0_=>map_getD cmdD l k d0_ hlt
  refine Zk ?_
  refine Zs (AWp.block (Zx ?_))
  try simp only[go_sem,fb6,fb7,zf1]
  (repeat(with_reducible refine And.intro ZS ?_))
  intro b10
  first|intro fb10|have fb10:=True.intro
  try simp only[freshL] at fb10
  try simp only[go_sem,fb6,fb7,zf1,fb10]
  (repeat(with_reducible refine And.intro ZS ?_))
  refine Zp 239 ?_
  refine Zs (AWp.block (Zp 255 ?_))
  refine Zc (fun hc1=>?_) fun hc1=>?_
  ·
   have hk2:¬(l[k]).kind=2:=by first|exact hc1|omega
   have ex:= @allX_o x m (l[k]) Y hk2
   have hle:=doC_le m4 (l[k])
   refine Zq fun K_ k_=>?_
   try simp only[go_sem,fb6,fb7,zf1,fb10]
   (repeat(with_reducible refine And.intro ZS ?_))
   refine DW.acl rfl rfl rfl rfl (LeH.pm (cr_in [_,_,_] ..)) (by first|rfl|(simp only[go_sem,fb6,fb7,zf1,fb10];done)|(simp only[go_sem,fb6,fb7,zf1,fb10];rfl)) (do_c T hL hF w b9 c9 Y _ _ m3 (by omega) (l[k]) okk jk hk2) ?_
   rintro _ _ ⟨BB1,CC2,hCC2,rfl,rfl⟩
   try simp only[go_sem,fb6,fb7,zf1,fb10]
   (repeat(with_reducible refine And.intro ZS ?_))
   refine k_ _ _ (blkQ_n (thenQ_n ?_))
   refine Zm 247 ?_
   try simp only[go_sem]
   try refine AWp.pm (cr_out [_,_,_] ..) ?_
   try simp only[List.cons_append,List.nil_append]
   refine Zp 375 ?_
   refine Zc (fun hc3=>?_) fun hc3=>?_
   ·
    have e2:allL x m l c=(doC Y (l[k])):=by rw[m2];exact allL_f hlt ex (by first|exact hc3|simp[hc3])
    refine Zp 8 ?_
    refine AWp.ret ?_
    try simp only[thenQ,blkQ]
    apply endW_r [b6,b7,b10] [] [] [] (by(try simp only[go_sem,fb6,fb7,zf1,fb10])<;>rfl)
    · exact ⟨BB1,CC2,by rw[e2];exact hCC2,rfl,by rw[e2];first|rfl|(simp only[go_sem,fb6,fb7,zf1,fb10];done)|(simp only[go_sem,fb6,fb7,zf1,fb10];rfl)⟩
    · (try simp only[LeA,LeD,e2])<;>(try simpa using hc3)
   have e2:allL x m l c=allL x m (l.drop (k+1)) (doC Y (l[k])).1:=by rw[m2];exact allL_t hlt ex (by first|exact hc3|(simpa using hc3))
   refine AWp.skip (blkQ_n (thenQ_n ?_))
   refine Zr (thenQ_n ?_)
   refine Ze 31 32 [b10] [] [b7,b6] [] (.e ⟨_,ZM,k+1,BB1,CC2,(doC Y (l[k])).1,rfl,ZE,ZE,?_,?_,?_,?_⟩)
   all_goals first|omega|exact e2|exact hCC2|exact hle
  have hk2:(l[k]).kind=2:=by first|exact hc1|omega
  refine Z1 383 (jtest_p T hL x m jo hs (l[k]).test s2 (jk.inv.2.2.2.2.1 hk2)) ?_
  refine Zc (fun hc2=>?_) fun hc2=>?_
  ·
   have ex:=allX_t (c:=Y) hk2 hc2
   have hle:=allL_le x m (l[k]).thn m4
   refine Zq fun K_ k_=>?_
   try simp only[go_sem,fb6,fb7,zf1,fb10]
   (repeat(with_reducible refine And.intro ZS ?_))
   refine DW.acl rfl rfl rfl rfl (LeH.pm (cr_in [_,_,_] ..)) (by first|rfl|(simp only[go_sem,fb6,fb7,zf1,fb10];done)|(simp only[go_sem,fb6,fb7,zf1,fb10];rfl)) (ihthn _ (List.getElem_mem hlt) b9 c9 Y _ _ m3 m4) ?_
   rintro _ _ ⟨BB3,CC4,hCC4,rfl,rfl⟩
   try simp only[go_sem,fb6,fb7,zf1,fb10]
   (repeat(with_reducible refine And.intro ZS ?_))
   refine k_ _ _ (blkQ_n (thenQ_n ?_))
   refine Zm 247 ?_
   try simp only[go_sem]
   try refine AWp.pm (cr_out [_,_,_] ..) ?_
   try simp only[List.cons_append,List.nil_append]
   refine Zp 375 ?_
   refine Zc (fun hc3=>?_) fun hc3=>?_
   ·
    have e2:allL x m l c=(allL x m (l[k]).thn Y):=by rw[m2];exact allL_f hlt ex (by first|exact hc3|simp[hc3])
    refine Zp 8 ?_
    refine AWp.ret ?_
    try simp only[thenQ,blkQ]
    apply endW_r [b6,b7,b10] [] [] [] (by(try simp only[go_sem,fb6,fb7,zf1,fb10])<;>rfl)
    · exact ⟨BB3,CC4,by rw[e2];exact hCC4,rfl,by rw[e2];first|rfl|(simp only[go_sem,fb6,fb7,zf1,fb10];done)|(simp only[go_sem,fb6,fb7,zf1,fb10];rfl)⟩
    · (try simp only[LeA,LeD,e2])<;>(try simpa using hc3)
   have e2:allL x m l c=allL x m (l.drop (k+1)) (allL x m (l[k]).thn Y).1:=by rw[m2];exact allL_t hlt ex (by first|exact hc3|(simpa using hc3))
   refine AWp.skip (blkQ_n (thenQ_n ?_))
   refine Zr (thenQ_n ?_)
   refine Ze 31 32 [b10] [] [b7,b6] [] (.e ⟨_,ZM,k+1,BB3,CC4,(allL x m (l[k]).thn Y).1,rfl,ZE,ZE,?_,?_,?_,?_⟩)
   all_goals first|omega|exact e2|exact hCC4|exact hle
  have ex:=allX_f (x:=x) (m:=m) (c:=Y) hk2 (by first|exact hc2|simp[hc2])
  have hle:=allL_le x m (l[k]).els m4
  refine Zq fun K_ k_=>?_
  try simp only[go_sem,fb6,fb7,zf1,fb10]
  (repeat(with_reducible refine And.intro ZS ?_))
  refine DW.acl rfl rfl rfl rfl (LeH.pm (cr_in [_,_,_] ..)) (by first|rfl|(simp only[go_sem,fb6,fb7,zf1,fb10];done)|(simp only[go_sem,fb6,fb7,zf1,fb10];rfl)) (ihels _ (List.getElem_mem hlt) b9 c9 Y _ _ m3 m4) ?_
  rintro _ _ ⟨BB5,CC6,hCC6,rfl,rfl⟩
  try simp only[go_sem,fb6,fb7,zf1,fb10]
  (repeat(with_reducible refine And.intro ZS ?_))
  refine k_ _ _ (blkQ_n (thenQ_n ?_))
  refine Zm 247 ?_
  try simp only[go_sem]
  try refine AWp.pm (cr_out [_,_,_] ..) ?_
  try simp only[List.cons_append,List.nil_append]
  refine Zp 375 ?_
  refine Zc (fun hc3=>?_) fun hc3=>?_
  ·
   have e2:allL x m l c=(allL x m (l[k]).els Y):=by rw[m2];exact allL_f hlt ex (by first|exact hc3|simp[hc3])
   refine Zp 8 ?_
   refine AWp.ret ?_
   try simp only[thenQ,blkQ]
   apply endW_r [b6,b7,b10] [] [] [] (by(try simp only[go_sem,fb6,fb7,zf1,fb10])<;>rfl)
   · exact ⟨BB5,CC6,by rw[e2];exact hCC6,rfl,by rw[e2];first|rfl|(simp only[go_sem,fb6,fb7,zf1,fb10];done)|(simp only[go_sem,fb6,fb7,zf1,fb10];rfl)⟩
   · (try simp only[LeA,LeD,e2])<;>(try simpa using hc3)
  have e2:allL x m l c=allL x m (l.drop (k+1)) (allL x m (l[k]).els Y).1:=by rw[m2];exact allL_t hlt ex (by first|exact hc3|(simpa using hc3))
  refine AWp.skip (blkQ_n (thenQ_n ?_))
  refine Zr (thenQ_n ?_)
  refine Ze 31 32 [b10] [] [b7,b6] [] (.e ⟨_,ZM,k+1,BB5,CC6,(allL x m (l[k]).els Y).1,rfl,ZE,ZE,?_,?_,?_,?_⟩)
  all_goals first|omega|exact e2|exact hCC6|exact hle
 have e2:allL x m l c=(Y,true):=by
   rw[m2,List.drop_eq_nil_of_le (by omega:l.length≤k),allL]
 refine AWp.exit (thenQ_e (thenQ_e (blkQ_e (thenQ_n ?_))))
 refine Zm 0 ?_
 refine Zp 1 ?_
 refine AWp.ret ?_
 try simp only[thenQ,blkQ]
 apply endW_r [b6,b7] [] [] [] (by(try simp only[go_sem,fb6,fb7])<;>rfl)
 · exact ⟨b9,c9,by rw[e2];exact m3,rfl,by rw[e2];first|rfl|(simp only[go_sem,fb6,fb7];done)|(simp only[go_sem,fb6,fb7];rfl)⟩
 · simp [LeA,LeD,e2]
theorem jdall_c (T:Tbl) (hL:LibT T) (hF:T 2=flagT.map D.str) (x:Lr) (m:Ms) (jo:JOk x m) (hs:x.s.length≤9223372036854775807) (w:Nat):∀(l:List Cmd) (bb cc:Nat) (c:Co) (F:List (Nat×Ob)) (L:List Nat),(cc=0→c.a=[])→c.a.length≤6→l.length*208≤140737488355328→(∀y∈l,y.Ok)→(∀y∈l,JC y)→AC Tryz.prog T 39 [.ptr w 4 0 0,.d (.slc 12 (l.map cmdD)),.agg (lrA x),.agg (msA m)] ⟨crO w bb cc c F,L⟩ (fun r h=> ∃b2 c2,(c2=0→(allL x m l c).1.a=[])∧r= .ret (.d (.bool (allL x m l c).2))∧h=⟨crO w b2 c2 (allL x m l c).1 F,L⟩):=by
 have H:∀z:Cmd,z.Ok→JC z→(∀(bb cc:Nat) (c:Co) (F:List (Nat×Ob)) (L:List Nat),(cc=0→c.a=[])→c.a.length≤6→AC Tryz.prog T 39 [.ptr w 4 0 0,.d (.slc 12 (thnD z)),.agg (lrA x),.agg (msA m)] ⟨crO w bb cc c F,L⟩ (fun r h=> ∃b2 c2,(c2=0→(allL x m z.thn c).1.a=[])∧r= .ret (.d (.bool (allL x m z.thn c).2))∧h=⟨crO w b2 c2 (allL x m z.thn c).1 F,L⟩))∧(∀(bb cc:Nat) (c:Co) (F:List (Nat×Ob)) (L:List Nat),(cc=0→c.a=[])→c.a.length≤6→AC Tryz.prog T 39 [.ptr w 4 0 0,.d (.slc 12 (elsD z)),.agg (lrA x),.agg (msA m)] ⟨crO w bb cc c F,L⟩ (fun r h=> ∃b2 c2,(c2=0→(allL x m z.els c).1.a=[])∧r= .ret (.d (.bool (allL x m z.els c).2))∧h=⟨crO w b2 c2 (allL x m z.els c).1 F,L⟩)):=fun z=>by
  induction z using Cmd.ind with
  | h z i1 i2=>
   intro ok jc
   obtain⟨_,_,s3,s4,s5,s6⟩:=ok.inv
   obtain⟨_,_,_,_,_,ja,je⟩:=jc.inv
   refine⟨fun bb cc c F L hX hl=>?_,fun bb cc c F L hX hl=>?_⟩
   ·rw[thnD_eq]
    exact jdall_s T hL hF x m jo hs w bb cc c F L hX hl z.thn s3 s5 ja (fun y hy=>(i1 y hy (s5 y hy) (ja y hy)).1) (fun y hy=>(i1 y hy (s5 y hy) (ja y hy)).2)
   ·rw[elsD_eq]
    exact jdall_s T hL hF x m jo hs w bb cc c F L hX hl z.els s4 s6 je (fun y hy=>(i2 y hy (s6 y hy) (je y hy)).1) (fun y hy=>(i2 y hy (s6 y hy) (je y hy)).2)
 exact fun l bb cc c F L hX hl hll ok jc=>jdall_s T hL hF x m jo hs w bb cc c F L hX hl l hll ok jc (fun y hy=>(H y (ok y hy) (jc y hy)).1) (fun y hy=>(H y (ok y hy) (jc y hy)).2)
end
section
noncomputable section
mutual
def flX (x:Lr) (m:Ms):Cmd→List Cmd
 | .mk k tx t th el=>if k=2 then(if tellJ x m t=true then flL x m th else flL x m el) else [.mk k tx t th el]
def flL (x:Lr) (m:Ms):List Cmd→List Cmd
 |[]=>[]
 |y::l=>flX x m y++flL x m l
end
end
theorem flX_eq (x:Lr) (m:Ms) (z:Cmd):flX x m z=if z.kind=2 then(if tellJ x m z.test=true then flL x m z.thn else flL x m z.els) else [z]:=by cases z;rw[flX];rfl
theorem flX_o {x:Lr} {m:Ms} {z:Cmd} (h:¬z.kind=2):flX x m z=[z]:=by rw[flX_eq,if_neg h]
theorem flX_t {x:Lr} {m:Ms} {z:Cmd} (h:z.kind=2) (h2:tellJ x m z.test=true):flX x m z=flL x m z.thn:=by rw[flX_eq,if_pos h,if_pos h2]
theorem flX_f {x:Lr} {m:Ms} {z:Cmd} (h:z.kind=2) (h2:¬tellJ x m z.test=true):flX x m z=flL x m z.els:=by rw[flX_eq,if_pos h,if_neg h2]
theorem flL_app (x:Lr) (m:Ms) (l l':List Cmd):flL x m (l++l')=flL x m l++flL x m l':=by
 induction l with
 |nil=>rw[List.nil_append,flL,List.nil_append]
 |cons a l ih=>rw[List.cons_append,flL,flL,ih,List.append_assoc]
theorem fl_s {x:Lr} {m:Ms} {l:List Cmd} {k:Nat} (h:k<l.length):flL x m (l.take (k+1))=flL x m (l.take k)++flX x m l[k]:=by
 rw[List.take_succ_eq_append_getElem h,flL_app];simp[flL]
mutual
theorem flX_len (x:Lr) (m:Ms):∀z:Cmd,(flX x m z).length≤csz z
 | .mk k tx t th el=>by
  have h1:=flL_len x m th
  have h2:=flL_len x m el
  rw[flX,csz]
  split
  ·split<;>omega
  ·simp only[List.length_singleton];omega
theorem flL_len (x:Lr) (m:Ms):∀l:List Cmd,(flL x m l).length≤cszL l
 |[]=>by rw[flL,cszL];simp
 |y::l=>by
  have h1:=flX_len x m y
  have h2:=flL_len x m l
  rw[flL,cszL,List.length_append]
  omega
end
theorem flL_take (x:Lr) (m:Ms) (l:List Cmd) (k:Nat):(flL x m (l.take k)).length≤(flL x m l).length:=by
 have:=congrArg (fun q=>(flL x m q).length) (List.take_append_drop k l)
 simp only[flL_app,List.length_append] at this
 omega
mutual
theorem flX_jc (x:Lr) (m:Ms):∀z:Cmd,z.Ok→JC z→∀y∈flX x m z,y.Ok∧JC y∧¬y.kind=2
 | .mk k tx t th el,ok,jc,y,hy=>by
  obtain⟨_,_,_,_,s5,s6⟩:=ok.inv
  obtain⟨_,_,_,_,_,ja,je⟩:=jc.inv
  rw[flX] at hy
  split at hy
  ·split at hy
   ·exact flL_jc x m th s5 ja y hy
   ·exact flL_jc x m el s6 je y hy
  ·rename_i hk
   obtain rfl:=List.mem_singleton.1 hy
   exact⟨ok,jc,hk⟩
theorem flL_jc (x:Lr) (m:Ms):∀l:List Cmd,(∀y∈l,y.Ok)→(∀y∈l,JC y)→∀y∈flL x m l,y.Ok∧JC y∧¬y.kind=2
 |[],_,_,y,hy=>by rw[flL] at hy;cases hy
 |z::l,ok,jc,y,hy=>by
  rw[flL] at hy
  rcases List.mem_append.1 hy with hy|hy
  ·exact flX_jc x m z (ok z (List.mem_cons_self ..)) (jc z (List.mem_cons_self ..)) y hy
  ·exact flL_jc x m l (fun y hy=>ok y (List.mem_cons_of_mem _ hy)) (fun y hy=>jc y (List.mem_cons_of_mem _ hy)) y hy
end
def foldS:List Cmd→Co→Co×Bool
 |[],c=>(c,true)
 |y::l,c=>if(doC c y).2=true then foldS l (doC c y).1 else doC c y
theorem foldS_app:∀(l l':List Cmd) (c:Co),foldS (l++l') c=if(foldS l c).2=true then foldS l' (foldS l c).1 else foldS l c
 |[],l',c=>by rw[List.nil_append,foldS,if_pos rfl]
 |y::l,l',c=>by
  rw[List.cons_append,foldS,foldS]
  by_cases h:(doC c y).2=true
  ·rw[if_pos h,if_pos h,foldS_app l l']
  ·rw[if_neg h,if_neg h,if_neg h]
mutual
theorem allX_fold (x:Lr) (m:Ms):∀(z:Cmd) (c:Co),allX x m z c=foldS (flX x m z) c
 | .mk k tx t th el,c=>by
  rw[allX,flX]
  split
  ·split
   ·exact allL_fold x m th c
   ·exact allL_fold x m el c
  ·rw[foldS,foldS]
   split
   ·rename_i h;exact Prod.ext rfl h
   ·rfl
theorem allL_fold (x:Lr) (m:Ms):∀(l:List Cmd) (c:Co),allL x m l c=foldS (flL x m l) c
 |[],c=>by rw[allL,flL,foldS]
 |y::l,c=>by rw[allL,flL,foldS_app,allX_fold x m y c,allL_fold x m l]
end
theorem foldS_t {l:List Cmd} {k:Nat} {c:Co} (h:k<l.length) (hc:(doC c l[k]).2=true):foldS (l.drop k) c=foldS (l.drop (k+1)) (doC c l[k]).1:=by rw[List.drop_eq_getElem_cons h,foldS,if_pos hc]
theorem foldS_f {l:List Cmd} {k:Nat} {c:Co} (h:k<l.length) (hc:¬(doC c l[k]).2=true):foldS (l.drop k) c=doC c l[k]:=by rw[List.drop_eq_getElem_cons h,foldS,if_neg hc]
theorem addC_ft {c:Co} {a:AcS} (h:c.ft=0) (hc:(addC c a).2=true):(addC c a).1.ft=0:=by
 by_cases h1:c.a.any (clashB a)=true
 ·rw[addC_1 h1] at hc;contradiction
 have h1:=eq_false_of_ne_true h1
 by_cases h2:c.a.any (sameA a)=true
 ·rw[addC_2 h1 h2];exact h
 have h2:=eq_false_of_ne_true h2
 by_cases h3:c.a.length=6
 ·rw[addC_3 h1 h2 h3] at hc;contradiction
 ·rw[addC_4 h1 h2 h3];exact h
theorem doC_ft {c:Co} {z:Cmd} (h:c.ft=0) (hc:(doC c z).2=true):(doC c z).1.ft=0:=by
 by_cases k1:z.kind=10
 ·rw[doC_10 k1];exact h
 by_cases k2:z.kind=8
 ·rw[doC_8 k2];exact h
 by_cases k3:z.kind=9
 ·rw[doC_9 k3];exact h
 by_cases k4:z.kind=1
 ·rw[doC_1 k4];exact h
 rw[doC_a k1 k2 k3 k4] at hc⊢
 exact addC_ft h hc
theorem doC_is {c:Co} (z:Cmd) (h:Is5 c.fl):Is5 (doC c z).1.fl:=by
 unfold doC addC
 repeat' split
 all_goals first|exact h|exact flR_is _|exact or_is (flR_is _) h
attribute [local go_sem] lrA msA cmdA cmdD tstD tstA List.map_cons List.map_nil List.cons_append List.nil_append List.length_map icast8 in
theorem flat_s (T:Tbl) (hL:LibT T) (x:Lr) (m:Ms) (jo:JOk x m) (hs:x.s.length≤9223372036854775807) (l:List Cmd) (hll:l.length*208≤140737488355328) (hsz:(flL x m l).length≤1048576) (okl:∀y∈l,y.Ok) (jcl:∀y∈l,JC y) (ihthn:∀y∈l,PC Tryz.prog T 40 [.d (.slc 12 (thnD y)),.agg (lrA x),.agg (msA m)] (.d (.slc 12 ((flL x m y.thn).map cmdD)))) (ihels:∀y∈l,PC Tryz.prog T 40 [.d (.slc 12 (elsD y)),.agg (lrA x),.agg (msA m)] (.d (.slc 12 ((flL x m y.els).map cmdD)))):PC Tryz.prog T 40 [.d (.slc 12 (l.map cmdD)),.agg (lrA x),.agg (msA m)] (.d (.slc 12 ((flL x m l).map cmdD))):=by
 refine⟨Tryz.call40,PCall.enterS Tryz.func40 rfl Tryz.ntmps40 rfl fun hb=>?_⟩
 simp only[go_sem,Tryz.results40]
 refine Zx ?_
 try simp only[go_sem]
 (repeat(with_reducible refine And.intro ZS ?_))
 intro b4
 first|intro fb4|have fb4:=True.intro
 try simp only[freshL] at fb4
 try simp only[go_sem,fb4]
 (repeat(with_reducible refine And.intro ZS ?_))
 intro b5
 first|intro fb5|have fb5:=True.intro
 try simp only[freshL] at fb5
 try simp only[go_sem,fb4,fb5]
 (repeat(with_reducible refine And.intro ZS ?_))
 refine Zp 89 ?_
 refine Zs (Zp 31 ?_)
 refine AWp.block (Zy ?_)
 refine AWp.ownNilS 7 12 rfl rfl (by decide) fun w0 fw0=>?_
 try simp only[freshT] at fw0
 refine Zy ?_
 refine Zl 7 24 (fun n lc hc=> ∃(k w:Nat),n=l.length-k∧EqS lc [(7,.own w 12 ((flL x m (l.take k)).map cmdD)),(8,.d (.int .i64 (k:Nat)))]∧EqS hc (⟨[(b5,⟨2,1,[msA m]⟩),(b4,⟨5,1,[lrA x]⟩)],[w]⟩)∧(k≤l.length)) ?_ ?_
 · refine ⟨_,0,w0,rfl,?_,ZE,ZI⟩
   · (try simp only[go_sem,fb4,fb5,fw0])<;>first|exact⟨rfl⟩|(constructor;simp[flL];done)
 rintro _ _ _ ⟨k,w,rfl,⟨rfl⟩,⟨rfl⟩,h1⟩
 refine Zy ?_
 refine Zs (Zp 287 ?_)
 refine Zc (fun hc0=>?_) fun hc0=>?_
 ·
  have hlt:k<l.length:=by omega
  have hki:(k:Int)<(l.length:Int):=by omega
  have okk:=okl _ (List.getElem_mem hlt)
  have jk:=jcl _ (List.getElem_mem hlt)
  obtain⟨s1,s2,s3,s4,s5,s6⟩:=okk.inv
  have hq:=flL_take x m l (k+1)
  rw[fl_s hlt,List.length_append] at hq
  have zf1:=fun d0_=>map_getD cmdD l k d0_ hlt
  refine Zk ?_
  refine Zs (AWp.block (Zp 2079 ?_))
  refine Zc (fun hc1=>?_) fun hc1=>?_
  ·
   have ex:= @flX_o x m (l[k]) (by first|exact hc1|omega)
   rw[ex,List.length_singleton] at hq
   refine Zq fun K_ k_=>?_
   try simp only[go_sem,fb4,fb5,fw0,zf1,hki]
   (repeat(with_reducible refine And.intro ZS ?_))
   refine DW.app rfl rfl rfl rfl (show slI Tryz.prog 22=some (65,12,192) by simp only[go_sem]) rfl rfl (by simp only[go_sem,fb4,fb5,fw0,zf1,hki]) (by first|exact .inl rfl|exact .inr rfl) (by(try simp only[go_sem,List.length_map,List.length_append,List.length_cons,List.length_nil]);first|done|omega) (by(try simp only[go_sem,List.length_map,List.length_append,List.length_cons,List.length_nil]);first|done|omega) fun t1 ft1=>?_
   try simp only[freshT] at ft1
   try simp only[go_sem,fb4,fb5,fw0,zf1,hki,ft1]
   (repeat(with_reducible refine And.intro ZS ?_))
   refine k_ _ _ (blkQ_n (thenQ_n ?_))
   refine Zm 31 ?_
   refine Zr (thenQ_n ?_)
   refine Ze 7 24 [] [] [b5,b4] [t1] (.e ⟨_,ZM,k+1,t1,rfl,?_,ZE,ZN⟩)
   · (try simp only[go_sem,fb4,fb5,fw0,zf1,hki,ft1])<;>first|exact⟨rfl⟩|(constructor;first|(rw[fl_s hlt,ex,List.map_append];done)|(rw[fl_s hlt,ex,List.map_append];rfl)|(rw[fl_s hlt,ex,List.map_append];simp[cmdD,tstD];done))
  have hk2:(l[k]).kind=2:=by first|exact hc1|omega
  refine Zd true [0,1,2,3,4,5,6,7] ?_
  try simp only[go_sem,fb4,fb5,fw0,zf1,hki]
  (repeat(with_reducible refine And.intro ZS ?_))
  refine DW.pcr rfl rfl rfl rfl (told_p T hL x m jo hs (l[k]).test s2 (jk.inv.2.2.2.2.1 hk2)) rfl rfl ?_
  try simp only[go_sem,fb4,fb5,fw0,zf1,hki]
  (repeat(with_reducible refine And.intro ZS ?_))
  refine Zm 8223 ?_
  refine Zc (fun hc2=>?_) fun hc2=>?_
  ·
   have ex:=flX_t hk2 hc2
   rw[ex] at hq
   refine Zt true [0,1,2,3,4,5,6,7,8,9,10] fun K_ k_=>?_
   try simp only[go_sem,fb4,fb5,fw0,zf1,hki]
   (repeat(with_reducible refine And.intro ZS ?_))
   refine DW.pcr rfl rfl rfl rfl (ihthn _ (List.getElem_mem hlt)) rfl rfl ?_
   try simp only[go_sem,fb4,fb5,fw0,zf1,hki]
   (repeat(with_reducible refine And.intro ZS ?_))
   refine DW.app rfl rfl rfl rfl (show slI Tryz.prog 22=some (65,12,192) by simp only[go_sem]) rfl rfl (by simp only[go_sem,fb4,fb5,fw0,zf1,hki]) (by first|exact .inl rfl|exact .inr rfl) (by(try simp only[go_sem,List.length_map,List.length_append,List.length_cons,List.length_nil]);first|done|omega) (by(try simp only[go_sem,List.length_map,List.length_append,List.length_cons,List.length_nil]);first|done|omega) fun t2 ft2=>?_
   try simp only[freshT] at ft2
   try simp only[go_sem,fb4,fb5,fw0,zf1,hki,ft2]
   (repeat(with_reducible refine And.intro ZS ?_))
   refine k_ _ _ (blkQ_n (thenQ_n ?_))
   refine Zm 31 ?_
   refine Zr (thenQ_n ?_)
   refine Ze 7 24 [] [] [b5,b4] [t2] (.e ⟨_,ZM,k+1,t2,rfl,?_,ZE,ZN⟩)
   · (try simp only[go_sem,fb4,fb5,fw0,zf1,hki,ft2])<;>first|exact⟨rfl⟩|(constructor;first|(rw[fl_s hlt,ex,List.map_append];done)|(rw[fl_s hlt,ex,List.map_append];rfl)|(rw[fl_s hlt,ex,List.map_append];simp[cmdD,tstD];done))
  have ex:=flX_f (x:=x) (m:=m) hk2 (by first|exact hc2|simp[hc2])
  rw[ex] at hq
  refine Zt true [0,1,2,3,4,5,6,7,8,9,10] fun K_ k_=>?_
  try simp only[go_sem,fb4,fb5,fw0,zf1,hki]
  (repeat(with_reducible refine And.intro ZS ?_))
  refine DW.pcr rfl rfl rfl rfl (ihels _ (List.getElem_mem hlt)) rfl rfl ?_
  try simp only[go_sem,fb4,fb5,fw0,zf1,hki]
  (repeat(with_reducible refine And.intro ZS ?_))
  refine DW.app rfl rfl rfl rfl (show slI Tryz.prog 22=some (65,12,192) by simp only[go_sem]) rfl rfl (by simp only[go_sem,fb4,fb5,fw0,zf1,hki]) (by first|exact .inl rfl|exact .inr rfl) (by(try simp only[go_sem,List.length_map,List.length_append,List.length_cons,List.length_nil]);first|done|omega) (by(try simp only[go_sem,List.length_map,List.length_append,List.length_cons,List.length_nil]);first|done|omega) fun t3 ft3=>?_
  try simp only[freshT] at ft3
  try simp only[go_sem,fb4,fb5,fw0,zf1,hki,ft3]
  (repeat(with_reducible refine And.intro ZS ?_))
  refine k_ _ _ (blkQ_n (thenQ_n ?_))
  refine Zm 31 ?_
  refine Zr (thenQ_n ?_)
  refine Ze 7 24 [] [] [b5,b4] [t3] (.e ⟨_,ZM,k+1,t3,rfl,?_,ZE,ZN⟩)
  · (try simp only[go_sem,fb4,fb5,fw0,zf1,hki,ft3])<;>first|exact⟨rfl⟩|(constructor;first|(rw[fl_s hlt,ex,List.map_append];done)|(rw[fl_s hlt,ex,List.map_append];rfl)|(rw[fl_s hlt,ex,List.map_append];simp[cmdD,tstD];done))
 have htk:l.take k=l:=List.take_of_length_le (by omega)
 rw[htk]
 refine AWp.exit (thenQ_e (thenQ_e (blkQ_e (thenQ_n ?_))))
 refine Zm 8 ?_
 refine Zp 1 ?_
 refine AWp.ret ?_
 try simp only[go_sem,fb4,fb5,fw0]
 skip
end
section
def lrM (x:Lr):List (Tx×Tx)×Tx×Int:=ltrM x.a1 x.a2 x.c1 x.c2 x.s
def lrMs (x:Lr):Ms:=⟨(lrM x).1,(lrM x).2.1⟩
theorem ltr_ok {x:Lr} (h:(lrM x).2.2=0):JOk x (lrMs x):=by
 by_cases h1:adrE x.a1 x.a2=0
 ·by_cases h2:adrE x.c1 x.c2=0
  ·have e:lrM x=((msgV x.s).1,(msgV x.s).2.1,(msgV x.s).2.2.2):=ltr_3 h1 h2
   exact⟨h1,h2,by rw[lrMs,e];exact msgV_ok x.s,by rw[lrMs,e];exact msgV_len x.s⟩
  ·have e:lrM x=([],[],adrE x.c1 x.c2):=ltr_2 h1 h2
   rw[e] at h
   exact absurd h h2
 ·have e:lrM x=([],[],adrE x.a1 x.a2):=ltr_1 h1
  rw[e] at h
  exact absurd h h1
structure LrOk (x:Lr):Prop where
 h:LtrOk x.a1 x.a2 x.c1 x.c2
 hs:x.s.length≤9223372036854775807
end
section
theorem AWp.nilC {P:Program} {T:Tbl} {Q:AQ} {sl:List AV} {code:Code} {w:Nat} {R:List (Nat×Ob)} {L:List Nat} (H:AWp P T code Q sl ⟨crO w 0 0 ⟨[],0,false,0⟩ R,L⟩):AWp P T code Q sl ⟨(w,⟨4,1,[[.nils,.d (.int .i64 0),.d (.bool false),.d (.int .i64 0)]]⟩)::R,L⟩:=by
 refine AWp.nilCell (b:=w) (i:=0) (j:=0) (k:=3) (ob:=⟨4,1,[[.nils,.d (.int .i64 0),.d (.bool false),.d (.int .i64 0)]]⟩) (r:=[.nils,.d (.int .i64 0),.d (.bool false),.d (.int .i64 0)]) (by simp[getO]) rfl rfl ?_
 simpa[crO,mA_nil,mO_nil,setO] using H
theorem acs_full3 (X:List AcS):∀r∈acsD X,r.length=3:=fun r hr=>by
 obtain⟨o,_,rfl⟩:=List.mem_map.1 hr
 rfl
theorem AWp.iceC {P:Program} {T:Tbl} {Q:AQ} {sl:List AV} {code:Code} {w bb cc:Nat} {c:Co} {F:List (Nat×Ob)} {L:List Nat} (hc:cc=0→c.a=[]) (H:AWp P T code Q sl ⟨(w,⟨4,1,[[.d (.slc 3 (acsD c.a)),.d (.int .i64 c.fl),.d (.bool c.ak),.d (.int .i64 c.ft)]]⟩)::F,L⟩):AWp P T code Q sl ⟨crO w bb cc c F,L⟩:=by
 have hp:(crO w bb cc c F).Perm (mO bb 3 cc (dRows (acsD c.a)) ((w,⟨4,1,[[mA bb 3 cc c.a.length,.d (.int .i64 c.fl),.d (.bool c.ak),.d (.int .i64 c.ft)]]⟩)::F)):=by
  unfold crO mO
  split
  ·exact .refl _
  ·exact List.Perm.swap ..
 refine AWp.pm hp ?_
 exact AWp.iceH (P:=P) (T:=T) (Q:=Q) (sl:=sl) (code:=code) (b:=bb) (b':=w) (i:=0) (j:=0) (k:=3) (c:=cc) (rows:=acsD c.a) (L:=L) (ob:=⟨4,1,[[mA bb 3 cc c.a.length,.d (.int .i64 c.fl),.d (.bool c.ak),.d (.int .i64 c.ft)]]⟩) (r:=[mA bb 3 cc c.a.length,.d (.int .i64 c.fl),.d (.bool c.ak),.d (.int .i64 c.ft)]) (F:=(w,⟨4,1,[[mA bb 3 cc c.a.length,.d (.int .i64 c.fl),.d (.bool c.ak),.d (.int .i64 c.ft)]]⟩)::F) (by simp[getO]) rfl (by rw[acsD_len];rfl) (fun h=>by rw[hc h];rfl) (by decide) (acs_full3 c.a) (by simpa[setO] using H)
theorem req_jc:∀(l:List Cmd) (ks:List Tx),reqE ks l=0→∀y∈l,y.kind=1∨∃ks,cmdE ks y=0
 |[],_,_,y,hy=>by cases hy
 | c::l,ks,h,y,hy=>by
  rw[reqE] at h
  split at h
  ·rename_i hk
   split at h
   ·rcases List.mem_cons.1 hy with rfl|hy
    ·exact .inl hk
    ·exact req_jc l _ h y hy
   ·contradiction
  ·exact .inr ⟨ks,cmdEL_0 h y hy⟩
theorem jc_of {l:List Cmd} (h:ruleE l=0) (rd:chkE l=0→∀x∈l,x.Rd):∀y∈l,JC y:=by
 have hc:chkE l=0:=by
  rw[ruleE] at h
  split at h
  ·omega
  ·omega
 have hf:cFL l 0=0:=by
  have hc:=hc
  rw[chkE] at hc
  split at hc
  ·assumption
  ·contradiction
 rw[ruleE,if_neg (by simp[hc])] at h
 intro y hy
 rcases req_jc l [] h y hy with h1|⟨ks,h1⟩
 ·exact JC.of [] y (rd hc y hy) 0 (cFL_mem _ _ hf y hy) (.inl h1)
 ·exact JC.of ks y (rd hc y hy) 0 (cFL_mem _ _ hf y hy) (.inr h1)
def co0:Co:=⟨[],0,false,0⟩
noncomputable def judR (l:List Cmd) (x:Lr):Co×Int:=if¬ruleE l=0 then(co0,ruleE l) else if¬(lrM x).2.2=0 then(co0,(lrM x).2.2) else((allL x (lrMs x) l co0).1,0)
theorem judR_1 {l:List Cmd} {x:Lr} (h:¬ruleE l=0):judR l x=(co0,ruleE l):=if_pos h
theorem judR_2 {l:List Cmd} {x:Lr} (h:ruleE l=0) (h2:¬(lrM x).2.2=0):judR l x=(co0,(lrM x).2.2):=by rw[judR,if_neg (fun h9=>h9 h),if_pos h2]
theorem judR_0 {l:List Cmd} {x:Lr} (h:ruleE l=0) (h2:(lrM x).2.2=0):judR l x=((allL x (lrMs x) l co0).1,0):=by rw[judR,if_neg (fun h9=>h9 h),if_neg (fun h9=>h9 h2)]
attribute [local go_sem] lrA msA icast8 in
theorem Judge_c (T:Tbl) (hL:LibT T) (hF:T 2=flagT.map D.str) (hE:T 0=extT.map D.str) (tb:Tabs T) (l:List Cmd) (x:Lr) (zz:Szd l) (xo:LrOk x):PC Tryz.prog T 17 [.d (.slc 12 (l.map cmdD)),.agg (lrA x)] (.tup [.agg (coA (judR l x).1),.d (.int .i64 (judR l x).2)]):=by
 refine⟨Tryz.call17,PCall.enterS Tryz.func17 rfl Tryz.ntmps17 rfl fun hb=>?_⟩
 have hJ:PC Tryz.prog T 34 [.agg (lrA x)] (.tup [.agg (msA (lrMs x)),.d (.int .i64 (lrM x).2.2)]):=by
   have:=JCheck_c T hL x.a1 x.a2 x.c1 x.c2 x.s xo.h
   exact this
 simp only[go_sem,Tryz.results17]
 refine Zx ?_
 try simp only[go_sem]
 (repeat(with_reducible refine And.intro ZS ?_))
 intro b3
 first|intro fb3|have fb3:=True.intro
 try simp only[freshL] at fb3
 try simp only[go_sem,fb3]
 (repeat(with_reducible refine And.intro ZS ?_))
 intro b4
 first|intro fb4|have fb4:=True.intro
 try simp only[freshL] at fb4
 try simp only[go_sem,fb3,fb4]
 (repeat(with_reducible refine And.intro ZS ?_))
 refine Zs (Z1 45 (jCheck_c T hL hF hE tb l zz.hll zz.ok zz.hl zz.rd) ?_)
 refine Zp 47 ?_
 refine Zc (fun hc0=>?_) fun hc0=>?_
 ·
  refine Zp 12 ?_
  refine AWp.ret ?_
  try simp only[go_sem,fb3,fb4]
  rw[judR_1 hc0];simp[LeA,LeL,LeD,coA,co0,acsD]
 refine Zk ?_
 refine Zx ?_
 try simp only[go_sem,fb3,fb4]
 (repeat(with_reducible refine And.intro ZS ?_))
 refine DW.pcr rfl rfl rfl rfl (hJ) rfl rfl ?_
 try simp only[go_sem,fb3,fb4]
 (repeat(with_reducible refine And.intro ZS ?_))
 intro b7
 first|intro fb7|have fb7:=True.intro
 try simp only[freshL] at fb7
 try simp only[go_sem,fb3,fb4,fb7]
 (repeat(with_reducible refine And.intro ZS ?_))
 refine Zm 55 ?_
 refine Zs (Zp 95 ?_)
 refine Zc (fun hc1=>?_) fun hc1=>?_
 ·
  refine Zp 12 ?_
  refine AWp.ret ?_
  try simp only[go_sem,fb3,fb4,fb7]
  rw[judR_2 (by omega) hc1];simp[LeA,LeL,LeD,coA,co0,acsD]
 have hz1:ruleE l=0:=by omega
 have hz2:(lrM x).2.2=0:=by omega
 refine Zk ?_
 refine Zx ?_
 try simp only[go_sem,fb3,fb4,fb7]
 (repeat(with_reducible refine And.intro ZS ?_))
 intro w
 first|intro fw|have fw:=True.intro
 try simp only[freshL] at fw
 try simp only[go_sem,fb3,fb4,fb7,fw]
 (repeat(with_reducible refine And.intro ZS ?_))
 refine Zm 47 ?_
 refine Zy ?_
 refine AWp.nilC ?_
 refine AWp.pm (cr_out [_,_,_] w 0 0 _ []) ?_
 simp only[List.cons_append,List.nil_append]
 refine Zx ?_
 try simp only[go_sem,fb3,fb4,fb7,fw]
 (repeat(with_reducible refine And.intro ZS ?_))
 refine DW.acl rfl rfl rfl rfl (LeH.pm (cr_in [_,_,_] ..)) (by first|rfl|(simp only[go_sem,fb3,fb4,fb7,fw];done)|(simp only[go_sem,fb3,fb4,fb7,fw];rfl)) (jdall_c T hL hF x (lrMs x) (ltr_ok hz2) xo.hs w l 0 0 co0 _ _ (fun _=>rfl) (by simp[co0]) zz.hll zz.ok (jc_of hz1 zz.rd)) ?_
 rintro _ _ ⟨BB1,CC2,hCC2,rfl,rfl⟩
 try simp only[go_sem,fb3,fb4,fb7,fw]
 (repeat(with_reducible refine And.intro ZS ?_))
 refine Zm 20 ?_
 refine Zy ?_
 refine AWp.iceC hCC2 ?_
 refine Zp 3 ?_
 refine AWp.ret ?_
 try simp only[go_sem,fb3,fb4,fb7,fw]
 rw[judR_0 hz1 hz2];simp[LeA,LeL,LeD,coA,co0,acsD]
end
section
theorem AWp.wkJ {P:Program} {T:Tbl} {c:Code} {Q:AQ} {sl:List AV} {b k cc:Nat} {rows rows':List (List AV)} {F:List (Nat×Ob)} {L:List Nat} (hr:LeRows rows rows') (H:AWp P T c Q sl ⟨(b,⟨k,cc,rows'⟩)::F,L⟩):AWp P T c Q sl ⟨(b,⟨k,cc,rows⟩)::F,L⟩:=by
 refine AWp.leH (h':=⟨(b,⟨k,cc,rows'⟩)::F,L⟩) (fun T G w S=>⟨S.below,S.glob,S.frz,S.fin,fun p hp=>?_,S.nd,S.liv,S.tdis,S.todis,S.lnd⟩) H
 rcases List.mem_cons.1 hp with rfl|h9
 ·exact ObR.le (o:=⟨k,cc,rows⟩) (o':=⟨k,cc,rows'⟩) rfl rfl hr (S.obj (b,⟨k,cc,rows⟩) (List.mem_cons_self ..))
 ·exact S.obj p (List.mem_cons_of_mem _ h9)
theorem flat_c (T:Tbl) (hL:LibT T) (x:Lr) (m:Ms) (jo:JOk x m) (hs:x.s.length≤9223372036854775807):∀(l:List Cmd),l.length*208≤140737488355328→cszL l≤1048576→(∀y∈l,y.Ok)→(∀y∈l,JC y)→PC Tryz.prog T 40 [.d (.slc 12 (l.map cmdD)),.agg (lrA x),.agg (msA m)] (.d (.slc 12 ((flL x m l).map cmdD))):=by
 have H:∀z:Cmd,csz z≤1048576→z.Ok→JC z→PC Tryz.prog T 40 [.d (.slc 12 (thnD z)),.agg (lrA x),.agg (msA m)] (.d (.slc 12 ((flL x m z.thn).map cmdD)))∧PC Tryz.prog T 40 [.d (.slc 12 (elsD z)),.agg (lrA x),.agg (msA m)] (.d (.slc 12 ((flL x m z.els).map cmdD))):=fun z=>by
  induction z using Cmd.ind with
  | h z i1 i2=>
   intro hz ok jc
   rw[csz_eq] at hz
   obtain⟨_,_,s3,s4,s5,s6⟩:=ok.inv
   obtain⟨_,_,_,_,_,ja,je⟩:=jc.inv
   have h1:=flL_len x m z.thn
   have h2:=flL_len x m z.els
   refine⟨?_,?_⟩
   ·rw[thnD_eq]
    exact flat_s T hL x m jo hs z.thn s3 (by omega) s5 ja (fun y hy=>(i1 y hy (by have:=csz_mem hy;omega) (s5 y hy) (ja y hy)).1) (fun y hy=>(i1 y hy (by have:=csz_mem hy;omega) (s5 y hy) (ja y hy)).2)
   ·rw[elsD_eq]
    exact flat_s T hL x m jo hs z.els s4 (by omega) s6 je (fun y hy=>(i2 y hy (by have:=csz_mem hy;omega) (s6 y hy) (je y hy)).1) (fun y hy=>(i2 y hy (by have:=csz_mem hy;omega) (s6 y hy) (je y hy)).2)
 intro l hll hz ok jc
 have h1:=flL_len x m l
 exact flat_s T hL x m jo hs l hll (by omega) ok jc (fun y hy=>(H y (by have:=csz_mem hy;omega) (ok y hy) (jc y hy)).1) (fun y hy=>(H y (by have:=csz_mem hy;omega) (ok y hy) (jc y hy)).2)
theorem judR_f {l:List Cmd} {x:Lr} (h:ruleE l=0) (h2:(lrM x).2.2=0):judR l x=((foldS (flL x (lrMs x) l) co0).1,0):=by rw[judR_0 h h2,allL_fold]
theorem co0_is:Is5 co0.fl:=⟨false,false,false,false,false,rfl⟩
attribute [local go_sem] lrA msA coA icast8 List.length_map in
theorem JudgedBy_c (T:Tbl) (hL:LibT T) (l:List Cmd) (x:Lr) (hz:cszL l≤1048576) (zz:Szd l) (xo:LrOk x):PC Tryz.prog T 18 [.d (.slc 12 (l.map cmdD)),.agg (lrA x)] (.tup [.agg (coA (judR l x).1),.d (.int .i64 (judR l x).2)]):=by
 refine⟨Tryz.call18,PCall.enterS Tryz.func18 rfl Tryz.ntmps18 rfl fun hb=>?_⟩
 have hJ:PC Tryz.prog T 36 [.agg (lrA x)] (.tup [.agg (msA (lrMs x)),.d (.int .i64 (lrM x).2.2)]):=by
   have:=LetterOf_c T hL x.a1 x.a2 x.c1 x.c2 x.s xo.h
   exact this
 simp only[go_sem,Tryz.results18]
 refine Zx ?_
 try simp only[go_sem]
 (repeat(with_reducible refine And.intro ZS ?_))
 intro b3
 first|intro fb3|have fb3:=True.intro
 try simp only[freshL] at fb3
 try simp only[go_sem,fb3]
 (repeat(with_reducible refine And.intro ZS ?_))
 intro b4
 first|intro fb4|have fb4:=True.intro
 try simp only[freshL] at fb4
 try simp only[go_sem,fb3,fb4]
 (repeat(with_reducible refine And.intro ZS ?_))
 refine Z1 45 (scriptAllowed_c T hL l zz.hll zz.ok zz.hl zz.rd zz.hx) ?_
 refine Zs (Zp 47 ?_)
 refine Zc (fun hc0=>?_) fun hc0=>?_
 ·
  refine Zp 12 ?_
  refine AWp.ret ?_
  try simp only[go_sem,fb3,fb4]
  rw[judR_1 hc0];simp[LeA,LeL,LeD,coA,co0,acsD]
 refine Zk ?_
 refine Zx ?_
 try simp only[go_sem,fb3,fb4]
 (repeat(with_reducible refine And.intro ZS ?_))
 refine DW.pcr rfl rfl rfl rfl (hJ) rfl rfl ?_
 try simp only[go_sem,fb3,fb4]
 (repeat(with_reducible refine And.intro ZS ?_))
 intro b7
 first|intro fb7|have fb7:=True.intro
 try simp only[freshL] at fb7
 try simp only[go_sem,fb3,fb4,fb7]
 (repeat(with_reducible refine And.intro ZS ?_))
 refine Zm 31 ?_
 refine Zs (Zp 95 ?_)
 refine Zc (fun hc1=>?_) fun hc1=>?_
 ·
  refine Zp 12 ?_
  refine AWp.ret ?_
  try simp only[go_sem,fb3,fb4,fb7]
  rw[judR_2 (by omega) hc1];simp[LeA,LeL,LeD,coA,co0,acsD]
 have hz1:ruleE l=0:=by omega
 have hz2:(lrM x).2.2=0:=by omega
 have hfj:=flL_jc x (lrMs x) l zz.ok (jc_of hz1 zz.rd)
 have hfb:=flL_len x (lrMs x) l
 refine Zk ?_
 refine Zx ?_
 try simp only[go_sem,fb3,fb4,fb7]
 (repeat(with_reducible refine And.intro ZS ?_))
 intro b8
 first|intro fb8|have fb8:=True.intro
 try simp only[freshL] at fb8
 try simp only[go_sem,fb3,fb4,fb7,fb8]
 (repeat(with_reducible refine And.intro ZS ?_))
 refine Z1 100 (flat_c T hL x (lrMs x) (ltr_ok hz2) xo.hs l zz.hll hz zz.ok (jc_of hz1 zz.rd)) ?_
 refine Zs (Zy ?_)
 refine AWp.wkJ (rows':=[[.d (.slc 3 (acsD co0.a)),.d (.int .i64 co0.fl),.d (.bool co0.ak),.d (.int .i64 co0.ft)]]) (by simp[LeRows,LeL,LeA,LeD,acsD,co0,AV.one]) ?_
 refine Zp 15 ?_
 refine AWp.block (Zy ?_)
 refine Zl 7 8 (fun n lc hc=> ∃(k:Nat) (Y:Co),n=(flL x (lrMs x) l).length-k∧EqS lc [(10,.d (.int .i64 (k:Nat)))]∧EqS hc (⟨[(b8,⟨4,1,[[.d (.slc 3 (acsD Y.a)),.d (.int .i64 Y.fl),.d (.bool Y.ak),.d (.int .i64 Y.ft)]]⟩),(b7,⟨2,1,[msA (lrMs x)]⟩),(b4,⟨4,1,[[.nils,.d (.int .i64 0),.d (.bool false),.d (.int .i64 0)]]⟩),(b3,⟨5,1,[lrA x]⟩)],[]⟩)∧(k≤(flL x (lrMs x) l).length)∧(foldS (flL x (lrMs x) l) co0=foldS ((flL x (lrMs x) l).drop k) Y)∧(Y.ft=0)∧(Is5 Y.fl)∧(Y.a.length≤6)) ?_ ?_
 · refine ⟨_,0,co0,rfl,ZE,ZE,?_,?_,?_,?_,?_⟩
   all_goals(first|omega|rfl|exact co0_is|(simp[co0];done))
 rintro _ _ _ ⟨k,Y,rfl,⟨rfl⟩,⟨rfl⟩,m1,m2,m3,m4,m5⟩
 refine Zy ?_
 refine Zs (Zp 143 ?_)
 refine Zc (fun hc2=>?_) fun hc2=>?_
 ·
  have hlt:k<(flL x (lrMs x) l).length:=by omega
  have hki:(k:Int)<((flL x (lrMs x) l).length:Int):=by omega
  obtain⟨okk,jk,hk2⟩:=hfj _ (List.getElem_mem hlt)
  have zf1:=fun d0_=>map_getD cmdD (flL x (lrMs x) l) k d0_ hlt
  refine Zk ?_
  refine Zs (AWp.block (AWp.trees true (.seg 1 (.seg 2 (.seg 3 (.many (.alt 0 (.many (.alt 4 (.seg 5 (.seg 6 (.seg 7 (.seg 8 (.seg 9 (.seg 10 (.seg 11 .done))))))) (.alt 9 (.seg 4 (.seg 5 (.seg 6 (.seg 7 (.seg 8 (.seg 10 (.seg 11 .done))))))) .nil))) (.alt 4 (.many (.alt 0 (.seg 5 (.seg 6 (.seg 7 (.seg 8 (.seg 9 (.seg 10 (.seg 11 .done))))))) (.alt 9 (.seg 0 (.seg 5 (.seg 6 (.seg 7 (.seg 8 (.seg 10 (.seg 11 .done))))))) .nil))) (.alt 9 (.seg 0 (.seg 4 (.seg 5 (.seg 6 (.seg 7 (.seg 8 (.seg 10 (.seg 11 .done)))))))) .nil))))))) rfl (by kernel_rfl) fun K_ hK_=>?_))
  try simp only[go_sem,fb3,fb4,fb7,fb8,zf1,hki]
  (repeat(with_reducible refine And.intro ZS ?_))
  refine⟨?_,?_,?_⟩
  ·
   try simp only[go_sem,fb3,fb4,fb7,fb8,zf1,hki]
   refine⟨?_,?_⟩
   ·
    try simp only[go_sem,fb3,fb4,fb7,fb8,zf1,hki]
    refine DW.pcr rfl rfl rfl rfl (on_c T hL Y ((flL x (lrMs x) l)[k]) okk jk hk2 m3 m4 m5) rfl rfl ?_
    try simp only[go_sem,fb3,fb4,fb7,fb8,zf1,hki]
    (repeat(with_reducible refine And.intro ZS ?_))
    intro b11
    first|intro fb11|have fb11:=True.intro
    try simp only[freshL] at fb11
    try simp only[go_sem,fb3,fb4,fb7,fb8,zf1,hki,fb11]
    (repeat(with_reducible refine And.intro ZS ?_))
    refine hK_ _ _ ?_
    refine Zm 63 ?_
    refine Zp 47 ?_
    refine Zp 79 ?_
    refine Zc (fun hc3=>?_) fun hc3=>?_
    ·
     have e2:foldS (flL x (lrMs x) l) co0=doC Y ((flL x (lrMs x) l)[k]):=by rw[m2];exact foldS_f hlt (by simpa using hc3)
     refine AWp.exit (blkQ_d (by decide) (thenQ_e (thenQ_e (blkQ_e (thenQ_n ?_)))))
     refine Zp 3 ?_
     refine AWp.ret ?_
     try simp only[go_sem,fb3,fb4,fb7,fb8,zf1,hki,fb11]
     rw[judR_f hz1 hz2,e2];simp[LeA,LeL,LeD,coA,m3]
    have hok:(doC Y ((flL x (lrMs x) l)[k])).2=true:=by simpa using hc3
    have e2:foldS (flL x (lrMs x) l) co0=foldS ((flL x (lrMs x) l).drop (k+1)) (doC Y ((flL x (lrMs x) l)[k])).1:=by rw[m2];exact foldS_t hlt hok
    refine AWp.skip (blkQ_n (thenQ_n ?_))
    refine Zr (thenQ_n ?_)
    refine Ze 7 8 [b11] [] [b8,b7,b4,b3] [] (.e ⟨_,ZM,k+1,(doC Y ((flL x (lrMs x) l)[k])).1,rfl,ZE,ZE,?_,?_,?_,?_,?_⟩)
    all_goals first|omega|exact e2|exact doC_ft m3 hok|exact doC_is _ m4|exact doC_le m5 _
   ·
    try simp only[go_sem,fb3,fb4,fb7,fb8,zf1,hki]
    intro b11
    first|intro fb11|have fb11:=True.intro
    try simp only[freshL] at fb11
    try simp only[go_sem,fb3,fb4,fb7,fb8,zf1,hki,fb11]
    (repeat(with_reducible refine And.intro ZS ?_))
    refine DW.pcr rfl rfl rfl rfl (on_c T hL Y ((flL x (lrMs x) l)[k]) okk jk hk2 m3 m4 m5) rfl rfl ?_
    try simp only[go_sem,fb3,fb4,fb7,fb8,zf1,hki,fb11]
    (repeat(with_reducible refine And.intro ZS ?_))
    refine hK_ _ _ ?_
    refine Zm 63 ?_
    refine Zp 47 ?_
    refine Zp 79 ?_
    refine Zc (fun hc3=>?_) fun hc3=>?_
    ·
     have e2:foldS (flL x (lrMs x) l) co0=doC Y ((flL x (lrMs x) l)[k]):=by rw[m2];exact foldS_f hlt (by simpa using hc3)
     refine AWp.exit (blkQ_d (by decide) (thenQ_e (thenQ_e (blkQ_e (thenQ_n ?_)))))
     refine Zp 3 ?_
     refine AWp.ret ?_
     try simp only[go_sem,fb3,fb4,fb7,fb8,zf1,hki,fb11]
     rw[judR_f hz1 hz2,e2];simp[LeA,LeL,LeD,coA,m3]
    have hok:(doC Y ((flL x (lrMs x) l)[k])).2=true:=by simpa using hc3
    have e2:foldS (flL x (lrMs x) l) co0=foldS ((flL x (lrMs x) l).drop (k+1)) (doC Y ((flL x (lrMs x) l)[k])).1:=by rw[m2];exact foldS_t hlt hok
    refine AWp.skip (blkQ_n (thenQ_n ?_))
    refine Zr (thenQ_n ?_)
    refine Ze 7 8 [b11] [] [b8,b7,b4,b3] [] (.e ⟨_,ZM,k+1,(doC Y ((flL x (lrMs x) l)[k])).1,rfl,ZE,ZE,?_,?_,?_,?_,?_⟩)
    all_goals first|omega|exact e2|exact doC_ft m3 hok|exact doC_is _ m4|exact doC_le m5 _
  ·
   try simp only[go_sem,fb3,fb4,fb7,fb8,zf1,hki]
   refine⟨?_,?_⟩
   ·
    try simp only[go_sem,fb3,fb4,fb7,fb8,zf1,hki]
    refine DW.pcr rfl rfl rfl rfl (on_c T hL Y ((flL x (lrMs x) l)[k]) okk jk hk2 m3 m4 m5) rfl rfl ?_
    try simp only[go_sem,fb3,fb4,fb7,fb8,zf1,hki]
    (repeat(with_reducible refine And.intro ZS ?_))
    intro b11
    first|intro fb11|have fb11:=True.intro
    try simp only[freshL] at fb11
    try simp only[go_sem,fb3,fb4,fb7,fb8,zf1,hki,fb11]
    (repeat(with_reducible refine And.intro ZS ?_))
    refine hK_ _ _ ?_
    refine Zm 63 ?_
    refine Zp 47 ?_
    refine Zp 79 ?_
    refine Zc (fun hc3=>?_) fun hc3=>?_
    ·
     have e2:foldS (flL x (lrMs x) l) co0=doC Y ((flL x (lrMs x) l)[k]):=by rw[m2];exact foldS_f hlt (by simpa using hc3)
     refine AWp.exit (blkQ_d (by decide) (thenQ_e (thenQ_e (blkQ_e (thenQ_n ?_)))))
     refine Zp 3 ?_
     refine AWp.ret ?_
     try simp only[go_sem,fb3,fb4,fb7,fb8,zf1,hki,fb11]
     rw[judR_f hz1 hz2,e2];simp[LeA,LeL,LeD,coA,m3]
    have hok:(doC Y ((flL x (lrMs x) l)[k])).2=true:=by simpa using hc3
    have e2:foldS (flL x (lrMs x) l) co0=foldS ((flL x (lrMs x) l).drop (k+1)) (doC Y ((flL x (lrMs x) l)[k])).1:=by rw[m2];exact foldS_t hlt hok
    refine AWp.skip (blkQ_n (thenQ_n ?_))
    refine Zr (thenQ_n ?_)
    refine Ze 7 8 [b11] [] [b8,b7,b4,b3] [] (.e ⟨_,ZM,k+1,(doC Y ((flL x (lrMs x) l)[k])).1,rfl,ZE,ZE,?_,?_,?_,?_,?_⟩)
    all_goals first|omega|exact e2|exact doC_ft m3 hok|exact doC_is _ m4|exact doC_le m5 _
   ·
    try simp only[go_sem,fb3,fb4,fb7,fb8,zf1,hki]
    intro b11
    first|intro fb11|have fb11:=True.intro
    try simp only[freshL] at fb11
    try simp only[go_sem,fb3,fb4,fb7,fb8,zf1,hki,fb11]
    (repeat(with_reducible refine And.intro ZS ?_))
    refine DW.pcr rfl rfl rfl rfl (on_c T hL Y ((flL x (lrMs x) l)[k]) okk jk hk2 m3 m4 m5) rfl rfl ?_
    try simp only[go_sem,fb3,fb4,fb7,fb8,zf1,hki,fb11]
    (repeat(with_reducible refine And.intro ZS ?_))
    refine hK_ _ _ ?_
    refine Zm 63 ?_
    refine Zp 47 ?_
    refine Zp 79 ?_
    refine Zc (fun hc3=>?_) fun hc3=>?_
    ·
     have e2:foldS (flL x (lrMs x) l) co0=doC Y ((flL x (lrMs x) l)[k]):=by rw[m2];exact foldS_f hlt (by simpa using hc3)
     refine AWp.exit (blkQ_d (by decide) (thenQ_e (thenQ_e (blkQ_e (thenQ_n ?_)))))
     refine Zp 3 ?_
     refine AWp.ret ?_
     try simp only[go_sem,fb3,fb4,fb7,fb8,zf1,hki,fb11]
     rw[judR_f hz1 hz2,e2];simp[LeA,LeL,LeD,coA,m3]
    have hok:(doC Y ((flL x (lrMs x) l)[k])).2=true:=by simpa using hc3
    have e2:foldS (flL x (lrMs x) l) co0=foldS ((flL x (lrMs x) l).drop (k+1)) (doC Y ((flL x (lrMs x) l)[k])).1:=by rw[m2];exact foldS_t hlt hok
    refine AWp.skip (blkQ_n (thenQ_n ?_))
    refine Zr (thenQ_n ?_)
    refine Ze 7 8 [b11] [] [b8,b7,b4,b3] [] (.e ⟨_,ZM,k+1,(doC Y ((flL x (lrMs x) l)[k])).1,rfl,ZE,ZE,?_,?_,?_,?_,?_⟩)
    all_goals first|omega|exact e2|exact doC_ft m3 hok|exact doC_is _ m4|exact doC_le m5 _
  ·
   try simp only[go_sem,fb3,fb4,fb7,fb8,zf1,hki]
   intro b11
   first|intro fb11|have fb11:=True.intro
   try simp only[freshL] at fb11
   try simp only[go_sem,fb3,fb4,fb7,fb8,zf1,hki,fb11]
   (repeat(with_reducible refine And.intro ZS ?_))
   refine DW.pcr rfl rfl rfl rfl (on_c T hL Y ((flL x (lrMs x) l)[k]) okk jk hk2 m3 m4 m5) rfl rfl ?_
   try simp only[go_sem,fb3,fb4,fb7,fb8,zf1,hki,fb11]
   (repeat(with_reducible refine And.intro ZS ?_))
   refine hK_ _ _ ?_
   refine Zm 63 ?_
   refine Zp 47 ?_
   refine Zp 79 ?_
   refine Zc (fun hc3=>?_) fun hc3=>?_
   ·
    have e2:foldS (flL x (lrMs x) l) co0=doC Y ((flL x (lrMs x) l)[k]):=by rw[m2];exact foldS_f hlt (by simpa using hc3)
    refine AWp.exit (blkQ_d (by decide) (thenQ_e (thenQ_e (blkQ_e (thenQ_n ?_)))))
    refine Zp 3 ?_
    refine AWp.ret ?_
    try simp only[go_sem,fb3,fb4,fb7,fb8,zf1,hki,fb11]
    rw[judR_f hz1 hz2,e2];simp[LeA,LeL,LeD,coA,m3]
   have hok:(doC Y ((flL x (lrMs x) l)[k])).2=true:=by simpa using hc3
   have e2:foldS (flL x (lrMs x) l) co0=foldS ((flL x (lrMs x) l).drop (k+1)) (doC Y ((flL x (lrMs x) l)[k])).1:=by rw[m2];exact foldS_t hlt hok
   refine AWp.skip (blkQ_n (thenQ_n ?_))
   refine Zr (thenQ_n ?_)
   refine Ze 7 8 [b11] [] [b8,b7,b4,b3] [] (.e ⟨_,ZM,k+1,(doC Y ((flL x (lrMs x) l)[k])).1,rfl,ZE,ZE,?_,?_,?_,?_,?_⟩)
   all_goals first|omega|exact e2|exact doC_ft m3 hok|exact doC_is _ m4|exact doC_le m5 _
 have e2:foldS (flL x (lrMs x) l) co0=(Y,true):=by rw[m2,List.drop_eq_nil_of_le (by omega),foldS]
 refine AWp.exit (thenQ_e (thenQ_e (blkQ_e (thenQ_n ?_))))
 refine Zp 3 ?_
 refine AWp.ret ?_
 try simp only[go_sem,fb3,fb4,fb7,fb8]
 rw[judR_f hz1 hz2,e2];simp[LeA,LeL,LeD,coA,m3]
end
section
attribute [local go_sem] icast8 acsD_len decide_true Bool.not_true in
theorem sameActs_c (T:Tbl) (l:List AcS) (hl:l.length≤1048576):PC Tryz.prog T 42 [.d (.slc 3 (acsD l)),.d (.slc 3 (acsD l))] (.d (.bool true)):=by
 refine⟨Tryz.call42,PCall.enterS Tryz.func42 rfl Tryz.ntmps42 rfl fun hb=>?_⟩
 simp only[go_sem,Tryz.results42]
 refine Zp 3 ?_
 refine Zs (Zp 67 ?_)
 refine Zc (fun hc0=>?_) fun hc0=>?_
 ·
  first|omega|exact absurd hc0 (by simp)|(simp at hc0)
 refine Zk ?_
 refine Zs (Zp 7 ?_)
 refine AWp.block (Zy ?_)
 refine Zl 3 4 (fun n lc hc=> ∃(k:Nat),n=l.length-k∧EqS lc [(5,.d (.int .i64 (k:Nat)))]∧EqS hc (⟨[],[]⟩)∧(k≤l.length)) ⟨_,0,rfl,ZE,ZE,ZI⟩ ?_
 rintro _ _ _ ⟨k,rfl,⟨rfl⟩,⟨rfl⟩,h1⟩
 refine Zy ?_
 refine Zs (Zp 71 ?_)
 refine Zc (fun hc1=>?_) fun hc1=>?_
 ·
  have hlt:k<l.length:=by omega
  have hki:(k:Int)<(l.length:Int):=by omega
  have zf1:=fun d0_=>acs_get l k d0_ hlt
  refine Zk ?_
  refine Zs (AWp.block (Zd true [0,1,2,3,4,5,6,7,8] ?_))
  try simp only[go_sem,beq_self_eq_true,zf1,hki]
  (repeat(with_reducible refine And.intro ZS ?_))
  refine Zm 4103 ?_
  refine Zc (fun hc2=>?_) fun hc2=>?_
  ·
   first|omega|exact absurd hc2 (by simp)|(simp at hc2)
  refine AWp.skip (blkQ_n (thenQ_n ?_))
  refine Zr (thenQ_n ?_)
  refine Zf 3 4 (.e ⟨_,ZM,k+1,rfl,ZE,ZE,ZN⟩)
 refine AWp.exit (thenQ_e (thenQ_e (blkQ_e (thenQ_n ?_))))
 refine Zm 0 ?_
 refine Zp 1 ?_
 refine AWp.ret ?_
 try simp only[go_sem,beq_self_eq_true]
 try simp[LeA,LeD]
attribute [local go_sem] coA decide_true in
theorem sameCourse_c (T:Tbl) (c:Co) (hl:c.a.length≤1048576):PC Tryz.prog T 19 [.agg (coA c),.agg (coA c)] (.d (.bool true)):=by
 refine⟨Tryz.call19,PCall.enterS Tryz.func19 rfl Tryz.ntmps19 rfl fun hb=>?_⟩
 simp only[go_sem,Tryz.results19]
 refine Zx ?_
 try simp only[go_sem,beq_self_eq_true]
 (repeat(with_reducible refine And.intro ZS ?_))
 intro b2
 first|intro fb2|have fb2:=True.intro
 try simp only[freshL] at fb2
 try simp only[go_sem,beq_self_eq_true,fb2]
 (repeat(with_reducible refine And.intro ZS ?_))
 intro b3
 first|intro fb3|have fb3:=True.intro
 try simp only[freshL] at fb3
 try simp only[go_sem,beq_self_eq_true,fb2,fb3]
 (repeat(with_reducible refine And.intro ZS ?_))
 refine Zx ?_
 try simp only[go_sem,beq_self_eq_true,fb2,fb3]
 (repeat(with_reducible refine And.intro ZS ?_))
 refine DW.pcgr rfl rfl rfl rfl rfl (fun hg=>sameActs_c T c.a hl) (fun hg=>by(try simp only[go_sem,beq_self_eq_true,fb2,fb3])<;>first|exact hg|(exfalso;simp at hg;done)|(simpa using hg)|grind) rfl rfl ?_
 try simp only[go_sem,beq_self_eq_true,fb2,fb3]
 (repeat(with_reducible refine And.intro ZS ?_))
 refine Zm 16 ?_
 refine AWp.ret ?_
 try simp only[go_sem,beq_self_eq_true,fb2,fb3]
 try simp[LeA,LeD]
theorem judR_le (l:List Cmd) (x:Lr):(judR l x).1.a.length≤1048576:=by
 unfold judR
 split
 ·simp[co0]
 split
 ·simp[co0]
 ·have:=allL_le x (lrMs x) l (c:=co0) (by simp[co0])
  dsimp only
  omega
attribute [local go_sem] lrA coA decide_true in
theorem judgeJudges_c (T:Tbl) (hL:LibT T) (hF:T 2=flagT.map D.str) (hE:T 0=extT.map D.str) (tb:Tabs T) (l:List Cmd) (x:Lr) (hz:cszL l≤1048576) (xo:LrOk x):PC Tryz.prog T 5 [.d (.slc 12 (l.map cmdD)),.agg (lrA x)] (.d (.bool true)):=by
 refine⟨Tryz.call5,PCall.enterS Tryz.func5 rfl Tryz.ntmps5 rfl fun hb=>?_⟩
 have zz:=Szd.of hz
 simp only[go_sem,Tryz.results5]
 refine Zx ?_
 try simp only[go_sem,beq_self_eq_true]
 (repeat(with_reducible refine And.intro ZS ?_))
 intro b3
 first|intro fb3|have fb3:=True.intro
 try simp only[freshL] at fb3
 try simp only[go_sem,beq_self_eq_true,fb3]
 (repeat(with_reducible refine And.intro ZS ?_))
 refine Z1 21 (commands_c T l zz.hll zz.ok) ?_
 refine Zx ?_
 try simp only[go_sem,beq_self_eq_true,fb3]
 (repeat(with_reducible refine And.intro ZS ?_))
 refine DW.pcr rfl rfl rfl rfl (Judge_c T hL hF hE tb l x zz xo) rfl rfl ?_
 try simp only[go_sem,beq_self_eq_true,fb3]
 (repeat(with_reducible refine And.intro ZS ?_))
 intro b6
 first|intro fb6|have fb6:=True.intro
 try simp only[freshL] at fb6
 try simp only[go_sem,beq_self_eq_true,fb3,fb6]
 (repeat(with_reducible refine And.intro ZS ?_))
 refine Zm 31 ?_
 refine Zx ?_
 try simp only[go_sem,beq_self_eq_true,fb3,fb6]
 (repeat(with_reducible refine And.intro ZS ?_))
 refine DW.pcr rfl rfl rfl rfl (JudgedBy_c T hL l x hz zz xo) rfl rfl ?_
 try simp only[go_sem,beq_self_eq_true,fb3,fb6]
 (repeat(with_reducible refine And.intro ZS ?_))
 intro b8
 first|intro fb8|have fb8:=True.intro
 try simp only[freshL] at fb8
 try simp only[go_sem,beq_self_eq_true,fb3,fb6,fb8]
 (repeat(with_reducible refine And.intro ZS ?_))
 refine Zm 125 ?_
 refine Zx ?_
 try simp only[go_sem,beq_self_eq_true,fb3,fb6,fb8]
 (repeat(with_reducible refine And.intro ZS ?_))
 refine DW.pcgr rfl rfl rfl rfl rfl (fun hg=>sameCourse_c T (judR l x).1 (judR_le l x)) (fun hg=>by(try simp only[go_sem,beq_self_eq_true,fb3,fb6,fb8])<;>first|exact hg|(exfalso;simp at hg;done)|(simpa using hg)|grind) rfl rfl ?_
 try simp only[go_sem,beq_self_eq_true,fb3,fb6,fb8]
 (repeat(with_reducible refine And.intro ZS ?_))
 refine DW.pcgr rfl rfl rfl rfl rfl (fun hg=>sameCommands_c T l zz.hll zz.ok) (fun hg=>by(try simp only[go_sem,beq_self_eq_true,fb3,fb6,fb8])<;>first|exact hg|(exfalso;simp at hg;done)|(simpa using hg)|grind) rfl rfl ?_
 try simp only[go_sem,beq_self_eq_true,fb3,fb6,fb8]
 (repeat(with_reducible refine And.intro ZS ?_))
 refine Zm 2 ?_
 refine AWp.ret ?_
 try simp only[go_sem,beq_self_eq_true,fb3,fb6,fb8]
 try simp[LeA,LeD]
end
section
open Go.RowKit Go.ChangeShapes Go.WideShapes Go.ChangeAt
open Go.ChangeShapes Go.WideShapes Go.ChangeAt
set_option maxRecDepth 100000
theorem judgeJudges_run {H:Type} {enc:TypeId×Value→H} (W:World) (base:Nat) (v0 v1:Value) (d0:DataW H) (p0:List MemPlace) (d1:DataW H) (p1:List MemPlace)
  (k0:Value.okWide Tryz.prog W .any base 22 v0) (h0:DataW.Trod enc Tryz.prog W 0 (fun _=>true) true 22 v0 d0 p0)
  (k1:Value.okWide Tryz.prog W .any base 38 v1) (h1:DataW.Trod enc Tryz.prog W 0 (fun _=>true) true 38 v1 d1 p1) (t0:Tiny d0) (t1:Tiny d1)
  (hL:laidMetH Tryz.prog Rows.judgeJudgesRow.laid W) (hsh:W.ShapedOpen Tryz.prog):
  Calls Tryz.prog 5 #[v0,v1] W fun e W'=>e= .returned (.bool true)∧Below W.heap.size W W':=by
 obtain⟨a,n,c,rfl⟩:=okWide_slice Tryz.underlying22 k0
 obtain⟨cs,rfl,hsz⟩:=okWide_struct Tryz.underlying38 k1
 obtain⟨l,ht,hz⟩:=Dec.open_ dec_cmds h0 t0
 obtain⟨⟨⟨a1,a2⟩,⟨c1,c2⟩,s⟩,hx,hr⟩:=Dec.open_ dec_ltr h1 t1
 dsimp only at hr
 have hx:VDs (frzW W) [.str a1,.str a2,.str c1,.str c2,.str s] cs.toList:=hx
 obtain⟨q0,_⟩:=texts_of_laid (zs:=cmdWs) (g:=1) (name:= "postroom/script.commands") (by kernel_rfl) (by kernel_rfl) Tryz.underlying243 Tryz.underlying9 (by kernel_rfl) (by kernel_rfl) (List.mem_cons_of_mem _ (List.mem_cons_self ..)) (by kernel_rfl) hL
 obtain⟨q1,_⟩:=texts_of_laid (zs:=tstWs) (g:=4) (name:= "postroom/script.tests") (by kernel_rfl) (by kernel_rfl) Tryz.underlying243 Tryz.underlying9 (by kernel_rfl) (by kernel_rfl) (List.mem_cons_of_mem _ (List.mem_cons_of_mem _ (List.mem_cons_self ..))) (by kernel_rfl) hL
 obtain⟨q2,_⟩:=texts_of_laid (zs:=matWs) (g:=6) (name:= "postroom/script.matches") (by kernel_rfl) (by kernel_rfl) Tryz.underlying123 Tryz.underlying9 (by kernel_rfl) (by kernel_rfl) (List.mem_cons_of_mem _ (List.mem_cons_of_mem _ (List.mem_cons_of_mem _ (List.mem_cons_self ..)))) (by kernel_rfl) hL
 obtain⟨q3,_⟩:=texts_of_laid (zs:=parWs) (g:=5) (name:= "postroom/script.parts") (by kernel_rfl) (by kernel_rfl) Tryz.underlying123 Tryz.underlying9 (by kernel_rfl) (by kernel_rfl) (List.mem_cons_of_mem _ (List.mem_cons_of_mem _ (List.mem_cons_of_mem _ (List.mem_cons_of_mem _ (List.mem_cons_self ..))))) (by kernel_rfl) hL
 obtain⟨q4,_⟩:=texts_of_laid (zs:=extT) (g:=0) (name:= "postroom/rule.extensions") (by kernel_rfl) (by kernel_rfl) Tryz.underlying123 Tryz.underlying9 (by kernel_rfl) (by kernel_rfl) (List.mem_cons_of_mem _ (List.mem_cons_of_mem _ (List.mem_cons_of_mem _ (List.mem_cons_of_mem _ (List.mem_cons_of_mem _ (List.mem_cons_self ..)))))) (by kernel_rfl) hL
 obtain⟨q5,_⟩:=texts_of_laid (zs:=flagT) (g:=2) (name:= "postroom/rule.names") (by kernel_rfl) (by kernel_rfl) Tryz.underlying281 Tryz.underlying9 (by kernel_rfl) (by kernel_rfl) (List.mem_cons_of_mem _ (List.mem_cons_of_mem _ (List.mem_cons_of_mem _ (List.mem_cons_of_mem _ (List.mem_cons_of_mem _ (List.mem_cons_of_mem _ (List.mem_cons_self ..))))))) (by kernel_rfl) hL
 obtain⟨_,m,hm⟩:=Lib0.open_ hsh
 let tb:List (Nat×List D):=[(1,cmdWs.map D.str),(4,tstWs.map D.str),(6,matWs.map D.str),(5,parWs.map D.str),(0,extT.map D.str),(2,flagT.map D.str),(3,[.int .i64 m])]
 have hT:∀p∈tb,TabOk W p:=by
  intro p hp
  simp only[tb,List.mem_cons,List.not_mem_nil,or_false] at hp
  rcases hp with rfl|rfl|rfl|rfl|rfl|rfl|rfl
  ·exact .texts q0 (by decide)
  ·exact .texts q1 (by decide)
  ·exact .texts q2 (by decide)
  ·exact .texts q3 (by decide)
  ·exact .texts q4 (by decide)
  ·exact .texts q5 (by decide)
  ·exact .int hm
 refine law_calls (T:=tabT tb) (judgeJudges_c (tabT tb) ⟨m,rfl⟩ rfl rfl ⟨rfl,rfl,rfl,rfl⟩ l ⟨a1,a2,c1,c2,s⟩ hz ⟨⟨show a1.length≤_ by omega,show a2.length≤_ by omega,show c1.length≤_ by omega,show c2.length≤_ by omega⟩,show s.length≤_ by omega⟩) (tabT_ok hT) ⟨rfl,fun i x hx9=>?_⟩
 match i,hx9 with
 |0,hx9=>
  simp at hx9
  subst hx9
  exact⟨_,rfl,.d (cells_one ht rfl)⟩
 |1,hx9=>
  simp at hx9
  subst hx9
  exact⟨_,rfl,hx.agg (G:=gh0 W (frzW W))⟩
 |i+2,hx9=>simp at hx9
end
end Go.Proofs.YtidldcfpmehpiaaGreatDoor
