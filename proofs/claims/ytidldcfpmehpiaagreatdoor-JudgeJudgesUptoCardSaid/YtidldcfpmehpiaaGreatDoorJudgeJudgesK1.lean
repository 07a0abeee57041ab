/- Texts that the law JudgeJudges rests on, packed. -/
import Derived.Test.YtidldcfpmehpiaaGreatDoorGB
import Derived.Test.YtidldcfpmehpiaaGreatDoorJudgeJudgesK0
import Derived.Test.YtidldcfpmehpiaaGreatDoorGT
set_option linter.unusedSimpArgs false
set_option linter.unusedVariables false
set_option maxRecDepth 20000
set_option maxHeartbeats 4000000
namespace Go.Proofs.YtidldcfpmehpiaaGreatDoor
section
theorem jtest_c (T:Tbl) (bj t:Nat) (ks:List (List UInt8)) (tt:Tst) (ok:tt.Ok) (F:List (Nat×Ob)) (L:List Nat):AC Tryz.prog T 199 [.ptr bj 1 0 0,.agg (tstA tt)] ⟨(bj,⟨1,1,[[.mp t ks]]⟩)::F,t::L⟩ (fun x h=>x= .ret (.d (.int .i64 (tstE ks tt)))∧h=⟨(bj,⟨1,1,[[.mp t ks]]⟩)::F,t::L⟩):=by
 induction tt using Tst.ind generalizing F L with
 |h tt ih=>exact jtest_s T bj t ks tt ok (fun y hy F L=>ih y hy (ok.inv.2.2.2 y hy) F L) F L
def NotB {α:Type} (l:List α) (a:α) (k:Nat):Prop:=∀(j:Nat) (h:j<l.length),j<k→¬l[j]=a
theorem NotB.s {α:Type} {l:List α} {a:α} {k:Nat} (h:k<l.length) (H:NotB l a k) (hc:¬l[k]=a):NotB l a (k+1):=fun j hj hk=>by
 rcases Nat.lt_or_ge j k with h9|h9
 ·exact H j hj h9
 ·obtain rfl:j=k:=by omega
  exact hc
theorem NotB.e {α:Type} {l:List α} {a:α} {k:Nat} (H:NotB l a k) (h:l.length≤k):¬a∈l:=fun h9=>by
 obtain⟨i,h8,h7⟩:=List.mem_iff_getElem.1 h9
 exact H i h8 (by omega) h7
attribute [local go_sem] icast8 strD in
theorem required_c (T:Tbl) (ks:List (List UInt8)) (s:List UInt8) (hl:ks.length≤1048576):PC Tryz.prog T 120 [.d (.slc 1 (ks.map strD)),.d (.str s)] (.d (.int .i64 (needE ks s))):=by
 refine⟨Tryz.call120,PCall.enterS Tryz.func120 rfl Tryz.ntmps120 rfl fun hb=>?_⟩
 simp only[go_sem,Tryz.results120]
 refine Zp 3 ?_
 refine Zs (Zp 7 ?_)
 refine AWp.block (Zy ?_)
 refine Zl 3 4 (fun n lc hc=> ∃(k:Nat),n=ks.length-k∧EqS lc [(5,.d (.int .i64 (k:Nat)))]∧EqS hc (⟨[],[]⟩)∧(k≤ks.length)∧(NotB ks s k)) ?_ ?_
 · refine ⟨_,0,rfl,ZE,ZE,?_,?_⟩
   all_goals(first|omega|exact fun j h h9=>absurd h9 (by omega))
 rintro _ _ _ ⟨k,rfl,⟨rfl⟩,⟨rfl⟩,h1,h2⟩
 refine Zy ?_
 refine Zs (Zp 71 ?_)
 refine Zc (fun hc0=>?_) fun hc0=>?_
 ·
  have hlt:k<ks.length:=by omega
  have hki:(k:Int)<(ks.length:Int):=by omega
  have zf1:=fun d0_=>map_getD strD ks k d0_ hlt
  refine Zk ?_
  refine Zs (AWp.block (Zp 519 ?_))
  refine Zc (fun hc1=>?_) fun hc1=>?_
  ·
   refine Zp 4 ?_
   refine AWp.ret ?_
   simp only[go_sem]
   have hm:s∈ks:=hc1▸List.getElem_mem hlt
   simp[needE,hm]
  refine AWp.skip (blkQ_n (thenQ_n ?_))
  refine Zr (thenQ_n ?_)
  refine Zf 3 4 (.e ⟨_,ZM,k+1,rfl,ZE,ZE,?_,?_⟩)
  · omega
  · exact h2.s hlt hc1
 refine AWp.exit (thenQ_e (thenQ_e (blkQ_e (thenQ_n ?_))))
 refine Zm 0 ?_
 refine Zp 1 ?_
 refine AWp.ret ?_
 simp only[go_sem]
 have hm:=h2.e (by omega)
 simp[needE,hm]
attribute [local go_sem] tstA icast8 decide_true strD tstD decide_false in
theorem tallow_s (T:Tbl) (ks:List (List UInt8)) (hkn:ks.length≤1048576) (tt:Tst) (ok:tt.Ok) (ih:∀y∈tt.kids,PC Tryz.prog T 119 [.d (.slc 1 (ks.map strD)),.agg (tstA y)] (.d (.int .i64 (tstE ks y)))):PC Tryz.prog T 119 [.d (.slc 1 (ks.map strD)),.agg (tstA tt)] (.d (.int .i64 (tstE ks tt))):=by
 refine⟨Tryz.call119,PCall.enterS Tryz.func119 rfl Tryz.ntmps119 rfl fun hb=>?_⟩
 obtain⟨s1,s2,s3,s4⟩:=ok.inv
 simp only[go_sem,Tryz.results119]
 refine Zx (Zy ?_)
 intro b3
 first|intro fb3|have fb3:=True.intro
 try simp only[freshL] at fb3
 refine Zs (Zp 69 ?_)
 refine Zc (fun hc0=>?_) fun hc0=>?_
 ·
  refine Zx (Zy ?_)
  refine ZP (required_c T ks _ hkn) ?_
  refine Zy ?_
  refine Zs (Zp 15 ?_)
  refine AWp.block (Zy ?_)
  refine Zl 3 12 (fun n lc hc=> ∃(k:Nat) (e:Int),n=tt.names.length-k∧EqS lc [(5,.d (.int .i64 e)),(6,.d (.int .i64 (k:Nat)))]∧EqS hc (⟨[(b3,⟨8,1,[[.d (.int .i64 tt.kind),.d (.int .i64 tt.mat),.d (.int .i64 tt.part),.d (.slc 1 (tt.names.map strD)),.d (.slc 1 (tt.keys.map strD)),.d (.bool tt.over),.d (.int .i64 tt.limit),.d (.slc 8 (kidsD tt))]]⟩)],[]⟩)∧(k≤tt.names.length)∧((e=0∧envT∈ks∧namesE tt.names=namesE (tt.names.drop k))∨(e=8∧¬envT∈ks)∨(e=7∧envT∈ks∧¬namesE tt.names=0))) ?_ ?_
  · refine ⟨_,0,needE ks envT,rfl,ZE,ZE,?_,?_⟩
    all_goals(first|omega|(by_cases h9:envT∈ks;exact .inl ⟨if_pos h9,h9,rfl⟩;exact .inr (.inl ⟨if_neg h9,h9⟩)))
  rintro _ _ _ ⟨k,e,rfl,⟨rfl⟩,⟨rfl⟩,m1,m2⟩
  refine Zy ?_
  refine Zs ?_
  rcases Nat.lt_or_ge k tt.names.length with hkl|hkl
  ·
   have hkL:((k:Int)<(tt.names.length:Int))=True:=by simp;omega
   refine Zp 4111 ?_
   refine Zc (fun hc1=>?_) fun hc1=>?_
   ·
    have hlt:=hkl
    have hki:(k:Int)<(tt.names.length:Int):=by omega
    have he0:e=0:=by first|exact hc1|exact hc1.2
    have m3:envT∈ks∧namesE tt.names=namesE (tt.names.drop k):=by rcases m2 with⟨_,y2,y3⟩|⟨y1,_⟩|⟨y1,_⟩;exact⟨y2,y3⟩;omega;omega
    have zf1:=fun d0_=>map_getD strD tt.names k d0_ hlt
    refine Zk ?_
    refine Zs (AWp.block (Zp 262159 ?_))
    refine Zc (fun hc2=>?_) fun hc2=>?_
    ·
     refine Zr (blkQ_n (thenQ_n ?_))
     refine Zr (thenQ_n ?_)
     refine Ze 3 12 [] [] [b3] [] (.e ⟨_,ZM,k+1,7,rfl,ZE,ZE,?_,?_⟩)
     · omega
     · exact .inr (.inr ⟨rfl,m3.1,by rw[m3.2,namesE_t hlt hc2];decide⟩)
    have hbad:¬(¬tt.names[k]=fromT∧¬tt.names[k]=toT):=by rintro⟨h8,h9⟩;first|exact hc2 ⟨h8,h9⟩|exact hc2 h8 h9|exact hc2.elim (fun h7=>h8 h7) (fun h7=>h9 h7)|(simp[h8,h9] at hc2)
    refine AWp.skip (blkQ_n (thenQ_n ?_))
    refine Zr (thenQ_n ?_)
    refine Ze 3 12 [] [] [b3] [] (.e ⟨_,ZM,k+1,e,rfl,ZE,ZE,?_,?_⟩)
    · omega
    · exact .inl ⟨he0,m3.1,by rw[m3.2,namesE_f hlt hbad]⟩
   refine AWp.exit (thenQ_e (thenQ_e (blkQ_e (thenQ_n ?_))))
   refine Zp 71 ?_
   refine Zc (fun hc3=>?_) fun hc3=>?_
   ·
    refine Zp 4 ?_
    refine AWp.ret ?_
    simp only[go_sem]
    have hv:tstE ks tt=e:=by
      rcases m2 with⟨y1,_⟩|⟨y1,y2⟩|⟨y1,y2,y3⟩
      · exact absurd y1 hc3
      · rw [tstE_eq,if_pos ⟨hc0,y2⟩,y1]
      · rw [tstE_eq,if_neg (fun h9=>h9.2 y2),if_pos ⟨hc0,y3⟩,y1]
    rw[hv];try simp[LeA,LeD]
   have m4:envT∈ks∧namesE tt.names=namesE (tt.names.drop k):=by rcases m2 with⟨_,y2,y3⟩|⟨y1,_⟩|⟨y1,_⟩;exact⟨y2,y3⟩;omega;omega
   have he:=m4.1
   have hn:namesE tt.names=0:=by rw[m4.2,namesE_e (by omega)]
   clear m1 m2
   refine Zk ?_
   refine Zs (Zp 11 ?_)
   refine AWp.block (Zy ?_)
   refine Zl 3 4 (fun n lc hc=> ∃(q:Nat),n=tt.names.length-q∧EqS lc [(7,.d (.int .i64 (q:Nat)))]∧EqS hc (⟨[(b3,⟨8,1,[[.d (.int .i64 tt.kind),.d (.int .i64 tt.mat),.d (.int .i64 tt.part),.d (.slc 1 (tt.names.map strD)),.d (.slc 1 (tt.keys.map strD)),.d (.bool tt.over),.d (.int .i64 tt.limit),.d (.slc 8 (kidsD tt))]]⟩)],[]⟩)∧(q≤tt.names.length)∧(sizeE tt.names=sizeE (tt.names.drop q))) ?_ ?_
   · refine ⟨_,0,rfl,ZE,ZE,?_,?_⟩
     all_goals(first|omega|rfl)
   rintro _ _ _ ⟨q,rfl,⟨rfl⟩,⟨rfl⟩,m1,m2⟩
   refine Zy ?_
   refine Zs (Zp 135 ?_)
   refine Zc (fun hc4=>?_) fun hc4=>?_
   ·
    have hlt:q<tt.names.length:=by omega
    have hqi:(q:Int)<(tt.names.length:Int):=by omega
    have zf2:=fun d0_=>map_getD strD tt.names q d0_ hlt
    refine Zk ?_
    refine Zs (AWp.block (Zp 1031 ?_))
    refine Zc (fun hc5=>?_) fun hc5=>?_
    ·
     have hsz:¬sizeE tt.names=0:=by rw[m2,sizeE_t hlt (by omega)];decide
     refine Zp 4 ?_
     refine AWp.ret ?_
     simp only[go_sem]
     rw[tstE_eq,if_neg (fun h9=>h9.2 he),if_neg (fun h9=>h9.2 hn),if_pos hsz];try simp[LeA,LeD]
    have hs:¬100<(tt.names[q]).length:=by omega
    refine AWp.skip (blkQ_n (thenQ_n ?_))
    refine Zr (thenQ_n ?_)
    refine Ze 3 4 [] [] [b3] [] (.e ⟨_,ZM,q+1,rfl,ZE,ZE,?_,?_⟩)
    · omega
    · rw [m2,sizeE_f hlt hs]
   have hs1:sizeE tt.names=0:=by rw[m2,sizeE_e (by omega)]
   clear m1 m2
   refine AWp.exit (thenQ_e (thenQ_e (blkQ_e (thenQ_n ?_))))
   refine Zs (Zp 11 ?_)
   refine AWp.block (Zy ?_)
   refine Zl 3 4 (fun n lc hc=> ∃(q:Nat),n=tt.keys.length-q∧EqS lc [(8,.d (.int .i64 (q:Nat)))]∧EqS hc (⟨[(b3,⟨8,1,[[.d (.int .i64 tt.kind),.d (.int .i64 tt.mat),.d (.int .i64 tt.part),.d (.slc 1 (tt.names.map strD)),.d (.slc 1 (tt.keys.map strD)),.d (.bool tt.over),.d (.int .i64 tt.limit),.d (.slc 8 (kidsD tt))]]⟩)],[]⟩)∧(q≤tt.keys.length)∧(sizeE tt.keys=sizeE (tt.keys.drop q))) ?_ ?_
   · refine ⟨_,0,rfl,ZE,ZE,?_,?_⟩
     all_goals(first|omega|rfl)
   rintro _ _ _ ⟨q,rfl,⟨rfl⟩,⟨rfl⟩,m1,m2⟩
   refine Zy ?_
   refine Zs (Zp 135 ?_)
   refine Zc (fun hc6=>?_) fun hc6=>?_
   ·
    have hlt:q<tt.keys.length:=by omega
    have hqi:(q:Int)<(tt.keys.length:Int):=by omega
    have zf3:=fun d0_=>map_getD strD tt.keys q d0_ hlt
    refine Zk ?_
    refine Zs (AWp.block (Zp 1031 ?_))
    refine Zc (fun hc7=>?_) fun hc7=>?_
    ·
     have hsz:¬sizeE tt.keys=0:=by rw[m2,sizeE_t hlt (by omega)];decide
     refine Zp 4 ?_
     refine AWp.ret ?_
     simp only[go_sem]
     rw[tstE_eq,if_neg (fun h9=>h9.2 he),if_neg (fun h9=>h9.2 hn),if_neg (fun h9=>h9 hs1),if_pos hsz];try simp[LeA,LeD]
    have hs:¬100<(tt.keys[q]).length:=by omega
    refine AWp.skip (blkQ_n (thenQ_n ?_))
    refine Zr (thenQ_n ?_)
    refine Ze 3 4 [] [] [b3] [] (.e ⟨_,ZM,q+1,rfl,ZE,ZE,?_,?_⟩)
    · omega
    · rw [m2,sizeE_f hlt hs]
   have hs2:sizeE tt.keys=0:=by rw[m2,sizeE_e (by omega)]
   clear m1 m2
   refine AWp.exit (thenQ_e (thenQ_e (blkQ_e (thenQ_n ?_))))
   refine Zs (Zp 11 ?_)
   refine AWp.block (Zy ?_)
   refine Zl 3 4 (fun n lc hc=> ∃(q:Nat),n=tt.kids.length-q∧EqS lc [(9,.d (.int .i64 (q:Nat)))]∧EqS hc (⟨[(b3,⟨8,1,[[.d (.int .i64 tt.kind),.d (.int .i64 tt.mat),.d (.int .i64 tt.part),.d (.slc 1 (tt.names.map strD)),.d (.slc 1 (tt.keys.map strD)),.d (.bool tt.over),.d (.int .i64 tt.limit),.d (.slc 8 (kidsD tt))]]⟩)],[]⟩)∧(q≤tt.kids.length)∧(tstEL ks tt.kids=tstEL ks (tt.kids.drop q))) ?_ ?_
   · refine ⟨_,0,rfl,ZE,ZE,?_,?_⟩
     all_goals(first|omega|rfl)
   rintro _ _ _ ⟨q,rfl,⟨rfl⟩,⟨rfl⟩,m3,m4⟩
   refine Zy ?_
   refine Zs (Zp 135 ?_)
   refine Zc (fun hc8=>?_) fun hc8=>?_
   ·
    have hlt:q<tt.kids.length:=by omega
    have hqi:(q:Int)<(tt.kids.length:Int):=by omega
    have zf4:=fun d0_=>kidsD_get tt q d0_ hlt
    refine Zk ?_
    refine Zs (AWp.block (Zx ?_))
    simp only[go_sem,zf4,hqi]
    refine ZP (ih _ (List.getElem_mem hlt)) ?_
    refine Zy ?_
    refine Zm 15 ?_
    refine Zp 47 ?_
    refine Zc (fun hc9=>?_) fun hc9=>?_
    ·
     refine Zp 4 ?_
     refine AWp.ret ?_
     simp only[go_sem]
     rw[tstE_eq ks tt,if_neg (fun h9=>h9.2 he),if_neg (fun h9=>h9.2 hn),if_neg (fun h9=>h9 hs1),if_neg (fun h9=>h9 hs2),m4,tstEL_t hlt hc9];try simp[LeA,LeD]
    have hz8:tstE ks (tt.kids[q])=0:=by omega
    refine AWp.skip (blkQ_n (thenQ_n ?_))
    refine Zr (thenQ_n ?_)
    refine Ze 3 4 [] [] [b3] [] (.e ⟨_,ZM,q+1,rfl,ZE,ZE,?_,?_⟩)
    · omega
    · rw [m4,tstEL_f hlt hz8]
   refine AWp.exit (thenQ_e (thenQ_e (blkQ_e (thenQ_n ?_))))
   refine Zm 0 ?_
   refine Zp 1 ?_
   refine AWp.ret ?_
   simp only[go_sem]
   rw[tstE_eq,if_neg (fun h9=>h9.2 he),if_neg (fun h9=>h9.2 hn),if_neg (fun h9=>h9 hs1),if_neg (fun h9=>h9 hs2),m4,tstEL_e (by omega)];try simp[LeA,LeD]
  have hkL:((k:Int)<(tt.names.length:Int))=False:=by simp;omega
  refine Zp 4111 ?_
  refine Zc (fun hc1=>?_) fun hc1=>?_
  ·
   exact absurd hc1 (by first|(simp;done)|omega|(simp[*];done))
  refine AWp.exit (thenQ_e (thenQ_e (blkQ_e (thenQ_n ?_))))
  refine Zp 71 ?_
  refine Zc (fun hc3=>?_) fun hc3=>?_
  ·
   refine Zp 4 ?_
   refine AWp.ret ?_
   simp only[go_sem]
   have hv:tstE ks tt=e:=by
     rcases m2 with⟨y1,_⟩|⟨y1,y2⟩|⟨y1,y2,y3⟩
     · exact absurd y1 hc3
     · rw [tstE_eq,if_pos ⟨hc0,y2⟩,y1]
     · rw [tstE_eq,if_neg (fun h9=>h9.2 y2),if_pos ⟨hc0,y3⟩,y1]
   rw[hv];try simp[LeA,LeD]
  have m4:envT∈ks∧namesE tt.names=namesE (tt.names.drop k):=by rcases m2 with⟨_,y2,y3⟩|⟨y1,_⟩|⟨y1,_⟩;exact⟨y2,y3⟩;omega;omega
  have he:=m4.1
  have hn:namesE tt.names=0:=by rw[m4.2,namesE_e (by omega)]
  clear m1 m2
  refine Zk ?_
  refine Zs (Zp 11 ?_)
  refine AWp.block (Zy ?_)
  refine Zl 3 4 (fun n lc hc=> ∃(q:Nat),n=tt.names.length-q∧EqS lc [(7,.d (.int .i64 (q:Nat)))]∧EqS hc (⟨[(b3,⟨8,1,[[.d (.int .i64 tt.kind),.d (.int .i64 tt.mat),.d (.int .i64 tt.part),.d (.slc 1 (tt.names.map strD)),.d (.slc 1 (tt.keys.map strD)),.d (.bool tt.over),.d (.int .i64 tt.limit),.d (.slc 8 (kidsD tt))]]⟩)],[]⟩)∧(q≤tt.names.length)∧(sizeE tt.names=sizeE (tt.names.drop q))) ?_ ?_
  · refine ⟨_,0,rfl,ZE,ZE,?_,?_⟩
    all_goals(first|omega|rfl)
  rintro _ _ _ ⟨q,rfl,⟨rfl⟩,⟨rfl⟩,m1,m2⟩
  refine Zy ?_
  refine Zs (Zp 135 ?_)
  refine Zc (fun hc4=>?_) fun hc4=>?_
  ·
   have hlt:q<tt.names.length:=by omega
   have hqi:(q:Int)<(tt.names.length:Int):=by omega
   have zf5:=fun d0_=>map_getD strD tt.names q d0_ hlt
   refine Zk ?_
   refine Zs (AWp.block (Zp 1031 ?_))
   refine Zc (fun hc5=>?_) fun hc5=>?_
   ·
    have hsz:¬sizeE tt.names=0:=by rw[m2,sizeE_t hlt (by omega)];decide
    refine Zp 4 ?_
    refine AWp.ret ?_
    simp only[go_sem]
    rw[tstE_eq,if_neg (fun h9=>h9.2 he),if_neg (fun h9=>h9.2 hn),if_pos hsz];try simp[LeA,LeD]
   have hs:¬100<(tt.names[q]).length:=by omega
   refine AWp.skip (blkQ_n (thenQ_n ?_))
   refine Zr (thenQ_n ?_)
   refine Ze 3 4 [] [] [b3] [] (.e ⟨_,ZM,q+1,rfl,ZE,ZE,?_,?_⟩)
   · omega
   · rw [m2,sizeE_f hlt hs]
  have hs1:sizeE tt.names=0:=by rw[m2,sizeE_e (by omega)]
  clear m1 m2
  refine AWp.exit (thenQ_e (thenQ_e (blkQ_e (thenQ_n ?_))))
  refine Zs (Zp 11 ?_)
  refine AWp.block (Zy ?_)
  refine Zl 3 4 (fun n lc hc=> ∃(q:Nat),n=tt.keys.length-q∧EqS lc [(8,.d (.int .i64 (q:Nat)))]∧EqS hc (⟨[(b3,⟨8,1,[[.d (.int .i64 tt.kind),.d (.int .i64 tt.mat),.d (.int .i64 tt.part),.d (.slc 1 (tt.names.map strD)),.d (.slc 1 (tt.keys.map strD)),.d (.bool tt.over),.d (.int .i64 tt.limit),.d (.slc 8 (kidsD tt))]]⟩)],[]⟩)∧(q≤tt.keys.length)∧(sizeE tt.keys=sizeE (tt.keys.drop q))) ?_ ?_
  · refine ⟨_,0,rfl,ZE,ZE,?_,?_⟩
    all_goals(first|omega|rfl)
  rintro _ _ _ ⟨q,rfl,⟨rfl⟩,⟨rfl⟩,m1,m2⟩
  refine Zy ?_
  refine Zs (Zp 135 ?_)
  refine Zc (fun hc6=>?_) fun hc6=>?_
  ·
   have hlt:q<tt.keys.length:=by omega
   have hqi:(q:Int)<(tt.keys.length:Int):=by omega
   have zf6:=fun d0_=>map_getD strD tt.keys q d0_ hlt
   refine Zk ?_
   refine Zs (AWp.block (Zp 1031 ?_))
   refine Zc (fun hc7=>?_) fun hc7=>?_
   ·
    have hsz:¬sizeE tt.keys=0:=by rw[m2,sizeE_t hlt (by omega)];decide
    refine Zp 4 ?_
    refine AWp.ret ?_
    simp only[go_sem]
    rw[tstE_eq,if_neg (fun h9=>h9.2 he),if_neg (fun h9=>h9.2 hn),if_neg (fun h9=>h9 hs1),if_pos hsz];try simp[LeA,LeD]
   have hs:¬100<(tt.keys[q]).length:=by omega
   refine AWp.skip (blkQ_n (thenQ_n ?_))
   refine Zr (thenQ_n ?_)
   refine Ze 3 4 [] [] [b3] [] (.e ⟨_,ZM,q+1,rfl,ZE,ZE,?_,?_⟩)
   · omega
   · rw [m2,sizeE_f hlt hs]
  have hs2:sizeE tt.keys=0:=by rw[m2,sizeE_e (by omega)]
  clear m1 m2
  refine AWp.exit (thenQ_e (thenQ_e (blkQ_e (thenQ_n ?_))))
  refine Zs (Zp 11 ?_)
  refine AWp.block (Zy ?_)
  refine Zl 3 4 (fun n lc hc=> ∃(q:Nat),n=tt.kids.length-q∧EqS lc [(9,.d (.int .i64 (q:Nat)))]∧EqS hc (⟨[(b3,⟨8,1,[[.d (.int .i64 tt.kind),.d (.int .i64 tt.mat),.d (.int .i64 tt.part),.d (.slc 1 (tt.names.map strD)),.d (.slc 1 (tt.keys.map strD)),.d (.bool tt.over),.d (.int .i64 tt.limit),.d (.slc 8 (kidsD tt))]]⟩)],[]⟩)∧(q≤tt.kids.length)∧(tstEL ks tt.kids=tstEL ks (tt.kids.drop q))) ?_ ?_
  · refine ⟨_,0,rfl,ZE,ZE,?_,?_⟩
    all_goals(first|omega|rfl)
  rintro _ _ _ ⟨q,rfl,⟨rfl⟩,⟨rfl⟩,m3,m4⟩
  refine Zy ?_
  refine Zs (Zp 135 ?_)
  refine Zc (fun hc8=>?_) fun hc8=>?_
  ·
   have hlt:q<tt.kids.length:=by omega
   have hqi:(q:Int)<(tt.kids.length:Int):=by omega
   have zf7:=fun d0_=>kidsD_get tt q d0_ hlt
   refine Zk ?_
   refine Zs (AWp.block (Zx ?_))
   simp only[go_sem,zf7,hqi]
   refine ZP (ih _ (List.getElem_mem hlt)) ?_
   refine Zy ?_
   refine Zm 15 ?_
   refine Zp 47 ?_
   refine Zc (fun hc9=>?_) fun hc9=>?_
   ·
    refine Zp 4 ?_
    refine AWp.ret ?_
    simp only[go_sem]
    rw[tstE_eq ks tt,if_neg (fun h9=>h9.2 he),if_neg (fun h9=>h9.2 hn),if_neg (fun h9=>h9 hs1),if_neg (fun h9=>h9 hs2),m4,tstEL_t hlt hc9];try simp[LeA,LeD]
   have hz8:tstE ks (tt.kids[q])=0:=by omega
   refine AWp.skip (blkQ_n (thenQ_n ?_))
   refine Zr (thenQ_n ?_)
   refine Ze 3 4 [] [] [b3] [] (.e ⟨_,ZM,q+1,rfl,ZE,ZE,?_,?_⟩)
   · omega
   · rw [m4,tstEL_f hlt hz8]
  refine AWp.exit (thenQ_e (thenQ_e (blkQ_e (thenQ_n ?_))))
  refine Zm 0 ?_
  refine Zp 1 ?_
  refine AWp.ret ?_
  simp only[go_sem]
  rw[tstE_eq,if_neg (fun h9=>h9.2 he),if_neg (fun h9=>h9.2 hn),if_neg (fun h9=>h9 hs1),if_neg (fun h9=>h9 hs2),m4,tstEL_e (by omega)];try simp[LeA,LeD]
 refine Zk ?_
 refine Zs (Zp 7 ?_)
 refine AWp.block (Zy ?_)
 refine Zl 3 4 (fun n lc hc=> ∃(q:Nat),n=tt.names.length-q∧EqS lc [(7,.d (.int .i64 (q:Nat)))]∧EqS hc (⟨[(b3,⟨8,1,[[.d (.int .i64 tt.kind),.d (.int .i64 tt.mat),.d (.int .i64 tt.part),.d (.slc 1 (tt.names.map strD)),.d (.slc 1 (tt.keys.map strD)),.d (.bool tt.over),.d (.int .i64 tt.limit),.d (.slc 8 (kidsD tt))]]⟩)],[]⟩)∧(q≤tt.names.length)∧(sizeE tt.names=sizeE (tt.names.drop q))) ?_ ?_
 · refine ⟨_,0,rfl,ZE,ZE,?_,?_⟩
   all_goals(first|omega|rfl)
 rintro _ _ _ ⟨q,rfl,⟨rfl⟩,⟨rfl⟩,m1,m2⟩
 refine Zy ?_
 refine Zs (Zp 135 ?_)
 refine Zc (fun hc4=>?_) fun hc4=>?_
 ·
  have hlt:q<tt.names.length:=by omega
  have hqi:(q:Int)<(tt.names.length:Int):=by omega
  have zf8:=fun d0_=>map_getD strD tt.names q d0_ hlt
  refine Zk ?_
  refine Zs (AWp.block (Zp 1031 ?_))
  refine Zc (fun hc5=>?_) fun hc5=>?_
  ·
   have hsz:¬sizeE tt.names=0:=by rw[m2,sizeE_t hlt (by omega)];decide
   refine Zp 4 ?_
   refine AWp.ret ?_
   simp only[go_sem]
   rw[tstE_eq,if_neg (fun h9=>hc0 h9.1),if_neg (fun h9=>hc0 h9.1),if_pos hsz];try simp[LeA,LeD]
  have hs:¬100<(tt.names[q]).length:=by omega
  refine AWp.skip (blkQ_n (thenQ_n ?_))
  refine Zr (thenQ_n ?_)
  refine Ze 3 4 [] [] [b3] [] (.e ⟨_,ZM,q+1,rfl,ZE,ZE,?_,?_⟩)
  · omega
  · rw [m2,sizeE_f hlt hs]
 have hs1:sizeE tt.names=0:=by rw[m2,sizeE_e (by omega)]
 clear m1 m2
 refine AWp.exit (thenQ_e (thenQ_e (blkQ_e (thenQ_n ?_))))
 refine Zs (Zp 11 ?_)
 refine AWp.block (Zy ?_)
 refine Zl 3 4 (fun n lc hc=> ∃(q:Nat),n=tt.keys.length-q∧EqS lc [(8,.d (.int .i64 (q:Nat)))]∧EqS hc (⟨[(b3,⟨8,1,[[.d (.int .i64 tt.kind),.d (.int .i64 tt.mat),.d (.int .i64 tt.part),.d (.slc 1 (tt.names.map strD)),.d (.slc 1 (tt.keys.map strD)),.d (.bool tt.over),.d (.int .i64 tt.limit),.d (.slc 8 (kidsD tt))]]⟩)],[]⟩)∧(q≤tt.keys.length)∧(sizeE tt.keys=sizeE (tt.keys.drop q))) ?_ ?_
 · refine ⟨_,0,rfl,ZE,ZE,?_,?_⟩
   all_goals(first|omega|rfl)
 rintro _ _ _ ⟨q,rfl,⟨rfl⟩,⟨rfl⟩,m1,m2⟩
 refine Zy ?_
 refine Zs (Zp 135 ?_)
 refine Zc (fun hc6=>?_) fun hc6=>?_
 ·
  have hlt:q<tt.keys.length:=by omega
  have hqi:(q:Int)<(tt.keys.length:Int):=by omega
  have zf9:=fun d0_=>map_getD strD tt.keys q d0_ hlt
  refine Zk ?_
  refine Zs (AWp.block (Zp 1031 ?_))
  refine Zc (fun hc7=>?_) fun hc7=>?_
  ·
   have hsz:¬sizeE tt.keys=0:=by rw[m2,sizeE_t hlt (by omega)];decide
   refine Zp 4 ?_
   refine AWp.ret ?_
   simp only[go_sem]
   rw[tstE_eq,if_neg (fun h9=>hc0 h9.1),if_neg (fun h9=>hc0 h9.1),if_neg (fun h9=>h9 hs1),if_pos hsz];try simp[LeA,LeD]
  have hs:¬100<(tt.keys[q]).length:=by omega
  refine AWp.skip (blkQ_n (thenQ_n ?_))
  refine Zr (thenQ_n ?_)
  refine Ze 3 4 [] [] [b3] [] (.e ⟨_,ZM,q+1,rfl,ZE,ZE,?_,?_⟩)
  · omega
  · rw [m2,sizeE_f hlt hs]
 have hs2:sizeE tt.keys=0:=by rw[m2,sizeE_e (by omega)]
 clear m1 m2
 refine AWp.exit (thenQ_e (thenQ_e (blkQ_e (thenQ_n ?_))))
 refine Zs (Zp 11 ?_)
 refine AWp.block (Zy ?_)
 refine Zl 3 4 (fun n lc hc=> ∃(q:Nat),n=tt.kids.length-q∧EqS lc [(9,.d (.int .i64 (q:Nat)))]∧EqS hc (⟨[(b3,⟨8,1,[[.d (.int .i64 tt.kind),.d (.int .i64 tt.mat),.d (.int .i64 tt.part),.d (.slc 1 (tt.names.map strD)),.d (.slc 1 (tt.keys.map strD)),.d (.bool tt.over),.d (.int .i64 tt.limit),.d (.slc 8 (kidsD tt))]]⟩)],[]⟩)∧(q≤tt.kids.length)∧(tstEL ks tt.kids=tstEL ks (tt.kids.drop q))) ?_ ?_
 · refine ⟨_,0,rfl,ZE,ZE,?_,?_⟩
   all_goals(first|omega|rfl)
 rintro _ _ _ ⟨q,rfl,⟨rfl⟩,⟨rfl⟩,m3,m4⟩
 refine Zy ?_
 refine Zs (Zp 135 ?_)
 refine Zc (fun hc8=>?_) fun hc8=>?_
 ·
  have hlt:q<tt.kids.length:=by omega
  have hqi:(q:Int)<(tt.kids.length:Int):=by omega
  have zf10:=fun d0_=>kidsD_get tt q d0_ hlt
  refine Zk ?_
  refine Zs (AWp.block (Zx ?_))
  simp only[go_sem,zf10,hqi]
  refine ZP (ih _ (List.getElem_mem hlt)) ?_
  refine Zy ?_
  refine Zm 15 ?_
  refine Zp 47 ?_
  refine Zc (fun hc9=>?_) fun hc9=>?_
  ·
   refine Zp 4 ?_
   refine AWp.ret ?_
   simp only[go_sem]
   rw[tstE_eq ks tt,if_neg (fun h9=>hc0 h9.1),if_neg (fun h9=>hc0 h9.1),if_neg (fun h9=>h9 hs1),if_neg (fun h9=>h9 hs2),m4,tstEL_t hlt hc9];try simp[LeA,LeD]
  have hz8:tstE ks (tt.kids[q])=0:=by omega
  refine AWp.skip (blkQ_n (thenQ_n ?_))
  refine Zr (thenQ_n ?_)
  refine Ze 3 4 [] [] [b3] [] (.e ⟨_,ZM,q+1,rfl,ZE,ZE,?_,?_⟩)
  · omega
  · rw [m4,tstEL_f hlt hz8]
 refine AWp.exit (thenQ_e (thenQ_e (blkQ_e (thenQ_n ?_))))
 refine Zm 0 ?_
 refine Zp 1 ?_
 refine AWp.ret ?_
 simp only[go_sem]
 rw[tstE_eq,if_neg (fun h9=>hc0 h9.1),if_neg (fun h9=>hc0 h9.1),if_neg (fun h9=>h9 hs1),if_neg (fun h9=>h9 hs2),m4,tstEL_e (by omega)];try simp[LeA,LeD]
theorem tallow_c (T:Tbl) (ks:List (List UInt8)) (hkn:ks.length≤1048576) (tt:Tst) (ok:tt.Ok):PC Tryz.prog T 119 [.d (.slc 1 (ks.map strD)),.agg (tstA tt)] (.d (.int .i64 (tstE ks tt))):=by
 induction tt using Tst.ind with
 |h tt ih=>exact tallow_s T ks hkn tt ok fun y hy=>ih y hy (ok.inv.2.2.2 y hy)
end
section
def ixG {α:Type} [DecidableEq α]:List α→α→Int
 |[],_=> -1
 |x::r,t=>if t=x then 0 else if ixG r t<0 then -1 else ixG r t+1
section
variable {α:Type} [DecidableEq α]
theorem ixG_ge:∀(l:List α) (t:α),-1≤ixG l t
 |[],_=>by simp[ixG]
 |x::r,t=>by have:=ixG_ge r t;unfold ixG;split;omega;split<;>omega
theorem ixG_mem:∀(l:List α) (t:α),0≤ixG l t↔t∈l
 |[],t=>by simp[ixG]
 | x::r,t=>by
  have h1:=ixG_mem r t
  have h2:=ixG_ge r t
  unfold ixG
  rw[List.mem_cons]
  split
  ·rename_i h;simp[h]
  ·rename_i h
   split
   ·rename_i h3;simp[h,←h1];omega
   ·rename_i h3;simp[h,←h1];omega
def ixQ (l:List α) (t:α) (k:Nat):Prop:=ixG l t=if ixG (l.drop k) t<0 then -1 else ixG (l.drop k) t+k
theorem ixQ_0 (l:List α) (t:α):ixQ l t 0:=by
 have:=ixG_ge l t
 unfold ixQ;rw[List.drop_zero];split<;>omega
theorem ixQ_t {l:List α} {t:α} {k:Nat} (h:k<l.length) (hR:ixQ l t k) (he:t=l[k]'h):ixG l t=k:=by
 unfold ixQ at hR
 rw[List.drop_eq_getElem_cons h,ixG,if_pos he] at hR
 rw[hR];simp
theorem ixQ_f {l:List α} {t:α} {k:Nat} (h:k<l.length) (hR:ixQ l t k) (he:¬t=l[k]'h):ixQ l t (k+1):=by
 unfold ixQ at hR⊢
 rw[List.drop_eq_getElem_cons h,ixG,if_neg he] at hR
 have:=ixG_ge (l.drop (k+1)) t
 rw[hR]
 split<;>split<;>omega
theorem ixQ_end {l:List α} {t:α} {k:Nat} (h:l.length≤k) (hR:ixQ l t k):ixG l t= -1:=by
 unfold ixQ at hR
 rw[List.drop_eq_nil_of_le h] at hR
 simpa[ixG] using hR
end
attribute [local go_sem] icast8 strD in
theorem IndexT_c (T:Tbl) (l:List Tx) (t:Tx) (hl:l.length≤1048576):PC Tryz.prog T 114 [.d (.slc 1 (l.map strD)),.d (.str t)] (.d (.int .i64 (ixG l t))):=by
 refine⟨Tryz.call114,PCall.enterS Tryz.func114 rfl Tryz.ntmps114 rfl fun hb=>?_⟩
 simp only[go_sem,Tryz.results114]
 refine Zp 3 ?_
 refine Zs (Zp 27 ?_)
 refine AWp.block (Zy ?_)
 refine Zl 7 8 (fun n lc hc=> ∃(k:Nat),n=l.length-k∧EqS lc [(8,.d (.int .i64 (k:Nat)))]∧EqS hc (⟨[],[]⟩)∧(k≤l.length)∧(ixQ l t k)) ?_ ?_
 · refine ⟨_,0,rfl,ZE,ZE,?_,?_⟩
   all_goals(first|omega|exact ixQ_0 _ _)
 rintro _ _ _ ⟨k,rfl,⟨rfl⟩,⟨rfl⟩,h1,h2⟩
 refine Zy ?_
 refine Zp 31 ?_
 refine Zs (Zc (fun hc0=>?_) fun hc0=>?_)
 ·
  have hlt:k<l.length:=by omega
  have hki:(k:Int)<(l.length:Int):=by omega
  have zf1:=fun d0_=>map_getD strD l k d0_ hlt
  refine Zk ?_
  refine Zs (AWp.block (Zp 31 ?_))
  refine Zp 1055 ?_
  refine Zc (fun hc1=>?_) fun hc1=>?_
  ·
   refine Zp 4 ?_
   refine AWp.ret ?_
   simp only[go_sem]
   rw[ixQ_t hlt h2 hc1];try simp[LeA,LeD]
  refine AWp.skip (blkQ_n (thenQ_n ?_))
  refine Zr (thenQ_n ?_)
  refine Zf 11 16 (.e ⟨_,ZM,k+1,rfl,ZE,ZE,?_,?_⟩)
  · omega
  · exact ixQ_f hlt h2 hc1
 refine AWp.exit (thenQ_e (thenQ_e (blkQ_e (thenQ_n ?_))))
 refine Zm 0 ?_
 refine Zp 1 ?_
 refine AWp.ret ?_
 simp only[go_sem]
 rw[ixQ_end (by omega) h2];try simp[LeA,LeD]
theorem ContT_c (T:Tbl) (l:List Tx) (t:Tx) (hl:l.length≤1048576):PC Tryz.prog T 57 [.d (.slc 1 (l.map strD)),.d (.str t)] (.d (.bool (decide (t∈l)))):=by
 refine⟨Tryz.call57,PCall.enterS Tryz.func57 rfl Tryz.ntmps57 rfl fun hb=>?_⟩
 simp only[go_sem,Tryz.results57]
 refine Zp 3 ?_
 refine Z1 4 (IndexT_c T l t hl) ?_
 refine AWp.ret ?_
 simp only[go_sem]
 simp[ixG_mem]
end
section
def adT (a:Ad):Tx:=a.1++64::a.2
theorem dot_run:∀(l:Tx) (d:Bool),dotGo d l=true→∀c∈l,runB c=true
 |[],d,h,c,hc=>absurd hc (List.not_mem_nil)
 | x::r,d,h,c,hc=>by
  unfold dotGo at h
  split at h
  ·rename_i hx
   rw[Bool.and_eq_true] at h
   rcases List.mem_cons.1 hc with rfl|h9
   ·subst hx;decide
   ·exact dot_run r _ h.2 c h9
  ·rw[Bool.and_eq_true] at h
   rcases List.mem_cons.1 hc with rfl|h9
   ·simp[runB,h.1]
   ·exact dot_run r _ h.2 c h9
theorem adr_run {l d:Tx} (h:adrE l d=0):(∀c∈l,runB c=true)∧(∀c∈d,runB c=true)∧l.length+d.length≤99:=by
 unfold adrE at h
 split at h
 ·cases h
 ·rename_i h1
  split at h
  ·cases h
  ·refine⟨dot_run l true ?_,dot_run d true ?_,by omega⟩
   ·cases h9:dotGo true l with
    |true=>rfl
    |false=>exact absurd (.inl h9) h1
   ·cases h9:dotGo true d with
    |true=>rfl
    |false=>exact absurd (.inr h9) h1
theorem bare_adr {l s:Tx} {a:Ad} {r:Tx} (h:bareS l s=some (a,r)):adrE a.1 a.2=0:=by
 obtain⟨p,_,h2,rfl,_⟩:=bare_inv h
 exact h2
theorem addrS_adr (n:Nat):∀(first:Bool) (s:Tx) (a:Ad) (r:Tx),s.length≤n→addrS first s=some (a,r)→adrE a.1 a.2=0:=by
 induction n with
 |zero=>
  intro first s a r hs h
  have:s=[]:=List.eq_nil_of_length_eq_zero (by omega)
  subst this
  unfold addrS at h
  simp[skipS,offS,runS] at h
 | succ n ih=>
  intro first s a r hs h
  have hk:=skip_le s
  unfold addrS at h
  split at h
  ·rename_i h0
   split at h
   ·cases h
   ·rename_i q hq
    have h1:=quo_lt _ _ hq
    have h2:(skipS s).tail.length+1=(skipS s).length:=by
     cases e:skipS s with
     |nil=>rw[e] at h0;simp at h0
     |cons c t=>simp
    exact ih false q a r (by omega) h
  ·split at h
   ·obtain⟨q,h1,rfl⟩:=gt_lt h
    exact bare_adr h1
   ·split at h
    ·exact bare_adr h
    ·split at h
     ·cases h
     ·rename_i h0
      have h1:=off_lt _ h0
      exact ih false _ a r (by omega) h
theorem listS_adr (n:Nat):∀(s:Tx) (l:List Ad),s.length≤n→listS s=some l→∀a∈l,adrE a.1 a.2=0:=by
 induction n with
 |zero=>
  intro s l hs h
  have:s=[]:=List.eq_nil_of_length_eq_zero (by omega)
  subst this
  rw[listS_none (by unfold addrS;simp[skipS,offS,runS])] at h
  cases h
 | succ n ih=>
  intro s l hs h
  cases ha:addrS true s with
  |none=>rw[listS_none ha] at h;cases h
  | some p=>
   obtain⟨a,r⟩:=p
   have h0:=addrS_adr _ true s a r (Nat.le_refl _) ha
   have h1:=addr_lt _ true s a r (Nat.le_refl _) ha
   have h3:=skip_le r
   rw[listS_some ha] at h
   split at h
   ·injection h with h;subst h
    intro x hx
    rw[List.mem_singleton] at hx;subst hx;exact h0
   ·rename_i c q hq
    rw[hq] at h3
    simp at h3
    split at h
    ·cases h5:listS q with
     |none=>rw[h5] at h;cases h
     |some l2=>
      rw[h5] at h
      injection h with h;subst h
      intro x hx
      rcases List.mem_cons.1 hx with rfl|hx
      ·exact h0
      ·exact ih q l2 (by omega) h5 x hx
    ·cases h
end
section
open Go.RowKit
def LeDs:List D→List D→Prop
 |[],[]=>True
 |x::l,y::l'=>LeD x y∧LeDs l l'
 |_,_=>False
def LeDR:List (List D)→List (List D)→Prop
 |[],[]=>True
 |x::l,y::l'=>LeDs x y∧LeDR l l'
 |_,_=>False
theorem LeDs.rfl':∀l:List D,LeDs l l
 |[]=>trivial
 |x::l=>⟨LeD.rfl' x,LeDs.rfl' l⟩
theorem LeDR.rfl':∀l:List (List D),LeDR l l
 |[]=>trivial
 |x::l=>⟨LeDs.rfl' x,LeDR.rfl' l⟩
theorem LeDs.len:∀{a b:List D},LeDs a b→b.length=a.length
 |[],[],_=>rfl
 |x::a,y::b,h=>by rw[List.length_cons,List.length_cons,LeDs.len h.2]
theorem LeDR.len:∀{a b:List (List D)},LeDR a b→b.length=a.length
 |[],[],_=>rfl
 |x::a,y::b,h=>by rw[List.length_cons,List.length_cons,LeDR.len h.2]
theorem LeDs.at_:∀{a b:List D},LeDs a b→∀{j:Nat} {y:D},b[j]?=some y→∃x,a[j]?=some x∧LeD x y
 |[],[],_,j,y,e=>by simp at e
 |x::a,z::b,h,0,y,e=>by simp at e;subst e;exact⟨x,rfl,h.1⟩
 |x::a,z::b,h,j+1,y,e=>by
  obtain⟨u,h1,h2⟩:=LeDs.at_ h.2 (j:=j) (y:=y) (by simpa using e)
  exact⟨u,by simpa using h1,h2⟩
theorem LeDR.at_:∀{a b:List (List D)},LeDR a b→∀{j:Nat} {y:List D},b[j]?=some y→∃x,a[j]?=some x∧LeDs x y
 |[],[],_,j,y,e=>by simp at e
 |x::a,z::b,h,0,y,e=>by simp at e;subst e;exact⟨x,rfl,h.1⟩
 |x::a,z::b,h,j+1,y,e=>by
  obtain⟨u,h1,h2⟩:=LeDR.at_ h.2 (j:=j) (y:=y) (by simpa using e)
  exact⟨u,by simpa using h1,h2⟩
theorem VD.deep {F:Frz} {k:Nat} {rows rows':List (List D)} {v:Value} (h:VD F (.slc k rows) v) (hr:LeDR rows rows'):VD F (.slc k rows') v:=by
 cases h with
 |slc0 _ A c h hm=>
  cases rows' with
  |nil=>exact .slc0 k A c h hm
  |cons a b=>exact hr.elim
 | slc _ _ b off c val h0 hc hm hk hf hv=>
  have hl:=hr.len
  rw[←hl]
  refine .slc k rows' b off c val (by omega) (by omega) hm (fun r h9=>?_) (fun i r j x h1 h2=>?_) fun i r j x h1 h2=>?_
  ·obtain⟨i,hi⟩:=List.getElem?_of_mem h9
   obtain⟨x,h1,h2⟩:=hr.at_ hi
   rw[h2.len]
   exact hk x (List.mem_of_getElem? h1)
  ·obtain⟨y,h3,h4⟩:=hr.at_ h1
   obtain⟨z,h5,h6⟩:=h4.at_ h2
   exact hf i y j z h3 h5
  ·obtain⟨y,h3,h4⟩:=hr.at_ h1
   obtain⟨z,h5,h6⟩:=h4.at_ h2
   exact h6.ok (hv i y j z h3 h5)
theorem AWp.ownD {P:Program} {T:Tbl} {Q:AQ} {code:Code} {h:AH} {df:AV} {l:SL} {N t k:Nat} {rows rows':List (List D)} (i:Nat) (hi:lookS df i l= .own t k rows) (hr:LeDR rows rows') (hN:Nat.blt i N=true) (H:AWp P T code Q (mkS df (insS i (.d (.slc k rows')) l) N 0) h):AWp P T code Q (mkS df l N 0) h:=by
 intro G w act S R
 refine H G w act S ?_
 have hlt:i<N:=by simpa[Nat.blt_eq] using hN
 rw[←mkS_set]
 refine⟨by simpa using R.1,fun j x e=>?_⟩
 by_cases hj:i=j
 ·subst hj
  rw[List.getElem?_set_self (by rw[mkS_len];exact hlt)] at e
  injection e with e
  subst e
  obtain⟨v,h1,h2⟩:=R.2 i (.own t k rows) (by rw[mkS_get _ _ _ _ _ hlt,Nat.zero_add,hi])
  refine⟨v,h1,?_⟩
  cases h2 with
  |own hd ht=>exact .d (hd.deep hr)
 ·rw[List.getElem?_set_ne hj] at e
  exact R.2 j x e
end
section
theorem texts_c (T:Tbl) (l:List Str) (hl:l.length*16≤140737488355328):PC Tryz.prog T 33 [.d (strs l)] (.d (strs l)):=by
 refine⟨Tryz.call33,PCall.enter Tryz.func33 rfl Tryz.ntmps33 fun hb=>?_⟩
 simp only[go_sem,Tryz.results33]
 refine AWp.rs fun K1 hK1=>?_
 refine Zy ?_
 refine hK1 _ _ ?_
 try clear hK1 K1
 refine AWp.rs fun K2 hK2=>?_
 refine Zy ?_
 refine DW.appNil rfl rfl rfl rfl (show slI Tryz.prog 31=some (9,1,16) by simp only[go_sem]) rfl rfl (by first|exact .inl rfl|exact .inr rfl) (by first|omega|(simp only[go_sem];omega)|(simp only[go_sem,List.length_take,List.length_map];omega)) (by first|omega|(simp only[go_sem];omega)|(simp only[go_sem,List.length_take,List.length_map];omega)) fun t1 ft1=>?_
 try simp only[freshT] at ft1
 refine Zy ?_
 refine hK2 _ _ ?_
 try clear hK2 K2
 refine AWp.ret ?_
 simp only[go_sem]
 skip
theorem tests_step (T:Tbl) (t:Tst) (ok:t.Ok) (ih:∀x∈t.kids,PC Tryz.prog T 13 [.agg (tstA x)] (.agg (tstA x))):PC Tryz.prog T 13 [.agg (tstA t)] (.agg (tstA t)):=by
 refine⟨Tryz.call13,PCall.enter Tryz.func13 rfl Tryz.ntmps13 fun hb=>?_⟩
 obtain⟨s1,s2,s3,s4⟩:=ok.inv
 simp only[go_sem,Tryz.results13]
 refine AWp.rs fun K1 hK1=>?_
 refine Zy ?_
 intro b1 fb1
 try simp only[freshL] at fb1
 intro b2 fb2
 try simp only[freshL] at fb2
 refine hK1 _ _ ?_
 try clear hK1 K1
 refine AWp.rs fun K4 hK4=>?_
 simp only[go_sem,fb2]
 refine DW.pcr rfl rfl rfl rfl (texts_c T _ (by omega)) rfl rfl ?_
 simp only[go_sem,fb2]
 refine hK4 _ _ ?_
 try clear hK4 K4
 refine AWp.rs fun K5 hK5=>?_
 simp only[go_sem,fb2]
 refine DW.pcr rfl rfl rfl rfl (texts_c T _ (by omega)) rfl rfl ?_
 simp only[go_sem,fb2]
 refine hK5 _ _ ?_
 try clear hK5 K5
 refine AWp.rs fun K6 hK6=>?_
 refine Zy ?_
 refine hK6 _ _ ?_
 try clear hK6 K6
 refine AWp.seq fun K7 hK7=>?_
 refine AWp.rs fun K8 hK8=>?_
 refine Zy ?_
 refine hK8 _ _ ?_
 try clear hK8 K8
 refine AWp.block (AWp.ownNil 3 8 rfl (by decide) fun u=>?_)
 refine Zy ?_
 refine AWp.loop [1,2,3,4] (fun n s h=> ∃(k u:Nat),k≤t.kids.length∧n=t.kids.length-k∧s=[.any,.ptr b1 8 0 0,.ptr b2 8 0 0,.own u 8 ((kidsD t).take k),.d (.int .i64 k),.any,.any,.any,.any,.any,.any,.any,.any,.any,.any,.any,.any,.any,.any,.any,.any,.any,.any,.any,.any,.any,.any,.any,.any,.any,.any,.any,.any,.any]∧h=⟨[(b2,⟨8,1,[[.d (.int .i64 0),.d (.int .i64 0),.d (.int .i64 0),.nils,.nils,.d (.bool false),.d (.int .i64 0),.nils]]⟩),(b1,⟨8,1,[tstA t]⟩)],[u]⟩) ⟨_,0,_,Nat.zero_le _,rfl,rfl,by simp only[go_sem]⟩ ?_
 rintro n s h ⟨k,u,hk,rfl,rfl,rfl⟩
 refine Zy ?_
 refine AWp.seq fun K9 hK9=>?_
 refine AWp.rs fun K10 hK10=>?_
 simp only[go_sem,fb2]
 refine hK10 _ _ ?_
 try clear hK10 K10
 refine AWp.cond _ rfl (fun hc0=>?_) (fun hc0=>?_)
 ·skip
  have hlt:k<t.kids.length:=by simpa using hc0
  refine AWp.skip ?_
  refine thenQ_n ?_
  refine hK9 _ _ ?_
  try clear hK9 K9
  refine AWp.seq fun K11 hK11=>?_
  refine AWp.block (AWp.rs fun K12 hK12=>?_)
  simp only[go_sem,fb2,kidsD_get t k _ hlt]
  (repeat(with_reducible refine And.intro ?_ ?_;omega))
  refine DW.pcr rfl rfl rfl rfl (ih _ (List.getElem_mem hlt)) rfl rfl ?_
  refine Zy ?_
  intro b13 fb13
  try simp only[freshL] at fb13
  refine hK12 _ _ ?_
  try clear hK12 K12
  refine AWp.rk fun K14 hK14=>?_
  simp only[go_sem,fb13]
  refine DW.app rfl rfl rfl rfl (show slI Tryz.prog 32=some (34,8,112) by simp only[go_sem]) rfl rfl (by simp only[go_sem]) (by first|exact .inl rfl|exact .inr rfl) (by first|omega|(simp only[go_sem];omega)|(simp only[go_sem,List.length_take];omega)) (by first|omega|(simp only[go_sem];omega)|(simp only[go_sem,List.length_take];omega)) fun t1 ft1=>?_
  try simp only[freshT] at ft1
  refine Zy ?_
  refine hK14 _ _ ?_
  try clear hK14 K14
  refine blkQ_n (thenQ_n ?_)
  refine hK11 _ _ ?_
  try clear hK11 K11
  refine AWp.rk fun K15 hK15=>?_
  refine Zy ?_
  (repeat(with_reducible refine And.intro ?_ ?_;omega))
  refine hK15 _ _ ?_
  try clear hK15 K15
  refine thenQ_n ?_
  refine⟨_,1,0,?_,k+1,t1,by omega,rfl,?_,rfl⟩
  ·omega
  ·rw[←kidsD_snoc t k hlt];rfl
 ·skip
  refine AWp.exit ?_
  refine thenQ_e (thenQ_e (blkQ_e (thenQ_n ?_)))
  refine hK7 _ _ ?_
  try clear hK7 K7
  refine AWp.rs fun K16 hK16=>?_
  simp only[go_sem,fb2]
  refine hK16 _ _ ?_
  try clear hK16 K16
  refine AWp.rs fun K17 hK17=>?_
  simp only[go_sem,fb2]
  refine hK17 _ _ ?_
  try clear hK17 K17
  refine AWp.ret ?_
  simp only[go_sem,fb2]
  exact kidsD_all t k (by simp at hc0;omega)
theorem tests_c (T:Tbl) (t:Tst) (ok:t.Ok):PC Tryz.prog T 13 [.agg (tstA t)] (.agg (tstA t)):=by
 induction t using Tst.ind with
 |h t ih=>exact tests_step T t ok fun x hx=>ih x hx (ok.inv.2.2.2 x hx)
theorem sameTexts_c (T:Tbl) (a b:List (List UInt8)):PC Tryz.prog T 38 [.d (strs a),.d (strs b)] (.d (.bool (decide (a=b)))):=by
 refine⟨Tryz.call38,PCall.enter Tryz.func38 rfl Tryz.ntmps38 fun hb=>?_⟩
 have ha:a.length≤9223372036854775807:=by
  have:=(DB.slc_inv (hb _ (List.mem_cons_self ..))).1
  rw[List.length_map] at this
  exact this
 simp only[go_sem,Tryz.results38]
 refine AWp.rs fun K1 hK1=>?_
 refine Zy ?_
 refine hK1 _ _ ?_
 try clear hK1 K1
 refine AWp.seq fun K2 hK2=>?_
 refine AWp.rs fun K3 hK3=>?_
 refine Zy ?_
 refine hK3 _ _ ?_
 try clear hK3 K3
 refine AWp.cond _ rfl (fun hc0=>?_) (fun hc0=>?_)
 ·skip
  refine AWp.rs fun K4 hK4=>?_
  refine Zy ?_
  refine hK4 _ _ ?_
  try clear hK4 K4
  refine AWp.ret ?_
  simp only[go_sem]
  rw[eq_comm,decide_eq_false_iff_not]
  rintro rfl
  simp at hc0
 ·skip
  have hlen:a.length=b.length:=by simp at hc0;omega
  refine AWp.skip ?_
  refine thenQ_n ?_
  refine hK2 _ _ ?_
  try clear hK2 K2
  refine AWp.seq fun K5 hK5=>?_
  refine AWp.rs fun K6 hK6=>?_
  refine Zy ?_
  refine hK6 _ _ ?_
  try clear hK6 K6
  refine AWp.block (AWp.loop [0,1,4,5] (fun n s h=> ∃k:Nat,k≤a.length∧a.take k=b.take k∧n=a.length-k∧s=[.d (strs a),.d (strs b),.any,.any,.d (.bool false),.d (.int .i64 k),.any,.any,.any,.any,.any,.any,.any,.any,.any,.any,.any,.any,.any,.any,.any,.any,.any,.any,.any,.any]∧h=⟨[],[]⟩) ⟨_,0,Nat.zero_le _,rfl,rfl,rfl,rfl⟩ ?_)
  rintro n s h ⟨k,hk,htk,rfl,rfl,rfl⟩
  refine AWp.seq fun K7 hK7=>?_
  refine AWp.rs fun K8 hK8=>?_
  refine Zy ?_
  refine hK8 _ _ ?_
  try clear hK8 K8
  refine AWp.cond _ rfl (fun hc1=>?_) (fun hc1=>?_)
  ·skip
   have hlt:k<a.length:=by simpa using hc1
   have hlt2:k<b.length:=by omega
   refine AWp.skip ?_
   refine thenQ_n ?_
   refine hK7 _ _ ?_
   try clear hK7 K7
   refine AWp.seq fun K9 hK9=>?_
   refine AWp.block (AWp.ds true [0,1,2,3,4,5,6,7,8] rfl (by kernel_rfl) fun K10 hK10=>?_)
   simp only[go_sem,map_getD strD _ _ _ hlt,map_getD strD _ _ _ hlt2]
   (repeat(with_reducible refine And.intro ?_ ?_;omega))
   refine hK10 _ _ ?_
   try clear hK10 K10
   refine AWp.cond _ rfl (fun hc2=>?_) (fun hc2=>?_)
   ·skip
    refine AWp.rs fun K11 hK11=>?_
    refine Zy ?_
    refine hK11 _ _ ?_
    try clear hK11 K11
    refine AWp.ret ?_
    simp only[go_sem]
    rw[eq_comm,decide_eq_false_iff_not]
    rintro rfl
    simp at hc2
   ·skip
    refine AWp.skip ?_
    refine blkQ_n (thenQ_n ?_)
    refine hK9 _ _ ?_
    try clear hK9 K9
    refine AWp.rk fun K12 hK12=>?_
    refine Zy ?_
    (repeat(with_reducible refine And.intro ?_ ?_;omega))
    refine hK12 _ _ ?_
    try clear hK12 K12
    refine thenQ_n ?_
    have heq:a[k]=b[k]:=by simpa using hc2
    refine⟨_,0,0,?_,k+1,by omega,?_,rfl,rfl,rfl⟩
    ·omega
    ·rw[List.take_succ_eq_append_getElem hlt,List.take_succ_eq_append_getElem hlt2,htk,heq]
  ·skip
   refine AWp.exit ?_
   refine thenQ_e (thenQ_e (blkQ_e (thenQ_n ?_)))
   refine hK5 _ _ ?_
   try clear hK5 K5
   refine AWp.rs fun K13 hK13=>?_
   refine Zy ?_
   refine hK13 _ _ ?_
   try clear hK13 K13
   refine AWp.ret ?_
   simp only[go_sem]
   rw[eq_comm,decide_eq_true_iff]
   have hk2:k=a.length:=by simp at hc1;omega
   subst hk2
   rw[List.take_length,hlen,List.take_length] at htk
   exact htk
theorem sameTexts_r (T:Tbl) (l:List Str):PC Tryz.prog T 38 [.d (.slc 1 (l.map strD)),.d (.slc 1 (l.map strD))] (.d (.bool true)):=by
 have:=sameTexts_c T l l
 rwa [decide_eq_true rfl] at this
theorem sameTest_step (T:Tbl) (t:Tst) (ok:t.Ok) (ih:∀x∈t.kids,PC Tryz.prog T 16 [.agg (tstA x),.agg (tstA x)] (.d (.bool true))):PC Tryz.prog T 16 [.agg (tstA t),.agg (tstA t)] (.d (.bool true)):=by
 refine⟨Tryz.call16,PCall.enter Tryz.func16 rfl Tryz.ntmps16 fun hb=>?_⟩
 obtain⟨s1,s2,s3,s4⟩:=ok.inv
 simp only[go_sem,Tryz.results16]
 refine AWp.rs fun K1 hK1=>?_
 refine Zy ?_
 intro b1 fb1
 try simp only[freshL] at fb1
 intro b2 fb2
 try simp only[freshL] at fb2
 refine hK1 _ _ ?_
 try clear hK1 K1
 refine AWp.seq fun K4 hK4=>?_
 refine AWp.rs fun K5 hK5=>?_
 simp only[go_sem,fb2]
 (repeat(with_reducible refine And.intro ?_ ?_;decide))
 refine DW.pcgr rfl rfl rfl rfl rfl (fun hg=>sameTexts_r T _) (fun hg=>by(try simp only[go_sem])<;>first|exact hg|(simpa using hg)|grind) rfl rfl ?_
 simp only[go_sem,fb2]
 (repeat(with_reducible refine And.intro ?_ ?_;decide))
 refine DW.pcgr rfl rfl rfl rfl rfl (fun hg=>sameTexts_r T _) (fun hg=>by(try simp only[go_sem])<;>first|exact hg|(simpa using hg)|grind) rfl rfl ?_
 simp only[go_sem,fb2]
 (repeat(with_reducible refine And.intro ?_ ?_;decide))
 refine hK5 _ _ ?_
 try clear hK5 K5
 refine AWp.cond _ rfl (fun hc0=>?_) (fun hc0=>?_)
 ·skip
  simp at hc0
 ·skip
  refine AWp.skip ?_
  refine thenQ_n ?_
  refine hK4 _ _ ?_
  try clear hK4 K4
  refine AWp.seq fun K6 hK6=>?_
  refine AWp.rs fun K7 hK7=>?_
  refine Zy ?_
  refine hK7 _ _ ?_
  try clear hK7 K7
  refine AWp.block (AWp.loop [2,3,5] (fun n s h=> ∃(k:Nat),k≤t.kids.length∧n=t.kids.length-k∧s=[.any,.any,.ptr b1 8 0 0,.ptr b2 8 0 0,.any,.d (.int .i64 k),.any,.any,.any,.any,.any,.any,.any,.any,.any,.any,.any,.any,.any,.any,.any,.any,.any,.any,.any,.any,.any,.any,.any,.any,.any,.any,.any,.any,.any,.any,.any,.any,.any,.any,.any,.any,.any,.any,.any,.any,.any,.any,.any,.any,.any,.any,.any,.any,.any,.any,.any,.any,.any,.any,.any,.any,.any,.any,.any,.any,.any,.any,.any,.any,.any,.any,.any,.any,.any,.any,.any,.any,.any,.any,.any,.any,.any]∧h=⟨[(b2,⟨8,1,[tstA t]⟩),(b1,⟨8,1,[tstA t]⟩)],[]⟩) ⟨_,0,Nat.zero_le _,rfl,rfl,rfl⟩ ?_)
  rintro n s h ⟨k,hk,rfl,rfl,rfl⟩
  refine Zy ?_
  refine AWp.seq fun K8 hK8=>?_
  refine AWp.rs fun K9 hK9=>?_
  simp only[go_sem,fb2]
  refine hK9 _ _ ?_
  try clear hK9 K9
  refine AWp.cond _ rfl (fun hc1=>?_) (fun hc1=>?_)
  ·skip
   have hlt:k<t.kids.length:=by simpa using hc1
   refine AWp.skip ?_
   refine thenQ_n ?_
   refine hK8 _ _ ?_
   try clear hK8 K8
   refine AWp.seq fun K10 hK10=>?_
   refine AWp.block (AWp.ds true [0,1,2,3,4,5,6,7,8,9,10,11] rfl (by kernel_rfl) fun K11 hK11=>?_)
   simp only[go_sem,fb2,kidsD_get t k _ hlt]
   (repeat(with_reducible refine And.intro ?_ ?_;omega))
   refine DW.pcr rfl rfl rfl rfl (ih _ (List.getElem_mem hlt)) rfl rfl ?_
   refine Zy ?_
   refine hK11 _ _ ?_
   try clear hK11 K11
   refine AWp.cond _ rfl (fun hc2=>?_) (fun hc2=>?_)
   ·skip
    simp at hc2
   ·skip
    refine AWp.skip ?_
    refine blkQ_n (thenQ_n ?_)
    refine hK10 _ _ ?_
    try clear hK10 K10
    refine AWp.rk fun K12 hK12=>?_
    refine Zy ?_
    (repeat(with_reducible refine And.intro ?_ ?_;omega))
    refine hK12 _ _ ?_
    try clear hK12 K12
    refine thenQ_n ?_
    refine⟨_,0,0,?_,k+1,by omega,rfl,rfl,rfl⟩
    omega
  ·skip
   refine AWp.exit ?_
   refine thenQ_e (thenQ_e (blkQ_e (thenQ_n ?_)))
   refine hK6 _ _ ?_
   try clear hK6 K6
   refine AWp.rs fun K13 hK13=>?_
   refine Zy ?_
   refine hK13 _ _ ?_
   try clear hK13 K13
   refine AWp.ret ?_
   simp only[go_sem]
   all_goals done
theorem sameTest_c (T:Tbl) (t:Tst) (ok:t.Ok):PC Tryz.prog T 16 [.agg (tstA t),.agg (tstA t)] (.d (.bool true)):=by
 induction t using Tst.ind with
 |h t ih=>exact sameTest_step T t ok fun x hx=>ih x hx (ok.inv.2.2.2 x hx)
theorem commands_step (T:Tbl) (l:List Cmd) (hl:l.length*208≤140737488355328) (ih:∀x∈l,PC Tryz.prog T 27 [.agg (cmdA x)] (.agg (cmdA x))):PC Tryz.prog T 8 [.d (.slc 12 (l.map cmdD))] (.d (.slc 12 (l.map cmdD))):=by
 refine⟨Tryz.call8,PCall.enter Tryz.func8 rfl Tryz.ntmps8 fun hb=>?_⟩
 simp only[go_sem,Tryz.results8]
 refine AWp.rs fun K1 hK1=>?_
 refine Zy ?_
 refine hK1 _ _ ?_
 try clear hK1 K1
 refine AWp.rs fun K2 hK2=>?_
 refine Zy ?_
 refine hK2 _ _ ?_
 try clear hK2 K2
 refine AWp.seq fun K3 hK3=>?_
 refine AWp.rs fun K4 hK4=>?_
 refine Zy ?_
 refine hK4 _ _ ?_
 try clear hK4 K4
 refine AWp.block (AWp.ownNil 3 12 rfl (by decide) fun u=>?_)
 refine Zy ?_
 refine AWp.loop [0,3,4] (fun n s h=> ∃(k u:Nat),k≤l.length∧n=l.length-k∧s=[.d (.slc 12 (l.map cmdD)),.any,.any,.own u 12 ((l.map cmdD).take k),.d (.int .i64 k),.any,.any,.any,.any,.any,.any,.any,.any,.any,.any,.any,.any,.any,.any,.any,.any,.any]∧h=⟨[],[u]⟩) ⟨_,0,_,Nat.zero_le _,rfl,rfl,by simp only[go_sem]⟩ ?_
 rintro n s h ⟨k,u,hk,rfl,rfl,rfl⟩
 refine AWp.seq fun K5 hK5=>?_
 refine AWp.rs fun K6 hK6=>?_
 refine Zy ?_
 refine hK6 _ _ ?_
 try clear hK6 K6
 refine AWp.cond _ rfl (fun hc0=>?_) (fun hc0=>?_)
 ·skip
  have hlt:k<l.length:=by simpa using hc0
  refine AWp.skip ?_
  refine thenQ_n ?_
  refine hK5 _ _ ?_
  try clear hK5 K5
  refine AWp.seq fun K7 hK7=>?_
  refine AWp.block (AWp.rs fun K8 hK8=>?_)
  simp only[go_sem,map_getD cmdD _ _ _ hlt]
  (repeat(with_reducible refine And.intro ?_ ?_;omega))
  refine DW.pcr rfl rfl rfl rfl (ih _ (List.getElem_mem hlt)) rfl rfl ?_
  refine Zy ?_
  intro b9 fb9
  try simp only[freshL] at fb9
  refine hK8 _ _ ?_
  try clear hK8 K8
  refine AWp.rk fun K10 hK10=>?_
  refine Zy ?_
  refine DW.app rfl rfl rfl rfl (show slI Tryz.prog 22=some (65,12,192) by simp only[go_sem]) rfl rfl (by simp only[go_sem]) (by first|exact .inl rfl|exact .inr rfl) (by first|omega|(simp only[go_sem];omega)|(simp only[go_sem,List.length_take,List.length_map];omega)) (by first|omega|(simp only[go_sem];omega)|(simp only[go_sem,List.length_take,List.length_map];omega)) fun t1 ft1=>?_
  try simp only[freshT] at ft1
  refine Zy ?_
  refine hK10 _ _ ?_
  try clear hK10 K10
  refine blkQ_n (thenQ_n ?_)
  refine hK7 _ _ ?_
  try clear hK7 K7
  refine AWp.rk fun K11 hK11=>?_
  refine Zy ?_
  (repeat(with_reducible refine And.intro ?_ ?_;omega))
  refine hK11 _ _ ?_
  try clear hK11 K11
  refine thenQ_n ?_
  refine⟨_,1,0,?_,k+1,t1,by omega,rfl,?_,rfl⟩
  ·omega
  ·rw[←map_snoc cmdD l k hlt];rfl
 ·skip
  refine AWp.exit ?_
  refine thenQ_e (thenQ_e (blkQ_e (thenQ_n ?_)))
  refine hK3 _ _ ?_
  try clear hK3 K3
  refine AWp.rs fun K12 hK12=>?_
  refine Zy ?_
  refine hK12 _ _ ?_
  try clear hK12 K12
  refine AWp.ret ?_
  simp only[go_sem]
  exact map_all cmdD l k (by simp at hc0;omega)
theorem command_step (T:Tbl) (c:Cmd) (ok:c.Ok) (i1:PC Tryz.prog T 8 [.d (.slc 12 (thnD c))] (.d (.slc 12 (thnD c)))) (i2:PC Tryz.prog T 8 [.d (.slc 12 (elsD c))] (.d (.slc 12 (elsD c)))):PC Tryz.prog T 27 [.agg (cmdA c)] (.agg (cmdA c)):=by
 refine⟨Tryz.call27,PCall.enter Tryz.func27 rfl Tryz.ntmps27 fun hb=>?_⟩
 obtain⟨s1,s2,s3,s4,s5,s6⟩:=ok.inv
 simp only[go_sem,Tryz.results27]
 refine AWp.rs fun K1 hK1=>?_
 refine Zy ?_
 intro b1 fb1
 try simp only[freshL] at fb1
 intro b2 fb2
 try simp only[freshL] at fb2
 refine hK1 _ _ ?_
 try clear hK1 K1
 refine AWp.ds true [0,1,2,3,4,5,6,7,8,9,10,11,12,13,14,15] rfl (by kernel_rfl) fun K4 hK4=>?_
 simp only[go_sem,fb2]
 refine DW.pcr rfl rfl rfl rfl (texts_c T _ (by omega)) rfl rfl ?_
 simp only[go_sem,fb2]
 refine DW.pcr rfl rfl rfl rfl (tests_c T _ (by assumption)) rfl rfl ?_
 simp only[go_sem,fb2]
 refine DW.pcr rfl rfl rfl rfl (i1) rfl rfl ?_
 simp only[go_sem,fb2]
 refine DW.pcr rfl rfl rfl rfl (i2) rfl rfl ?_
 simp only[go_sem,fb2]
 refine hK4 _ _ ?_
 try clear hK4 K4
 refine AWp.ret ?_
 simp only[go_sem,fb2]
 skip
theorem copyCommand_c (T:Tbl) (c:Cmd) (ok:c.Ok):PC Tryz.prog T 27 [.agg (cmdA c)] (.agg (cmdA c)):=by
 induction c using Cmd.ind with
 |h c i1 i2=>
  obtain⟨s1,s2,s3,s4,s5,s6⟩:=ok.inv
  refine command_step T c ok ?_ ?_
  ·rw[thnD_eq];exact commands_step T _ s3 fun x hx=>i1 x hx (s5 x hx)
  ·rw[elsD_eq];exact commands_step T _ s4 fun x hx=>i2 x hx (s6 x hx)
theorem commands_c (T:Tbl) (l:List Cmd) (hl:l.length*208≤140737488355328) (ok:∀x∈l,x.Ok):PC Tryz.prog T 8 [.d (.slc 12 (l.map cmdD))] (.d (.slc 12 (l.map cmdD))):=commands_step T l hl fun x hx=>copyCommand_c T x (ok x hx)
theorem sameCommands_step (T:Tbl) (l:List Cmd) (hl:l.length*208≤140737488355328) (ih:∀x∈l,PC Tryz.prog T 32 [.agg (cmdA x),.agg (cmdA x)] (.d (.bool true))):PC Tryz.prog T 12 [.d (.slc 12 (l.map cmdD)),.d (.slc 12 (l.map cmdD))] (.d (.bool true)):=by
 refine⟨Tryz.call12,PCall.enter Tryz.func12 rfl Tryz.ntmps12 fun hb=>?_⟩
 simp only[go_sem,Tryz.results12]
 refine AWp.rs fun K1 hK1=>?_
 refine Zy ?_
 refine hK1 _ _ ?_
 try clear hK1 K1
 refine AWp.seq fun K2 hK2=>?_
 refine AWp.rs fun K3 hK3=>?_
 refine Zy ?_
 refine hK3 _ _ ?_
 try clear hK3 K3
 refine AWp.cond _ rfl (fun hc0=>?_) (fun hc0=>?_)
 ·skip
  simp at hc0
 ·skip
  refine AWp.skip ?_
  refine thenQ_n ?_
  refine hK2 _ _ ?_
  try clear hK2 K2
  refine AWp.seq fun K4 hK4=>?_
  refine AWp.rs fun K5 hK5=>?_
  refine Zy ?_
  refine hK5 _ _ ?_
  try clear hK5 K5
  refine AWp.block (AWp.loop [0,1,5] (fun n s h=> ∃(k:Nat),k≤l.length∧n=l.length-k∧s=[.d (.slc 12 (l.map cmdD)),.d (.slc 12 (l.map cmdD)),.any,.any,.any,.d (.int .i64 k),.any,.any,.any,.any,.any,.any,.any,.any,.any,.any,.any,.any,.any,.any,.any,.any,.any,.any,.any,.any,.any]∧h=⟨[],[]⟩) ⟨_,0,Nat.zero_le _,rfl,rfl,rfl⟩ ?_)
  rintro n s h ⟨k,hk,rfl,rfl,rfl⟩
  refine AWp.seq fun K6 hK6=>?_
  refine AWp.rs fun K7 hK7=>?_
  refine Zy ?_
  refine hK7 _ _ ?_
  try clear hK7 K7
  refine AWp.cond _ rfl (fun hc1=>?_) (fun hc1=>?_)
  ·skip
   have hlt:k<l.length:=by simpa using hc1
   refine AWp.skip ?_
   refine thenQ_n ?_
   refine hK6 _ _ ?_
   try clear hK6 K6
   refine AWp.seq fun K8 hK8=>?_
   refine AWp.block (AWp.ds true [0,1,2,3,4,5,6,7,8,9] rfl (by kernel_rfl) fun K9 hK9=>?_)
   simp only[go_sem,map_getD cmdD _ _ _ hlt]
   (repeat(with_reducible refine And.intro ?_ ?_;omega))
   refine DW.pcr rfl rfl rfl rfl (ih _ (List.getElem_mem hlt)) rfl rfl ?_
   refine Zy ?_
   refine hK9 _ _ ?_
   try clear hK9 K9
   refine AWp.cond _ rfl (fun hc2=>?_) (fun hc2=>?_)
   ·skip
    simp at hc2
   ·skip
    refine AWp.skip ?_
    refine blkQ_n (thenQ_n ?_)
    refine hK8 _ _ ?_
    try clear hK8 K8
    refine AWp.rk fun K10 hK10=>?_
    refine Zy ?_
    (repeat(with_reducible refine And.intro ?_ ?_;omega))
    refine hK10 _ _ ?_
    try clear hK10 K10
    refine thenQ_n ?_
    refine⟨_,0,0,?_,k+1,by omega,rfl,rfl,rfl⟩
    omega
  ·skip
   refine AWp.exit ?_
   refine thenQ_e (thenQ_e (blkQ_e (thenQ_n ?_)))
   refine hK4 _ _ ?_
   try clear hK4 K4
   refine AWp.rs fun K11 hK11=>?_
   refine Zy ?_
   refine hK11 _ _ ?_
   try clear hK11 K11
   refine AWp.ret ?_
   simp only[go_sem]
   all_goals done
theorem sameCommand_step (T:Tbl) (c:Cmd) (ok:c.Ok) (i1:PC Tryz.prog T 12 [.d (.slc 12 (thnD c)),.d (.slc 12 (thnD c))] (.d (.bool true))) (i2:PC Tryz.prog T 12 [.d (.slc 12 (elsD c)),.d (.slc 12 (elsD c))] (.d (.bool true))):PC Tryz.prog T 32 [.agg (cmdA c),.agg (cmdA c)] (.d (.bool true)):=by
 refine⟨Tryz.call32,PCall.enter Tryz.func32 rfl Tryz.ntmps32 fun hb=>?_⟩
 obtain⟨s1,s2,s3,s4,s5,s6⟩:=ok.inv
 simp only[go_sem,Tryz.results32]
 refine AWp.rs fun K1 hK1=>?_
 refine Zy ?_
 intro b1 fb1
 try simp only[freshL] at fb1
 intro b2 fb2
 try simp only[freshL] at fb2
 refine hK1 _ _ ?_
 try clear hK1 K1
 refine AWp.rs fun K4 hK4=>?_
 simp only[go_sem,fb2]
 refine DW.pcgr rfl rfl rfl rfl rfl (fun hg=>sameTexts_r T _) (fun hg=>by(try simp only[go_sem])<;>first|exact hg|(simpa using hg)|grind) rfl rfl ?_
 simp only[go_sem,fb2]
 refine DW.pcgr rfl rfl rfl rfl rfl (fun hg=>sameTest_c T _ (by assumption)) (fun hg=>by(try simp only[go_sem])<;>first|exact hg|(simpa using hg)|grind) rfl rfl ?_
 simp only[go_sem,fb2]
 refine DW.pcgr rfl rfl rfl rfl rfl (fun hg=>i1) (fun hg=>by(try simp only[go_sem])<;>first|exact hg|(simpa using hg)|grind) rfl rfl ?_
 simp only[go_sem,fb2]
 refine DW.pcgr rfl rfl rfl rfl rfl (fun hg=>i2) (fun hg=>by(try simp only[go_sem])<;>first|exact hg|(simpa using hg)|grind) rfl rfl ?_
 refine Zy ?_
 refine hK4 _ _ ?_
 try clear hK4 K4
 refine AWp.ret ?_
 simp only[go_sem]
 all_goals simp
theorem sameCommand_c (T:Tbl) (c:Cmd) (ok:c.Ok):PC Tryz.prog T 32 [.agg (cmdA c),.agg (cmdA c)] (.d (.bool true)):=by
 induction c using Cmd.ind with
 |h c i1 i2=>
  obtain⟨s1,s2,s3,s4,s5,s6⟩:=ok.inv
  refine sameCommand_step T c ok ?_ ?_
  ·rw[thnD_eq];exact sameCommands_step T _ s3 fun x hx=>i1 x hx (s5 x hx)
  ·rw[elsD_eq];exact sameCommands_step T _ s4 fun x hx=>i2 x hx (s6 x hx)
theorem sameCommands_c (T:Tbl) (l:List Cmd) (hl:l.length*208≤140737488355328) (ok:∀x∈l,x.Ok):PC Tryz.prog T 12 [.d (.slc 12 (l.map cmdD)),.d (.slc 12 (l.map cmdD))] (.d (.bool true)):=sameCommands_step T l hl fun x hx=>sameCommand_c T x (ok x hx)
end
end Go.Proofs.YtidldcfpmehpiaaGreatDoor
