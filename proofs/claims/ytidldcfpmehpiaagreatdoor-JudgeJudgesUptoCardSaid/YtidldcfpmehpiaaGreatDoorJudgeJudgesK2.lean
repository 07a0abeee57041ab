/- Texts that the law JudgeJudges rests on, packed. -/
import Derived.Test.YtidldcfpmehpiaaGreatDoorGD
import Derived.Test.YtidldcfpmehpiaaGreatDoorJudgeJudgesK0
import Derived.Test.YtidldcfpmehpiaaGreatDoorShelfS
import Derived.Test.YtidldcfpmehpiaaGreatDoorGB
import Derived.Test.YtidldcfpmehpiaaGreatDoorGT
import Derived.Test.YtidldcfpmehpiaaGreatDoorJudgeJudgesK1
import Derived.Test.YtidldcfpmehpiaaGreatDoorGC
import Derived.Outline
import Derived.Laws.MakeOwn
import Derived.OwnWalk
set_option linter.unusedSimpArgs false
set_option linter.unusedVariables false
set_option maxRecDepth 20000
set_option maxHeartbeats 4000000
namespace Go.Proofs.YtidldcfpmehpiaaGreatDoor
section
open Go.RowKit
open Go.ChangeShapes Go.WideShapes Go.ChangeAt
mutual
def tsz:Tst→Nat
 | .mk _ _ _ n k _ _ l=>(n.map fun s=>s.length+1).sum+(k.map fun s=>s.length+1).sum+tszL l+5
def tszL:List Tst→Nat
 |[]=>0
 |t::l=>tsz t+tszL l
end
theorem tszL_eq (l:List Tst):tszL l=(l.map tsz).sum:=by
 induction l with
 |nil=>rfl
 |cons t l ih=>rw[tszL,ih];rfl
mutual
def csz:Cmd→Nat
 | .mk _ x t a b=>(x.map fun s=>s.length+1).sum+tsz t+cszL a+cszL b+5
def cszL:List Cmd→Nat
 |[]=>0
 |t::l=>csz t+cszL l
end
theorem cszL_eq (l:List Cmd):cszL l=(l.map csz).sum:=by
 induction l with
 |nil=>rfl
 |cons t l ih=>rw[cszL,ih];rfl
theorem strs_len (l:List Str):l.length≤(l.map fun s=>s.length+1).sum:=by
 induction l with
 |nil=>simp
 |cons s l ih=>simp only[List.map_cons,List.sum_cons,List.length_cons];omega
theorem tsz_pos (t:Tst):5≤tsz t:=by cases t;rw[tsz];omega
theorem csz_pos (t:Cmd):5≤csz t:=by cases t;rw[csz];omega
theorem kids_len (l:List Tst):5*l.length≤tszL l:=by
 induction l with
 |nil=>simp[tszL]
 |cons t l ih=>have:=tsz_pos t;rw[tszL,List.length_cons];omega
theorem cmds_len (l:List Cmd):5*l.length≤cszL l:=by
 induction l with
 |nil=>simp[cszL]
 |cons t l ih=>have:=csz_pos t;rw[cszL,List.length_cons];omega
theorem tsz_mem {x:Tst} {l:List Tst} (h:x∈l):tsz x≤tszL l:=by
 induction l with
 |nil=>simp at h
 |cons t l ih=>
  rw[tszL]
  rcases List.mem_cons.1 h with rfl|h
  ·omega
  ·have:=ih h;omega
theorem csz_mem {x:Cmd} {l:List Cmd} (h:x∈l):csz x≤cszL l:=by
 induction l with
 |nil=>simp at h
 |cons t l ih=>
  rw[cszL]
  rcases List.mem_cons.1 h with rfl|h
  ·omega
  ·have:=ih h;omega
theorem tsz_eq (t:Tst):tsz t=(t.names.map fun s=>s.length+1).sum+(t.keys.map fun s=>s.length+1).sum+tszL t.kids+5:=by cases t;rw[tsz];rfl
theorem csz_eq (t:Cmd):csz t=(t.texts.map fun s=>s.length+1).sum+tsz t.test+cszL t.thn+cszL t.els+5:=by cases t;rw[csz];rfl
theorem Tst.ok_of (t:Tst) (h:tsz t≤1048576):t.Ok:=by
 induction t using Tst.ind with
 |h t ih=>
  rw[tsz_eq] at h
  have h1:=strs_len t.names
  have h2:=strs_len t.keys
  have h3:=kids_len t.kids
  exact⟨by omega,by omega,by omega,fun x hx=>ih x hx (by have:=tsz_mem hx;omega)⟩
theorem Cmd.ok_of (t:Cmd) (h:csz t≤1048576):t.Ok:=by
 induction t using Cmd.ind with
 |h t ih ih2=>
  rw[csz_eq] at h
  have h1:=strs_len t.texts
  have h3:=cmds_len t.thn
  have h4:=cmds_len t.els
  exact⟨by omega,Tst.ok_of _ (by omega),by omega,by omega,fun x hx=>ih x hx (by have:=csz_mem hx;omega),fun x hx=>ih2 x hx (by have:=csz_mem hx;omega)⟩
theorem tT_len (t:Tst):(tT t).length+1≤6*tsz t:=by
 induction t using Tst.ind with
 | h t ih=>
  have hk:(tK t.kids).length≤6*tszL t.kids:=by
   cases hh:t.kids with
   |nil=>simp[tK]
   |cons x l=>have:=ih x (by rw[hh];simp);rw[tK,tszL];omega
  have hl:∀l f,(∀x∈l,x∈t.kids)→(tTL l f).length≤6*tszL l:=fun l=>by
   induction l with
   |nil=>intro f _;simp[tTL]
   |cons x l il=>
    intro f hm
    have h1:=ih x (hm x (by simp))
    have h2:=il false fun y hy=>hm y (by simp[hy])
    rw[tTL,tszL]
    simp only[List.length_cons,List.length_append]
    omega
  have hl:=hl t.kids true fun x hx=>hx
  have h1:=strs_len t.names
  have h2:=strs_len t.keys
  have h4:=strsT_len t.names
  have h5:=strsT_len t.keys
  rw[tT_eq,tsz_eq]
  repeat' split
  all_goals simp only[List.length_cons,List.length_append,List.length_nil]
  all_goals omega
theorem cmT_len (c:Cmd):(cmT c).length+1≤6*csz c:=by
 induction c using Cmd.ind with
 | h c i1 i2=>
  have hl:∀l,(∀x∈l,(cmT x).length+1≤6*csz x)→(lsT l).length≤6*cszL l:=fun l=>by
   induction l with
   |nil=>intro _;simp[lsT]
   |cons x l il=>
    intro hm
    have h1:=hm x (by simp)
    have h2:=il fun y hy=>hm y (by simp[hy])
    rw[lsT,cszL]
    simp only[List.length_cons,List.length_append]
    omega
  have ha:=hl c.thn i1
  have hb:=hl c.els i2
  have hel:(elT c.els).length≤6*cszL c.els+3:=by
   rcases Nat.eq_zero_or_pos c.els.length with h0|h0
   ·rw[elT_0 c h0];simp
   ·cases he:elsifC c with
    |true=>
     rw[elT_t c he h0]
     have:=i2 _ (List.getElem_mem h0)
     have:=csz_mem (List.getElem_mem h0)
     simp only[List.length_cons]
     omega
    |false=>
     rw[elT_f c he h0]
     simp only[List.length_cons,List.length_append,List.length_nil]
     omega
  have h1:=strs_len c.texts
  have h4:=strsT_len c.texts
  have h5:=tT_len c.test
  rw[cmT_eq,csz_eq]
  repeat' split
  all_goals simp only[List.length_cons,List.length_append,List.length_nil]
  all_goals omega
theorem lsT_len (l:List Cmd):(lsT l).length≤6*cszL l:=by
 induction l with
 |nil=>simp[lsT]
 |cons x l ih=>
  have:=cmT_len x
  rw[lsT,cszL]
  simp only[List.length_cons,List.length_append]
  omega
section
variable {H:Type} {enc:TypeId×Value→H} {W:World}
theorem dec_strs (f:Nat):Dec enc Tryz.prog W (fun l:List Str=>[.slc 1 (l.map strD)]) (fun l=>(l.map fun s=>s.length+1).sum+1) 31 f:=by
 cases f with
 |zero=>exact Dec.zero
 |succ f=>exact Dec.slc (Dec.str Tryz.underlying9) Tryz.underlying31 (by kernel_rfl) (fun _=>rfl) (by decide)
set_option maxRecDepth 100000 in
theorem dec_tst (f:Nat):Dec enc Tryz.prog W tstD tsz 34 f:=by
 induction f with
 |zero=>exact Dec.zero
 | succ f ih=>
  have hk:Dec enc Tryz.prog W (fun l:List Tst=>[.slc 8 (l.map tstD)]) (fun l=>(l.map tsz).sum+1) 32 f:=by
   cases f with
   |zero=>exact Dec.zero
   |succ f=>exact Dec.slc (ih.le (by omega)) Tryz.underlying32 (by kernel_rfl) (fun _=>rfl) (by decide)
  have hi:Dec enc Tryz.prog W (fun n:Int=>[.int .i64 n]) (fun _=>1) 3 f:=Dec.int Tryz.underlying3
  have hb:Dec enc Tryz.prog W (fun n:Bool=>[.bool n]) (fun _=>1) 4 f:=Dec.bool Tryz.underlying4
  have hs:=dec_strs (enc:=enc) (W:=W) f
  exact(Dec.struct Tryz.underlying34 (by kernel_rfl) (.cons (k:=1) hi (by kernel_rfl) rfl (.cons (k:=1) hi (by kernel_rfl) rfl (.cons (k:=1) hi (by kernel_rfl) rfl (.cons (k:=1) hs (by kernel_rfl) rfl (.cons (k:=1) hs (by kernel_rfl) rfl (.cons (k:=1) hb (by kernel_rfl) rfl (.cons (k:=1) hi (by kernel_rfl) rfl (.cons (k:=1) hk (by kernel_rfl) rfl .nil))))))))).map
    (fun p=>Tst.mk p.1 p.2.1 p.2.2.1 p.2.2.2.1 p.2.2.2.2.1 p.2.2.2.2.2.1 p.2.2.2.2.2.2.1 p.2.2.2.2.2.2.2.1) (fun p=>by simp[tstD,kidsD_eq,Tst.kind,Tst.mat,Tst.part,Tst.names,Tst.keys,Tst.over,Tst.limit,Tst.kids]) (fun p=>by rw[tsz,tszL_eq];omega)
set_option maxRecDepth 100000 in
theorem dec_cmd (f:Nat):Dec enc Tryz.prog W cmdD csz 65 f:=by
 induction f with
 |zero=>exact Dec.zero
 | succ f ih=>
  have hk:Dec enc Tryz.prog W (fun l:List Cmd=>[.slc 12 (l.map cmdD)]) (fun l=>(l.map csz).sum+1) 22 f:=by
   cases f with
   |zero=>exact Dec.zero
   |succ f=>exact Dec.slc (ih.le (by omega)) Tryz.underlying22 (by kernel_rfl) (fun _=>rfl) (by decide)
  have hi:Dec enc Tryz.prog W (fun n:Int=>[.int .i64 n]) (fun _=>1) 3 f:=Dec.int Tryz.underlying3
  have hs:=dec_strs (enc:=enc) (W:=W) f
  exact(Dec.struct Tryz.underlying65 (by kernel_rfl) (.cons (k:=1) hi (by kernel_rfl) rfl (.cons (k:=1) hs (by kernel_rfl) rfl (.cons (k:=8) (dec_tst f) (by kernel_rfl) rfl (.cons (k:=1) hk (by kernel_rfl) rfl (.cons (k:=1) hk (by kernel_rfl) rfl .nil)))))).map
    (fun p=>Cmd.mk p.1 p.2.1 p.2.2.1 p.2.2.2.1 p.2.2.2.2.1) (fun p=>by simp[cmdD,thnD_eq,elsD_eq,Cmd.kind,Cmd.texts,Cmd.test,Cmd.thn,Cmd.els]) (fun p=>by rw[csz,cszL_eq,cszL_eq];omega)
theorem dec_cmds (f:Nat):Dec enc Tryz.prog W (fun l:List Cmd=>[.slc 12 (l.map cmdD)]) cszL 22 f:=by
 cases f with
 |zero=>exact Dec.zero
 |succ f=>exact(Dec.slc (dec_cmd f) Tryz.underlying22 (by kernel_rfl) (fun _=>rfl) (by decide)).map id (fun _=>rfl) (fun l=>by show cszL l≤_;rw[cszL_eq];omega)
theorem cells_one {v:Value} {d:D} {F:Frz} (h:VDs F [d] v.cells.toList) (hv:v.oneCell'=true):VD F d v:=by
 obtain⟨u,h1,h2⟩:=h.2 0 d rfl
 have:v.cells.toList=[v]:=by cases v<;>first|rfl|(simp[Value.oneCell'] at hv)
 rw[this] at h1
 injection h1 with h1
 rw[h1];exact h2
end
end
section
open Go.RowKit
def Lib0 (w:World):Prop:=3<w.heap.size∧∃m:Int,w.cell? ⟨3,0,none⟩=some (.int .i64 m)
theorem Lib0.below {w w':World} (h:Lib0 w) (hb:Below w.heap.size w w'):Lib0 w':=by
 obtain⟨h1,m,h2⟩:=h
 exact⟨Nat.lt_of_lt_of_le h1 hb.size,m,(hb.cell (p:=⟨3,0,none⟩) h1).trans h2⟩
theorem Lib0.open_ {w:World} (h:w.ShapedOpen Tryz.prog):Lib0 w:=by
 obtain⟨m,hm⟩:∃m,w.cell? ⟨3,0,none⟩=some (.int .i64 m):=Go.Proofs.cell_of_shapedOpen_int (zero:= #[.int .i64 0]) (t:=3) h (of_decide_eq_true (by kernel_rfl)) (by kernel_rfl) rfl (by kernel_rfl) (by kernel_rfl) Tryz.underlying3
 exact⟨World.block_lt_of_cell? w ⟨3,0,none⟩ hm,m,hm⟩
end
section
open Go.RowKit
theorem RF.of_row {w:World} {g:Nat} {l:List ByteArray} {e:TypeId} {fr:Nat×Nat} (h:w.heap[g]?=some (.cells (l.map Value.string).toArray e fr)) (n:Nat) (hn:l.length=n) (hm:n≤maxLen):
  RF strF w (· <w.heap.size) (.slice (some ⟨g,0,none⟩) n n) l:=by
 have e':l.flatMap strF.enc=l.map Value.string:=by
  clear h hn
  induction l with
  |nil=>rfl
  |cons z r ih=>simp only[List.map_cons,List.flatMap_cons,ih];rfl
 refine⟨some ⟨g,0,none⟩,n,by simp[hn],by simp[hn],hm,by simp,?_,fun _=>⟨g,0,rfl,(Array.getElem?_eq_some_iff.1 h).1,fun j u hu=>?_⟩⟩
 ·rw[e']
  simp[strF]
 ·rw[e'] at hu
  rw[Nat.zero_add,cell_of_row _ _ _ _ e fr h]
  simpa using hu
theorem Split_any (s:ByteArray) (w:World) (hs:s.size<4294967281) (h0:Lib0 w):
  Calls Tryz.prog 204 #[.string s,.string dotSep] w fun e w'=> ∃v',e= .returned v'∧RF strF w' (· <w'.heap.size) v' (splitL s)∧Below w.heap.size w w':=by
 obtain⟨_,m,hm⟩:=h0
 refine(Tryz.strings_Split s dotSep m w hs hm (by decide)).mono ?_
 rintro e w' ⟨rfl,rfl⟩
 refine⟨_,rfl,RF.of_row (fr:=(0,0)) (heap_alloc_new w _) _ (splitL_len s) ?_,(Below.refl _ _).alloc (Nat.le_refl _) _⟩
 have:=countB_small s
 unfold maxLen
 omega
end
section
open Go.RowKit
theorem atom_any (c:UInt8) (w:World):Calls Tryz.prog 205 #[.int .u8 c.toNat] w fun e w'=>e= .returned (.bool (atomB c))∧w=w':=by
  have hu:(c.toNat:Int)<256:=by have:=c.toNat_lt;omega
  have hcu:((c.toNat:Int).toNat.toUInt8)=c:=by simp
  have HI:=Lib.hid (fun wx=>by have h:=Tryz.strings_IndexByte (mk marksL) (c.toNat:Int) wx;rw[hcu] at h;exact h)
  clear hcu
  have hc:(c.toNat:Int)<48∨(48≤(c.toNat:Int)∧(c.toNat:Int)≤57)∨(58≤(c.toNat:Int)∧(c.toNat:Int)<65)∨(65≤(c.toNat:Int)∧(c.toNat:Int)≤90)∨(91≤(c.toNat:Int)∧(c.toNat:Int)≤96)∨(97≤(c.toNat:Int)∧(c.toNat:Int)≤122)∨122<(c.toNat:Int):=by omega
  rcases hc with h|⟨h,h'⟩|⟨h,h'⟩|⟨h,h'⟩|⟨h,h'⟩|⟨h,h'⟩|h
  all_goals first|have HB:=Lib.hid (alnum_yes (c:=c) (by omega))|have HB:=Lib.hid (alnum_no (c:=c) (by omega))
  all_goals
    go_enter Tryz.func205,Tryz.ntmps205
    go_wp2_with (go_at_call 173;refine(HI.out _).mono ?_;rintro e w' ⟨rfl,rfl⟩)
    go_ret
    refine⟨?_,rfl⟩
    rw[HB.out]
    first
    |rfl
    | (have e1:decide ((c.toNat:Int)≤57)=false:=by(rw[decide_eq_false_iff_not];omega)
       first
       |(simp only[e1,Bool.false_or];rfl)
       | (have e2:decide ((c.toNat:Int)≤90)=false:=by(rw[decide_eq_false_iff_not];omega)
          first
          |(simp only[e1,e2,Bool.false_or,Bool.or_false];rfl)
          | (have e3:decide ((c.toNat:Int)≤122)=false:=by(rw[decide_eq_false_iff_not];omega)
             simp only[e1,e2,e3,Bool.false_or,Bool.or_false];rfl)))
theorem getD_get {l:List UInt8} {k:Nat} (h:k<l.length):l.getD k 0=l[k]:=by simp[List.getD,List.getElem?_eq_getElem h]
theorem marks_cell (w:World) (k:Nat) (hk:k<19):(w.alloc (.cells #[.int .u8 33,.int .u8 35,.int .u8 36,.int .u8 37,.int .u8 38,.int .u8 39,.int .u8 42,.int .u8 43,.int .u8 45,.int .u8 47,.int .u8 61,.int .u8 63,.int .u8 94,.int .u8 95,.int .u8 123,.int .u8 124,.int .u8 125,.int .u8 126,.int .u8 96] 5)).cell? ⟨w.heap.size,k,none⟩=some (.int .u8 ((marksL.getD k 0).toNat:Int)):=by
 rw[cell_of_row _ _ _ _ 5 (0,0) (heap_alloc_new w _)]
 have:∀k,k<19→(#[Value.int .u8 33,.int .u8 35,.int .u8 36,.int .u8 37,.int .u8 38,.int .u8 39,.int .u8 42,.int .u8 43,.int .u8 45,.int .u8 47,.int .u8 61,.int .u8 63,.int .u8 94,.int .u8 95,.int .u8 123,.int .u8 124,.int .u8 125,.int .u8 126,.int .u8 96]:Array Value)[k]?=some (.int .u8 ((marksL.getD k 0).toNat:Int)):=by
  intro k hk
  obtain rfl|rfl|rfl|rfl|rfl|rfl|rfl|rfl|rfl|rfl|rfl|rfl|rfl|rfl|rfl|rfl|rfl|rfl|rfl:k=0∨k=1∨k=2∨k=3∨k=4∨k=5∨k=6∨k=7∨k=8∨k=9∨k=10∨k=11∨k=12∨k=13∨k=14∨k=15∨k=16∨k=17∨k=18:=by omega
  all_goals rfl
 exact this k hk
theorem atomByte_any (c:UInt8) (w:World):Calls Tryz.prog 223 #[.int .u8 c.toNat] w fun e w'=>e= .returned (.bool (atomB c))∧Below w.heap.size w w':=by
 have hu:(c.toNat:Int)<256:=by have:=c.toNat_lt;omega
 by_cases ha:(97≤(c.toNat:Int)∧(c.toNat:Int)≤122)∨(65≤(c.toNat:Int)∧(c.toNat:Int)≤90)∨(48≤(c.toNat:Int)∧(c.toNat:Int)≤57)
 ·have HB:=Lib.hid (alnum_yes (c:=c) ha)
  rcases ha with⟨h,h'⟩|⟨h,h'⟩|⟨h,h'⟩
  all_goals
   go_enter Tryz.func223,Tryz.ntmps223
   go_wp2_with (go_at_call 98;first|(refine(In_yes _ _ _ _ ?_ ?_).mono ?_;omega;omega;rintro e w' ⟨rfl,rfl⟩)|(refine(In_no _ _ _ _ ?_).mono ?_;omega;rintro e w' ⟨rfl,rfl⟩))
   go_ret
   exact⟨by rw[HB.out];rfl,Below.refl _ _⟩
 ·have HB:=Lib.hid (alnum_no (c:=c) ha)
  have HN1:(c.toNat:Int)<97∨122<(c.toNat:Int):=by omega
  have HN2:(c.toNat:Int)<65∨90<(c.toNat:Int):=by omega
  have HN3:(c.toNat:Int)<48∨57<(c.toNat:Int):=by omega
  have H1:=Lib.hid HN1
  have H2:=Lib.hid HN2
  have H3:=Lib.hid HN3
  clear HN1 HN2 HN3 ha
  have HM:=Lib.hid (marks_cell w)
  go_enter Tryz.func223,Tryz.ntmps223
  go_wp2_with (go_at_call 98;refine(In_no _ _ _ _ ?_).mono ?_;(first|exact H1.out|exact H2.out|exact H3.out);rintro e w' ⟨rfl,rfl⟩)
  go_loop [4] (fun i=> ∃k:Nat,k≤19∧i= .int .i64 k∧∀j,j<k→marksL.getD j 0≠c) (fun i=>19-(intOf i).toNat)
  case atStart=>exact⟨0,by omega,rfl,fun j hj=>by omega⟩
  case round=>
   obtain⟨k,hk,rfl,hn⟩:=hrel
   have HN:=Lib.hid hn
   clear hn
   by_cases hlt:k<19
   ·have hc:=HM.out k hlt
    obtain⟨d,hd⟩:∃d,d=marksL.getD k 0:=⟨_,rfl⟩
    rw[←hd] at hc
    have HD:=Lib.hid hd
    clear hd
    have i0:(0:Int)≤k:=by omega
    have i1:(k:Int)<19:=by omega
    by_cases he:d=c
    ·subst he
     have HF:Hid (decide (0≤Lib.indexByte marksL d)=true):=Lib.hid (by
      rw[decide_eq_true_eq,indexByte_mem,HD.out]
      have hk':k<marksL.length:=hlt
      rw[getD_get hk']
      exact List.getElem_mem hk')
     go_wp2_with fail
     go_ret
     exact⟨by rw[HB.out,HF.out];rfl,(Below.refl _ _).alloc (Nat.le_refl _) _⟩
    ·have HE:=Lib.hid he
     have i2:((d.toNat:Int)==(c.toNat:Int))=false:=beq_false_of_ne fun h=>he (UInt8.toNat_inj.1 (by omega))
     clear he
     go_wp2_with fail
     go_round
     case rel=>
      refine⟨k+1,by omega,by go_num,fun j hj=>?_⟩
      by_cases e:j=k
      ·subst e
       rw[←HD.out]
       exact HE.out
      ·exact HN.out j (by omega)
     case measure=>simp[intOf];omega
   ·obtain rfl:k=19:=by omega
    have HF:Hid (decide (0≤Lib.indexByte marksL c)=false):=Lib.hid (by
     rw[decide_eq_false_iff_not,indexByte_mem]
     intro hm
     obtain⟨j,hj,e⟩:=List.mem_iff_getElem.1 hm
     refine HN.out j hj ?_
     rw[getD_get hj,e])
    go_wp2_with fail
    go_ret
    exact⟨by rw[HB.out,HF.out];rfl,(Below.refl _ _).alloc (Nat.le_refl _) _⟩
end
section
open Go.RowKit
theorem ne46 {l:UInt8} (h:l≠46):(l.toNat:Int)≠46:=fun e=>h (UInt8.toNat_inj.1 (by have:(46:UInt8).toNat=46:=rfl;omega))
theorem dotted_any (s:ByteArray) (w:World) (hs:s.size≤1048576) (h0:Lib0 w):Calls Tryz.prog 121 #[.string s] w fun e w'=>e= .returned (.bool (dottedB s))∧Below w.heap.size w w':=by
 have HS:=Lib.hid (splitL_all s)
 have HZ:=Lib.hid (fun x (hx:x∈splitL s)=>splitB_small dotSep _ s x hx)
 have HC:=Lib.hid (fun wx h=>Split_any s wx (by omega) h)
 obtain⟨L,hL⟩:∃L,L=splitL s:=⟨_,rfl⟩
 rw[←hL] at HS HC HZ
 have HL:=Lib.hid hL
 have H0:=Lib.hid h0
 clear hL h0
 go_enter Tryz.func121,Tryz.ntmps121
 go_wp2_with fail
 refine(HC.out _ H0.out).mono ?_
 rintro e w1 ⟨v,rfl,hr,hb⟩
 obtain⟨A,c,rfl,hr⟩:=hr.ex
 have hm:=hr.bound
 unfold maxLen at hm
 have H:=Lib.hid hr
 have HB:=Lib.hid hb
 clear hr hb
 go_wp2_with fail
 go_loop [9] (fun i=> ∃k:Nat,k≤L.length∧i= .int .i64 k∧∀(j:Nat) x,j<k→L[j]?=some x→pieceOk (bs x)=true) (fun i=>L.length-(intOf i).toNat)
 case atStart=>exact⟨0,by omega,rfl,fun j x hj=>by omega⟩
 case round=>
  obtain⟨k,hk,rfl,hg⟩:=hrel
  have HG:=Lib.hid hg
  clear hg
  by_cases hlt:k<L.length
  ·obtain⟨b,off,x,rfl,_,hx,hc⟩:=str_cell H.out hlt
   have hxs:=HZ.out x (List.mem_of_getElem? hx)
   have HX:=Lib.hid hx
   have HBAD:Hid (pieceOk (bs x)=false→dottedB s=false):=Lib.hid (fun h=>by
    rw[←HS.out,List.all_eq_false]
    exact⟨x,List.mem_of_getElem? HX.out,by simp[h]⟩)
   clear hx
   by_cases hz:x.size=0
   ·have HV:Hid (dottedB s=false):=Lib.hid (HBAD.out (by
     have:bs x=[]:=List.eq_nil_of_length_eq_zero (by rw[bs_len];exact hz)
     rw[this];rfl))
    have hx0:x=ByteArray.empty:=by
     apply bs_inj
     have:bs x=[]:=List.eq_nil_of_length_eq_zero (by rw[bs_len];exact hz)
     rw[this];rfl
    subst hx0
    clear hz hxs
    go_wp2_with fail
    go_ret
    exact⟨by rw[HV.out];rfl,HB.out⟩
   ·have i1:x.toList.isEmpty=false:=by
     rw[ByteArray.toList_eq]
     cases he:x.data.toList with
     |nil=>exfalso;apply hz;rw[←bs_len];unfold bs;rw[he];rfl
     |cons a b=>rfl
    have HNE:Hid ((bs x).isEmpty=false):=Lib.hid (by rw[ByteArray.toList_eq] at i1;exact i1)
    have i2:¬x.toList=[]:=by intro h;rw[h] at i1;cases i1
    clear hz
    go_wp2_with fail
    go_loop [17] (fun i=> ∃q:Nat,q≤x.size∧i= .int .i64 q∧∀(j:Nat) (hj:j<x.size),j<q→atomB x[j]=true) (fun i=>x.size-(intOf i).toNat)
    case atStart=>exact⟨0,by omega,rfl,fun j x hj=>by omega⟩
    case round=>
     obtain⟨q,hq,rfl,hat⟩:=hrel
     have HA:=Lib.hid hat
     clear hat
     by_cases hlq:q<x.size
     ·have HAT:=Lib.hid (fun wx=>atom_any x[q] wx)
      cases ha:atomB x[q]
      ·rw[ha] at HAT
       have HV:Hid (dottedB s=false):=Lib.hid (HBAD.out (by
        unfold pieceOk
        rw[HNE.out]
        have:(bs x).all atomB=false:=by
         rw[List.all_eq_false]
         exact⟨x[q],List.mem_of_getElem? (bs_get x q hlq),by simp[ha]⟩
        rw[this];rfl))
       clear ha
       go_wp2_with (go_at_call 205;refine(HAT.out _).mono ?_;rintro e w' ⟨rfl,rfl⟩)
       go_ret
       exact⟨by rw[HV.out];rfl,HB.out⟩
      ·rw[ha] at HAT
       have HH:=Lib.hid ha
       clear ha
       go_wp2_with (go_at_call 205;refine(HAT.out _).mono ?_;rintro e w' ⟨rfl,rfl⟩)
       go_round
       case rel=>
        refine⟨q+1,by omega,by go_num,fun j hj hjq=>?_⟩
        by_cases e:j=q
        ·subst e;exact HH.out
        ·exact HA.out j hj (by omega)
       case measure=>simp[intOf];omega
     ·obtain rfl:q=x.size:=by omega
      have HP:Hid (pieceOk (bs x)=true):=Lib.hid (by
       unfold pieceOk
       rw[HNE.out]
       have:(bs x).all atomB=true:=by
        rw[List.all_eq_true]
        intro b hb
        obtain⟨j,hj,e⟩:=List.mem_iff_getElem.1 hb
        have hj':j<x.size:=by rw[←bs_len];exact hj
        have:=HA.out j hj' hj'
        rw[←e]
        have e2:=bs_get x j hj'
        rw[List.getElem?_eq_getElem hj] at e2
        injection e2 with e2
       rw[this];rfl)
      go_wp2_with fail
      go_round
      case rel=>
       refine⟨k+1,by omega,by go_num,fun j y hj hy=>?_⟩
       by_cases e:j=k
       ·subst e
        rw[HX.out] at hy
        injection hy with hy
        subst hy
        exact HP.out
       ·exact HG.out j y (by omega) hy
      case measure=>simp[intOf];omega
  ·obtain rfl:k=L.length:=by omega
   have HV:Hid (dottedB s=true):=Lib.hid (by
    rw[←HS.out,List.all_eq_true]
    intro x hx
    obtain⟨j,hj,e⟩:=List.mem_iff_getElem.1 hx
    exact HG.out j x hj (by rw[List.getElem?_eq_getElem hj,e]))
   go_wp2_with fail
   go_ret
   exact⟨by rw[HV.out];rfl,HB.out⟩
theorem dotGo_at (s:ByteArray) (d:Bool) (k:Nat) (h:k<s.size):dotGo d ((bs s).drop k)=if s[k]=46 then !d&&dotGo true ((bs s).drop (k+1)) else atomB s[k]&&dotGo false ((bs s).drop (k+1)):=by
 have hk:k<(bs s).length:=by rw[bs_len];exact h
 have e:=bs_get s k h
 rw[List.getElem?_eq_getElem hk] at e
 injection e with e
 rw[List.drop_eq_getElem_cons hk,e]
 rfl
theorem dottedMay_any (s:ByteArray) (w:World) (hs:s.size≤maxLen):Calls Tryz.prog 134 #[.string s] w fun e w'=>e= .returned (.bool (dottedB s))∧Below w.heap.size w w':=by
 unfold maxLen at hs
 have hbl:=Lib.hid (bs_len s)
 go_enter Tryz.func134,Tryz.ntmps134
 go_wp2_with fail
 go_loopw [3,4] (fun v i wr=> ∃(k:Nat) (l:UInt8),k≤s.size∧i= .int .i64 k∧v= .int .u8 l.toNat∧dottedB s=dotGo (decide (l=46)) ((bs s).drop k)∧Below w.heap.size w wr) (fun _ i _=>s.size-(intOf i).toNat)
 case atStart=>exact⟨0,46,by omega,rfl,rfl,by rfl,Below.refl _ _⟩
 case round=>
  obtain⟨k,l,hk,rfl,rfl,hd,hb⟩:=hrel
  have HD:=Lib.hid hd
  have HB:=Lib.hid hb
  clear hd hb
  have hl:=l.toNat_lt
  by_cases hlt:k<s.size
  ·have HS:=Lib.hid (dotGo_at s (decide (l=46)) k hlt)
   by_cases he:s[k]=46
   ·have i1:((s[k].toNat:Int)==46)=true:=by rw[he];rfl
    by_cases hl46:l=46
    ·subst hl46
     have HV:Hid (dottedB s=false):=Lib.hid (by rw[HD.out,HS.out,if_pos he];rfl)
     clear he
     go_wp2_with fail
     go_ret
     exact⟨by rw[HV.out];rfl,HB.out⟩
    ·have HV:Hid (dottedB s=dotGo (decide (s[k]=46)) ((bs s).drop (k+1))):=Lib.hid (by rw[HD.out,HS.out,if_pos he,he];simp[hl46])
     have i2:((l.toNat:Int)==46)=false:=beq_false_of_ne (ne46 hl46)
     have i3:((s[k].toNat:Int) !=46)=false:=by rw[he];rfl
     have i4:(s[k].toNat:Int)=46:=by rw[he];rfl
     clear he hl46
     go_wp2_with fail
     go_roundw
     case rel=>exact⟨k+1,s[k],by omega,by go_num,by first|rfl|rw[i4],HV.out,HB.out⟩
     case measure=>simp[intOf];omega
   ·have i1:((s[k].toNat:Int)==46)=false:=beq_false_of_ne (ne46 he)
    have i3:((s[k].toNat:Int) !=46)=true:=by simp only[bne,i1];rfl
    have i4:¬(s[k].toNat:Int)=46:=by simpa using i1
    have HAT:=Lib.hid (fun wx=>atomByte_any s[k] wx)
    cases ha:atomB s[k]
    ·rw[ha] at HAT
     have HV:Hid (dottedB s=false):=Lib.hid (by rw[HD.out,HS.out,if_neg he,ha];rfl)
     clear he ha
     go_wp2_with (go_at_call 223;refine(HAT.out _).mono ?_;rintro e w1 ⟨rfl,hb1⟩)
     go_ret
     exact⟨by rw[HV.out];rfl,HB.out.trans (hb1.mono HB.out.size)⟩
    ·rw[ha] at HAT
     have HV:Hid (dottedB s=dotGo (decide (s[k]=46)) ((bs s).drop (k+1))):=Lib.hid (by rw[HD.out,HS.out,if_neg he,ha];simp[he])
     clear he ha
     go_wp2_with (go_at_call 223;refine(HAT.out _).mono ?_;rintro e w1 ⟨rfl,hb1⟩)
     go_roundw
     case rel=>exact⟨k+1,s[k],by omega,by go_num,rfl,HV.out,HB.out.trans (hb1.mono HB.out.size)⟩
     case measure=>simp[intOf];omega
  ·obtain rfl:k=s.size:=by omega
   have HV:Hid (dottedB s=!decide (l=46)):=Lib.hid (by rw[HD.out,List.drop_eq_nil_of_le (by rw[hbl.out];omega)];rfl)
   by_cases hl46:l=46
   ·subst hl46
    go_wp2_with fail
    go_ret
    exact⟨by rw[HV.out];rfl,HB.out⟩
   ·have i2:((l.toNat:Int) !=46)=true:=by
     have:((l.toNat:Int)==46)=false:=beq_false_of_ne (ne46 hl46)
     simp only[bne,this];rfl
    have HW:Hid (dottedB s=true):=Lib.hid (by rw[HV.out];simp[hl46])
    clear hl46
    go_wp2_with fail
    go_ret
    exact⟨by rw[HW.out];rfl,HB.out⟩
end
section
open Go.RowKit
structure Adr where
 l:ByteArray
 d:ByteArray
def Adr.val (a:Adr):Value:= .agg #[.string a.l,.string a.d]
def addrE (a:Adr):Int:=if dottedB a.l=false∨dottedB a.d=false then 3 else if 99<a.l.size+a.d.size then 1 else 0
structure AdrOk (a:Adr):Prop where
 hl:a.l.size≤1048576
 hd:a.d.size≤1048576
theorem addrE_l {a:Adr} (h:dottedB a.l=false):addrE a=3:=if_pos (.inl h)
theorem addrE_d {a:Adr} (h:dottedB a.d=false):addrE a=3:=if_pos (.inr h)
theorem addrE_big {a:Adr} (h1:dottedB a.l=true) (h2:dottedB a.d=true) (h:99<a.l.size+a.d.size):addrE a=1:=by unfold addrE;rw[if_neg (by rw[h1,h2];decide),if_pos h]
theorem addrE_ok {a:Adr} (h1:dottedB a.l=true) (h2:dottedB a.d=true) (h:¬99<a.l.size+a.d.size):addrE a=0:=by unfold addrE;rw[if_neg (by rw[h1,h2];decide),if_neg h]
theorem whoCheck_any (a:Adr) (w:World) (hz:a.l.size≤1048576∧a.d.size≤1048576) (h0:Lib0 w):Calls Tryz.prog 68 #[a.val] w fun e w'=>e= .returned (.int .i64 (addrE a))∧Below w.heap.size w w':=by
 have m1:=hz.1
 have m2:=hz.2
 clear hz
 have H0:=Lib.hid h0
 clear h0
 have tok:True:=trivial
 cases h1:dottedB a.l
 ·have HF:=Lib.hid (addrE_l h1)
  have H1:=Lib.hid h1
  clear h1
  obtain⟨l,d⟩:=a
  unfold Adr.val
  dsimp only at*
  go_enter Tryz.func68,Tryz.ntmps68
  go_wp2_with (first|(go_at_call 121;clear tok;refine(dotted_any l _ ?_ ?_).mono ?_;omega;exact Lib0.below H0.out (Below.alloc (Below.refl _ _) (Nat.le_refl _) _);rintro e w1 ⟨rfl,hb1⟩;rw[H1.out];obtain⟨k1a,k1b,k1c⟩:=own_at hb1 (b:=w.heap.size) (by first|omega|(simp;done)|(simp;omega));have z2:=hb1.size;(try simp only[World.size_alloc,World.size_setCell] at z2)))
  go_ret
  refine⟨by rw[HF.out];rfl,?_⟩
  (repeat(first|with_reducible exact hb1|with_reducible refine Below.trans ?_ (Below.mono hb1 ?_)|with_reducible exact Below.refl _ _|with_reducible refine Below.setCell ?_ ?_ _|with_reducible refine Below.alloc ?_ ?_ _|with_reducible refine Below.drew ?_|with_reducible refine below_drewN ?_ _))
  all_goals(first|omega|(simp;done)|(simp;omega)|(dsimp only[World.drew] at*;omega))
 cases h2:dottedB a.d
 ·have HF:=Lib.hid (addrE_d h2)
  have H1:=Lib.hid h1
  have H2:=Lib.hid h2
  clear h1 h2
  obtain⟨l,d⟩:=a
  unfold Adr.val
  dsimp only at*
  go_enter Tryz.func68,Tryz.ntmps68
  go_wp2_with (first|(go_at_call 121;clear tok;refine(dotted_any l _ ?_ ?_).mono ?_;omega;exact Lib0.below H0.out (Below.alloc (Below.refl _ _) (Nat.le_refl _) _);rintro e w1 ⟨rfl,hb1⟩;rw[H1.out];obtain⟨k3a,k3b,k3c⟩:=own_at hb1 (b:=w.heap.size) (by first|omega|(simp;done)|(simp;omega));have z4:=hb1.size;(try simp only[World.size_alloc,World.size_setCell] at z4))|(go_at_call 121;refine(dotted_any d _ ?_ ?_).mono ?_;omega;exact Lib0.below (Lib0.below H0.out (Below.alloc (Below.refl _ _) (Nat.le_refl _) _)) hb1;rintro e w2 ⟨rfl,hb2⟩;rw[H2.out];obtain⟨k5a,k5b,k5c⟩:=own_at hb2 (b:=w.heap.size) (by first|omega|(simp;done)|(simp;omega));have z6:=hb2.size;(try simp only[World.size_alloc,World.size_setCell] at z6)))
  go_ret
  refine⟨by rw[HF.out];rfl,?_⟩
  (repeat(first|with_reducible exact hb2|with_reducible refine Below.trans ?_ (Below.mono hb2 ?_)|with_reducible exact hb1|with_reducible refine Below.trans ?_ (Below.mono hb1 ?_)|with_reducible exact Below.refl _ _|with_reducible refine Below.setCell ?_ ?_ _|with_reducible refine Below.alloc ?_ ?_ _|with_reducible refine Below.drew ?_|with_reducible refine below_drewN ?_ _))
  all_goals(first|omega|(simp;done)|(simp;omega)|(dsimp only[World.drew] at*;omega))
 by_cases h3:99<a.l.size+a.d.size
 ·have HF:=Lib.hid (addrE_big h1 h2 h3)
  have H1:=Lib.hid h1
  have H2:=Lib.hid h2
  clear h1 h2
  obtain⟨l,d⟩:=a
  unfold Adr.val
  dsimp only at*
  have i1:(100:Int)<(l.size:Int)+1+d.size:=by omega
  go_enter Tryz.func68,Tryz.ntmps68
  go_wp2_with (first|(go_at_call 121;clear tok;refine(dotted_any l _ ?_ ?_).mono ?_;omega;exact Lib0.below H0.out (Below.alloc (Below.refl _ _) (Nat.le_refl _) _);rintro e w1 ⟨rfl,hb1⟩;rw[H1.out];obtain⟨k7a,k7b,k7c⟩:=own_at hb1 (b:=w.heap.size) (by first|omega|(simp;done)|(simp;omega));have z8:=hb1.size;(try simp only[World.size_alloc,World.size_setCell] at z8))|(go_at_call 121;refine(dotted_any d _ ?_ ?_).mono ?_;omega;exact Lib0.below (Lib0.below H0.out (Below.alloc (Below.refl _ _) (Nat.le_refl _) _)) hb1;rintro e w2 ⟨rfl,hb2⟩;rw[H2.out];obtain⟨k9a,k9b,k9c⟩:=own_at hb2 (b:=w.heap.size) (by first|omega|(simp;done)|(simp;omega));have z10:=hb2.size;(try simp only[World.size_alloc,World.size_setCell] at z10)))
  go_ret
  refine⟨by rw[HF.out];rfl,?_⟩
  (repeat(first|with_reducible exact hb2|with_reducible refine Below.trans ?_ (Below.mono hb2 ?_)|with_reducible exact hb1|with_reducible refine Below.trans ?_ (Below.mono hb1 ?_)|with_reducible exact Below.refl _ _|with_reducible refine Below.setCell ?_ ?_ _|with_reducible refine Below.alloc ?_ ?_ _|with_reducible refine Below.drew ?_|with_reducible refine below_drewN ?_ _))
  all_goals(first|omega|(simp;done)|(simp;omega)|(dsimp only[World.drew] at*;omega))
 ·have HF:=Lib.hid (addrE_ok h1 h2 h3)
  have H1:=Lib.hid h1
  have H2:=Lib.hid h2
  clear h1 h2
  obtain⟨l,d⟩:=a
  unfold Adr.val
  dsimp only at*
  have i1:¬((100:Int)<(l.size:Int)+1+d.size):=by omega
  clear h3
  go_enter Tryz.func68,Tryz.ntmps68
  go_wp2_with (first|(go_at_call 121;clear tok;refine(dotted_any l _ ?_ ?_).mono ?_;omega;exact Lib0.below H0.out (Below.alloc (Below.refl _ _) (Nat.le_refl _) _);rintro e w1 ⟨rfl,hb1⟩;rw[H1.out];obtain⟨k11a,k11b,k11c⟩:=own_at hb1 (b:=w.heap.size) (by first|omega|(simp;done)|(simp;omega));have z12:=hb1.size;(try simp only[World.size_alloc,World.size_setCell] at z12))|(go_at_call 121;refine(dotted_any d _ ?_ ?_).mono ?_;omega;exact Lib0.below (Lib0.below H0.out (Below.alloc (Below.refl _ _) (Nat.le_refl _) _)) hb1;rintro e w2 ⟨rfl,hb2⟩;rw[H2.out];obtain⟨k13a,k13b,k13c⟩:=own_at hb2 (b:=w.heap.size) (by first|omega|(simp;done)|(simp;omega));have z14:=hb2.size;(try simp only[World.size_alloc,World.size_setCell] at z14)))
  go_ret
  refine⟨by rw[HF.out];rfl,?_⟩
  (repeat(first|with_reducible exact hb2|with_reducible refine Below.trans ?_ (Below.mono hb2 ?_)|with_reducible exact hb1|with_reducible refine Below.trans ?_ (Below.mono hb1 ?_)|with_reducible exact Below.refl _ _|with_reducible refine Below.setCell ?_ ?_ _|with_reducible refine Below.alloc ?_ ?_ _|with_reducible refine Below.drew ?_|with_reducible refine below_drewN ?_ _))
  all_goals(first|omega|(simp;done)|(simp;omega)|(dsimp only[World.drew] at*;omega))
theorem addrFault_big (a:Adr) (w:World) (hz:a.l.size≤4294967296∧a.d.size≤4294967296):Calls Tryz.prog 74 #[a.val] w fun e w'=>e= .returned (.int .i64 (addrE a))∧Below w.heap.size w w':=by
 have m1:=hz.1
 have m2:=hz.2
 clear hz
 have tok:True:=trivial
 cases h1:dottedB a.l
 ·have HF:=Lib.hid (addrE_l h1)
  have H1:=Lib.hid h1
  clear h1
  obtain⟨l,d⟩:=a
  unfold Adr.val
  dsimp only at*
  go_enter Tryz.func74,Tryz.ntmps74
  go_wp2_with (first|(go_at_call 134;clear tok;refine(dottedMay_any l _ ?_).mono ?_;(unfold maxLen;omega);rintro e w1 ⟨rfl,hb1⟩;rw[H1.out];obtain⟨k15a,k15b,k15c⟩:=own_at hb1 (b:=w.heap.size) (by first|omega|(simp;done)|(simp;omega));have z16:=hb1.size;(try simp only[World.size_alloc,World.size_setCell] at z16)))
  go_ret
  refine⟨by rw[HF.out];rfl,?_⟩
  (repeat(first|with_reducible exact hb1|with_reducible refine Below.trans ?_ (Below.mono hb1 ?_)|with_reducible exact Below.refl _ _|with_reducible refine Below.setCell ?_ ?_ _|with_reducible refine Below.alloc ?_ ?_ _|with_reducible refine Below.drew ?_|with_reducible refine below_drewN ?_ _))
  all_goals(first|omega|(simp;done)|(simp;omega)|(dsimp only[World.drew] at*;omega))
 cases h2:dottedB a.d
 ·have HF:=Lib.hid (addrE_d h2)
  have H1:=Lib.hid h1
  have H2:=Lib.hid h2
  clear h1 h2
  obtain⟨l,d⟩:=a
  unfold Adr.val
  dsimp only at*
  go_enter Tryz.func74,Tryz.ntmps74
  go_wp2_with (first|(go_at_call 134;clear tok;refine(dottedMay_any l _ ?_).mono ?_;(unfold maxLen;omega);rintro e w1 ⟨rfl,hb1⟩;rw[H1.out];obtain⟨k17a,k17b,k17c⟩:=own_at hb1 (b:=w.heap.size) (by first|omega|(simp;done)|(simp;omega));have z18:=hb1.size;(try simp only[World.size_alloc,World.size_setCell] at z18))|(go_at_call 134;refine(dottedMay_any d _ ?_).mono ?_;(unfold maxLen;omega);rintro e w2 ⟨rfl,hb2⟩;rw[H2.out];obtain⟨k19a,k19b,k19c⟩:=own_at hb2 (b:=w.heap.size) (by first|omega|(simp;done)|(simp;omega));have z20:=hb2.size;(try simp only[World.size_alloc,World.size_setCell] at z20)))
  go_ret
  refine⟨by rw[HF.out];rfl,?_⟩
  (repeat(first|with_reducible exact hb2|with_reducible refine Below.trans ?_ (Below.mono hb2 ?_)|with_reducible exact hb1|with_reducible refine Below.trans ?_ (Below.mono hb1 ?_)|with_reducible exact Below.refl _ _|with_reducible refine Below.setCell ?_ ?_ _|with_reducible refine Below.alloc ?_ ?_ _|with_reducible refine Below.drew ?_|with_reducible refine below_drewN ?_ _))
  all_goals(first|omega|(simp;done)|(simp;omega)|(dsimp only[World.drew] at*;omega))
 by_cases h3:99<a.l.size+a.d.size
 ·have HF:=Lib.hid (addrE_big h1 h2 h3)
  have H1:=Lib.hid h1
  have H2:=Lib.hid h2
  clear h1 h2
  obtain⟨l,d⟩:=a
  unfold Adr.val
  dsimp only at*
  have i1:(99:Int)<(l.size:Int)+d.size:=by omega
  go_enter Tryz.func74,Tryz.ntmps74
  go_wp2_with (first|(go_at_call 134;clear tok;refine(dottedMay_any l _ ?_).mono ?_;(unfold maxLen;omega);rintro e w1 ⟨rfl,hb1⟩;rw[H1.out];obtain⟨k21a,k21b,k21c⟩:=own_at hb1 (b:=w.heap.size) (by first|omega|(simp;done)|(simp;omega));have z22:=hb1.size;(try simp only[World.size_alloc,World.size_setCell] at z22))|(go_at_call 134;refine(dottedMay_any d _ ?_).mono ?_;(unfold maxLen;omega);rintro e w2 ⟨rfl,hb2⟩;rw[H2.out];obtain⟨k23a,k23b,k23c⟩:=own_at hb2 (b:=w.heap.size) (by first|omega|(simp;done)|(simp;omega));have z24:=hb2.size;(try simp only[World.size_alloc,World.size_setCell] at z24)))
  go_ret
  refine⟨by rw[HF.out];rfl,?_⟩
  (repeat(first|with_reducible exact hb2|with_reducible refine Below.trans ?_ (Below.mono hb2 ?_)|with_reducible exact hb1|with_reducible refine Below.trans ?_ (Below.mono hb1 ?_)|with_reducible exact Below.refl _ _|with_reducible refine Below.setCell ?_ ?_ _|with_reducible refine Below.alloc ?_ ?_ _|with_reducible refine Below.drew ?_|with_reducible refine below_drewN ?_ _))
  all_goals(first|omega|(simp;done)|(simp;omega)|(dsimp only[World.drew] at*;omega))
 ·have HF:=Lib.hid (addrE_ok h1 h2 h3)
  have H1:=Lib.hid h1
  have H2:=Lib.hid h2
  clear h1 h2
  obtain⟨l,d⟩:=a
  unfold Adr.val
  dsimp only at*
  have i1:¬((99:Int)<(l.size:Int)+d.size):=by omega
  clear h3
  go_enter Tryz.func74,Tryz.ntmps74
  go_wp2_with (first|(go_at_call 134;clear tok;refine(dottedMay_any l _ ?_).mono ?_;(unfold maxLen;omega);rintro e w1 ⟨rfl,hb1⟩;rw[H1.out];obtain⟨k25a,k25b,k25c⟩:=own_at hb1 (b:=w.heap.size) (by first|omega|(simp;done)|(simp;omega));have z26:=hb1.size;(try simp only[World.size_alloc,World.size_setCell] at z26))|(go_at_call 134;refine(dottedMay_any d _ ?_).mono ?_;(unfold maxLen;omega);rintro e w2 ⟨rfl,hb2⟩;rw[H2.out];obtain⟨k27a,k27b,k27c⟩:=own_at hb2 (b:=w.heap.size) (by first|omega|(simp;done)|(simp;omega));have z28:=hb2.size;(try simp only[World.size_alloc,World.size_setCell] at z28)))
  go_ret
  refine⟨by rw[HF.out];rfl,?_⟩
  (repeat(first|with_reducible exact hb2|with_reducible refine Below.trans ?_ (Below.mono hb2 ?_)|with_reducible exact hb1|with_reducible refine Below.trans ?_ (Below.mono hb1 ?_)|with_reducible exact Below.refl _ _|with_reducible refine Below.setCell ?_ ?_ _|with_reducible refine Below.alloc ?_ ?_ _|with_reducible refine Below.drew ?_|with_reducible refine below_drewN ?_ _))
  all_goals(first|omega|(simp;done)|(simp;omega)|(dsimp only[World.drew] at*;omega))
end
section
open Go.RowKit
def LibT (T:Tbl):Prop:=∃m:Int,(T 3)[0]?=some (.int .i64 m)
theorem LibT.lib0 {T:Tbl} (h:LibT T) {F:Frz} {w:World} (hF:∀b o u,F b o=some u→w.cell? ⟨b,o,none⟩=some u) (hT:∀g j x,(T g)[j]?=some x→∃u,F g j=some u∧VD F x u):Lib0 w:=by
 obtain⟨m,hm⟩:=h
 obtain⟨u,h1,h2⟩:=tbl_cell hF hT hm
 obtain rfl:=h2.int_inv
 exact⟨World.block_lt_of_cell? w ⟨3,0,none⟩ h1,m,h1⟩
theorem atom_p (T:Tbl) (c:UInt8):PC Tryz.prog T 205 [.d (.int .u8 c.toNat)] (.d (.bool (atomB c))):=PC.old Tryz.call205 fun F w vs hF hT R=>by
 obtain⟨v,rfl,hv⟩:=slr1 R
 obtain rfl:=hv.int_inv
 refine(atom_any c w).mono ?_
 rintro e w' ⟨rfl,rfl⟩
 exact⟨_,rfl,Below.refl _ _,.bool _⟩
theorem atomByte_p (T:Tbl) (c:UInt8):PC Tryz.prog T 223 [.d (.int .u8 c.toNat)] (.d (.bool (atomB c))):=PC.old Tryz.call223 fun F w vs hF hT R=>by
 obtain⟨v,rfl,hv⟩:=slr1 R
 obtain rfl:=hv.int_inv
 refine(atomByte_any c w).mono ?_
 rintro e w' ⟨rfl,hb⟩
 exact⟨_,rfl,hb,.bool _⟩
theorem adr_vs {G:Gh} {l d:Tx} {vs:Array Value} (R:SlR G [.agg [.d (.str l),.d (.str d)]] vs):∃a:Adr,vs= #[a.val]∧a.l.data.toList=l∧a.d.data.toList=d:=by
 obtain⟨v,rfl,hv⟩:=slr1 R
 obtain⟨us,rfl,hu⟩:=hv.agg_inv
 obtain⟨x,y,rfl,hx,hy⟩:=slr2 hu
 obtain⟨p,rfl,h1,_⟩:=hx.str_inv
 obtain⟨q,rfl,h2,_⟩:=hy.str_inv
 exact⟨⟨p,q⟩,rfl,h1,h2⟩
theorem adrE_of {a:Adr} {l d:Tx} (h1:a.l.data.toList=l) (h2:a.d.data.toList=d):addrE a=adrE l d:=by
 subst h1 h2
 simp only[addrE,adrE,dottedB,bs,size_data]
 congr
theorem whoCheck_p (T:Tbl) (hL:LibT T) (l d:Tx) (h1:l.length≤1048576) (h2:d.length≤1048576):PC Tryz.prog T 68 [.agg [.d (.str l),.d (.str d)]] (.d (.int .i64 (adrE l d))):=PC.old Tryz.call68 fun F w vs hF hT R=>by
 obtain⟨a,rfl,e1,e2⟩:=adr_vs R
 refine(whoCheck_any a w ⟨by rw[←size_data,e1];exact h1,by rw[←size_data,e2];exact h2⟩ (hL.lib0 hF hT)).mono ?_
 rintro e w' ⟨rfl,hb⟩
 exact⟨_,rfl,hb,by rw[adrE_of e1 e2];exact .int _ _⟩
theorem addrFault_bp (T:Tbl) (l d:Tx) (h1:l.length≤4294967296) (h2:d.length≤4294967296):PC Tryz.prog T 74 [.agg [.d (.str l),.d (.str d)]] (.d (.int .i64 (adrE l d))):=PC.old Tryz.call74 fun F w vs hF hT R=>by
 obtain⟨a,rfl,e1,e2⟩:=adr_vs R
 refine(addrFault_big a w ⟨by rw[←size_data,e1];exact h1,by rw[←size_data,e2];exact h2⟩).mono ?_
 rintro e w' ⟨rfl,hb⟩
 exact⟨_,rfl,hb,by rw[adrE_of e1 e2];exact .int _ _⟩
theorem addrFault_p (T:Tbl) (l d:Tx) (h1:l.length≤1048576) (h2:d.length≤1048576):PC Tryz.prog T 74 [.agg [.d (.str l),.d (.str d)]] (.d (.int .i64 (adrE l d))):=addrFault_bp T l d (by omega) (by omega)
end
section
open Go.RowKit
open Go.ChangeShapes Go.WideShapes Go.ChangeAt
open Go.ChangeMaps (open_string)
set_option maxRecDepth 20000
end
section
open Go.RowKit
open Go.ChangeShapes Go.WideShapes Go.ChangeAt
set_option maxRecDepth 20000
section
variable {H:Type} {enc:TypeId×Value→H} {W:World}
theorem dec_adr (f:Nat):Dec enc Tryz.prog W (fun p:Tx×Tx=>[.str p.1,.str p.2]) (fun p=>p.1.length+p.2.length) 36 f:=by
 cases f with
 |zero=>exact .zero
 |succ f=>
  have hs:Dec enc Tryz.prog W (fun s:List UInt8=>[.str s]) (fun s=>s.length+1) 9 f:=Dec.str Tryz.underlying9
  exact(Dec.struct Tryz.underlying36 (by kernel_rfl) (.cons (k:=1) hs (by kernel_rfl) rfl (.cons (k:=1) hs (by kernel_rfl) rfl .nil))).map
    (fun(p:Tx×(Tx×Unit))=>(p.1,p.2.1)) (fun p=>rfl) (fun p=>by dsimp only;omega)
theorem dec_ltr (f:Nat):Dec enc Tryz.prog W (fun p:(Tx×Tx)×(Tx×Tx)×Tx=>[.str p.1.1,.str p.1.2,.str p.2.1.1,.str p.2.1.2,.str p.2.2]) (fun p=>p.1.1.length+p.1.2.length+p.2.1.1.length+p.2.1.2.length+p.2.2.length) 38 f:=by
 cases f with
 |zero=>exact .zero
 |succ f=>
  have hs:Dec enc Tryz.prog W (fun s:List UInt8=>[.str s]) (fun s=>s.length+1) 9 f:=Dec.str Tryz.underlying9
  exact(Dec.struct Tryz.underlying38 (by kernel_rfl) (.cons (k:=2) (dec_adr f) (by kernel_rfl) rfl (.cons (k:=2) (dec_adr f) (by kernel_rfl) rfl (.cons (k:=1) hs (by kernel_rfl) rfl .nil)))).map
    (fun(p:(Tx×Tx)×((Tx×Tx)×(Tx×Unit)))=>(p.1,p.2.1,p.2.2.1)) (fun p=>rfl) (fun p=>by dsimp only;omega)
end
end
section
open Go.RowKit
open Go.ChangeShapes Go.WideShapes Go.ChangeAt
def tabT:List (Nat×List D)→Tbl
 |[],_=>[]
 |p::l,g=>if g=p.1 then p.2 else tabT l g
structure TabOk (W:World) (p:Nat×List D):Prop where
 ok:∀(j:Nat) (x:D),p.2[j]?=some x→∃u,frzW W p.1 j=some u∧VD (frzW W) x u
theorem tabT_ok {W:World} :∀{l:List (Nat×List D)},(∀p∈l,TabOk W p)→∀g j x,(tabT l g)[j]?=some x→∃u,frzW W g j=some u∧VD (frzW W) x u
 |[],_,g,j,x,hx=>by simp[tabT] at hx
 | p::l,h,g,j,x,hx=>by
  unfold tabT at hx
  split at hx
  ·rename_i hg
   subst hg
   exact(h p (List.mem_cons_self ..)).ok j x hx
  ·exact tabT_ok (fun q hq=>h q (List.mem_cons_of_mem _ hq)) g j x hx
theorem TabOk.texts {W:World} {g:Nat} {zs:List (List UInt8)} (h:TextsAt W g zs) (hz:zs.all (fun z=>Nat.ble z.length 4096)=true):TabOk W (g,zs.map D.str):=⟨fun j x hx=>by
 rw[List.getElem?_map] at hx
 obtain⟨z,hz1,rfl⟩:=Option.map_eq_some_iff.1 hx
 have:=List.all_eq_true.1 hz z (List.mem_of_getElem? hz1)
 have hb:=Nat.le_of_ble_eq_true this
 have hm:(4096:Nat)≤maxLen:=by decide
 exact⟨_,h j z hz1,VD.bstr z (by omega)⟩⟩
theorem TabOk.int {W:World} {g:Nat} {m:Int} (h:W.cell? ⟨g,0,none⟩=some (.int .i64 m)):TabOk W (g,[.int .i64 m]):=⟨fun j x hx=>by
 cases j with
 |zero=>simp at hx;subst hx;exact⟨_,h,.int _ _⟩
 |succ j=>simp at hx⟩
end
section
theorem byte_is (c d:UInt8):((c.toNat:Int)=(d.toNat:Int))↔c=d:=⟨fun h=>UInt8.toNat_inj.1 (by omega),fun h=>by rw[h]⟩
theorem drop_cons {s:Tx} {j:Nat} (h:j<s.length):s.drop j=s.getD j 0::s.drop (j+1):=by
 rw[List.drop_eq_getElem_cons h]
 simp[List.getD,List.getElem?_eq_getElem h]
theorem drop_none {s:Tx} {j:Nat} (h:s.length≤j):s.drop j=[]:=List.drop_eq_nil_of_le h
theorem blk_of {c:UInt8} (h:(c.toNat:Int)=32∨(c.toNat:Int)=9):blkB c=true:=by
 rcases h with h|h
 ·rw[(byte_is c 32).1 h];rfl
 ·rw[(byte_is c 9).1 h];rfl
theorem blk_no {c:UInt8} (h:¬((c.toNat:Int)=32∨(c.toNat:Int)=9)):blkB c=false:=by
 cases e:blkB c with
 |false=>rfl
 |true=>
  exfalso
  simp only[blkB,Bool.or_eq_true,beq_iff_eq] at e
  rcases e with rfl|rfl
  ·exact h (.inl rfl)
  ·exact h (.inr rfl)
theorem runB_eq (c:UInt8):runB c=(atomB c||decide ((c.toNat:Int)=46)):=by
 unfold runB
 congr 1
 rw[Bool.eq_iff_iff,beq_iff_eq,decide_eq_true_eq]
 exact(byte_is c 46).symm
theorem sk_step {s:Tx} {j:Nat} (h:j<s.length) (hb:blkB (s.getD j 0)=true):skipS (s.drop j)=skipS (s.drop (j+1)):=by rw[drop_cons h,skip_cons hb]
theorem sk_end {s:Tx} {j:Nat} (h:j<s.length→blkB (s.getD j 0)=false):skipS (s.drop j)=s.drop j:=by
 rcases Nat.lt_or_ge j s.length with hj|hj
 ·rw[drop_cons hj,skip_stay (h hj)]
 ·rw[drop_none hj];rfl
theorem run_step {s:Tx} {j:Nat} (h:j<s.length) (hb:runB (s.getD j 0)=true):runS (s.drop j)=s.getD j 0::runS (s.drop (j+1))∧offS (s.drop j)=offS (s.drop (j+1)):=by
 rw[drop_cons h,runS_cons hb]
 refine⟨rfl,?_⟩
 unfold offS;rw[List.dropWhile_cons,if_pos hb]
theorem run_end {s:Tx} {j:Nat} (h:j<s.length→runB (s.getD j 0)=false):runS (s.drop j)=[]∧offS (s.drop j)=s.drop j:=by
 rcases Nat.lt_or_ge j s.length with hj|hj
 ·rw[drop_cons hj,runS_no (h hj),offS_no (h hj)];exact⟨rfl,rfl⟩
 ·rw[drop_none hj];exact⟨rfl,rfl⟩
theorem take_step {s:Tx} {i j:Nat} (h:j<s.length) (hi:i≤j) (Z:Tx):(s.take j).drop i++s.getD j 0::Z=(s.take (j+1)).drop i++Z:=by
 have:s.take (j+1)=s.take j++[s.getD j 0]:=by
  rw[List.take_add_one];simp[List.getD,List.getElem?_eq_getElem h]
 rw[this,List.drop_append_of_le_length (by simp;omega)]
 simp
theorem head_is {s:Tx} {j n:Nat} (c:UInt8) (hc:c.toNat=n) (hn:0<n) (h:(((s.drop j).headD 0).toNat:Int)=(n:Int)):j<s.length∧s.drop j=c::s.drop (j+1):=by
 rcases Nat.lt_or_ge j s.length with hj|hj
 ·refine⟨hj,?_⟩
  rw[drop_cons hj] at h⊢
  simp only[List.headD_cons] at h
  have:s.getD j 0=c:=UInt8.toNat_inj.1 (by omega)
  rw[this]
 ·rw[drop_none hj] at h;simp at h;omega
theorem head_no {s:Tx} {j n:Nat} {c:UInt8} (hc:c.toNat=n) (h:¬(((s.drop j).headD 0).toNat:Int)=(n:Int)):(s.drop j).head?≠some c:=by
 intro e
 cases e2:s.drop j with
 |nil=>rw[e2] at e;simp at e
 |cons x r=>rw[e2] at e h;simp at e;subst e;simp at h;omega
theorem quo_end {r:Tx} :quoS (34::r)=some r:=by cases r<;>simp[quoS]
theorem quo_esc {c:UInt8} {r:Tx} :quoS (92::c::r)=quoS r:=by simp[quoS]
theorem quo_esc1:quoS [92]=none:=by simp[quoS]
theorem quo_step {c:UInt8} {r:Tx} (h1:c≠34) (h2:c≠92):quoS (c::r)=quoS r:=by cases r<;>simp[quoS,h1,h2]
def qob (b:Nat) (s:Tx) (i:Nat):Nat×Ob:=(b,⟨2,1,[[.d (.str s),.d (.int .i64 i)]]⟩)
attribute [go_sem] qob
def errV:AV:= .ifc 25 (.d (.int .i64 3))
attribute [local go_sem] qob in
theorem skip_c (T:Tbl) (b:Nat) (s:Tx) (i:Nat) (F:List (Nat×Ob)) (L:List Nat) (hi:i≤s.length) (hs:s.length≤4096):AC Tryz.prog T 220 [.ptr b 2 0 0] (⟨qob b s i::F,L⟩) (fun x h=> ∃j,i≤j∧j≤s.length∧s.drop j=skipS (s.drop i)∧x= .ret (.tup [])∧h=⟨qob b s j::F,L⟩):=by
 refine⟨Tryz.call220,ACalls.enterS Tryz.func220 rfl Tryz.ntmps220 rfl fun hb=>?_⟩
 simp only[go_sem,Tryz.results220]
 refine AWp.block (Zl 1 0 (fun n lc hc=> ∃(j:Nat),n=s.length-j∧EqS lc []∧EqS hc (⟨qob b s j::F,L⟩)∧(i≤j)∧(j≤s.length)∧(skipS (s.drop j)=skipS (s.drop i))) ⟨_,i,rfl,ZE,ZE,ZI,ZI,ZI⟩ ?_)
 rintro _ _ _ ⟨j,rfl,⟨rfl⟩,⟨rfl⟩,h1,h2,h3⟩
 refine Zy ?_
 refine Zs (Zd true [0,1,2,3,4,5,6,7,8,9,10,11,12,13,14,15,16,17,18,19,20,21,22,23,24,25,26,27,28,29,30,31,32,33] ?_)
 refine Zy ?_
 (repeat(with_reducible refine And.intro ZS ?_))
 refine Zm 17179869185 ?_
 refine Zc (fun hc0=>?_) fun hc0=>?_
 ·
  refine Zk ?_
  refine AWp.block (Zr (blkQ_n (thenQ_n ?_)))
  refine Ze 1 0 [] [] [b] [] (.e ⟨_,ZM,j+1,rfl,ZE,?_,?_,?_,?_⟩)
  · (try simp only[go_sem])<;>first|exact⟨rfl⟩|(constructor;simp[qob];done)
  · omega
  · omega
  · rw [←sk_step (by omega) (blk_of (by simpa using hc0.2))];exact h3
 refine AWp.exit (thenQ_e (thenQ_e (blkQ_e ?_)))
 apply endW_n [] [] [b] [] (by(try simp only[go_sem]);rfl)
 · refine ⟨j,h1,h2,?_,rfl,?_⟩
   · rw [←h3,sk_end (fun hj=>blk_no (fun hb=>?_))]
     rcases hc0 with hc0|hc0
     · omega
     · omega
   · simp only[go_sem]
 · simp only[LeA,LeL]
attribute [local go_sem] qob in
theorem next_c (T:Tbl) (b:Nat) (s:Tx) (i:Nat) (F:List (Nat×Ob)) (L:List Nat) (hi:i≤s.length) (hs:s.length≤4096):AC Tryz.prog T 222 [.ptr b 2 0 0] (⟨qob b s i::F,L⟩) (fun x h=>x= .ret (.d (.int .u8 ((s.drop i).headD 0).toNat))∧h=⟨qob b s i::F,L⟩):=by
 refine⟨Tryz.call222,ACalls.enterS Tryz.func222 rfl Tryz.ntmps222 rfl fun hb=>?_⟩
 simp only[go_sem,Tryz.results222]
 refine Zp 1 ?_
 refine Zs (Zd true [0,1,2,3,4,5,6,7,8,9] ?_)
 refine Zy ?_
 refine Zm 1025 ?_
 refine Zc (fun hc0=>?_) fun hc0=>?_
 ·
  refine Zp 2 ?_
  refine AWp.ret ?_
  simp only[thenQ]
  apply endW_r [] [] [b] [] (by(try simp only[go_sem]);rfl)
  · refine ⟨rfl,?_⟩
    simp only[go_sem]
  · rw [drop_none (by omega)];simp[LeA,LeD]
 refine Zk ?_
 refine Zd true [0,1,2,3,4,5,6,7,8,9] ?_
 refine Zy ?_
 (repeat(with_reducible refine And.intro ZS ?_))
 refine Zm 2 ?_
 refine AWp.ret ?_
 apply endW_r [] [] [b] [] (by(try simp only[go_sem]);rfl)
 · refine ⟨rfl,?_⟩
   simp only[go_sem]
 · rw [drop_cons (by omega)];simp[LeA,LeD]
attribute [local go_sem] qob in
theorem run_c (T:Tbl) (b:Nat) (s:Tx) (i:Nat) (F:List (Nat×Ob)) (L:List Nat) (hi:i≤s.length) (hs:s.length≤4096):AC Tryz.prog T 264 [.ptr b 2 0 0] (⟨qob b s i::F,L⟩) (fun x h=> ∃j,i≤j∧j≤s.length∧s.drop j=offS (s.drop i)∧x= .ret (.d (.str (runS (s.drop i))))∧h=⟨qob b s j::F,L⟩):=by
 refine⟨Tryz.call264,ACalls.enterS Tryz.func264 rfl Tryz.ntmps264 rfl fun hb=>?_⟩
 simp only[go_sem,Tryz.results264]
 refine Zp 1 ?_
 refine Zp 3 ?_
 refine Zs (AWp.block (Zy ?_))
 refine Zl 3 0 (fun n lc hc=> ∃(j:Nat),n=s.length-j∧EqS lc []∧EqS hc (⟨qob b s j::F,L⟩)∧(i≤j)∧(j≤s.length)∧(offS (s.drop j)=offS (s.drop i))∧((s.take j).drop i++runS (s.drop j)=runS (s.drop i))) ?_ ?_
 · refine ⟨_,i,rfl,ZE,ZE,?_,?_,?_,?_⟩
   all_goals(first|omega|rfl|(simp;done))
 rintro _ _ _ ⟨j,rfl,⟨rfl⟩,⟨rfl⟩,h1,h2,h3,h4⟩
 refine Zy ?_
 refine Zs (Zd true [0,1,2,3,4,5,6,7,8,9,10,11,12,13,14,15,16,17,18,19,20,21,22,23,24,25,26,27,28,29,30,31,32,33] ?_)
 refine Zy ?_
 (repeat(with_reducible refine And.intro ZS ?_))
 refine DW.pcgr rfl rfl rfl rfl rfl (fun hg=>atom_p T _) (fun hg=>by(try simp only[go_sem])<;>first|exact hg|(exfalso;simp at hg;done)|(simpa using hg)|grind) rfl rfl ?_
 refine Zy ?_
 (repeat(with_reducible refine And.intro ZS ?_))
 refine Zm 34359738371 ?_
 refine Zc (fun hc0=>?_) fun hc0=>?_
 ·
  have hrb:∀h,runB (s.getD j 0)=true:=fun(h:(atomB (s.getD j 0)=true∨((s.getD j 0).toNat:Int)=46))=>by rw[runB_eq];simpa using h
  refine Zk ?_
  refine AWp.block (Zr (blkQ_n (thenQ_n ?_)))
  refine Ze 3 0 [] [] [b] [] (.e ⟨_,ZM,j+1,rfl,ZE,?_,?_,?_,?_,?_⟩)
  · (try simp only[go_sem])<;>first|exact⟨rfl⟩|(constructor;simp[qob];done)
  · omega
  · omega
  · rw [←(run_step (by omega) (hrb hc0.2)).2];exact h3
  · rw [(run_step (by omega) (hrb hc0.2)).1,take_step (by omega) h1] at h4;exact h4
 have he:=run_end (s:=s) (j:=j) (fun hj=>by
   rw[runB_eq]
   rcases hc0 with hc0|hc0
   · omega
   · simpa using hc0)
 refine AWp.exit (thenQ_e (thenQ_e (blkQ_e (thenQ_n ?_))))
 refine Zd true [0,1,2,3,4,5,6,7,8,9,10] ?_
 refine Zy ?_
 (repeat(with_reducible refine And.intro ZS ?_))
 refine Zm 2 ?_
 refine AWp.ret ?_
 apply endW_r [] [] [b] [] (by(try simp only[go_sem]);rfl)
 · refine ⟨j,h1,h2,?_,rfl,?_⟩
   · rw [←h3,he.2]
   · simp only[go_sem]
 · rw [he.1,List.append_nil] at h4;rw[←h4];simp[LeA,LeD]
theorem must_c (T:Tbl) (ok:Bool) (h:AH):AC Tryz.prog T 221 [.d (.bool ok)] (h) (fun x h'=>(ok=false∧x= .pan errV∧h'=h)∨(ok=true∧x= .ret (.tup [])∧h'=h)):=by
 refine⟨Tryz.call221,ACalls.enterS Tryz.func221 rfl Tryz.ntmps221 rfl fun hb=>?_⟩
 simp only[go_sem,Tryz.results221]
 refine Zp 4 ?_
 refine Zc (fun hc0=>?_) fun hc0=>?_
 ·
  refine Zq fun K_ k_=>?_
  refine Zy ?_
  refine DW.panic rfl rfl rfl ?_
  intro _
  refine endW_p [] [] [] [] ?_
  exact .inl ⟨by simpa using hc0,rfl,rfl⟩
 refine AWp.skip ?_
 apply endW_n [] [] [] [] (by(try simp only[go_sem]);rfl)
 · exact .inr ⟨by simpa using hc0,rfl,rfl⟩
 · simp only[LeA,LeL]
attribute [local go_sem] qob in
theorem quoted_c (T:Tbl) (b:Nat) (s:Tx) (i:Nat) (F:List (Nat×Ob)) (L:List Nat) (hi:i<s.length) (hs:s.length≤4096):AC Tryz.prog T 262 [.ptr b 2 0 0] (⟨qob b s i::F,L⟩) (fun x h=>(quoS (s.drop (i+1))=none∧x= .pan errV∧∃j,h=⟨qob b s j::F,L⟩)∨∃j,i<j∧j≤s.length∧quoS (s.drop (i+1))=some (s.drop j)∧x= .ret (.tup [])∧h=⟨qob b s j::F,L⟩):=by
 refine⟨Tryz.call262,ACalls.enterS Tryz.func262 rfl Tryz.ntmps262 rfl fun hb=>?_⟩
 simp only[go_sem,Tryz.results262]
 refine Zs (Zp 1 ?_)
 refine AWp.block (Zy ?_)
 refine Zl 1 0 (fun n lc hc=> ∃(j:Nat),n=s.length-j∧EqS lc []∧EqS hc (⟨qob b s j::F,L⟩)∧(i<j)∧(j≤s.length)∧(quoS (s.drop j)=quoS (s.drop (i+1)))) ?_ ?_
 · refine ⟨_,i+1,rfl,ZE,?_,ZI,ZI,ZI⟩
   · (try simp only[go_sem])<;>first|exact⟨rfl⟩|(constructor;simp[qob];done)
 rintro _ _ _ ⟨j,rfl,⟨rfl⟩,⟨rfl⟩,h1,h2,h3⟩
 refine Zy ?_
 refine Zs (Zx (Zy ?_))
 refine ZA [b] [] (next_c T b s j _ _ (by omega) hs) ?_
 rintro _ _ ⟨rfl,rfl⟩
 refine Zy ?_
 refine Zc (fun hc0=>?_) fun hc0=>?_
 ·
  have hn34:=head_no (c:=34) rfl hc0
  refine Zk ?_
  refine Zs (AWp.block (Zs (Zx (Zy ?_))))
  refine ZA [b] [] (next_c T b s j _ _ (by omega) hs) ?_
  rintro _ _ ⟨rfl,rfl⟩
  refine Zy ?_
  refine Zm 65 ?_
  refine Zc (fun hc1=>?_) fun hc1=>?_
  ·
   obtain⟨hj,hd⟩:=head_is 92 rfl (by decide) hc1
   have hst:quoS (s.drop (j+1+1))=quoS (s.drop j)∨s.length≤j+1:=by
     rcases Nat.lt_or_ge (j+1) s.length with h|h
     · left;rw[hd,drop_cons h,quo_esc]
     · exact .inr h
   refine Zr (thenQ_n ?_)
   refine Zm 1 ?_
   refine Zt false [0,1,2,3,4,5,6,7,8,9,10] fun K_ k_=>?_
   refine Zy ?_
   refine ZA [] [] (must_c T _ _) ?_
   rintro _ _ (⟨hm1,rfl,rfl⟩|⟨hm1,rfl,rfl⟩)
   ·
    intro _
    simp only[thenQ,blkQ]
    refine endW_p [] [] [b] [] ?_
    simp only[decide_eq_false_iff_not,Int.not_lt] at hm1
    first|exact .inl ⟨by rw[←h3,hd,drop_none (by omega)];exact quo_esc1,rfl,j+1,by simp[go_sem]⟩|exact .inl ⟨by rw[←h3,drop_none (by omega)];rfl,rfl,j,by simp only[go_sem,qob]⟩
   simp only[decide_eq_true_eq] at hm1
   refine Zy ?_
   refine k_ _ _ (blkQ_n (thenQ_n ?_))
   refine Zm 1 ?_
   refine Zr (thenQ_n ?_)
   refine Ze 1 0 [] [] [b] [] (.e ⟨_,ZM,j+1+1,rfl,ZE,?_,?_,?_,?_⟩)
   · (try simp only[go_sem])<;>first|exact⟨rfl⟩|(constructor;simp[qob];done)
   · omega
   · omega
   · rcases hst with e|e<;>first|omega|(rw[e];exact h3)
  have hn92:=head_no (c:=92) rfl hc1
  have hst:s.length≤j∨quoS (s.drop (j+1))=quoS (s.drop j):=by
    rcases Nat.lt_or_ge j s.length with h|h
    · right
      rw[drop_cons h] at hn34 hn92⊢
      simp at hn34 hn92
      exact(quo_step hn34 hn92).symm
    · exact .inl h
  refine Zk ?_
  refine Zt false [0,1,2,3,4,5,6,7,8,9,10] fun K_ k_=>?_
  refine Zy ?_
  refine ZA [] [] (must_c T _ _) ?_
  rintro _ _ (⟨hm2,rfl,rfl⟩|⟨hm2,rfl,rfl⟩)
  ·
   intro _
   simp only[thenQ,blkQ]
   refine endW_p [] [] [b] [] ?_
   simp only[decide_eq_false_iff_not,Int.not_lt] at hm2
   first|exact .inl ⟨by rw[←h3,hd,drop_none (by omega)];exact quo_esc1,rfl,j+1,by simp[go_sem,qob]⟩|exact .inl ⟨by rw[←h3,drop_none (by omega)];rfl,rfl,j,by simp only[go_sem]⟩
  simp only[decide_eq_true_eq] at hm2
  refine Zy ?_
  refine k_ _ _ (blkQ_n (thenQ_n ?_))
  refine Zm 1 ?_
  refine Zr (thenQ_n ?_)
  refine Ze 1 0 [] [] [b] [] (.e ⟨_,ZM,j+1,rfl,ZE,?_,?_,?_,?_⟩)
  · (try simp only[go_sem])<;>first|exact⟨rfl⟩|(constructor;simp[qob];done)
  · omega
  · omega
  · rcases hst with e|e<;>first|omega|(rw[e];exact h3)
 obtain⟨hj,hd⟩:=head_is 34 rfl (by decide) hc0
 refine AWp.exit (thenQ_e (thenQ_e (blkQ_e (thenQ_n ?_))))
 refine Zr ?_
 apply endW_n [] [] [b] [] (by(try simp only[go_sem]);rfl)
 · refine .inr ⟨j+1,by omega,by omega,?_,rfl,?_⟩
   · rw [←h3,hd,quo_end]
   · simp only[go_sem];simp
 · simp only[LeA,LeL]
end
section
theorem bare_at {l:Tx} {s:Tx} {j:Nat} (hd:s.drop j=64::s.drop (j+1)) (h:adrE l (runS (s.drop (j+1)))=0):bareS l (s.drop j)=some ((l,runS (s.drop (j+1))),offS (s.drop (j+1))):=by
 rw[hd,bareS,if_pos ⟨rfl,h⟩]
theorem bare_no {l:Tx} {s:Tx} {j:Nat} (h:(s.drop j).head?=some 64→adrE l (runS (s.drop (j+1)))≠0):bareS l (s.drop j)=none:=by
 rcases Nat.lt_or_ge j s.length with hj|hj
 ·rw[drop_cons hj] at h⊢
  rw[bareS,if_neg]
  rintro⟨h1,h2⟩
  exact h (by rw[h1];rfl) h2
 ·rw[drop_none hj];rfl
theorem run_len (s:Tx) (j:Nat):(runS (s.drop j)).length≤s.length:=by
 have:=(List.takeWhile_sublist (l:=s.drop j) runB).length_le
 unfold runS
 simp at this⊢
 omega
theorem gt_no {a:Ad} {s:Tx} {j:Nat} (h:(s.drop j).head?≠some 62):gtS (some (a,s.drop j))=none:=by
 cases e:s.drop j with
 |nil=>rfl
 |cons c r=>rw[e] at h;simp at h;simp[gtS,h]
theorem gt_yes {a:Ad} {r:Tx} :gtS (some (a,62::r))=some (a,r):=by simp[gtS]
theorem addr_bare {s:Tx} {j j1 j2:Nat} {first:Bool} (hsk:s.drop j1=skipS (s.drop j)) (h1:(s.drop j1).head?≠some 34) (h2:(s.drop j1).head?≠some 60) (hr:s.drop j2=offS (s.drop j1)) (hf:first=true) (h:(s.drop j2).head?=some 64):addrS first (s.drop j)=bareS (runS (s.drop j1)) (s.drop j2):=by
 rw[addrS_x (by rw[←hsk];exact h1) (by rw[←hsk];exact h2),←hsk,←hr,if_pos ⟨hf,h⟩]
theorem addr_word {s:Tx} {j j1 j2:Nat} {first:Bool} (hsk:s.drop j1=skipS (s.drop j)) (h1:(s.drop j1).head?≠some 34) (h2:(s.drop j1).head?≠some 60) (hr:s.drop j2=offS (s.drop j1)) (h:¬(first=true∧(s.drop j2).head?=some 64)):addrS first (s.drop j)=if runS (s.drop j1)=[] then none else addrS false (s.drop j2):=by
 rw[addrS_x (by rw[←hsk];exact h1) (by rw[←hsk];exact h2),←hsk,←hr,if_neg h]
theorem run_lt {s:Tx} {j1 j2:Nat} (hr:s.drop j2=offS (s.drop j1)) (h:runS (s.drop j1)≠[]) (hj:j2≤s.length):j1<j2:=by
 have:=off_lt _ h
 rw[←hr] at this
 simp at this
 omega
theorem icast (n:Nat):(n:Int)+1=((n+1:Nat):Int):=rfl
attribute [local go_sem] qob icast in
theorem qbare_c (T:Tbl) (hL:LibT T) (b:Nat) (s:Tx) (i:Nat) (F:List (Nat×Ob)) (L:List Nat) (hi:i≤s.length) (hs:s.length≤4096) (l:Tx) (hl:l.length≤4096):AC Tryz.prog T 263 [.ptr b 2 0 0,.d (.str l)] (⟨qob b s i::F,L⟩) (fun x h=>(bareS l (s.drop i)=none∧x= .pan errV∧∃j,h=⟨qob b s j::F,L⟩)∨∃j a,i≤j∧j≤s.length∧bareS l (s.drop i)=some (a,s.drop j)∧x= .ret (.agg [.d (.str a.1),.d (.str a.2)])∧h=⟨qob b s j::F,L⟩):=by
 refine⟨Tryz.call263,ACalls.enterS Tryz.func263 rfl Tryz.ntmps263 rfl fun hb=>?_⟩
 simp only[go_sem,Tryz.results263]
 refine Zx (Zy ?_)
 intro b4
 first|intro fb4|have fb4:=True.intro
 try simp only[freshL,qob] at fb4
 refine Zx (Zy ?_)
 refine ZA [b] [] (next_c T b s i _ _ (by omega) hs) ?_
 rintro _ _ ⟨rfl,rfl⟩
 refine Zy ?_
 refine ZA [] [] (must_c T _ _) ?_
 rintro _ _ (⟨hm1,rfl,rfl⟩|⟨hm1,rfl,rfl⟩)
 ·
  intro _
  refine endW_p [b4] [] [b] [] ?_
  simp only[decide_eq_false_iff_not] at hm1
  exact .inl ⟨bare_no (fun h=>absurd h (head_no (c:=64) rfl hm1)),rfl,i,by simp only[go_sem,fb4]⟩
 simp only[decide_eq_true_eq] at hm1
 obtain⟨hj,hd⟩:=head_is 64 rfl (by decide) hm1
 refine Zy ?_
 refine Zm 7 ?_
 refine Zp 7 ?_
 refine Zx (Zy ?_)
 refine ZA [b] [] (run_c T b s (i+1) _ _ (by omega) hs) ?_
 rintro _ _ ⟨I2,hI2a,hI2b,hI2c,rfl,rfl⟩
 refine Zy ?_
 intro b5
 first|intro fb5|have fb5:=True.intro
 try simp only[freshL,qob] at fb5
 refine Zm 12 ?_
 refine Zx ?_
 simp only[go_sem,fb5]
 refine DW.pcr rfl rfl rfl rfl (whoCheck_p T hL _ _ (by omega) (by have:=run_len s (i+1);omega)) rfl rfl ?_
 refine Zy ?_
 refine ZA [] [] (must_c T _ _) ?_
 rintro _ _ (⟨hm3,rfl,rfl⟩|⟨hm3,rfl,rfl⟩)
 ·
  intro _
  refine endW_p [b4,b5] [] [b] [] ?_
  simp only[decide_eq_false_iff_not] at hm3
  exact .inl ⟨bare_no (fun _ h=>hm3 h),rfl,I2,by simp only[go_sem,fb4,fb5]⟩
 simp only[decide_eq_true_eq] at hm3
 have hA:=hm3
 refine Zy ?_
 refine Zm 3 ?_
 refine Zp 1 ?_
 refine AWp.ret ?_
 apply endW_r [b4,b5] [] [b] [] (by(try simp only[go_sem,fb4,fb5]);rfl)
 · refine .inr ⟨I2,(l,runS (s.drop (i+1))),by omega,by omega,?_,rfl,?_⟩
   · rw [hI2c];exact bare_at hd hA
   · simp only[go_sem,fb4,fb5]
 · simp only[LeA,LeL,LeD,and_self]
attribute [local go_sem] qob icast in
theorem address_c (T:Tbl) (hL:LibT T) (b:Nat) (s:Tx) (i:Nat) (F:List (Nat×Ob)) (L:List Nat) (hi:i≤s.length) (hs:s.length≤4096):AC Tryz.prog T 219 [.ptr b 2 0 0] (⟨qob b s i::F,L⟩) (fun x h=>(addrS true (s.drop i)=none∧x= .pan errV∧∃j,h=⟨qob b s j::F,L⟩)∨∃j a,i≤j∧j≤s.length∧addrS true (s.drop i)=some (a,s.drop j)∧x= .ret (.agg [.d (.str a.1),.d (.str a.2)])∧h=⟨qob b s j::F,L⟩):=by
 refine⟨Tryz.call219,ACalls.enterS Tryz.func219 rfl Tryz.ntmps219 rfl fun hb=>?_⟩
 simp only[go_sem,Tryz.results219]
 refine Zx (Zy ?_)
 intro b2
 first|intro fb2|have fb2:=True.intro
 try simp only[freshL,qob] at fb2
 refine Zp 7 ?_
 refine AWp.block (Zy ?_)
 refine Zl 3 4 (fun n lc hc=> ∃(j w:Nat),n=s.length-j∧EqS lc [(3,.d (.int .i64 w))]∧EqS hc (⟨[(b2,⟨2,1,[[.d (.str []),.d (.str [])]]⟩),qob b s j]++F,L⟩)∧(i≤j)∧(j≤s.length)∧(w≤j)∧(addrS (decide (w=0)) (s.drop j)=addrS true (s.drop i))) ?_ ?_
 · refine ⟨_,i,0,rfl,ZE,ZE,?_,?_,?_,?_⟩
   all_goals(first|omega|rfl)
 rintro _ _ _ ⟨j,w,rfl,⟨rfl⟩,⟨rfl⟩,h1,h2,h3,h4⟩
 refine Zy ?_
 refine Zs (AWp.block (Zx (Zy ?_)))
 refine ZA [b] [] (skip_c T b s j _ _ (by omega) hs) ?_
 rintro _ _ ⟨I1,hI1a,hI1b,hI1c,rfl,rfl⟩
 refine Zy ?_
 have hsk:=hI1c
 refine Zx (Zy ?_)
 refine ZA [b] [] (next_c T b s I1 _ _ (by omega) hs) ?_
 rintro _ _ ⟨rfl,rfl⟩
 refine Zy ?_
 refine AWp.block (Zp 199 ?_)
 refine Zc (fun hc0=>?_) fun hc0=>?_
 ·
  obtain⟨hj,hd⟩:=head_is 34 rfl (by decide) hc0
  have hq:=fun first=>addrS_34 (first:=first) (s:=s.drop j) (r:=s.drop (I1+1)) (by rw[←hsk,hd])
  refine Zq fun K_ k_=>?_
  refine Zy ?_
  refine ZA [b] [] (quoted_c T b s I1 _ _ (by omega) hs) ?_
  rintro _ _ (⟨hI2q,rfl,yI2,rfl⟩|⟨I2,hI2a,hI2b,hI2q,rfl,rfl⟩)
  ·
   intro _
   simp only[thenQ,blkQ]
   refine endW_p [b2] [] [b] [] ?_
   exact .inl ⟨by rw[←h4,hq,hI2q],rfl,yI2,by simp only[go_sem,fb2]⟩
  have hst:addrS (decide (w=0)) (s.drop j)=addrS false (s.drop I2):=by rw[hq,hI2q]
  refine Zy ?_
  refine k_ _ _ (blkQ_n (blkQ_n (thenQ_n ?_)))
  refine Zm 7 ?_
  refine Zr (thenQ_n ?_)
  refine Ze 3 4 [] [] [b2,b] [] (.e ⟨_,ZM,I2,w+1,rfl,ZE,ZE,?_,?_,?_,?_⟩)
  · omega
  · omega
  · omega
  · rw [show decide (w+1=0)=false by simp,←h4];exact hst.symm
 have hn34:=head_no (c:=34) rfl hc0
 refine Zp 39 ?_
 refine Zc (fun hc1=>?_) fun hc1=>?_
 ·
  obtain⟨hj,hd⟩:=head_is 60 rfl (by decide) hc1
  have hq:=fun first=>addrS_60 (first:=first) (s:=s.drop j) (r:=s.drop (I1+1)) (by rw[←hsk,hd])
  refine Zp 3 ?_
  refine Zx (Zy ?_)
  refine ZA [b] [] (run_c T b s (I1+1) _ _ (by omega) hs) ?_
  rintro _ _ ⟨I3,hI3a,hI3b,hI3c,rfl,rfl⟩
  refine Zy ?_
  refine DW.acp [b] [] rfl rfl rfl rfl (by(try simp only[go_sem,fb2]);rfl) rfl (qbare_c T hL b s I3 _ _ (by omega) hs _ (by have:=run_len s (I1+1);omega)) ?_
  rintro _ _ (⟨hI4q,rfl,yI4,rfl⟩|⟨I4,aI4,hI4a,hI4b,hI4q,rfl,rfl⟩)
  ·
   intro _
   simp only[thenQ,blkQ]
   refine endW_p [b2] [] [b] [] ?_
   exact .inl ⟨by rw[←h4,hq,←hI3c,hI4q];rfl,rfl,yI4,by simp only[go_sem,fb2]⟩
  have hbq:=hI4q
  rw[hI3c] at hbq
  refine Zy ?_
  intro b4
  first|intro fb4|have fb4:=True.intro
  try simp only[freshL,qob] at fb4
  refine Zm 7 ?_
  refine Zx (Zy ?_)
  refine ZA [b] [] (next_c T b s I4 _ _ (by omega) hs) ?_
  rintro _ _ ⟨rfl,rfl⟩
  refine Zy ?_
  refine DW.acp [] [] rfl rfl rfl rfl (by(try simp only[go_sem]);rfl) rfl (must_c T _ _) ?_
  rintro _ _ (⟨hm5,rfl,rfl⟩|⟨hm5,rfl,rfl⟩)
  ·
   intro _
   simp only[thenQ,blkQ]
   refine endW_p [b2,b4] [] [b] [] ?_
   simp only[decide_eq_false_iff_not] at hm5
   exact .inl ⟨by rw[←h4,hq,hbq,gt_no (head_no (c:=62) rfl hm5)],rfl,I4,by simp only[go_sem,fb2,fb4]⟩
  simp only[decide_eq_true_eq] at hm5
  obtain⟨hj2,hd2⟩:=head_is 62 rfl (by decide) hm5
  refine Zy ?_
  refine Zm 7 ?_
  refine Zp 6 ?_
  refine Zp 1 ?_
  refine AWp.ret ?_
  simp only[thenQ,blkQ]
  apply endW_r [b2,b4] [] [b] [] (by(try simp only[go_sem,fb2,fb4]);rfl)
  · refine .inr ⟨I4+1,aI4,by omega,by omega,?_,rfl,?_⟩
    · rw [←h4,hq,hbq,hd2,gt_yes]
    · simp only[go_sem,fb2,fb4]
  · simp only[LeA,LeL,LeD,and_self]
 have hn60:=head_no (c:=60) rfl hc1
 refine Zx (Zy ?_)
 refine ZA [b] [] (run_c T b s I1 _ _ (by omega) hs) ?_
 rintro _ _ ⟨I6,hI6a,hI6b,hI6c,rfl,rfl⟩
 refine Zy ?_
 have hrn:=hI6c
 refine Zs (Zx (Zy ?_))
 refine ZA [b] [] (next_c T b s I6 _ _ (by omega) hs) ?_
 rintro _ _ ⟨rfl,rfl⟩
 refine Zy ?_
 refine Zm 4111 ?_
 refine Zc (fun hc2=>?_) fun hc2=>?_
 ·
  obtain⟨hj2,hd2⟩:=head_is 64 rfl (by decide) hc2.1
  have hst:=addr_bare (first:=decide (w=0)) hsk hn34 hn60 hrn (by simpa using hc2.2) (by rw[hd2];rfl)
  refine Zx (Zy ?_)
  refine DW.acp [b] [] rfl rfl rfl rfl (by(try simp only[go_sem,fb2]);rfl) rfl (qbare_c T hL b s I6 _ _ (by omega) hs _ (by have:=run_len s I1;omega)) ?_
  rintro _ _ (⟨hI7q,rfl,yI7,rfl⟩|⟨I7,aI7,hI7a,hI7b,hI7q,rfl,rfl⟩)
  ·
   intro _
   simp only[thenQ,blkQ]
   refine endW_p [b2] [] [b] [] ?_
   exact .inl ⟨by rw[←h4,hst,hI7q],rfl,yI7,by simp only[go_sem,fb2]⟩
  simp only[go_sem,fb2]
  refine Zm 2 ?_
  refine AWp.ret ?_
  simp only[thenQ,blkQ]
  apply endW_r [b2] [] [b] [] (by(try simp only[go_sem,fb2]);rfl)
  · refine .inr ⟨I7,aI7,by omega,by omega,?_,rfl,?_⟩
    · rw [←h4,hst,hI7q]
    · simp only[go_sem,fb2]
  · simp only[LeA,LeL,LeD,and_self]
 have hst0:=addr_word (first:=decide (w=0)) hsk hn34 hn60 hrn (fun h=>by
   rcases hc2 with hc2|hc2
   · exact head_no (c:=64) rfl (by simpa using hc2) h.2
   · have:=h.1;simp at this;omega)
 refine Zk ?_
 refine Zq fun K_ k_=>?_
 refine Zy ?_
 refine ZA [] [] (must_c T _ _) ?_
 rintro _ _ (⟨hm8,rfl,rfl⟩|⟨hm8,rfl,rfl⟩)
 ·
  intro _
  simp only[thenQ,blkQ]
  refine endW_p [b2] [] [b] [] ?_
  simp only[decide_eq_true_eq,Bool.not_eq_false'] at hm8
  exact .inl ⟨by rw[←h4,hst0,if_pos hm8],rfl,I6,by simp only[go_sem,fb2]⟩
 simp only[decide_eq_false_iff_not,Bool.not_eq_true'] at hm8
 have hlt:=run_lt hrn hm8 (by omega)
 have hst:=hst0.trans (if_neg hm8)
 refine Zy ?_
 refine k_ _ _ (blkQ_n (blkQ_n (thenQ_n ?_)))
 refine Zm 7 ?_
 refine Zr (thenQ_n ?_)
 refine Ze 3 4 [] [] [b2,b] [] (.e ⟨_,ZM,I6,w+1,rfl,ZE,ZE,?_,?_,?_,?_⟩)
 · omega
 · omega
 · omega
 · rw [show decide (w+1=0)=false by simp,←h4];exact hst.symm
end
section
structure Ent where
 kind:Int
 box:Tx
 uid:Int
 flags:Int
 dest:Tx
 text:Tx
def entA (x:Ent):List AV:=[.d (.int .i64 x.kind),.d (.str x.box),.d (.int .i64 x.uid),.d (.int .i64 x.flags),.d (.str x.dest),.d (.str x.text)]
attribute [go_sem] entA
def nmC (c:UInt8):Bool:=decide (33≤(c.toNat:Int))&&decide ((c.toNat:Int)≤126)
def nameE (s:Tx):Int:=if s.length<1∨12<s.length then 1 else if s.all nmC=true then 0 else 3
@[go_sem] theorem wrap8 (c:UInt8):IntKind.i64.wrap (c.toNat:Int)=c.toNat:=inR_wrap (by have:=c.toNat_lt;simp only[inR];omega)
theorem nameE_1 {s:Tx} (h:s.length<1∨12<s.length):nameE s=1:=if_pos h
theorem nameE_3 {s:Tx} (h:¬(s.length<1∨12<s.length)) {i:Nat} (hi:i<s.length) (hc:nmC (s.getD i 0)=false):nameE s=3:=by
 unfold nameE
 rw[if_neg h,if_neg]
 intro ha
 have:=List.all_eq_true.1 ha (s.getD i 0) (by simp[List.getD,hi])
 rw[hc] at this;cases this
theorem all_step {s:Tx} {i:Nat} (hi:i<s.length) (hc:nmC (s.getD i 0)=true) (h:(s.drop i).all nmC=true→s.all nmC=true):(s.drop (i+1)).all nmC=true→s.all nmC=true:=fun h2=>h (by rw[drop_cons hi,List.all_cons,hc,h2];rfl)
theorem nameE_end {s:Tx} (h:¬(s.length<1∨12<s.length)) {i:Nat} (hi:s.length≤i) (ha:(s.drop i).all nmC=true→s.all nmC=true):nameE s=0:=by
 unfold nameE
 rw[if_neg h,if_pos (ha (by rw[drop_none hi];rfl))]
theorem In_c (T:Tbl) (n lo hi:Int):PC Tryz.prog T 98 [.d (.int .i64 n),.d (.int .i64 lo),.d (.int .i64 hi)] (.d (.bool (decide (lo≤n)&&decide (n≤hi)))):=by
 refine⟨Tryz.call98,PCall.enterS Tryz.func98 rfl Tryz.ntmps98 rfl fun hb=>?_⟩
 simp only[go_sem,Tryz.results98]
 refine Zp 7 ?_
 refine Zp 8 ?_
 refine AWp.ret ?_
 simp only[go_sem]
 try simp[LeA,LeD]
attribute [local go_sem] icast in
theorem Name_c (T:Tbl) (s:Tx) (hb0:s.length≤9223372036854775807):PC Tryz.prog T 148 [.d (.str s)] (.d (.int .i64 (nameE s))):=by
 refine⟨Tryz.call148,PCall.enterS Tryz.func148 rfl Tryz.ntmps148 rfl fun hb=>?_⟩
 simp only[go_sem,Tryz.results148]
 refine Zp 1 ?_
 refine Zs (Zp 257 ?_)
 refine Zc (fun hc0=>?_) fun hc0=>?_
 ·
  refine Zp 2 ?_
  refine AWp.ret ?_
  simp only[go_sem]
  rw[nameE_1 (by omega)];try simp[LeA,LeD]
 refine Zk ?_
 refine Zs (Zp 25 ?_)
 refine AWp.block (Zy ?_)
 refine Zl 3 4 (fun n lc hc=> ∃(i:Nat),n=s.length-i∧EqS lc [(14,.d (.int .i64 i))]∧EqS hc (⟨[],[]⟩)∧(i≤s.length)∧((s.drop i).all nmC=true→s.all nmC=true)) ?_ ?_
 · refine ⟨_,0,rfl,ZE,ZE,?_,?_⟩
   all_goals(first|omega|(simp;done))
 rintro _ _ _ ⟨i,rfl,⟨rfl⟩,⟨rfl⟩,h1,h2⟩
 refine Zy ?_
 refine Zp 15 ?_
 refine Zs (Zc (fun hc1=>?_) fun hc1=>?_)
 ·
  have hlt:i<s.length:=by omega
  refine Zk ?_
  refine Zs (AWp.block (Zp 15 ?_))
  refine Zp 8205 ?_
  refine Zc (fun hc2=>?_) fun hc2=>?_
  ·
   have hcc:nmC (s.getD i 0)=false:=by
     unfold nmC
     simp only[Bool.and_eq_false_iff,decide_eq_false_iff_not]
     omega
   refine Zp 2 ?_
   refine AWp.ret ?_
   simp only[go_sem]
   rw[nameE_3 (by omega) hlt hcc];try simp[LeA,LeD]
  have hcc:nmC (s.getD i 0)=true:=by
    unfold nmC
    simp only[Bool.and_eq_true,decide_eq_true_eq]
    omega
  refine AWp.skip (blkQ_n (thenQ_n ?_))
  refine Zr (thenQ_n ?_)
  refine Zf 3 4 (.e ⟨_,ZM,i+1,rfl,ZE,ZE,?_,?_⟩)
  · omega
  · exact all_step (by omega) hcc h2
 refine AWp.exit (thenQ_e (thenQ_e (blkQ_e (thenQ_n ?_))))
 refine Zm 0 ?_
 refine Zp 1 ?_
 refine AWp.ret ?_
 simp only[go_sem]
 rw[nameE_end (by omega) (by omega) h2];try simp[LeA,LeD]
attribute [local go_sem] icast in
theorem BoxName_c (T:Tbl) (s:Tx) (hb0:s.length≤9223372036854775807):PC Tryz.prog T 96 [.d (.str s)] (.d (.int .i64 (nameE s))):=by
 refine⟨Tryz.call96,PCall.enterS Tryz.func96 rfl Tryz.ntmps96 rfl fun hb=>?_⟩
 simp only[go_sem,Tryz.results96]
 refine Zp 1 ?_
 refine Zs (Zx (Zy ?_))
 refine ZP (In_c T _ _ _) ?_
 refine Zy ?_
 refine Zc (fun hc0=>?_) fun hc0=>?_
 ·
  refine Zp 2 ?_
  refine AWp.ret ?_
  simp only[go_sem]
  rw[nameE_1 (by omega)];try simp[LeA,LeD]
 refine Zk ?_
 refine Zm 1 ?_
 refine Zs (Zp 3 ?_)
 refine AWp.block (Zy ?_)
 refine Zl 1 2 (fun n lc hc=> ∃(i:Nat),n=s.length-i∧EqS lc [(3,.d (.int .i64 i))]∧EqS hc (⟨[],[]⟩)∧(i≤s.length)∧((s.drop i).all nmC=true→s.all nmC=true)) ?_ ?_
 · refine ⟨_,0,rfl,ZE,ZE,?_,?_⟩
   all_goals(first|omega|(simp;done))
 rintro _ _ _ ⟨i,rfl,⟨rfl⟩,⟨rfl⟩,h1,h2⟩
 refine Zy ?_
 refine Zs (Zp 35 ?_)
 refine Zc (fun hc1=>?_) fun hc1=>?_
 ·
  have hlt:i<s.length:=by omega
  refine Zk ?_
  refine Zs (AWp.block (Zx (Z3 ?_)))
  refine ZP (In_c T _ _ _) ?_
  refine Zy ?_
  refine Zm 259 ?_
  refine Zc (fun hc2=>?_) fun hc2=>?_
  ·
   have hcc:nmC (s.getD i 0)=false:=by
     unfold nmC
     simp only[Bool.and_eq_false_iff,decide_eq_false_iff_not]
     omega
   refine Zp 2 ?_
   refine AWp.ret ?_
   simp only[go_sem]
   rw[nameE_3 (by omega) hlt hcc];try simp[LeA,LeD]
  have hcc:nmC (s.getD i 0)=true:=by
    unfold nmC
    simp only[Bool.and_eq_true,decide_eq_true_eq]
    omega
  refine AWp.skip (blkQ_n (thenQ_n ?_))
  refine Zr (thenQ_n ?_)
  refine Zf 1 2 (.e ⟨_,ZM,i+1,rfl,ZE,ZE,?_,?_⟩)
  · omega
  · exact all_step (by omega) hcc h2
 refine AWp.exit (thenQ_e (thenQ_e (blkQ_e (thenQ_n ?_))))
 refine Zp 2 ?_
 refine AWp.ret ?_
 simp only[go_sem]
 rw[nameE_end (by omega) (by omega) h2];try simp[LeA,LeD]
end
section
def flagT:List (List UInt8):=[[92,83,101,101,110],[92,65,110,115,119,101,114,101,100],[92,70,108,97,103,103,101,100],[92,68,101,108,101,116,101,100],[92,68,114,97,102,116]]
def flE:List (List UInt8)→Int
 |[]=>0
 |s::l=>if s∈flagT then flE l else 7
theorem flE_t {l:List (List UInt8)} {k:Nat} (h:k<l.length) (hc:¬l[k]∈flagT):flE (l.drop k)=7:=by rw[List.drop_eq_getElem_cons h,flE,if_neg hc]
theorem flE_f {l:List (List UInt8)} {k:Nat} (h:k<l.length) (hc:l[k]∈flagT):flE (l.drop k)=flE (l.drop (k+1)):=by rw[List.drop_eq_getElem_cons h,flE,if_pos hc]
theorem flE_e {l:List (List UInt8)} {k:Nat} (h:l.length≤k):flE (l.drop k)=0:=by rw[List.drop_eq_nil_of_le h];rfl
theorem mapS1 (l:List (List UInt8)):(l.map D.str).map (fun x=>[x])=l.map strD:=by rw[List.map_map];rfl
theorem ixG_lt {α:Type} [DecidableEq α]:∀(l:List α) (t:α),ixG l t<l.length
 |[],_=>by simp[ixG]
 |x::r,t=>by have:=ixG_lt r t;unfold ixG;rw[List.length_cons];split;omega;split<;>omega
theorem pw_ok:∀j:Nat,j<5→1≤(2:Int)^j∧(2:Int)^j≤16:=by decide
attribute [local go_sem] icast8 strD in
theorem jFlags_c (T:Tbl) (hF:T 2=flagT.map D.str) (l:List (List UInt8)) (hl:l.length≤1048576):PC Tryz.prog T 143 [.d (.slc 1 (l.map strD))] (.tup [.any,.d (.int .i64 (flE l))]):=by
 refine⟨Tryz.call143,PCall.enterS Tryz.func143 rfl Tryz.ntmps143 rfl fun hb=>?_⟩
 simp only[go_sem,Tryz.results143]
 refine Zp 1 ?_
 refine Zp 3 ?_
 refine Zs (Zp 30 ?_)
 refine AWp.block (Zy ?_)
 refine Zl 6 9 (fun n lc hc=> ∃(k:Nat) (fv:Int),n=l.length-k∧EqS lc [(4,.d (.int .i64 fv)),(10,.d (.int .i64 (k:Nat)))]∧EqS hc (⟨[],[]⟩)∧(k≤l.length)∧(flE l=flE (l.drop k))) ?_ ?_
 · refine ⟨_,0,0,rfl,ZE,ZE,?_,?_⟩
   all_goals(first|omega|rfl)
 rintro _ _ _ ⟨k,fv,rfl,⟨rfl⟩,⟨rfl⟩,h1,h2⟩
 refine Zy ?_
 refine Zp 31 ?_
 refine Zs (Zc (fun hc0=>?_) fun hc0=>?_)
 ·
  have hlt:k<l.length:=by omega
  have hki:(k:Int)<(l.length:Int):=by omega
  have zf1:=fun d0_=>map_getD strD l k d0_ hlt
  refine Zk ?_
  refine Zs (AWp.block (Zp 31 ?_))
  refine AWp.rsG 0 fun K_ hK_=>?_
  simp only[List.take_zero,List.drop_zero]
  refine Zy ?_
  refine LV.dw1 ?_
  refine DW.sliceG (n:=5) (e:=9) rfl rfl rfl (by first|rfl|kernel_rfl) (by first|rfl|kernel_rfl) (by rw[hF];rfl) (by decide) (by decide) ?_
  refine DW.nil ?_
  rw[hF,mapS1]
  refine LV.lvc ?_
  refine Zy ?_
  refine ZP (IndexT_c T flagT _ (by decide)) ?_
  refine Zy ?_
  refine hK_ _ _ ?_
  refine Zm 61 ?_
  refine Zs (Zp 95 ?_)
  refine Zc (fun hc1=>?_) fun hc1=>?_
  ·
   have hm:¬l[k]∈flagT:=fun h9=>by have:=(ixG_mem flagT (l[k])).2 h9;omega
   refine Zp 3 ?_
   refine AWp.ret ?_
   simp only[go_sem]
   rw[h2,flE_t hlt hm];try simp[LeA,LeL,LeD]
  have h0:0≤ixG flagT (l[k]):=by omega
  have hm:l[k]∈flagT:=(ixG_mem flagT (l[k])).1 h0
  have hix:ixG flagT (l[k])<5:=ixG_lt flagT (l[k])
  obtain⟨pw,hpw,hp1,hp2⟩:∃pw:Int,(1:Int)*2^min (ixG flagT (l[k])).toNat 64=pw∧1≤pw∧pw≤16:=by
    have h5:=pw_ok (ixG flagT (l[k])).toNat (by omega)
    rw[show min (ixG flagT (l[k])).toNat 64=(ixG flagT (l[k])).toNat by omega,Int.one_mul]
    exact⟨_,rfl,h5.1,h5.2⟩
  refine Zk ?_
  refine Zr (blkQ_n (thenQ_n ?_))
  refine Zm 29 ?_
  refine Zr (thenQ_n ?_)
  refine Zf 6 9 (.e ⟨_,ZM,k+1,(IntKind.i64.wrap (BitVec.ofInt 64 fv|||BitVec.ofInt 64 pw).toNat),rfl,ZE,ZE,?_,?_⟩)
  · omega
  · rw [h2,flE_f hlt hm]
 refine AWp.exit (thenQ_e (thenQ_e (blkQ_e (thenQ_n ?_))))
 refine Zm 1 ?_
 refine Zp 3 ?_
 refine AWp.ret ?_
 simp only[go_sem]
 rw[h2,flE_e (by omega)];try simp[LeA,LeL,LeD]
end
section
def flB (s:List UInt8):Int:=if s=[92,83,101,101,110] then 1 else if s=[92,65,110,115,119,101,114,101,100] then 2 else if s=[92,70,108,97,103,103,101,100] then 4 else if s=[92,68,101,108,101,116,101,100] then 8 else if s=[92,68,114,97,102,116] then 16 else 0
theorem flB_0 (s:List UInt8):flB s=0↔¬s∈flagT:=by
 unfold flB flagT
 simp only[List.mem_cons,List.not_mem_nil,or_false]
 repeat' split
 all_goals(constructor<;>intro h<;>first|omega|(simp_all;done)|rfl)
theorem flE_7:∀{l:List (List UInt8)} {k:Nat} (h:k<l.length),¬l[k]∈flagT→flE l=7
 |s::l,0,h,hc=>by
  have hc':¬s∈flagT:=by simpa using hc
  unfold flE;rw[if_neg hc']
 |s::l,k+1,h,hc=>by
  unfold flE
  split
  ·exact flE_7 (l:=l) (k:=k) (by simpa using h) (by simpa using hc)
  ·rfl
theorem flE_0:∀{l:List (List UInt8)},(∀s∈l,s∈flagT)→flE l=0
 |[],_=>rfl
 |s::l,h=>by unfold flE;rw[if_pos (h s (List.mem_cons_self ..))];exact flE_0 fun x hx=>h x (List.mem_cons_of_mem _ hx)
def GoodI (l:List (List UInt8)) (k:Nat):Prop:=∀(j:Nat) (h:j<l.length),j<k→l[j]∈flagT
theorem GoodI.s {l:List (List UInt8)} {k:Nat} (h:k<l.length) (H:GoodI l k) (hc:l[k]∈flagT):GoodI l (k+1):=fun j hj hk=>by
 rcases Nat.lt_or_ge j k with h9|h9
 ·exact H j hj h9
 ·obtain rfl:j=k:=by omega
  exact hc
theorem GoodI.e {l:List (List UInt8)} {k:Nat} (H:GoodI l k) (h:l.length≤k):flE l=0:=flE_0 fun s hs=>by
 obtain⟨i,h8,h7⟩:=List.mem_iff_getElem.1 hs
 exact h7▸H i h8 (by omega)
theorem flagBit_c (T:Tbl) (s:List UInt8):PC Tryz.prog T 145 [.d (.str s)] (.d (.int .i64 (flB s))):=by
 refine⟨Tryz.call145,PCall.enterS Tryz.func145 rfl Tryz.ntmps145 rfl fun hb=>?_⟩
 simp only[go_sem,Tryz.results145]
 refine Zp 1 ?_
 refine Zs (Zp 2 ?_)
 refine AWp.block (Zp 3 ?_)
 refine Zc (fun hc0=>?_) fun hc0=>?_
 ·
  refine Zp 1 ?_
  refine AWp.ret ?_
  simp only[go_sem]
  simp[flB, *]
 refine Zp 5 ?_
 refine Zc (fun hc1=>?_) fun hc1=>?_
 ·
  refine Zp 1 ?_
  refine AWp.ret ?_
  simp only[go_sem]
  simp[flB, *]
 refine Zp 5 ?_
 refine Zc (fun hc2=>?_) fun hc2=>?_
 ·
  refine Zp 1 ?_
  refine AWp.ret ?_
  simp only[go_sem]
  simp[flB, *]
 refine Zp 5 ?_
 refine Zc (fun hc3=>?_) fun hc3=>?_
 ·
  refine Zp 1 ?_
  refine AWp.ret ?_
  simp only[go_sem]
  simp[flB, *]
 refine Zp 4 ?_
 refine Zc (fun hc4=>?_) fun hc4=>?_
 ·
  refine Zp 1 ?_
  refine AWp.ret ?_
  simp only[go_sem]
  simp[flB, *]
 refine AWp.skip (blkQ_n (thenQ_n ?_))
 refine Zp 1 ?_
 refine AWp.ret ?_
 simp only[go_sem]
 simp[flB, *]
attribute [local go_sem] icast8 strD in
theorem jFlagsOf_c (T:Tbl) (l:List (List UInt8)) (hl:l.length≤1048576):PC Tryz.prog T 80 [.d (.slc 1 (l.map strD))] (.tup [.any,.d (.int .i64 (flE l))]):=by
 refine⟨Tryz.call80,PCall.enterS Tryz.func80 rfl Tryz.ntmps80 rfl fun hb=>?_⟩
 simp only[go_sem,Tryz.results80]
 refine Zp 1 ?_
 refine Zp 3 ?_
 refine Zs (Zp 7 ?_)
 refine AWp.block (Zy ?_)
 refine Zl 1 6 (fun n lc hc=> ∃(bt fv:Int),n=(64-bt).toNat∧EqS lc [(4,.d (.int .i64 fv)),(5,.d (.int .i64 bt))]∧EqS hc (⟨[],[]⟩)∧(1≤bt)∧(bt≤32)∧(0≤fv)∧(fv<bt)) ?_ ?_
 · refine ⟨_,1,0,rfl,ZE,ZE,?_,?_,?_,?_⟩
   all_goals(omega)
 rintro _ _ _ ⟨bt,fv,rfl,⟨rfl⟩,⟨rfl⟩,g1,g2,g3,g4⟩
 refine Zy ?_
 refine Zs (Zp 23 ?_)
 refine Zc (fun hc0=>?_) fun hc0=>?_
 ·
  refine Zk ?_
  refine Zs (AWp.block (Zp 15 ?_))
  refine AWp.block (Zy ?_)
  refine Zl 5 10 (fun n lc hc=> ∃(k:Nat) (f2:Int),n=l.length-k∧EqS lc [(4,.d (.int .i64 f2)),(6,.d (.int .i64 (k:Nat)))]∧EqS hc (⟨[],[]⟩)∧(k≤l.length)∧(f2=fv)) ?_ ?_
  · refine ⟨_,0,fv,rfl,ZE,ZE,?_,?_⟩
    all_goals(first|omega|rfl)
  rintro _ _ _ ⟨k,f2,rfl,⟨rfl⟩,⟨rfl⟩,h1,h3⟩
  refine Zy ?_
  refine Zs (Zp 143 ?_)
  refine Zc (fun hc1=>?_) fun hc1=>?_
  ·
   have hlt:k<l.length:=by omega
   have hki:(k:Int)<(l.length:Int):=by omega
   have zf1:=fun d0_=>map_getD strD l k d0_ hlt
   refine Zk ?_
   refine Zs (AWp.block (Zs (Zx ?_)))
   simp only[go_sem,zf1,hki]
   refine ZP (flagBit_c T _) ?_
   refine Zy ?_
   refine Zm 1039 ?_
   refine Zc (fun hc2=>?_) fun hc2=>?_
   ·
    have hm:=(flB_0 (l[k])).1 hc2
    refine Zp 6 ?_
    refine AWp.ret ?_
    simp only[go_sem]
    rw[flE_7 hlt hm];try simp[LeA,LeL,LeD]
   refine Zk ?_
   refine Zx ?_
   simp only[go_sem,zf1,hki]
   refine ZP (flagBit_c T _) ?_
   refine Zy ?_
   refine Zm 2063 ?_
   refine Zc (fun hc3=>?_) fun hc3=>?_
   ·
    refine Zp 7 ?_
    refine AWp.exit (blkQ_d (by decide) (thenQ_e (thenQ_e (blkQ_e (blkQ_n (thenQ_n ?_))))))
    refine Zr (thenQ_n ?_)
    refine Zf 1 6 (.e ⟨_,?_,(bt*2),(f2+bt),rfl,ZE,ZE,?_,?_,?_,?_⟩)
    · first|omega|(simp;omega)|(omega)
    · omega
    · omega
    · omega
    · omega
   refine AWp.skip (blkQ_n (thenQ_n ?_))
   refine Zr (thenQ_n ?_)
   refine Zf 5 10 (.e ⟨_,ZM,k+1,f2,rfl,ZE,ZE,?_,?_⟩)
   · omega
   · exact h3
  refine AWp.exit (thenQ_e (thenQ_e (blkQ_e (blkQ_n (thenQ_n ?_)))))
  refine Zr (thenQ_n ?_)
  refine Zf 1 6 (.e ⟨_,?_,(bt*2),f2,rfl,ZE,ZE,?_,?_,?_,?_⟩)
  · first|omega|(simp;omega)|(omega)
  · omega
  · omega
  · omega
  · omega
 refine AWp.exit (thenQ_e (thenQ_e (blkQ_e (thenQ_n ?_))))
 refine Zs (Zp 11 ?_)
 refine AWp.block (Zy ?_)
 refine Zl 3 4 (fun n lc hc=> ∃(k:Nat),n=l.length-k∧EqS lc [(7,.d (.int .i64 (k:Nat)))]∧EqS hc (⟨[],[]⟩)∧(k≤l.length)∧(GoodI l k)) ?_ ?_
 · refine ⟨_,0,rfl,ZE,ZE,?_,?_⟩
   all_goals(first|omega|exact fun j h h9=>absurd h9 (by omega))
 rintro _ _ _ ⟨k,rfl,⟨rfl⟩,⟨rfl⟩,h1,h2⟩
 refine Zy ?_
 refine Zs (Zp 71 ?_)
 refine Zc (fun hc4=>?_) fun hc4=>?_
 ·
  have hlt:k<l.length:=by omega
  have hki:(k:Int)<(l.length:Int):=by omega
  have zf2:=fun d0_=>map_getD strD l k d0_ hlt
  refine Zk ?_
  refine Zs (AWp.block (Zx ?_))
  simp only[go_sem,zf2,hki]
  refine ZP (flagBit_c T _) ?_
  refine Zy ?_
  refine Zm 519 ?_
  refine Zc (fun hc5=>?_) fun hc5=>?_
  ·
   have hm:=(flB_0 (l[k])).1 hc5
   refine Zp 6 ?_
   refine AWp.ret ?_
   simp only[go_sem]
   rw[flE_7 hlt hm];try simp[LeA,LeL,LeD]
  have hm:l[k]∈flagT:=Decidable.byContradiction fun h9=>hc5 ((flB_0 (l[k])).2 h9)
  refine AWp.skip (blkQ_n (thenQ_n ?_))
  refine Zr (thenQ_n ?_)
  refine Zf 3 4 (.e ⟨_,ZM,k+1,rfl,ZE,ZE,?_,?_⟩)
  · omega
  · exact h2.s hlt hm
 refine AWp.exit (thenQ_e (thenQ_e (blkQ_e (thenQ_n ?_))))
 refine Zp 6 ?_
 refine AWp.ret ?_
 simp only[go_sem]
 rw[h2.e (by omega)];try simp[LeA,LeL,LeD]
end
section
def anyB (v:Int) (l:List (List UInt8)):Bool:=l.any fun s=>decide (flB s=v)
def p2:Nat→Int
 |0=>1
 |n+1=>p2 n*2
def fvJ (l:List (List UInt8)):Nat→Int
 |0=>0
 |j+1=>fvJ l j+(if anyB (p2 j) l=true then p2 j else 0)
def flN (l:List (List UInt8)):Int:=fvJ l 5
def flR (l:List (List UInt8)):Int×Int:=if flE l=0 then(flN l,0) else(0,flE l)
theorem flR_e {l:List (List UInt8)} (h:flE l=7):flR l=(0,7):=by simp[flR,h]
theorem flR_0 {l:List (List UInt8)} (h:flE l=0):flR l=(flN l,0):=by simp[flR,h]
def fv5 (a b c d e:Bool):Int:=(if a=true then 1 else 0)+(if b=true then 2 else 0)+(if c=true then 4 else 0)+(if d=true then 8 else 0)+(if e=true then 16 else 0)
def Is5 (x:Int):Prop:=∃a b c d e,x=fv5 a b c d e
theorem flN_eq (l:List (List UInt8)):flN l=fv5 (anyB 1 l) (anyB 2 l) (anyB 4 l) (anyB 8 l) (anyB 16 l):=by
 simp[flN,fvJ,p2,fv5]
 try rfl
theorem flN_is (l:List (List UInt8)):Is5 (flN l):=⟨_,_,_,_,_,flN_eq l⟩
theorem flR_is (l:List (List UInt8)):Is5 (flR l).1:=by
 unfold flR
 split
 ·exact flN_is l
 ·exact⟨false,false,false,false,false,rfl⟩
theorem anyB_s {l:List (List UInt8)} {k:Nat} (h:k<l.length) (v:Int):anyB v (l.take (k+1))=(anyB v (l.take k)||decide (flB l[k]=v)):=by
 rw[anyB,List.take_succ_eq_append_getElem h,List.any_append]
 simp[anyB]
theorem pw_flB {s:List UInt8} (h:s∈flagT):(1:Int)*2^min (ixG flagT s).toNat 64=flB s:=by
 simp only[flagT,List.mem_cons,List.not_mem_nil,or_false] at h
 rcases h with rfl|rfl|rfl|rfl|rfl<;>rfl
theorem flB_in {s:List UInt8} (h:s∈flagT):flB s=1∨flB s=2∨flB s=4∨flB s=8∨flB s=16:=by
 simp only[flagT,List.mem_cons,List.not_mem_nil,or_false] at h
 rcases h with rfl|rfl|rfl|rfl|rfl<;>decide
def orF (x y:Int):Int:=IntKind.i64.wrap (BitVec.ofInt 64 x|||BitVec.ofInt 64 y).toNat
theorem orF_b (a b c d e:Bool) (v:Int) (h:v=1∨v=2∨v=4∨v=8∨v=16):orF (fv5 a b c d e) v=fv5 (a||decide (v=1)) (b||decide (v=2)) (c||decide (v=4)) (d||decide (v=8)) (e||decide (v=16)):=by
 rcases h with rfl|rfl|rfl|rfl|rfl<;>cases a<;>cases b<;>cases c<;>cases d<;>cases e<;>rfl
theorem flN_s {l:List (List UInt8)} {k:Nat} {pw:Int} (h:k<l.length) (hm:l[k]∈flagT) (hp:(1:Int)*2^min (ixG flagT (l[k])).toNat 64=pw):IntKind.i64.wrap (BitVec.ofInt 64 (flN (l.take k))|||BitVec.ofInt 64 pw).toNat=flN (l.take (k+1)):=by
 rw[pw_flB hm] at hp
 subst hp
 have:=orF_b (anyB 1 (l.take k)) (anyB 2 (l.take k)) (anyB 4 (l.take k)) (anyB 8 (l.take k)) (anyB 16 (l.take k)) _ (flB_in hm)
 rw[flN_eq,flN_eq]
 simp only[anyB_s h]
 exact this
theorem p2_lt {j:Nat} (h:j≤5) (hc:p2 j≤16):j<5:=by
 rcases Nat.lt_or_ge j 5 with h9|h9
 ·exact h9
 ·obtain rfl:j=5:=by omega
  exact absurd hc (by decide)
theorem p2_ge {j:Nat} (h:j≤5) (hc:16<p2 j):j=5:=by
 match j,h,hc with
 |0,_,hc=>exact absurd hc (by decide)
 |1,_,hc=>exact absurd hc (by decide)
 |2,_,hc=>exact absurd hc (by decide)
 |3,_,hc=>exact absurd hc (by decide)
 |4,_,hc=>exact absurd hc (by decide)
 |5,_,_=>rfl
theorem fvJ_t {l:List (List UInt8)} {j:Nat} (h:anyB (p2 j) l=true):fvJ l j+p2 j=fvJ l (j+1):=by rw[fvJ,if_pos h]
theorem fvJ_f {l:List (List UInt8)} {j:Nat} (h:anyB (p2 j) l=false):fvJ l j=fvJ l (j+1):=by rw[fvJ,if_neg (by rw[h];decide)];omega
theorem anyB_t {l:List (List UInt8)} {k:Nat} {v:Int} (h:k<l.length) (hc:flB l[k]=v):anyB v l=true:=List.any_eq_true.2 ⟨_,List.getElem_mem h,by simp[hc]⟩
theorem anyB_n {l:List (List UInt8)} {k:Nat} {v:Int} (h:k<l.length) (hc:¬flB l[k]=v) (h2:anyB v (l.take k)=false):anyB v (l.take (k+1))=false:=by rw[anyB_s h,h2];simp[hc]
attribute [local go_sem] icast8 strD in
theorem flags_v (T:Tbl) (hF:T 2=flagT.map D.str) (l:List (List UInt8)) (hl:l.length≤1048576):PC Tryz.prog T 143 [.d (.slc 1 (l.map strD))] (.tup [.d (.int .i64 ((flR l).1)),.d (.int .i64 ((flR l).2))]):=by
 refine⟨Tryz.call143,PCall.enterS Tryz.func143 rfl Tryz.ntmps143 rfl fun hb=>?_⟩
 simp only[go_sem,Tryz.results143]
 refine Zp 1 ?_
 refine Zp 3 ?_
 refine Zs (Zp 30 ?_)
 refine AWp.block (Zy ?_)
 refine Zl 6 9 (fun n lc hc=> ∃(k:Nat),n=l.length-k∧EqS lc [(4,.d (.int .i64 (flN (l.take k)))),(10,.d (.int .i64 (k:Nat)))]∧EqS hc (⟨[],[]⟩)∧(k≤l.length)∧(flE l=flE (l.drop k))) ?_ ?_
 · refine ⟨_,0,rfl,ZE,ZE,?_,?_⟩
   all_goals(first|omega|rfl)
 rintro _ _ _ ⟨k,rfl,⟨rfl⟩,⟨rfl⟩,h1,h2⟩
 refine Zy ?_
 refine Zp 31 ?_
 refine Zs (Zc (fun hc0=>?_) fun hc0=>?_)
 ·
  have hlt:k<l.length:=by omega
  have hki:(k:Int)<(l.length:Int):=by omega
  have zf1:=fun d0_=>map_getD strD l k d0_ hlt
  refine Zk ?_
  refine Zs (AWp.block (Zp 31 ?_))
  refine AWp.rsG 0 fun K_ hK_=>?_
  simp only[List.take_succ_cons,List.take_zero,List.drop_succ_cons,List.drop_zero]
  try simp only[go_sem,zf1,hki]
  (repeat(with_reducible refine And.intro ZS ?_))
  refine LV.dw1 ?_
  refine DW.sliceG (n:=5) (e:=9) rfl rfl rfl (by first|rfl|kernel_rfl) (by first|rfl|kernel_rfl) (by rw[hF];rfl) (by decide) (by decide) ?_
  refine DW.nil ?_
  rw[hF,mapS1]
  refine LV.lvc ?_
  try simp only[go_sem,zf1,hki]
  (repeat(with_reducible refine And.intro ZS ?_))
  refine DW.pcr rfl rfl rfl rfl (IndexT_c T flagT _ (by decide)) rfl rfl ?_
  try simp only[go_sem,zf1,hki]
  (repeat(with_reducible refine And.intro ZS ?_))
  refine hK_ _ _ ?_
  refine Zm 61 ?_
  refine Zs (Zp 95 ?_)
  refine Zc (fun hc1=>?_) fun hc1=>?_
  ·
   have hm:¬l[k]∈flagT:=fun h9=>by have:=(ixG_mem flagT (l[k])).2 h9;omega
   refine Zp 3 ?_
   refine AWp.ret ?_
   try simp only[go_sem,zf1,hki]
   rw[flR_e (h2.trans (flE_t hlt hm))];try simp[LeA,LeL,LeD]
  have h0:0≤ixG flagT (l[k]):=by omega
  have hm:l[k]∈flagT:=(ixG_mem flagT (l[k])).1 h0
  have hix:ixG flagT (l[k])<5:=ixG_lt flagT (l[k])
  obtain⟨pw,hpw,hp1,hp2⟩:∃pw:Int,(1:Int)*2^min (ixG flagT (l[k])).toNat 64=pw∧1≤pw∧pw≤16:=by
    have h5:=pw_ok (ixG flagT (l[k])).toNat (by omega)
    rw[show min (ixG flagT (l[k])).toNat 64=(ixG flagT (l[k])).toNat by omega,Int.one_mul]
    exact⟨_,rfl,h5.1,h5.2⟩
  refine Zk ?_
  refine Zr (blkQ_n (thenQ_n ?_))
  refine Zm 29 ?_
  refine Zr (thenQ_n ?_)
  refine Zf 6 9 (.e ⟨_,ZM,k+1,rfl,?_,ZE,?_,?_⟩)
  · (try simp only[go_sem,zf1,hki,hpw])<;>first|exact⟨rfl⟩|(constructor;rw[←flN_s hlt hm hpw];try rfl)
  · omega
  · rw [h2,flE_f hlt hm]
 have htk:l.take k=l:=List.take_of_length_le (by omega)
 rw[htk]
 refine AWp.exit (thenQ_e (thenQ_e (blkQ_e (thenQ_n ?_))))
 refine Zm 1 ?_
 refine Zp 3 ?_
 refine AWp.ret ?_
 try simp only[go_sem]
 rw[flR_0 (h2.trans (flE_e (by omega)))];try simp[LeA,LeL,LeD]
attribute [local go_sem] icast8 strD in
theorem flagsOf_v (T:Tbl) (l:List (List UInt8)) (hl:l.length≤1048576):PC Tryz.prog T 80 [.d (.slc 1 (l.map strD))] (.tup [.d (.int .i64 ((flR l).1)),.d (.int .i64 ((flR l).2))]):=by
 refine⟨Tryz.call80,PCall.enterS Tryz.func80 rfl Tryz.ntmps80 rfl fun hb=>?_⟩
 simp only[go_sem,Tryz.results80]
 refine Zp 1 ?_
 refine Zp 3 ?_
 refine Zs (Zp 7 ?_)
 refine AWp.block (Zy ?_)
 refine Zl 1 6 (fun n lc hc=> ∃(bt fv:Int) (j:Nat),n=(64-bt).toNat∧EqS lc [(4,.d (.int .i64 fv)),(5,.d (.int .i64 bt))]∧EqS hc (⟨[],[]⟩)∧(1≤bt)∧(bt≤32)∧(0≤fv)∧(fv<bt)∧(j≤5)∧(p2 j=bt)∧(fvJ l j=fv)) ?_ ?_
 · refine ⟨_,1,0,0,rfl,ZE,ZE,?_,?_,?_,?_,?_,?_,?_⟩
   all_goals(first|omega|rfl)
 rintro _ _ _ ⟨bt,fv,j,rfl,⟨rfl⟩,⟨rfl⟩,g1,g2,g3,g4,g5,g6,g7⟩
 refine Zy ?_
 refine Zs (Zp 23 ?_)
 refine Zc (fun hc0=>?_) fun hc0=>?_
 ·
  have hj:=p2_lt g5 (by omega)
  refine Zk ?_
  refine Zs (AWp.block (Zp 15 ?_))
  refine AWp.block (Zy ?_)
  refine Zl 5 10 (fun n lc hc=> ∃(k:Nat) (f2:Int),n=l.length-k∧EqS lc [(4,.d (.int .i64 f2)),(6,.d (.int .i64 (k:Nat)))]∧EqS hc (⟨[],[]⟩)∧(k≤l.length)∧(f2=fv)∧(anyB bt (l.take k)=false)) ?_ ?_
  · refine ⟨_,0,fv,rfl,ZE,ZE,?_,?_,?_⟩
    all_goals(first|omega|rfl)
  rintro _ _ _ ⟨k,f2,rfl,⟨rfl⟩,⟨rfl⟩,h1,h3,h4⟩
  refine Zy ?_
  refine Zs (Zp 143 ?_)
  refine Zc (fun hc1=>?_) fun hc1=>?_
  ·
   have hlt:k<l.length:=by omega
   have hki:(k:Int)<(l.length:Int):=by omega
   have zf1:=fun d0_=>map_getD strD l k d0_ hlt
   refine Zk ?_
   refine Zs (AWp.block (Zs (Zx ?_)))
   try simp only[go_sem,zf1,hki]
   (repeat(with_reducible refine And.intro ZS ?_))
   refine DW.pcr rfl rfl rfl rfl (flagBit_c T _) rfl rfl ?_
   try simp only[go_sem,zf1,hki]
   (repeat(with_reducible refine And.intro ZS ?_))
   refine Zm 1039 ?_
   refine Zc (fun hc2=>?_) fun hc2=>?_
   ·
    have hm:=(flB_0 (l[k])).1 hc2
    refine Zp 6 ?_
    refine AWp.ret ?_
    try simp only[go_sem,zf1,hki]
    rw[flR_e (flE_7 hlt hm)];try simp[LeA,LeL,LeD]
   refine Zk ?_
   refine Zx ?_
   try simp only[go_sem,zf1,hki]
   (repeat(with_reducible refine And.intro ZS ?_))
   refine DW.pcr rfl rfl rfl rfl (flagBit_c T _) rfl rfl ?_
   try simp only[go_sem,zf1,hki]
   (repeat(with_reducible refine And.intro ZS ?_))
   refine Zm 2063 ?_
   refine Zc (fun hc3=>?_) fun hc3=>?_
   ·
    have hFV:fvJ l (j+1)=f2+bt:=by rw[h3,←g7,←fvJ_t (by rw[g6];exact anyB_t hlt hc3),g6]
    refine Zp 7 ?_
    refine AWp.exit (blkQ_d (by decide) (thenQ_e (thenQ_e (blkQ_e (blkQ_n (thenQ_n ?_))))))
    refine Zr (thenQ_n ?_)
    refine Zf 1 6 (.e ⟨_,?_,(bt*2),(f2+bt),(j+1),rfl,ZE,ZE,?_,?_,?_,?_,?_,?_,?_⟩)
    · first|omega|(simp;omega)|(omega)
    all_goals first|omega|(rw[p2,g6];done)|exact hFV|skip
   refine AWp.skip (blkQ_n (thenQ_n ?_))
   refine Zr (thenQ_n ?_)
   refine Zf 5 10 (.e ⟨_,ZM,k+1,f2,rfl,ZE,ZE,?_,?_,?_⟩)
   · omega
   · exact h3
   · exact anyB_n hlt (by first|exact hc3|omega) h4
  have htk:l.take k=l:=List.take_of_length_le (by omega)
  rw[htk] at h4
  have hFV:fvJ l (j+1)=f2:=by rw[h3,←g7];exact(fvJ_f (by rw[g6];exact h4)).symm
  refine AWp.exit (thenQ_e (thenQ_e (blkQ_e (blkQ_n (thenQ_n ?_)))))
  refine Zr (thenQ_n ?_)
  refine Zf 1 6 (.e ⟨_,?_,(bt*2),f2,(j+1),rfl,ZE,ZE,?_,?_,?_,?_,?_,?_,?_⟩)
  · first|omega|(simp;omega)|(omega)
  all_goals first|omega|(rw[p2,g6];done)|exact hFV|skip
 have hj:=p2_ge g5 (by omega)
 subst hj
 refine AWp.exit (thenQ_e (thenQ_e (blkQ_e (thenQ_n ?_))))
 refine Zs (Zp 11 ?_)
 refine AWp.block (Zy ?_)
 refine Zl 3 4 (fun n lc hc=> ∃(k:Nat),n=l.length-k∧EqS lc [(7,.d (.int .i64 (k:Nat)))]∧EqS hc (⟨[],[]⟩)∧(k≤l.length)∧(GoodI l k)) ?_ ?_
 · refine ⟨_,0,rfl,ZE,ZE,?_,?_⟩
   all_goals(first|omega|exact fun j h h9=>absurd h9 (by omega))
 rintro _ _ _ ⟨k,rfl,⟨rfl⟩,⟨rfl⟩,h1,h2⟩
 refine Zy ?_
 refine Zs (Zp 71 ?_)
 refine Zc (fun hc4=>?_) fun hc4=>?_
 ·
  have hlt:k<l.length:=by omega
  have hki:(k:Int)<(l.length:Int):=by omega
  have zf2:=fun d0_=>map_getD strD l k d0_ hlt
  refine Zk ?_
  refine Zs (AWp.block (Zx ?_))
  try simp only[go_sem,zf2,hki]
  (repeat(with_reducible refine And.intro ZS ?_))
  refine DW.pcr rfl rfl rfl rfl (flagBit_c T _) rfl rfl ?_
  try simp only[go_sem,zf2,hki]
  (repeat(with_reducible refine And.intro ZS ?_))
  refine Zm 519 ?_
  refine Zc (fun hc5=>?_) fun hc5=>?_
  ·
   have hm:=(flB_0 (l[k])).1 hc5
   refine Zp 6 ?_
   refine AWp.ret ?_
   try simp only[go_sem,zf2,hki]
   rw[flR_e (flE_7 hlt hm)];try simp[LeA,LeL,LeD]
  have hm:l[k]∈flagT:=Decidable.byContradiction fun h9=>hc5 ((flB_0 (l[k])).2 h9)
  refine AWp.skip (blkQ_n (thenQ_n ?_))
  refine Zr (thenQ_n ?_)
  refine Zf 3 4 (.e ⟨_,ZM,k+1,rfl,ZE,ZE,?_,?_⟩)
  · omega
  · exact h2.s hlt hm
 refine AWp.exit (thenQ_e (thenQ_e (blkQ_e (thenQ_n ?_))))
 refine Zp 6 ?_
 refine AWp.ret ?_
 try simp only[go_sem]
 rw[flR_0 (h2.e (by omega)),flN,g7];try simp[LeA,LeL,LeD]
def jnJ (x y:Int):Nat→Int
 |0=>0
 |j+1=>jnJ x y j+(if(x.tdiv (p2 j)).tmod 2=1∨(y.tdiv (p2 j)).tmod 2=1 then p2 j else 0)
set_option maxRecDepth 100000 in
theorem jn_all:∀a b c d e a' b' c' d' e':Bool,jnJ (fv5 a b c d e) (fv5 a' b' c' d' e') 5=orF (fv5 a' b' c' d' e') (fv5 a b c d e):=by decide+kernel
theorem jn_or {x y:Int} (hx:Is5 x) (hy:Is5 y):jnJ x y 5=orF y x:=by
 obtain⟨a,b,c,d,e,rfl⟩:=hx
 obtain⟨a',b',c',d',e',rfl⟩:=hy
 exact jn_all ..
set_option maxRecDepth 100000 in
theorem or_all:∀a b c d e a' b' c' d' e':Bool,orF (fv5 a' b' c' d' e') (fv5 a b c d e)=fv5 (a||a') (b||b') (c||c') (d||d') (e||e'):=by decide+kernel
theorem or_is {x y:Int} (hx:Is5 x) (hy:Is5 y):Is5 (orF y x):=by
 obtain⟨a,b,c,d,e,rfl⟩:=hx
 obtain⟨a',b',c',d',e',rfl⟩:=hy
 exact⟨_,_,_,_,_,or_all ..⟩
theorem is_le {x:Int} (h:Is5 x):0≤x∧x≤31:=by
 obtain⟨a,b,c,d,e,rfl⟩:=h
 cases a<;>cases b<;>cases c<;>cases d<;>cases e<;>decide
theorem jnJ_t {x y bt:Int} {j:Nat} (e:p2 j=bt) (h:(x.tdiv bt).tmod 2=1∨(y.tdiv bt).tmod 2=1):jnJ x y (j+1)=jnJ x y j+bt:=by rw[jnJ,e,if_pos h]
theorem jnJ_f {x y bt:Int} {j:Nat} (e:p2 j=bt) (h:¬((x.tdiv bt).tmod 2=1∨(y.tdiv bt).tmod 2=1)):jnJ x y (j+1)=jnJ x y j:=by rw[jnJ,e,if_neg h];omega
theorem td_b {x bt:Int} (h0:0≤x) (h1:1≤bt) (h2:x≤31):(-9223372036854775808≤x.tdiv bt)∧x.tdiv bt≤9223372036854775807:=by
 rw[Int.tdiv_eq_ediv_of_nonneg h0]
 have:=Int.ediv_nonneg h0 (show 0≤bt by omega)
 have:=Int.ediv_le_self bt h0
 omega
attribute [local go_sem] icast8 true_and and_true in
theorem join_c (T:Tbl) (x y:Int) (hx:Is5 x) (hy:Is5 y):PC Tryz.prog T 81 [.d (.int .i64 x),.d (.int .i64 y)] (.d (.int .i64 (orF y x))):=by
 refine⟨Tryz.call81,PCall.enterS Tryz.func81 rfl Tryz.ntmps81 rfl fun hb=>?_⟩
 have hxb:=is_le hx
 have hyb:=is_le hy
 simp only[go_sem,Tryz.results81]
 refine Zp 3 ?_
 refine Zp 7 ?_
 refine Zs (Zp 15 ?_)
 refine AWp.block (Zy ?_)
 refine Zl 3 12 (fun n lc hc=> ∃(bt fv:Int) (j:Nat),n=(64-bt).toNat∧EqS lc [(5,.d (.int .i64 fv)),(6,.d (.int .i64 bt))]∧EqS hc (⟨[],[]⟩)∧(1≤bt)∧(bt≤32)∧(0≤fv)∧(fv<bt)∧(j≤5)∧(p2 j=bt)∧(jnJ x y j=fv)) ?_ ?_
 · refine ⟨_,1,0,0,rfl,ZE,ZE,?_,?_,?_,?_,?_,?_,?_⟩
   all_goals(first|omega|rfl)
 rintro _ _ _ ⟨bt,fv,j,rfl,⟨rfl⟩,⟨rfl⟩,g1,g2,g3,g4,g5,g6,g7⟩
 refine Zy ?_
 refine Zs (Zp 47 ?_)
 refine Zc (fun hc0=>?_) fun hc0=>?_
 ·
  have hj:=p2_lt g5 (by omega)
  have hb0:bt≠0:=by omega
  obtain⟨hd1,hd2⟩:=td_b hxb.1 g1 hxb.2
  obtain⟨hd3,hd4⟩:=td_b hyb.1 g1 hyb.2
  have zf1:=(by decide:(2:Int)≠0)
  refine Zk ?_
  refine Zs (AWp.block (Zp 65551 ?_))
  refine Zc (fun hc1=>?_) fun hc1=>?_
  ·
   refine Zr (blkQ_n (thenQ_n ?_))
   refine Zm 15 ?_
   refine Zr (thenQ_n ?_)
   refine Zf 3 12 (.e ⟨_,?_,(bt*2),(fv+bt),(j+1),rfl,ZE,ZE,?_,?_,?_,?_,?_,?_,?_⟩)
   · first|omega|(simp;omega)|(omega)
   all_goals first|omega|(rw[p2,g6];done)|(rw[jnJ_t g6 hc1,g7];done)|(rw[jnJ_f g6 (by omega),g7];done)
  refine AWp.skip (blkQ_n (thenQ_n ?_))
  refine Zr (thenQ_n ?_)
  refine Zf 3 12 (.e ⟨_,?_,(bt*2),fv,(j+1),rfl,ZE,ZE,?_,?_,?_,?_,?_,?_,?_⟩)
  · first|omega|(simp;omega)|(omega)
  all_goals first|omega|(rw[p2,g6];done)|(rw[jnJ_t g6 hc1,g7];done)|(rw[jnJ_f g6 (by omega),g7];done)
 have hj:=p2_ge g5 (by omega)
 subst hj
 refine AWp.exit (thenQ_e (thenQ_e (blkQ_e (thenQ_n ?_))))
 refine Zm 4 ?_
 refine Zp 1 ?_
 refine AWp.ret ?_
 try simp only[go_sem]
 rw[←jn_or hx hy,g7];try simp[LeA,LeD]
end
section
structure AcS where
 k:Int
 t:List UInt8
 f:Int
def acD (a:AcS):List D:=[.int .i64 a.k,.str a.t,.int .i64 a.f]
def acA (a:AcS):List AV:=[.d (.int .i64 a.k),.d (.str a.t),.d (.int .i64 a.f)]
def acsD (l:List AcS):List (List D):=l.map acD
@[go_sem] theorem acsD_len (l:List AcS):(acsD l).length=l.length:=by simp[acsD]
theorem acs_full (X:List AcS):∀r∈dRows (acsD X),r.length=3:=fun r hr=>by
 obtain⟨q,hq,rfl⟩:=List.mem_map.1 hr
 obtain⟨o,_,rfl⟩:=List.mem_map.1 hq
 simp[acD]
theorem ac_row {Y:List AcS} {p:Nat} (h:p<Y.length):(dRows (acsD Y))[p]?=some [.d (.int .i64 Y[p].k),.d (.str Y[p].t),.d (.int .i64 Y[p].f)]:=by simp[dRows,acsD,acD,h]
structure Co where
 a:List AcS
 fl:Int
 ak:Bool
 ft:Int
def crO (w bb cc:Nat) (c:Co) (F:List (Nat×Ob)):List (Nat×Ob):=(w,⟨4,1,[[mA bb 3 cc c.a.length,.d (.int .i64 c.fl),.d (.bool c.ak),.d (.int .i64 c.ft)]]⟩)::mO bb 3 cc (dRows (acsD c.a)) F
theorem cr_in (A:List (Nat×Ob)) (w bb cc:Nat) (X:Co) (F:List (Nat×Ob)):(A++crO w bb cc X F).Perm (crO w bb cc X (A++F)):=by
 unfold crO mO
 split
 ·exact List.perm_middle
 ·refine List.perm_middle.trans (List.Perm.cons _ ?_)
  exact List.perm_middle
theorem cr_out (A:List (Nat×Ob)) (w bb cc:Nat) (X:Co) (F:List (Nat×Ob)):(crO w bb cc X (A++F)).Perm (A++crO w bb cc X F):=(cr_in A w bb cc X F).symm
def hardB (k:Int):Bool:=decide (k=3∨k=5∨k=6)
def clashB (a x:AcS):Bool:=decide (a.k=7∧(x.k=7∨hardB x.k=true)∨hardB a.k=true∧x.k=7)
def sameA (a x:AcS):Bool:=decide (x.k=a.k∧x.t=a.t)
def addC (c:Co) (a:AcS):Co×Bool:=
 if c.a.any (clashB a)=true then(⟨c.a,c.fl,true,9⟩,false)
 else if c.a.any (sameA a)=true then(⟨c.a,c.fl,true,c.ft⟩,true)
 else if c.a.length=6 then(⟨c.a,c.fl,true,5⟩,false)
 else(⟨c.a++[a],c.fl,true,c.ft⟩,true)
theorem addC_1 {c:Co} {a:AcS} (h:c.a.any (clashB a)=true):addC c a=(⟨c.a,c.fl,true,9⟩,false):=if_pos h
theorem addC_2 {c:Co} {a:AcS} (h:c.a.any (clashB a)=false) (h2:c.a.any (sameA a)=true):addC c a=(⟨c.a,c.fl,true,c.ft⟩,true):=by rw[addC,if_neg (by rw[h];decide),if_pos h2]
theorem addC_3 {c:Co} {a:AcS} (h:c.a.any (clashB a)=false) (h2:c.a.any (sameA a)=false) (h3:c.a.length=6):addC c a=(⟨c.a,c.fl,true,5⟩,false):=by rw[addC,if_neg (by rw[h];decide),if_neg (by rw[h2];decide),if_pos h3]
theorem addC_4 {c:Co} {a:AcS} (h:c.a.any (clashB a)=false) (h2:c.a.any (sameA a)=false) (h3:¬c.a.length=6):addC c a=(⟨c.a++[a],c.fl,true,c.ft⟩,true):=by rw[addC,if_neg (by rw[h];decide),if_neg (by rw[h2];decide),if_neg h3]
attribute [local go_sem] icast8 in
theorem IxA_c (T:Tbl) (f:FuncId) (cap:List AV) (g:AcS→Bool) (bb cc:Nat) (X:List AcS) (F:List (Nat×Ob)) (L:List Nat) (hl:X.length≤1000000) (hg:∀y∈X,AC Tryz.prog T f (.agg (acA y)::cap) ⟨(bb,⟨3,cc,dRows (acsD X)⟩)::F,L⟩ (fun r h=>r= .ret (.d (.bool (g y)))∧h=⟨(bb,⟨3,cc,dRows (acsD X)⟩)::F,L⟩)):AC Tryz.prog T 265 [.arr bb 3 X.length cc,.fn f cap] (⟨(bb,⟨3,cc,dRows (acsD X)⟩)::F,L⟩) (fun r h=> ∃i:Int,r= .ret (.d (.int .i64 i))∧decide (0≤i)=X.any g∧h=⟨(bb,⟨3,cc,dRows (acsD X)⟩)::F,L⟩):=by
 refine⟨Tryz.call265,ACalls.enterS Tryz.func265 rfl Tryz.ntmps265 rfl fun hb=>?_⟩
 simp only[go_sem,Tryz.results265]
 refine Zp 3 ?_
 refine Zs (Zp 27 ?_)
 refine AWp.block (Zy ?_)
 refine Zl 7 8 (fun n lc hc=> ∃(k:Nat),n=X.length-k∧EqS lc [(8,.d (.int .i64 (k:Nat)))]∧EqS hc (⟨(bb,⟨3,cc,dRows (acsD X)⟩)::F,L⟩)∧(k≤X.length)∧((X.take k).any g=false)) ?_ ?_
 · refine ⟨_,0,rfl,ZE,ZE,?_,?_⟩
   all_goals(first|omega|rfl|simp)
 rintro _ _ _ ⟨k,rfl,⟨rfl⟩,⟨rfl⟩,h1,h2⟩
 refine Zy ?_
 refine Zp 31 ?_
 refine Zs (Zc (fun hc0=>?_) fun hc0=>?_)
 ·
  have hlt:k<X.length:=by omega
  have hki:(k:Int)<(X.length:Int):=by omega
  have hrow:=ac_row hlt
  refine Zk ?_
  refine Zs (AWp.block (Zp 31 ?_))
  refine Zx ?_
  try simp only[go_sem,hrow,hki]
  (repeat(with_reducible refine And.intro ZS ?_))
  refine DW.acp [bb] [] rfl rfl rfl rfl (by(try simp only[go_sem,hrow,hki])<;>rfl) rfl (hg _ (List.getElem_mem hlt)) ?_
  rintro _ _ ⟨rfl,rfl⟩
  try simp only[go_sem,hrow,hki]
  (repeat(with_reducible refine And.intro ZS ?_))
  refine Zm 1055 ?_
  refine Zc (fun hc1=>?_) fun hc1=>?_
  ·
   refine Zp 4 ?_
   refine AWp.ret ?_
   try simp only[thenQ,blkQ]
   apply endW_r [] [] [bb] [] (by(try simp only[go_sem,hrow,hki])<;>rfl)
   · exact ⟨(k:Int),rfl,by rw[List.any_eq_true.2 ⟨_,List.getElem_mem hlt,hc1⟩];simp,by first|rfl|(simp only[go_sem,hrow,hki];done)⟩
   · simp [LeA,LeD]
  refine AWp.skip (blkQ_n (thenQ_n ?_))
  refine Zr (thenQ_n ?_)
  refine Ze 11 16 [] [] [bb] [] (.e ⟨_,ZM,k+1,rfl,ZE,ZE,?_,?_⟩)
  · omega
  · rw [List.take_succ_eq_append_getElem hlt,List.any_append,h2];simpa using hc1
 have htk:X.take k=X:=List.take_of_length_le (by omega)
 rw[htk] at h2
 refine AWp.exit (thenQ_e (thenQ_e (blkQ_e (thenQ_n ?_))))
 refine Zm 0 ?_
 refine Zp 1 ?_
 refine AWp.ret ?_
 try simp only[thenQ,blkQ]
 apply endW_r [] [] [bb] [] (by(try simp only[go_sem])<;>rfl)
 · exact ⟨-1,rfl,by rw[h2];rfl,by first|rfl|(simp only[go_sem,];done)⟩
 · simp [LeA,LeD]
theorem CfA_c (T:Tbl) (f:FuncId) (cap:List AV) (g:AcS→Bool) (bb cc:Nat) (X:List AcS) (F:List (Nat×Ob)) (L:List Nat) (hl:X.length≤1000000) (hg:∀y∈X,AC Tryz.prog T f (.agg (acA y)::cap) ⟨(bb,⟨3,cc,dRows (acsD X)⟩)::F,L⟩ (fun r h=>r= .ret (.d (.bool (g y)))∧h=⟨(bb,⟨3,cc,dRows (acsD X)⟩)::F,L⟩)):AC Tryz.prog T 229 [.arr bb 3 X.length cc,.fn f cap] (⟨(bb,⟨3,cc,dRows (acsD X)⟩)::F,L⟩) (fun r h=>r= .ret (.d (.bool (X.any g)))∧h=⟨(bb,⟨3,cc,dRows (acsD X)⟩)::F,L⟩):=by
 refine⟨Tryz.call229,ACalls.enterS Tryz.func229 rfl Tryz.ntmps229 rfl fun hb=>?_⟩
 simp only[go_sem,Tryz.results229]
 refine Zp 3 ?_
 refine Zx ?_
 try simp only[go_sem]
 (repeat(with_reducible refine And.intro ZS ?_))
 refine DW.acp [bb] [] rfl rfl rfl rfl (by(try simp only[go_sem])<;>rfl) rfl (IxA_c T f cap g bb cc X F L hl hg) ?_
 rintro _ _ ⟨Q1,rfl,hQ1,rfl⟩
 try simp only[go_sem]
 (repeat(with_reducible refine And.intro ZS ?_))
 refine Zm 4 ?_
 refine AWp.ret ?_
 try simp only[thenQ,blkQ]
 apply endW_r [] [] [bb] [] (by(try simp only[go_sem])<;>rfl)
 · exact ⟨by rw[←hQ1],by first|rfl|(simp only[go_sem,];done)⟩
 · simp [LeA,LeD]
attribute [local go_sem] icast8 in
theorem IxA_n (T:Tbl) (f:FuncId) (cap:List AV) (F:List (Nat×Ob)) (L:List Nat):AC Tryz.prog T 265 [.full 3 [],.fn f cap] (⟨F,L⟩) (fun r h=>r= .ret (.d (.int .i64 (-1)))∧h=⟨F,L⟩):=by
 refine⟨Tryz.call265,ACalls.enterS Tryz.func265 rfl Tryz.ntmps265 rfl fun hb=>?_⟩
 simp only[go_sem,Tryz.results265]
 refine Zp 3 ?_
 refine Zs (Zp 27 ?_)
 refine AWp.block (Zy ?_)
 refine Zl 7 8 (fun n lc hc=> ∃(k:Nat),n=1-k∧EqS lc [(8,.d (.int .i64 (k:Nat)))]∧EqS hc (⟨F,L⟩)∧(k=0)) ?_ ?_
 · refine ⟨_,0,rfl,ZE,ZE,?_⟩
   all_goals(rfl)
 rintro _ _ _ ⟨k,rfl,⟨rfl⟩,⟨rfl⟩,h1⟩
 refine Zy ?_
 refine Zp 31 ?_
 refine Zs (Zc (fun hc0=>?_) fun hc0=>?_)
 ·
  exfalso;omega
 refine AWp.exit (thenQ_e (thenQ_e (blkQ_e (thenQ_n ?_))))
 refine Zm 0 ?_
 refine Zp 1 ?_
 refine AWp.ret ?_
 try simp only[thenQ,blkQ]
 apply endW_r [] [] [] [] (by(try simp only[go_sem])<;>rfl)
 · exact ⟨rfl,by first|rfl|(simp only[go_sem,];done)⟩
 · simp [LeA,LeD]
theorem CfA_n (T:Tbl) (f:FuncId) (cap:List AV) (F:List (Nat×Ob)) (L:List Nat):AC Tryz.prog T 229 [.full 3 [],.fn f cap] (⟨F,L⟩) (fun r h=>r= .ret (.d (.bool false))∧h=⟨F,L⟩):=by
 refine⟨Tryz.call229,ACalls.enterS Tryz.func229 rfl Tryz.ntmps229 rfl fun hb=>?_⟩
 simp only[go_sem,Tryz.results229]
 refine Zp 3 ?_
 refine Zx ?_
 try simp only[go_sem]
 (repeat(with_reducible refine And.intro ZS ?_))
 refine DW.acp [] [] rfl rfl rfl rfl (by(try simp only[go_sem])<;>rfl) rfl (IxA_n T f cap F L) ?_
 rintro _ _ ⟨rfl,rfl⟩
 try simp only[go_sem]
 (repeat(with_reducible refine And.intro ZS ?_))
 refine Zm 4 ?_
 refine AWp.ret ?_
 try simp only[thenQ,blkQ]
 apply endW_r [] [] [] [] (by(try simp only[go_sem])<;>rfl)
 · exact ⟨rfl,by first|rfl|(simp only[go_sem,];done)⟩
 · simp [LeA,LeD]
theorem hard_c (T:Tbl) (k:Int):PC Tryz.prog T 227 [.d (.int .i64 k)] (.d (.bool (hardB k))):=by
 refine⟨Tryz.call227,PCall.enterS Tryz.func227 rfl Tryz.ntmps227 rfl fun hb=>?_⟩
 simp only[go_sem,Tryz.results227]
 refine Zp 1 ?_
 refine Zp 2 ?_
 refine AWp.ret ?_
 try simp only[go_sem]
 simp[LeA,LeD,hardB,Bool.or_assoc,Bool.and_assoc]
theorem soft_c (T:Tbl) (k:Int):PC Tryz.prog T 84 [.d (.int .i64 k)] (.d (.bool (!hardB k))):=by
 refine⟨Tryz.call84,PCall.enterS Tryz.func84 rfl Tryz.ntmps84 rfl fun hb=>?_⟩
 simp only[go_sem,Tryz.results84]
 refine Zp 1 ?_
 refine Zp 2 ?_
 refine AWp.ret ?_
 try simp only[go_sem]
 simp[LeA,LeD,hardB,Bool.or_assoc,Bool.and_assoc]
attribute [local go_sem] acA in
theorem clash_c (T:Tbl) (a x:AcS) (bb b3:Nat) (O:Ob) (F:List (Nat×Ob)) (L:List Nat):AC Tryz.prog T 226 [.agg (acA x),.ptr b3 3 0 0] (⟨(bb,O)::(b3,⟨3,1,[acA a]⟩)::F,L⟩) (fun r h=>r= .ret (.d (.bool (clashB a x)))∧h=⟨(bb,O)::(b3,⟨3,1,[acA a]⟩)::F,L⟩):=by
 refine⟨Tryz.call226,ACalls.enterS Tryz.func226 rfl Tryz.ntmps226 rfl fun hb=>?_⟩
 simp only[go_sem,Tryz.results226]
 refine AWp.nd fun hnd=>?_
 have hq:=nd2 hnd
 clear hnd
 have zf1:=bne_l hq
 have zf2:=bne_r hq
 refine Zx ?_
 try simp only[go_sem,zf1,zf2]
 (repeat(with_reducible refine And.intro ZS ?_))
 intro b5
 first|intro fb5|have fb5:=True.intro
 try simp only[freshL] at fb5
 try simp only[go_sem,zf1,zf2,fb5]
 (repeat(with_reducible refine And.intro ZS ?_))
 refine Zx ?_
 try simp only[go_sem,zf1,zf2,fb5]
 (repeat(with_reducible refine And.intro ZS ?_))
 refine DW.pcgr rfl rfl rfl rfl rfl (fun hg=>hard_c T _) (fun hg=>by(try simp only[go_sem,zf1,zf2,fb5])<;>first|exact hg|(exfalso;simp at hg;done)|(simpa using hg)|grind) rfl rfl ?_
 try simp only[go_sem,zf1,zf2,fb5]
 (repeat(with_reducible refine And.intro ZS ?_))
 refine DW.pcgr rfl rfl rfl rfl rfl (fun hg=>hard_c T _) (fun hg=>by(try simp only[go_sem,zf1,zf2,fb5])<;>first|exact hg|(exfalso;simp at hg;done)|(simpa using hg)|grind) rfl rfl ?_
 try simp only[go_sem,zf1,zf2,fb5]
 (repeat(with_reducible refine And.intro ZS ?_))
 refine Zm 8 ?_
 refine AWp.ret ?_
 try simp only[thenQ,blkQ]
 apply endW_r [b5] [] [bb,b3] [] (by(try simp only[go_sem,zf1,zf2,fb5])<;>rfl)
 · exact ⟨rfl,by first|rfl|(simp only[go_sem,zf1,zf2,fb5];done)⟩
 · simp [LeA,LeD,clashB,hardB,Bool.or_assoc,Bool.and_assoc]
attribute [local go_sem] acA in
theorem same_c (T:Tbl) (a x:AcS) (bb b3:Nat) (O:Ob) (F:List (Nat×Ob)) (L:List Nat):AC Tryz.prog T 228 [.agg (acA x),.ptr b3 3 0 0] (⟨(bb,O)::(b3,⟨3,1,[acA a]⟩)::F,L⟩) (fun r h=>r= .ret (.d (.bool (sameA a x)))∧h=⟨(bb,O)::(b3,⟨3,1,[acA a]⟩)::F,L⟩):=by
 refine⟨Tryz.call228,ACalls.enterS Tryz.func228 rfl Tryz.ntmps228 rfl fun hb=>?_⟩
 simp only[go_sem,Tryz.results228]
 refine AWp.nd fun hnd=>?_
 have hq:=nd2 hnd
 clear hnd
 have zf1:=bne_l hq
 have zf2:=bne_r hq
 refine Zx ?_
 try simp only[go_sem,zf1,zf2]
 (repeat(with_reducible refine And.intro ZS ?_))
 intro b5
 first|intro fb5|have fb5:=True.intro
 try simp only[freshL] at fb5
 try simp only[go_sem,zf1,zf2,fb5]
 (repeat(with_reducible refine And.intro ZS ?_))
 refine Zp 8 ?_
 refine AWp.ret ?_
 try simp only[thenQ,blkQ]
 apply endW_r [b5] [] [bb,b3] [] (by(try simp only[go_sem,zf1,zf2,fb5])<;>rfl)
 · exact ⟨rfl,by first|rfl|(simp only[go_sem,zf1,zf2,fb5];done)⟩
 · simp [LeA,LeD,sameA,Bool.or_assoc,Bool.and_assoc]
end
section
attribute [local go_sem] acA Array.isEmpty_empty in
theorem add_c (T:Tbl) (w bb cc:Nat) (c:Co) (F:List (Nat×Ob)) (L:List Nat) (hX:cc=0→c.a=[]) (hlX:c.a.length≤1000000) (a:AcS):AC Tryz.prog T 144 [.ptr w 4 0 0,.agg (acA a)] (⟨crO w bb cc c F,L⟩) (fun x h=> ∃b2 c2,(c2=0→(addC c a).1.a=[])∧x= .ret (.d (.bool (addC c a).2))∧h=⟨crO w b2 c2 (addC c a).1 F,L⟩):=by
 refine⟨Tryz.call144,ACalls.enterS Tryz.func144 rfl Tryz.ntmps144 rfl fun hb=>?_⟩
 obtain⟨X,fl,ak,ft⟩:=c
 dsimp only at hX hlX
 simp only[go_sem,Tryz.results144]
 rcases Nat.eq_zero_or_pos cc with hz|hz
 ·
  obtain rfl:=hX hz
  subst hz
  have e:addC ⟨[],fl,ak,ft⟩ a=(⟨[]++[a],fl,true,ft⟩,true):=addC_4 rfl rfl (by simp)
  simp only[crO,mA_nil,mO_nil,List.length_nil]
  refine Zx ?_
  try simp only[go_sem,if_true]
  (repeat(with_reducible refine And.intro ZS ?_))
  intro b3
  first|intro fb3|have fb3:=True.intro
  try simp only[freshL] at fb3
  try simp only[go_sem,if_true,fb3]
  (repeat(with_reducible refine And.intro ZS ?_))
  refine Zp 5 ?_
  refine Zp 7 ?_
  refine Zp 15 ?_
  refine Zs (AWp.block (Zx ?_))
  try simp only[go_sem,if_true,fb3]
  (repeat(with_reducible refine And.intro ZS ?_))
  refine DW.acp [] [] rfl rfl rfl rfl (by(try simp only[go_sem,if_true,fb3])<;>rfl) rfl (CfA_n T _ _ _ _) ?_
  rintro _ _ ⟨rfl,rfl⟩
  try simp only[go_sem,if_true,fb3]
  (repeat(with_reducible refine And.intro ZS ?_))
  refine Zm 27 ?_
  refine Zc (fun hc0=>?_) fun hc0=>?_
  ·
   first|omega|exact absurd hc0 (by simp)|(simp at hc0)
  refine Zx ?_
  try simp only[go_sem,if_true,fb3]
  (repeat(with_reducible refine And.intro ZS ?_))
  refine DW.acp [] [] rfl rfl rfl rfl (by(try simp only[go_sem,if_true,fb3])<;>rfl) rfl (CfA_n T _ _ _ _) ?_
  rintro _ _ ⟨rfl,rfl⟩
  try simp only[go_sem,if_true,fb3]
  (repeat(with_reducible refine And.intro ZS ?_))
  refine Zm 19 ?_
  refine Zc (fun hc1=>?_) fun hc1=>?_
  ·
   first|omega|exact absurd hc1 (by simp)|(simp at hc1)
  refine Zp 11 ?_
  refine Zc (fun hc2=>?_) fun hc2=>?_
  ·
   first|omega|exact absurd hc2 (by simp)|(simp at hc2)
  refine AWp.skip (blkQ_n (thenQ_n ?_))
  refine Zd true [0,1,2,3,4,5,6,7,8,9,10,11,12] ?_
  try simp only[go_sem,if_true,fb3]
  (repeat(with_reducible refine And.intro ZS ?_))
  refine DW.appM (b0:=0) (c0:=0) (rows:=[]) rfl rfl rfl rfl (fun _=>rfl) rfl (show slI Tryz.prog 44=some (103,3,32) by simp only[go_sem]) rfl rfl (by simp) rfl (by first|decide|(simp;done)|omega) (by(try simp only[go_sem,dRows_len,acsD_len,List.length_cons,List.length_nil])<;>first|omega|(simp;omega)) (by(try simp only[go_sem,dRows_len,acsD_len,List.length_cons,List.length_nil])<;>first|omega|(simp;omega)) fun bm1 cm1 hcm1 fbm1=>?_
  try simp only[freshL] at fbm1
  try simp only[go_sem,if_true,fb3,fbm1]
  (repeat(with_reducible refine And.intro ZS ?_))
  refine Zm 0 ?_
  refine Zp 1 ?_
  refine AWp.ret ?_
  try simp only[thenQ,blkQ]
  apply endW_r [b3] [] [w] [] (by(try simp only[go_sem,if_true,fb3,fbm1])<;>rfl)
  · exact ⟨bm1,cm1,fun h9=>by omega,rfl,by simp only[e,crO,mA_pos hcm1,mO_pos hcm1];(simp[go_sem,if_true,fb3,fbm1])<;>simp[dRows,acsD,acD]⟩
  · simp [LeA,LeD,e]
 simp only[crO,mA_pos hz,mO_pos hz]
 refine AWp.nd fun hnd=>?_
 have hq:=nd2 hnd
 clear hnd
 have zf1:=bne_l hq
 have zf2:=bne_r hq
 refine Zx ?_
 try simp only[go_sem,if_true,zf1,zf2]
 (repeat(with_reducible refine And.intro ZS ?_))
 intro b3
 first|intro fb3|have fb3:=True.intro
 try simp only[freshL] at fb3
 try simp only[go_sem,if_true,zf1,zf2,fb3]
 (repeat(with_reducible refine And.intro ZS ?_))
 refine Zp 5 ?_
 refine Zp 7 ?_
 refine Zp 15 ?_
 refine Zs (AWp.block (Zx ?_))
 try simp only[go_sem,if_true,zf1,zf2,fb3]
 (repeat(with_reducible refine And.intro ZS ?_))
 have hC:=CfA_c T _ _ (clashB a) bb cc X ((b3,⟨3,1,[acA a]⟩)::(w,⟨4,1,[[.arr bb 3 X.length cc,.d (.int .i64 fl),.d (.bool true),.d (.int .i64 ft)]]⟩)::F) L hlX fun y hy=>clash_c T a y bb b3 ⟨3,cc,dRows (acsD X)⟩ ((w,⟨4,1,[[.arr bb 3 X.length cc,.d (.int .i64 fl),.d (.bool true),.d (.int .i64 ft)]]⟩)::F) L
 refine DW.acp [bb] [] rfl rfl rfl rfl (by(try simp only[go_sem,if_true,zf1,zf2,fb3])<;>rfl) rfl (hC) ?_
 rintro _ _ ⟨rfl,rfl⟩
 try simp only[go_sem,if_true,zf1,zf2,fb3]
 (repeat(with_reducible refine And.intro ZS ?_))
 refine Zm 27 ?_
 refine Zc (fun hc0=>?_) fun hc0=>?_
 ·
  have e:addC ⟨X,fl,ak,ft⟩ a=(⟨X,fl,true,9⟩,false):=addC_1 hc0
  refine Zp 0 ?_
  refine Zp 1 ?_
  refine AWp.ret ?_
  try simp only[thenQ,blkQ]
  apply endW_r [b3] [] [w] [] (by(try simp only[go_sem,if_true,zf1,zf2,fb3])<;>rfl)
  · exact ⟨bb,cc,fun h9=>by omega,rfl,by simp only[e,crO,mA_pos hz,mO_pos hz];first|rfl|(simp only[go_sem,if_true,zf1,zf2,fb3];done)|(simp only[go_sem,if_true,zf1,zf2,fb3];rfl)⟩
  · simp [LeA,LeD,e]
 have h0:X.any (clashB a)=false:=by simpa using hc0
 refine Zx ?_
 try simp only[go_sem,if_true,zf1,zf2,fb3]
 (repeat(with_reducible refine And.intro ZS ?_))
 have hC:=CfA_c T _ _ (sameA a) bb cc X ((b3,⟨3,1,[acA a]⟩)::(w,⟨4,1,[[.arr bb 3 X.length cc,.d (.int .i64 fl),.d (.bool true),.d (.int .i64 ft)]]⟩)::F) L hlX fun y hy=>same_c T a y bb b3 ⟨3,cc,dRows (acsD X)⟩ ((w,⟨4,1,[[.arr bb 3 X.length cc,.d (.int .i64 fl),.d (.bool true),.d (.int .i64 ft)]]⟩)::F) L
 refine DW.acp [bb] [] rfl rfl rfl rfl (by(try simp only[go_sem,if_true,zf1,zf2,fb3])<;>rfl) rfl (hC) ?_
 rintro _ _ ⟨rfl,rfl⟩
 try simp only[go_sem,if_true,zf1,zf2,fb3]
 (repeat(with_reducible refine And.intro ZS ?_))
 refine Zm 19 ?_
 refine Zc (fun hc1=>?_) fun hc1=>?_
 ·
  have e:addC ⟨X,fl,ak,ft⟩ a=(⟨X,fl,true,ft⟩,true):=addC_2 h0 hc1
  refine Zp 4 ?_
  refine AWp.ret ?_
  try simp only[thenQ,blkQ]
  apply endW_r [b3] [] [w] [] (by(try simp only[go_sem,if_true,zf1,zf2,fb3])<;>rfl)
  · exact ⟨bb,cc,fun h9=>by omega,rfl,by simp only[e,crO,mA_pos hz,mO_pos hz];first|rfl|(simp only[go_sem,if_true,zf1,zf2,fb3];done)|(simp only[go_sem,if_true,zf1,zf2,fb3];rfl)⟩
  · simp [LeA,LeD,e]
 have h1:X.any (sameA a)=false:=by simpa using hc1
 refine Zp 11 ?_
 refine Zc (fun hc2=>?_) fun hc2=>?_
 ·
  have e:addC ⟨X,fl,ak,ft⟩ a=(⟨X,fl,true,5⟩,false):=addC_3 h0 h1 (show X.length=6 by omega)
  refine Zp 0 ?_
  refine Zp 1 ?_
  refine AWp.ret ?_
  try simp only[thenQ,blkQ]
  apply endW_r [b3] [] [w] [] (by(try simp only[go_sem,if_true,zf1,zf2,fb3])<;>rfl)
  · exact ⟨bb,cc,fun h9=>by omega,rfl,by simp only[e,crO,mA_pos hz,mO_pos hz];first|rfl|(simp only[go_sem,if_true,zf1,zf2,fb3];done)|(simp only[go_sem,if_true,zf1,zf2,fb3];rfl)⟩
  · simp [LeA,LeD,e]
 have e:addC ⟨X,fl,ak,ft⟩ a=(⟨X++[a],fl,true,ft⟩,true):=addC_4 h0 h1 (show¬X.length=6 by omega)
 refine AWp.skip (blkQ_n (thenQ_n ?_))
 refine Zd true [0,1,2,3,4,5,6,7,8,9,10,11,12] ?_
 try simp only[go_sem,if_true,zf1,zf2,fb3]
 (repeat(with_reducible refine And.intro ZS ?_))
 refine DW.appM (b0:=bb) (c0:=cc) (rows:=dRows (acsD X)) rfl rfl (Eq.trans (b:= .arr bb 3 X.length cc) rfl (by rw[mA_pos hz,dRows_len,acsD_len])) (by rw[mO_pos hz]) (fun h=>absurd h (by omega)) rfl (show slI Tryz.prog 44=some (103,3,32) by simp only[go_sem]) rfl rfl (acs_full _) rfl (by first|decide|(simp;done)|omega) (by(try simp only[go_sem,dRows_len,acsD_len,List.length_cons,List.length_nil])<;>first|omega|(simp;omega)) (by(try simp only[go_sem,dRows_len,acsD_len,List.length_cons,List.length_nil])<;>first|omega|(simp;omega)) fun bm2 cm2 hcm2 fbm2=>?_
 try simp only[freshL] at fbm2
 try simp only[go_sem,if_true,zf1,zf2,fb3,fbm2]
 (repeat(with_reducible refine And.intro ZS ?_))
 refine Zm 0 ?_
 refine Zp 1 ?_
 refine AWp.ret ?_
 try simp only[thenQ,blkQ]
 apply endW_r [b3] [] [w] [] (by(try simp only[go_sem,if_true,zf1,zf2,fb3,fbm2])<;>rfl)
 · exact ⟨bm2,cm2,fun h9=>by omega,rfl,by simp only[e,crO,mA_pos hcm2,mO_pos hcm2];(simp[go_sem,if_true,zf1,zf2,fb3,fbm2])<;>simp[dRows,acsD,acD]⟩
 · simp [LeA,LeD,e]
end
section
def isBl (c:UInt8):Bool:=decide ((c.toNat:Int)=32)||decide ((c.toNat:Int)=9)
def nmB (c:UInt8):Bool:=(decide (33≤(c.toNat:Int))&&decide ((c.toNat:Int)≤126))&&!decide ((c.toNat:Int)=58)
def nmL (s:Tx):Bool:=decide (0<(s.length:Int))&&s.all nmB
theorem nmL_f {s:Tx} {i:Nat} (hi:i<s.length) (hc:nmB (s.getD i 0)=false):nmL s=false:=by
 unfold nmL
 rw[Bool.and_eq_false_iff]
 refine .inr ?_
 rw[Bool.eq_false_iff]
 intro ha
 have:=List.all_eq_true.1 ha (s.getD i 0) (by simp[List.getD,hi])
 rw[hc] at this;cases this
theorem nmL_end {s:Tx} {i:Nat} (hi:s.length≤i) (ha:(s.drop i).all nmB=true→s.all nmB=true):nmL s=decide (0<(s.length:Int)):=by
 unfold nmL
 rw[ha (by rw[drop_none hi];rfl),Bool.and_true]
theorem nmL_step {s:Tx} {i:Nat} (hi:i<s.length) (hc:nmB (s.getD i 0)=true) (h:(s.drop i).all nmB=true→s.all nmB=true):(s.drop (i+1)).all nmB=true→s.all nmB=true:=fun h2=>h (by rw[drop_cons hi,List.all_cons,hc,h2];rfl)
def trimL:Tx→Tx
 |[]=>[]
 |c::r=>if isBl c=true then trimL r else c::r
def trimR:Tx→Tx
 |[]=>[]
 |c::r=>match trimR r with
  |[]=>if isBl c=true then [] else [c]
  |x::y=>c::x::y
def trimS (s:Tx):Tx:=trimL (trimR s)
theorem trimR_cons (c:UInt8) (r:Tx):trimR (c::r)=if trimR r=[] then(if isBl c=true then [] else [c]) else c::trimR r:=by
 rw[trimR]
 cases trimR r<;>simp
theorem trim_comm:∀s:Tx,trimR (trimL s)=trimS s
 |[]=>rfl
 | c::r=>by
  have ih:=trim_comm r
  unfold trimS at ih⊢
  by_cases hc:isBl c=true
  ·rw[trimL,if_pos hc,ih,trimR_cons]
   by_cases hr:trimR r=[]
   ·rw[if_pos hr,if_pos hc,hr]
   ·rw[if_neg hr,trimL,if_pos hc]
  ·rw[trimL,if_neg hc,trimR_cons]
   by_cases hr:trimR r=[]
   ·rw[if_pos hr,if_neg hc,trimL,if_neg hc]
   ·rw[if_neg hr,trimL,if_neg hc]
theorem trimL_drop {s:Tx} (h:0<s.length) (hc:isBl (s.getD 0 0)=true):trimL (s.drop 1)=trimL s:=by
 cases s with
 |nil=>simp at h
 |cons c r=>
  have hc:isBl c=true:=hc
  rw[show(c::r).drop 1=r from rfl,trimL,if_pos hc]
theorem trimL_stop {s:Tx} (h:0<s.length→isBl (s.getD 0 0)=false):trimL s=s:=by
 cases s with
 |nil=>rfl
 |cons c r=>
  have hc:isBl c=false:=h (by simp)
  rw[trimL,if_neg (by simp[hc])]
theorem trimR_snoc:∀(s:Tx) (c:UInt8),trimR (s++[c])=if isBl c=true then trimR s else s++[c]
 |[],c=>by simp[trimR]
 |x::s,c=>by
  rw[List.cons_append,trimR_cons,trimR_snoc s c]
  by_cases hc:isBl c=true
  ·rw[if_pos hc,if_pos hc,trimR_cons]
  ·rw[if_neg hc,if_neg hc,if_neg (by simp)]
theorem snoc_get {s:Tx} (h:0<s.length):s=s.take (s.length-1)++[s.getD (s.length-1) 0]:=by
 have h1:s.take (s.length-1+1)=s.take (s.length-1)++[s.getD (s.length-1) 0]:=by
  rw[List.take_add_one];simp[List.getD,List.getElem?_eq_getElem (show s.length-1<s.length by omega)]
 rw[show s.length-1+1=s.length by omega,List.take_length] at h1
 exact h1
theorem trimR_take {s:Tx} (h:0<s.length) (hc:isBl (s.getD (s.length-1) 0)=true):trimR (s.take (s.length-1))=trimR s:=by
 have h1:trimR s=trimR (s.take (s.length-1)++[s.getD (s.length-1) 0]):=congrArg trimR (snoc_get h)
 rw[h1,trimR_snoc,if_pos hc]
theorem trimR_stop {s:Tx} (h:0<s.length→isBl (s.getD (s.length-1) 0)=false):trimR s=s:=by
 rcases Nat.eq_zero_or_pos s.length with h0|h0
 ·rw[List.eq_nil_of_length_eq_zero h0];rfl
 ·have h1:trimR s=trimR (s.take (s.length-1)++[s.getD (s.length-1) 0]):=congrArg trimR (snoc_get h0)
  rw[h1,trimR_snoc,if_neg (by rw[h h0];exact Bool.false_ne_true),←snoc_get h0]
theorem trimL_len:∀s:Tx,(trimL s).length≤s.length
 |[]=>Nat.le_refl _
 |c::r=>by
  rw[trimL]
  have:=trimL_len r
  split
  ·simp;omega
  ·simp
theorem trimR_len:∀s:Tx,(trimR s).length≤s.length
 |[]=>Nat.le_refl _
 |c::r=>by
  rw[trimR_cons]
  have:=trimR_len r
  split
  ·split<;>simp
  ·simp;omega
theorem trimS_len (s:Tx):(trimS s).length≤s.length:=Nat.le_trans (trimL_len _) (trimR_len s)
def elI (s:Tx) (i:Nat):Int:=if Lib.index (s.drop i) [13,10]<0 then -1 else Lib.index (s.drop i) [13,10]+i
def coI (s:Tx) (i:Nat):Int:=if Lib.index (s.drop i) [58]<0 then -1 else Lib.index (s.drop i) [58]+i
theorem u8eq {c:UInt8} {n:Nat} (h:n<256):(UInt8.ofNat n=c)↔((c.toNat:Int)=n):=by
 constructor
 ·rintro rfl;rw[UInt8.toNat_ofNat'];omega
 ·intro e
  apply UInt8.toNat_inj.1
  rw[UInt8.toNat_ofNat'];omega
theorem pre13 {a c:UInt8} {r:Tx} :List.isPrefixOf [13,10] (a::c::r)=true↔((a.toNat:Int)=13∧(c.toNat:Int)=10):=by
 simp only[List.isPrefixOf,Bool.and_true,Bool.and_eq_true,beq_iff_eq]
 have h1:((13:UInt8)=a)↔((a.toNat:Int)=13):=u8eq (n:=13) (by decide)
 have h2:((10:UInt8)=c)↔((c.toNat:Int)=10):=u8eq (n:=10) (by decide)
 rw[h1,h2]
theorem pre58 {a:UInt8} {r:Tx} :List.isPrefixOf [58] (a::r)=true↔((a.toNat:Int)=58):=by
 simp only[List.isPrefixOf,Bool.and_true,beq_iff_eq]
 exact u8eq (n:=58) (by decide)
theorem index_cons (a:UInt8) (r sub:Tx):Lib.index (a::r) sub=if sub.isPrefixOf (a::r)=true then 0 else if Lib.index r sub<0 then -1 else Lib.index r sub+1:=by
 rw[Lib.index]
 by_cases h:sub.isPrefixOf (a::r)=true
 ·rw[if_pos h,if_pos h]
 ·rw[if_neg h,if_neg h]
  have:=Lib.index_ge r sub
  by_cases h2:Lib.index r sub= -1
  ·rw[h2];rfl
  ·rw[if_neg (by simpa using h2),if_neg (by omega)]
theorem two_drop {s:Tx} {i:Nat} (h:i+1<s.length):s.drop i=s.getD i 0::s.getD (i+1) 0::s.drop (i+2):=by
 rw[drop_cons (by omega),drop_cons (j:=i+1) h]
theorem el_hit {s:Tx} {i:Nat} (h:i+1<s.length) (h1:((s.getD i 0).toNat:Int)=13) (h2:((s.getD (i+1) 0).toNat:Int)=10):elI s i=i:=by
 unfold elI
 rw[two_drop h,index_cons,if_pos (pre13.2 ⟨h1,h2⟩)]
 simp
theorem el_step {s:Tx} {i:Nat} (h:i+1<s.length) (hn:¬(((s.getD i 0).toNat:Int)=13∧((s.getD (i+1) 0).toNat:Int)=10)):elI s (i+1)=elI s i:=by
 unfold elI
 rw[two_drop h,index_cons,if_neg (fun e=>hn (pre13.1 e)),←drop_cons (j:=i+1) h]
 have:=Lib.index_ge (s.drop (i+1)) [13,10]
 split<;>split<;>omega
theorem el_end {s:Tx} {i:Nat} (h:s.length≤i+1):elI s i= -1:=by
 unfold elI
 have:Lib.index (s.drop i) [13,10]<0:=by
  rcases Nat.lt_or_ge i s.length with h2|h2
  ·rw[drop_cons h2,drop_none (j:=i+1) (by omega),index_cons]
   simp[List.isPrefixOf,Lib.index]
  ·rw[drop_none h2];simp[Lib.index]
 rw[if_pos this]
theorem co_hit {s:Tx} {i:Nat} (h:i<s.length) (h1:((s.getD i 0).toNat:Int)=58):coI s i=i:=by
 unfold coI
 rw[drop_cons h,index_cons,if_pos (pre58.2 h1)]
 simp
theorem co_step {s:Tx} {i:Nat} (h:i<s.length) (hn:¬((s.getD i 0).toNat:Int)=58):coI s (i+1)=coI s i:=by
 unfold coI
 rw[drop_cons h,index_cons,if_neg (fun e=>hn (pre58.1 e))]
 have:=Lib.index_ge (s.drop (i+1)) [58]
 split<;>split<;>omega
theorem co_end {s:Tx} {i:Nat} (h:s.length≤i):coI s i= -1:=by
 unfold coI
 rw[drop_none h];simp[Lib.index]
attribute [local go_sem] icast in
theorem fname_c (T:Tbl) (s:Tx) (hb0:s.length≤9223372036854775807):PC Tryz.prog T 124 [.d (.str s)] (.d (.bool (nmL s))):=by
 refine⟨Tryz.call124,PCall.enterS Tryz.func124 rfl Tryz.ntmps124 rfl fun hb=>?_⟩
 simp only[go_sem,Tryz.results124]
 refine Zp 1 ?_
 refine Zs (Zp 13 ?_)
 refine AWp.block (Zy ?_)
 refine Zl 3 4 (fun n lc hc=> ∃(i:Nat),n=s.length-i∧EqS lc [(6,.d (.int .i64 i))]∧EqS hc (⟨[],[]⟩)∧(i≤s.length)∧((s.drop i).all nmB=true→s.all nmB=true)) ?_ ?_
 · refine ⟨_,0,rfl,ZE,ZE,?_,?_⟩
   all_goals(first|omega|(simp;done))
 rintro _ _ _ ⟨i,rfl,⟨rfl⟩,⟨rfl⟩,h1,h2⟩
 refine Zy ?_
 refine Zp 15 ?_
 refine Zs (Zc (fun hc0=>?_) fun hc0=>?_)
 ·
  have hlt:i<s.length:=by omega
  refine Zk ?_
  refine Zs (AWp.block (Zp 15 ?_))
  refine Zp 524301 ?_
  refine Zc (fun hc1=>?_) fun hc1=>?_
  ·
   have hcc:nmB (s.getD i 0)=false:=by
     unfold nmB
     simp only[Bool.and_eq_false_iff,decide_eq_false_iff_not,Bool.not_eq_false',decide_eq_true_eq]
     omega
   refine Zp 2 ?_
   refine AWp.ret ?_
   try simp only[go_sem]
   rw[nmL_f hlt hcc]
  have hcc:nmB (s.getD i 0)=true:=by
    unfold nmB
    simp only[Bool.and_eq_true,decide_eq_true_eq,Bool.not_eq_true',decide_eq_false_iff_not]
    omega
  refine AWp.skip (blkQ_n (thenQ_n ?_))
  refine Zr (thenQ_n ?_)
  refine Zf 3 4 (.e ⟨_,ZM,i+1,rfl,ZE,ZE,?_,?_⟩)
  · omega
  · exact nmL_step hlt hcc h2
 refine AWp.exit (thenQ_e (thenQ_e (blkQ_e (thenQ_n ?_))))
 refine Zp 2 ?_
 refine AWp.ret ?_
 try simp only[go_sem]
 rw[nmL_end (by omega) h2]
attribute [local go_sem] icast in
theorem nameMay_c (T:Tbl) (s:Tx) (hb0:s.length≤9223372036854775807):PC Tryz.prog T 138 [.d (.str s)] (.d (.bool (nmL s))):=by
 refine⟨Tryz.call138,PCall.enterS Tryz.func138 rfl Tryz.ntmps138 rfl fun hb=>?_⟩
 simp only[go_sem,Tryz.results138]
 refine Zp 1 ?_
 refine Zs (Zp 9 ?_)
 refine Zc (fun hc0=>?_) fun hc0=>?_
 ·
  refine Zp 2 ?_
  refine AWp.ret ?_
  try simp only[go_sem]
  have h0:s=[]:=List.eq_nil_of_length_eq_zero (by omega)
  subst h0
  simp[LeA,LeD,nmL]
 have hp:0<s.length:=by omega
 refine Zk ?_
 refine Zs (Zp 3 ?_)
 refine AWp.block (Zy ?_)
 refine Zl 1 2 (fun n lc hc=> ∃(i:Nat),n=s.length-i∧EqS lc [(3,.d (.int .i64 i))]∧EqS hc (⟨[],[]⟩)∧(i≤s.length)∧((s.drop i).all nmB=true→s.all nmB=true)) ?_ ?_
 · refine ⟨_,0,rfl,ZE,ZE,?_,?_⟩
   all_goals(first|omega|(simp;done))
 rintro _ _ _ ⟨i,rfl,⟨rfl⟩,⟨rfl⟩,h1,h2⟩
 refine Zy ?_
 refine Zs (Zp 35 ?_)
 refine Zc (fun hc1=>?_) fun hc1=>?_
 ·
  have hlt:i<s.length:=by omega
  refine Zk ?_
  refine Zs (AWp.block (Zx ?_))
  try simp only[go_sem]
  (repeat(with_reducible refine And.intro ZS ?_))
  refine DW.pcr rfl rfl rfl rfl (In_c T _ _ _) rfl rfl ?_
  try simp only[go_sem]
  (repeat(with_reducible refine And.intro ZS ?_))
  refine Zm 16387 ?_
  refine Zc (fun hc2=>?_) fun hc2=>?_
  ·
   have hcc:nmB (s.getD i 0)=false:=by
     unfold nmB
     simp only[Bool.and_eq_false_iff,decide_eq_false_iff_not,Bool.not_eq_false',decide_eq_true_eq]
     omega
   refine Zp 2 ?_
   refine AWp.ret ?_
   try simp only[go_sem]
   rw[nmL_f hlt hcc]
  have hcc:nmB (s.getD i 0)=true:=by
    unfold nmB
    simp only[Bool.and_eq_true,decide_eq_true_eq,Bool.not_eq_true',decide_eq_false_iff_not]
    omega
  refine AWp.skip (blkQ_n (thenQ_n ?_))
  refine Zr (thenQ_n ?_)
  refine Zf 1 2 (.e ⟨_,ZM,i+1,rfl,ZE,ZE,?_,?_⟩)
  · omega
  · exact nmL_step hlt hcc h2
 refine AWp.exit (thenQ_e (thenQ_e (blkQ_e (thenQ_n ?_))))
 refine Zp 2 ?_
 refine AWp.ret ?_
 try simp only[go_sem]
 rw[nmL_end (by omega) h2];simp[LeA,LeD];omega
theorem lblank_c (T:Tbl) (c:UInt8):PC Tryz.prog T 136 [.d (.int .u8 (c.toNat:Int))] (.d (.bool (isBl c))):=by
 refine⟨Tryz.call136,PCall.enterS Tryz.func136 rfl Tryz.ntmps136 rfl fun hb=>?_⟩
 simp only[go_sem,Tryz.results136]
 refine Zp 1 ?_
 refine Zp 2 ?_
 refine AWp.ret ?_
 try simp only[go_sem]
 try simp[LeA,LeD,isBl]
theorem nlen1 {n:Nat} (h:0<n):((n:Nat):Int)-1=((n-1:Nat):Int):=by omega
theorem gt0T {n:Nat} (h:0<n):((0:Int)<(n:Int))=True:=by simp[h]
theorem gt0F {n:Nat} (h:n=0):((0:Int)<(n:Int))=False:=by simp[h]
theorem natT (n:Nat):((n:Nat):Int).toNat=n:=rfl
attribute [local go_sem] icast natT List.take_length decide_false Bool.false_eq_true true_and in
theorem trimmed_c (T:Tbl) (s:Tx) (hs:s.length≤2000000):PC Tryz.prog T 139 [.d (.str s)] (.d (.str (trimS s))):=by
 refine⟨Tryz.call139,PCall.enterS Tryz.func139 rfl Tryz.ntmps139 rfl fun hb=>?_⟩
 simp only[go_sem,Tryz.results139]
 refine Zp 1 ?_
 refine Zs (AWp.block (Zy ?_))
 refine Zl 0 1 (fun n lc hc=> ∃(q:Tx),n=q.length∧EqS lc [(0,.d (.str q))]∧EqS hc (⟨[],[]⟩)∧(trimL q=trimL s)∧(q.length≤s.length)) ?_ ?_
 · refine ⟨_,s,rfl,ZE,ZE,?_,?_⟩
   all_goals(first|rfl|omega)
 rintro _ _ _ ⟨q,rfl,⟨rfl⟩,⟨rfl⟩,h1,h2⟩
 refine Zy ?_
 refine Zs ?_
 rcases Nat.eq_zero_or_pos q.length with hz|hz
 ·
  have zf1:=gt0F hz
  refine Zx ?_
  try simp only[go_sem,zf1]
  (repeat(with_reducible refine And.intro ZS ?_))
  refine DW.pcgr rfl rfl rfl rfl rfl (fun hg=>lblank_c T _) (fun hg=>by(try simp only[go_sem,zf1])<;>first|exact hg|(exfalso;simp at hg;done)|(simpa using hg)|grind) rfl rfl ?_
  try simp only[go_sem,zf1]
  (repeat(with_reducible refine And.intro ZS ?_))
  refine Zm 257 ?_
  refine Zc (fun hc0=>?_) fun hc0=>?_
  ·
   exact absurd hc0 (by first|(simp;done)|omega|(simp[*];done))
  have hq:trimL s=q:=by rw[←h1];exact trimL_stop (fun hp=>by first|omega|simpa using hc0)
  refine AWp.exit (thenQ_e (thenQ_e (blkQ_e (thenQ_n ?_))))
  refine Zs (AWp.block (Zm 1 ?_))
  refine Zy ?_
  refine Zl 0 1 (fun n lc hc=> ∃(q2:Tx),n=q2.length∧EqS lc [(0,.d (.str q2))]∧EqS hc (⟨[],[]⟩)∧(trimR q2=trimS s)∧(q2.length≤s.length)) ?_ ?_
  · refine ⟨_,q,rfl,ZE,ZE,?_,?_⟩
    all_goals(first|(rw[←trim_comm,hq];done)|omega)
  rintro _ _ _ ⟨q2,rfl,⟨rfl⟩,⟨rfl⟩,g1,g2⟩
  refine Zy ?_
  refine Zs ?_
  rcases Nat.eq_zero_or_pos q2.length with hz2|hz2
  ·
   have zf2:=gt0F hz2
   refine Zx ?_
   try simp only[go_sem,zf1,zf2,false_implies]
   (repeat(with_reducible refine And.intro ZS ?_))
   refine DW.pcgr rfl rfl rfl rfl rfl (fun hg=>lblank_c T _) (fun hg=>by(try simp only[go_sem,zf1,zf2,false_implies])<;>first|exact hg|(exfalso;simp at hg;done)|(simpa using hg)|grind) rfl rfl ?_
   try simp only[go_sem,zf1,zf2,false_implies]
   (repeat(with_reducible refine And.intro ZS ?_))
   refine Zm 2049 ?_
   refine Zc (fun hc1=>?_) fun hc1=>?_
   ·
    exact absurd hc1 (by first|(simp;done)|omega|(simp[*];done))
   have hq2:trimS s=q2:=by rw[←g1];exact trimR_stop (fun hp=>by first|omega|simpa using hc1)
   refine AWp.exit (thenQ_e (thenQ_e (blkQ_e (thenQ_n ?_))))
   refine Zp 2 ?_
   refine AWp.ret ?_
   try simp only[go_sem,zf1,zf2,false_implies]
   rw[hq2]
  have zf3:=gt0T hz2
  have zf4:=nlen1 hz2
  refine Zx ?_
  try simp only[go_sem,zf1,zf3,zf4]
  (repeat(with_reducible refine And.intro ZS ?_))
  refine DW.pcgr rfl rfl rfl rfl rfl (fun hg=>lblank_c T _) (fun hg=>by(try simp only[go_sem,zf1,zf3,zf4])<;>first|exact hg|(exfalso;simp at hg;done)|(simpa using hg)|grind) rfl rfl ?_
  try simp only[go_sem,zf1,zf3,zf4]
  (repeat(with_reducible refine And.intro ZS ?_))
  refine Zm 2049 ?_
  refine Zc (fun hc1=>?_) fun hc1=>?_
  ·
   refine Zk ?_
   refine AWp.block (Zr (blkQ_n (thenQ_n ?_)))
   refine Zf 0 1 (.e ⟨_,?_,(q2.take (q2.length-1)),rfl,ZE,ZE,?_,?_⟩)
   · first|omega|(simp;omega)|(simp;omega)
   · rw [trimR_take hz2 (by simpa using hc1)];exact g1
   · simp;omega
  have hq2:trimS s=q2:=by rw[←g1];exact trimR_stop (fun hp=>by first|omega|simpa using hc1)
  refine AWp.exit (thenQ_e (thenQ_e (blkQ_e (thenQ_n ?_))))
  refine Zp 2 ?_
  refine AWp.ret ?_
  try simp only[go_sem,zf1,zf3,zf4]
  rw[hq2]
 have zf5:=gt0T hz
 have zf6:=nlen1 hz
 refine Zx ?_
 try simp only[go_sem,zf5,zf6]
 (repeat(with_reducible refine And.intro ZS ?_))
 refine DW.pcgr rfl rfl rfl rfl rfl (fun hg=>lblank_c T _) (fun hg=>by(try simp only[go_sem,zf5,zf6])<;>first|exact hg|(exfalso;simp at hg;done)|(simpa using hg)|grind) rfl rfl ?_
 try simp only[go_sem,zf5,zf6]
 (repeat(with_reducible refine And.intro ZS ?_))
 refine Zm 257 ?_
 refine Zc (fun hc0=>?_) fun hc0=>?_
 ·
  refine Zk ?_
  refine AWp.block (Zr (blkQ_n (thenQ_n ?_)))
  refine Zf 0 1 (.e ⟨_,?_,(q.drop 1),rfl,?_,ZE,?_,?_⟩)
  · first|omega|(simp;omega)|(simp;omega)
  · (try simp only[go_sem,zf5,zf6])<;>first|exact⟨rfl⟩|(constructor;simp;done)
  · rw [trimL_drop hz (by simpa using hc0)];exact h1
  · simp;omega
 have hq:trimL s=q:=by rw[←h1];exact trimL_stop (fun hp=>by first|omega|simpa using hc0)
 refine AWp.exit (thenQ_e (thenQ_e (blkQ_e (thenQ_n ?_))))
 refine Zs (AWp.block (Zm 1 ?_))
 refine Zy ?_
 refine Zl 0 1 (fun n lc hc=> ∃(q2:Tx),n=q2.length∧EqS lc [(0,.d (.str q2))]∧EqS hc (⟨[],[]⟩)∧(trimR q2=trimS s)∧(q2.length≤s.length)) ?_ ?_
 · refine ⟨_,q,rfl,ZE,ZE,?_,?_⟩
   all_goals(first|(rw[←trim_comm,hq];done)|omega)
 rintro _ _ _ ⟨q2,rfl,⟨rfl⟩,⟨rfl⟩,g1,g2⟩
 refine Zy ?_
 refine Zs ?_
 rcases Nat.eq_zero_or_pos q2.length with hz2|hz2
 ·
  have zf7:=gt0F hz2
  refine Zx ?_
  try simp only[go_sem,zf5,zf6,zf7,false_implies]
  (repeat(with_reducible refine And.intro ZS ?_))
  refine DW.pcgr rfl rfl rfl rfl rfl (fun hg=>lblank_c T _) (fun hg=>by(try simp only[go_sem,zf5,zf6,zf7,false_implies])<;>first|exact hg|(exfalso;simp at hg;done)|(simpa using hg)|grind) rfl rfl ?_
  try simp only[go_sem,zf5,zf6,zf7,false_implies]
  (repeat(with_reducible refine And.intro ZS ?_))
  refine Zm 2049 ?_
  refine Zc (fun hc1=>?_) fun hc1=>?_
  ·
   exact absurd hc1 (by first|(simp;done)|omega|(simp[*];done))
  have hq2:trimS s=q2:=by rw[←g1];exact trimR_stop (fun hp=>by first|omega|simpa using hc1)
  refine AWp.exit (thenQ_e (thenQ_e (blkQ_e (thenQ_n ?_))))
  refine Zp 2 ?_
  refine AWp.ret ?_
  try simp only[go_sem,zf5,zf6,zf7,false_implies]
  rw[hq2]
 have zf8:=gt0T hz2
 have zf9:=nlen1 hz2
 refine Zx ?_
 try simp only[go_sem,zf5,zf6,zf8,zf9]
 (repeat(with_reducible refine And.intro ZS ?_))
 refine DW.pcgr rfl rfl rfl rfl rfl (fun hg=>lblank_c T _) (fun hg=>by(try simp only[go_sem,zf5,zf6,zf8,zf9])<;>first|exact hg|(exfalso;simp at hg;done)|(simpa using hg)|grind) rfl rfl ?_
 try simp only[go_sem,zf5,zf6,zf8,zf9]
 (repeat(with_reducible refine And.intro ZS ?_))
 refine Zm 2049 ?_
 refine Zc (fun hc1=>?_) fun hc1=>?_
 ·
  refine Zk ?_
  refine AWp.block (Zr (blkQ_n (thenQ_n ?_)))
  refine Zf 0 1 (.e ⟨_,?_,(q2.take (q2.length-1)),rfl,ZE,ZE,?_,?_⟩)
  · first|omega|(simp;omega)|(simp;omega)
  · rw [trimR_take hz2 (by simpa using hc1)];exact g1
  · simp;omega
 have hq2:trimS s=q2:=by rw[←g1];exact trimR_stop (fun hp=>by first|omega|simpa using hc1)
 refine AWp.exit (thenQ_e (thenQ_e (blkQ_e (thenQ_n ?_))))
 refine Zp 2 ?_
 refine AWp.ret ?_
 try simp only[go_sem,zf5,zf6,zf8,zf9]
 rw[hq2]
attribute [local go_sem] icast in
theorem lineEnd_c (T:Tbl) (s:Tx) (f:Nat) (hs:s.length≤2000000) (hf:f≤2000000):PC Tryz.prog T 135 [.d (.str s),.d (.int .i64 (f:Nat))] (.d (.int .i64 (elI s f))):=by
 refine⟨Tryz.call135,PCall.enterS Tryz.func135 rfl Tryz.ntmps135 rfl fun hb=>?_⟩
 simp only[go_sem,Tryz.results135]
 refine Zp 3 ?_
 refine Zs (Zp 5 ?_)
 refine AWp.block (Zy ?_)
 refine Zl 1 2 (fun n lc hc=> ∃(i:Nat),n=s.length-i∧EqS lc [(5,.d (.int .i64 i))]∧EqS hc (⟨[],[]⟩)∧(elI s i=elI s f)∧(i≤s.length+f)) ?_ ?_
 · refine ⟨_,f,rfl,ZE,ZE,?_,?_⟩
   all_goals(first|rfl|omega)
 rintro _ _ _ ⟨i,rfl,⟨rfl⟩,⟨rfl⟩,h1,h2⟩
 refine Zy ?_
 refine Zs (Zp 67 ?_)
 refine Zc (fun hc0=>?_) fun hc0=>?_
 ·
  have hlt:i+1<s.length:=by omega
  refine Zk ?_
  refine Zs (AWp.block (Zp 8195 ?_))
  refine Zc (fun hc1=>?_) fun hc1=>?_
  ·
   refine Zp 2 ?_
   refine AWp.ret ?_
   try simp only[go_sem]
   rw[←h1,el_hit hlt hc1.1 hc1.2]
  refine AWp.skip (blkQ_n (thenQ_n ?_))
  refine Zr (thenQ_n ?_)
  refine Zf 1 2 (.e ⟨_,ZM,i+1,rfl,ZE,ZE,?_,?_⟩)
  · rw [el_step (by omega) (by omega)];exact h1
  · omega
 refine AWp.exit (thenQ_e (thenQ_e (blkQ_e (thenQ_n ?_))))
 refine Zp 2 ?_
 refine AWp.ret ?_
 try simp only[go_sem]
 rw[←h1,el_end (by omega)]
attribute [local go_sem] icast in
theorem colonAt_c (T:Tbl) (s:Tx) (hs:s.length≤2000000):PC Tryz.prog T 137 [.d (.str s)] (.d (.int .i64 (coI s 0))):=by
 refine⟨Tryz.call137,PCall.enterS Tryz.func137 rfl Tryz.ntmps137 rfl fun hb=>?_⟩
 simp only[go_sem,Tryz.results137]
 refine Zp 1 ?_
 refine Zs (Zp 3 ?_)
 refine AWp.block (Zy ?_)
 refine Zl 1 2 (fun n lc hc=> ∃(i:Nat),n=s.length-i∧EqS lc [(3,.d (.int .i64 i))]∧EqS hc (⟨[],[]⟩)∧(coI s i=coI s 0)∧(i≤s.length)) ?_ ?_
 · refine ⟨_,0,rfl,ZE,ZE,?_,?_⟩
   all_goals(first|rfl|omega)
 rintro _ _ _ ⟨i,rfl,⟨rfl⟩,⟨rfl⟩,h1,h2⟩
 refine Zy ?_
 refine Zs (Zp 35 ?_)
 refine Zc (fun hc0=>?_) fun hc0=>?_
 ·
  have hlt:i<s.length:=by omega
  refine Zk ?_
  refine Zs (AWp.block (Zp 67 ?_))
  refine Zc (fun hc1=>?_) fun hc1=>?_
  ·
   refine Zp 2 ?_
   refine AWp.ret ?_
   try simp only[go_sem]
   rw[←h1,co_hit hlt hc1]
  refine AWp.skip (blkQ_n (thenQ_n ?_))
  refine Zr (thenQ_n ?_)
  refine Zf 1 2 (.e ⟨_,ZM,i+1,rfl,ZE,ZE,?_,?_⟩)
  · rw [co_step hlt hc1];exact h1
  · omega
 refine AWp.exit (thenQ_e (thenQ_e (blkQ_e (thenQ_n ?_))))
 refine Zp 2 ?_
 refine AWp.ret ?_
 try simp only[go_sem]
 rw[←h1,co_end (by omega)]
open Go.RowKit
theorem Cut_p (T:Tbl) (hL:LibT T) (s sep:Tx) (h1:s.length≤1048576):PC Tryz.prog T 122 [.d (.str s),.d (.str sep)] (.tup [.d (.str (Lib.cut s sep).1),.d (.str (Lib.cut s sep).2.1),.d (.bool (Lib.cut s sep).2.2)]):=PC.old Tryz.call122 fun F w vs hF hT R=>by
 obtain⟨v,u,rfl,hv,hu⟩:=slr2 R
 obtain⟨t,rfl,e1,_⟩:=hv.str_inv
 obtain⟨t2,rfl,e2,_⟩:=hu.str_inv
 obtain⟨_,m,hm⟩:=hL.lib0 hF hT
 subst e1 e2
 have hsz:t.size≤1048576:=by rw[←size_data];exact h1
 refine(Tryz.strings_Cut t t2 m w (by omega) hm).mono ?_
 rintro e w' ⟨rfl,k,rfl⟩
 have hl1:(Lib.cut t.data.toList t2.data.toList).1.length≤maxLen:=by
  unfold Lib.cut;split
  ·simp only[List.length_take];rw[size_data];unfold maxLen;omega
  ·rw[size_data];unfold maxLen;omega
 have hl2:(Lib.cut t.data.toList t2.data.toList).2.1.length≤maxLen:=by
  unfold Lib.cut;split
  ·simp only[List.length_drop];rw[size_data];unfold maxLen;omega
  ·simp
 refine⟨_,rfl,below_drewN (Below.refl _ _) k,?_⟩
 refine VR.tup [.d (.str (Lib.cut t.data.toList t2.data.toList).1),.d (.str (Lib.cut t.data.toList t2.data.toList).2.1),.d (.bool (Lib.cut t.data.toList t2.data.toList).2.2)] [_,_,_] rfl fun i a v ha hv=>?_
 match i,ha,hv with
 |0,ha,hv=>simp at ha hv;subst ha hv;exact .d (VD.bstr _ hl1)
 |1,ha,hv=>simp at ha hv;subst ha hv;exact .d (VD.bstr _ hl2)
 |2,ha,hv=>simp at ha hv;subst ha hv;exact .d (.bool _)
 |i+3,ha,hv=>simp at ha
theorem Cut_no (T:Tbl) (hL:LibT T) (s sep:Tx) (h1:s.length≤1048576) (h:Lib.index s sep<0):PC Tryz.prog T 122 [.d (.str s),.d (.str sep)] (.tup [.d (.str s),.d (.str []),.d (.bool false)]):=by
 have:=Cut_p T hL s sep h1
 rwa [show Lib.cut s sep=(s,[],false) from if_neg (by omega)] at this
theorem Cut_yes (T:Tbl) (hL:LibT T) (s sep:Tx) (h1:s.length≤1048576) (e:Nat) (h:Lib.index s sep=e):PC Tryz.prog T 122 [.d (.str s),.d (.str sep)] (.tup [.d (.str (s.take e)),.d (.str (s.drop (e+sep.length))),.d (.bool true)]):=by
 have:=Cut_p T hL s sep h1
 rwa [show Lib.cut s sep=(s.take e,s.drop (e+sep.length),true) from by unfold Lib.cut;rw[h,if_pos (by omega)];rfl] at this
end
section
def memB (s:Tx) (i:Nat):Bool:=s.any fun c=>c.toNat==i
def ascH (s:Tx):AV:= .d (.bool (memB s 0))
def ascT (s:Tx):List AV:=(List.range 255).map fun i=> .d (.bool (memB s (i+1)))
theorem asc_row (s:Tx):ascH s::ascT s=(List.range 256).map fun i=>AV.d (.bool (memB s i)):=by
 rw[show(256:Nat)=255+1 from rfl,List.range_succ_eq_map]
 simp[ascH,ascT]
@[go_sem] theorem ascT_len (s:Tx):(ascT s).length=255:=by simp[ascT]
theorem u8le (c:UInt8):(c.toNat+1≤256)=True:=by have:=c.toNat_lt;simp;omega
theorem asc_get (s:Tx) (c:UInt8):((ascH s::ascT s).drop c.toNat).take 1=[.d (.bool (memB s c.toNat))]:=by
 have hc:=c.toNat_lt
 rw[asc_row,←List.map_drop,←List.map_take,List.drop_eq_getElem_cons (by simp;omega)]
 simp
theorem asc_set (s:Tx) (c:UInt8):(ascH s::ascT s).take c.toNat++([AV.d (.bool true)]++(ascH s::ascT s).drop (c.toNat+1))=ascH (s++[c])::ascT (s++[c]):=by
 have hc:=c.toNat_lt
 rw[asc_row,asc_row]
 apply List.ext_getElem
 ·simp;omega
 ·intro i h1 h2
  have hi:i<256:=by simpa using h2
  rw[List.getElem_map,List.getElem_range]
  rcases Nat.lt_trichotomy i c.toNat with h|h|h
  ·rw[List.getElem_append_left (by simp;omega)]
   simp[memB]
   omega
  ·subst h
   rw[List.getElem_append_right (by simp;omega)]
   have e0:c.toNat-min c.toNat 256=0:=by omega
   simp[memB,e0]
  ·rw[List.getElem_append_right (by simp;omega)]
   rw[List.getElem_append_right (by simp;omega)]
   simp[memB]
   rw[show c.toNat+1+(i-min c.toNat 256-1)=i by omega]
   simp[memB]
   omega
theorem asc_set2 (s:Tx) (c:UInt8):(ascH s::ascT s).take c.toNat++(AV.d (.bool true)::(ascT s).drop c.toNat)=ascH (s++[c])::ascT (s++[c]):=asc_set s c
theorem tk_get {a:Tx} {k:Nat} (h:k<a.length):a.take (k+1)=a.take k++[a.getD k 0]:=by
 rw[List.take_add_one];simp[List.getD,List.getElem?_eq_getElem h]
theorem asc_leH (s:Tx):LeA false (ascH s) (ascH s):=by simp[ascH,LeA,LeD]
theorem asc_leT (s:Tx):LeL false (ascT s) (ascT s):=LeL.self (by simp[ascT])
theorem asc_drop (s:Tx):(ascH s::ascT s).drop 256=[]:=by rw[List.drop_eq_nil_of_le (by simp[ascT_len])]
theorem asc_all (s:Tx):(ascH s::ascT s).take 256=ascH s::ascT s:=by rw[List.take_of_length_le (by simp[ascT_len])]
theorem asc_zero:zI Tryz.prog 269=some (ascH []::ascT []):=by kernel_rfl
theorem memBl (c:UInt8):memB [32,9] c.toNat=isBl c:=by
 unfold memB isBl
 rw[Bool.eq_iff_iff]
 simp
 omega
attribute [local go_sem] icast u8le asc_get natT Nat.mul_one Nat.zero_add in
theorem ascHas_c (T:Tbl) (s:Tx) (c:UInt8) (b:Nat) (F:List (Nat×Ob)) (L:List Nat):AC Tryz.prog T 255 [.ptr b 256 0 0,.d (.int .u8 (c.toNat:Int))] (⟨(b,⟨256,1,[ascH s::ascT s]⟩)::F,L⟩) (fun r h=>r= .ret (.d (.bool (memB s c.toNat)))∧h=⟨(b,⟨256,1,[ascH s::ascT s]⟩)::F,L⟩):=by
 refine⟨Tryz.call255,ACalls.enterS Tryz.func255 rfl Tryz.ntmps255 rfl fun hb=>?_⟩
 have hc:=c.toNat_lt
 simp only[go_sem,Tryz.results255]
 refine Zp 3 ?_
 refine Zp 4 ?_
 refine AWp.ret ?_
 try simp only[thenQ,blkQ]
 apply endW_r [] [] [] [] (by(try simp only[go_sem])<;>rfl)
 · exact ⟨rfl,rfl⟩
 · simp [LeA,LeD]
attribute [local go_sem] icast asc_zero u8le asc_set2 asc_all asc_drop natT Nat.mul_one Nat.zero_add in
theorem ascMake_c (T:Tbl) (s:Tx) (hs:s.length≤1000) (ha:∀c∈s,c.toNat<128):PC Tryz.prog T 209 [.d (.str s)] (.tup [.agg (ascH s::ascT s),.d (.bool true)]):=by
 refine⟨Tryz.call209,PCall.enterS Tryz.func209 rfl Tryz.ntmps209 rfl fun hb=>?_⟩
 simp only[go_sem,Tryz.results209]
 refine Zx ?_
 try simp only[go_sem]
 (repeat(with_reducible refine And.intro ZS ?_))
 intro b2
 first|intro fb2|have fb2:=True.intro
 try simp only[freshL] at fb2
 try simp only[go_sem,fb2]
 (repeat(with_reducible refine And.intro ZS ?_))
 refine Zs (Zp 11 ?_)
 refine AWp.block (Zy ?_)
 refine Zl 3 4 (fun n lc hc=> ∃(i:Nat),n=s.length-i∧EqS lc [(4,.d (.int .i64 i))]∧EqS hc (⟨[(b2,⟨256,1,[ascH (s.take i)::ascT (s.take i)]⟩)],[]⟩)∧(i≤s.length)) ?_ ?_
 · refine ⟨_,0,rfl,ZE,?_,ZI⟩
   · (try simp only[go_sem,fb2])<;>first|exact⟨rfl⟩|(constructor;simp;done)
 rintro _ _ _ ⟨i,rfl,⟨rfl⟩,⟨rfl⟩,h1⟩
 refine Zy ?_
 refine Zs (Zp 71 ?_)
 refine Zc (fun hc0=>?_) fun hc0=>?_
 ·
  have hlt:i<s.length:=by omega
  have hc:=ha _ (List.getElem_mem hlt)
  have hc2:(s.getD i 0).toNat<128:=by simpa[List.getD,hlt] using hc
  refine Zk ?_
  refine Zs (AWp.block (Zp 15 ?_))
  refine Zs (Zp 47 ?_)
  refine Zc (fun hc1=>?_) fun hc1=>?_
  ·
   exfalso
   omega
  refine Zk ?_
  refine Zr (blkQ_n (thenQ_n ?_))
  refine Zm 7 ?_
  refine Zr (thenQ_n ?_)
  refine Ze 3 4 [] [] [b2] [] (.e ⟨_,ZM,i+1,rfl,ZE,?_,ZN⟩)
  · (try simp only[go_sem,fb2])<;>first|exact⟨rfl⟩|(constructor;rw[tk_get hlt])
 have hk:i=s.length:=by omega
 subst hk
 rw[List.take_length]
 refine AWp.exit (thenQ_e (thenQ_e (blkQ_e (thenQ_n ?_))))
 refine Zp 6 ?_
 refine AWp.ret ?_
 try simp only[go_sem,fb2]
 first|(simp[LeA,LeL,LeD,asc_leH,asc_leT,ascT_len];done)|(simp[LeA,LeL,LeD,asc_leH,ascT_len];rw[List.take_of_length_le (by rw[ascT_len];decide)];exact asc_leT s)
attribute [local go_sem] icast memBl natT List.take_length in
theorem trimLA_c (T:Tbl) (s:Tx) (b:Nat) (F:List (Nat×Ob)) (L:List Nat) (hs:s.length≤2000000):AC Tryz.prog T 210 [.d (.str s),.ptr b 256 0 0] (⟨(b,⟨256,1,[ascH [32,9]::ascT [32,9]]⟩)::F,L⟩) (fun r h=>r= .ret (.d (.str (trimL s)))∧h=⟨(b,⟨256,1,[ascH [32,9]::ascT [32,9]]⟩)::F,L⟩):=by
 refine⟨Tryz.call210,ACalls.enterS Tryz.func210 rfl Tryz.ntmps210 rfl fun hb=>?_⟩
 simp only[go_sem,Tryz.results210]
 refine Zp 3 ?_
 refine Zs (AWp.block (Zy ?_))
 refine Zl 2 1 (fun n lc hc=> ∃(q:Tx),n=q.length∧EqS lc [(0,.d (.str q))]∧EqS hc (⟨(b,⟨256,1,[ascH [32,9]::ascT [32,9]]⟩)::F,L⟩)∧(trimL q=trimL s)∧(q.length≤s.length)) ?_ ?_
 · refine ⟨_,s,rfl,ZE,ZE,?_,?_⟩
   all_goals(first|rfl|omega)
 rintro _ _ _ ⟨q,rfl,⟨rfl⟩,⟨rfl⟩,h1,h2⟩
 refine Zy ?_
 refine Zs (Zp 19 ?_)
 refine Zc (fun hc0=>?_) fun hc0=>?_
 ·
  have hp:0<q.length:=by omega
  have zf1:=nlen1 hp
  refine Zk ?_
  refine AWp.block (Zs (Zx ?_))
  try simp only[go_sem,zf1]
  (repeat(with_reducible refine And.intro ZS ?_))
  refine DW.acp [b] [] rfl rfl rfl rfl (by(try simp only[go_sem,zf1])<;>rfl) rfl (ascHas_c T [32,9] _ b _ _) ?_
  rintro _ _ ⟨rfl,rfl⟩
  try simp only[go_sem,zf1]
  (repeat(with_reducible refine And.intro ZS ?_))
  refine Zm 131 ?_
  refine Zc (fun hc1=>?_) fun hc1=>?_
  ·
   have hq:trimL s=q:=by rw[←h1];exact trimL_stop (fun _=>by simpa using hc1)
   refine AWp.exit (thenQ_e (blkQ_d (by decide) (thenQ_e (blkQ_e (thenQ_n ?_)))))
   refine Zp 4 ?_
   refine AWp.ret ?_
   try simp only[thenQ,blkQ]
   apply endW_r [] [] [] [] (by(try simp only[go_sem,zf1])<;>rfl)
   · exact ⟨rfl,rfl⟩
   · rw [hq];simp[LeA,LeD]
  refine Zk ?_
  refine Zr (blkQ_n (thenQ_n ?_))
  refine Ze 2 1 [] [] [b] [] (.e ⟨_,?_,(q.drop 1),rfl,?_,ZE,?_,?_⟩)
  · first|omega|(simp;omega)|(simp;omega)
  · (try simp only[go_sem,zf1])<;>first|exact⟨rfl⟩|(constructor;simp;done)
  · rw [trimL_drop hp hc1];exact h1
  · simp;omega
 have hq:trimL s=q:=by rw[←h1];exact trimL_stop (fun hp=>by omega)
 refine AWp.exit (thenQ_e (thenQ_e (blkQ_e (thenQ_n ?_))))
 refine Zp 4 ?_
 refine AWp.ret ?_
 try simp only[thenQ,blkQ]
 apply endW_r [] [] [] [] (by(try simp only[go_sem])<;>rfl)
 · exact ⟨rfl,rfl⟩
 · rw [hq];simp[LeA,LeD]
attribute [local go_sem] icast memBl natT List.take_length in
theorem trimRA_c (T:Tbl) (s:Tx) (b:Nat) (F:List (Nat×Ob)) (L:List Nat) (hs:s.length≤2000000):AC Tryz.prog T 211 [.d (.str s),.ptr b 256 0 0] (⟨(b,⟨256,1,[ascH [32,9]::ascT [32,9]]⟩)::F,L⟩) (fun r h=>r= .ret (.d (.str (trimR s)))∧h=⟨(b,⟨256,1,[ascH [32,9]::ascT [32,9]]⟩)::F,L⟩):=by
 refine⟨Tryz.call211,ACalls.enterS Tryz.func211 rfl Tryz.ntmps211 rfl fun hb=>?_⟩
 simp only[go_sem,Tryz.results211]
 refine Zp 3 ?_
 refine Zs (AWp.block (Zy ?_))
 refine Zl 2 1 (fun n lc hc=> ∃(q:Tx),n=q.length∧EqS lc [(0,.d (.str q))]∧EqS hc (⟨(b,⟨256,1,[ascH [32,9]::ascT [32,9]]⟩)::F,L⟩)∧(trimR q=trimR s)∧(q.length≤s.length)) ?_ ?_
 · refine ⟨_,s,rfl,ZE,ZE,?_,?_⟩
   all_goals(first|rfl|omega)
 rintro _ _ _ ⟨q,rfl,⟨rfl⟩,⟨rfl⟩,h1,h2⟩
 refine Zy ?_
 refine Zs (Zp 19 ?_)
 refine Zc (fun hc0=>?_) fun hc0=>?_
 ·
  have hp:0<q.length:=by omega
  have zf1:=nlen1 hp
  refine Zk ?_
  refine AWp.block (Zs (Zx ?_))
  try simp only[go_sem,zf1]
  (repeat(with_reducible refine And.intro ZS ?_))
  refine DW.acp [b] [] rfl rfl rfl rfl (by(try simp only[go_sem,zf1])<;>rfl) rfl (ascHas_c T [32,9] _ b _ _) ?_
  rintro _ _ ⟨rfl,rfl⟩
  try simp only[go_sem,zf1]
  (repeat(with_reducible refine And.intro ZS ?_))
  refine Zm 1027 ?_
  refine Zc (fun hc1=>?_) fun hc1=>?_
  ·
   have hq:trimR s=q:=by rw[←h1];exact trimR_stop (fun _=>by simpa using hc1)
   refine AWp.exit (thenQ_e (blkQ_d (by decide) (thenQ_e (blkQ_e (thenQ_n ?_)))))
   refine Zp 4 ?_
   refine AWp.ret ?_
   try simp only[thenQ,blkQ]
   apply endW_r [] [] [] [] (by(try simp only[go_sem,zf1])<;>rfl)
   · exact ⟨rfl,rfl⟩
   · rw [hq];simp[LeA,LeD]
  refine Zk ?_
  refine Zr (blkQ_n (thenQ_n ?_))
  refine Ze 2 1 [] [] [b] [] (.e ⟨_,?_,(q.take (q.length-1)),rfl,?_,ZE,?_,?_⟩)
  · first|omega|(simp;omega)|(simp;omega)
  · (try simp only[go_sem,zf1])<;>first|exact⟨rfl⟩|(constructor;simp;done)
  · rw [trimR_take hp hc1];exact h1
  · simp;omega
 have hq:trimR s=q:=by rw[←h1];exact trimR_stop (fun hp=>by omega)
 refine AWp.exit (thenQ_e (thenQ_e (blkQ_e (thenQ_n ?_))))
 refine Zp 4 ?_
 refine AWp.ret ?_
 try simp only[thenQ,blkQ]
 apply endW_r [] [] [] [] (by(try simp only[go_sem])<;>rfl)
 · exact ⟨rfl,rfl⟩
 · rw [hq];simp[LeA,LeD]
attribute [local go_sem] icast asc_zero asc_drop Nat.zero_add in
theorem Trim_c (T:Tbl) (s:Tx) (hs:s.length≤2000000):PC Tryz.prog T 123 [.d (.str s),.d (.str ([32,9]))] (.d (.str (trimS s))):=by
 refine⟨Tryz.call123,PCall.enterS Tryz.func123 rfl Tryz.ntmps123 rfl fun hb=>?_⟩
 simp only[go_sem,Tryz.results123]
 refine Zp 3 ?_
 refine Zs (Zp 131 ?_)
 refine Zc (fun hc0=>?_) fun hc0=>?_
 ·
  refine Zp 4 ?_
  refine AWp.ret ?_
  try simp only[go_sem]
  have h0:s=[]:=by simpa using hc0
  subst h0
  simp[LeA,LeD,trimS,trimR,trimL]
 refine Zk ?_
 refine Zs (Zp 1027 ?_)
 refine Zc (fun hc1=>?_) fun hc1=>?_
 ·
  exact absurd hc1 (by simp)
 refine Zk ?_
 refine Zs (Zx ?_)
 try simp only[go_sem]
 (repeat(with_reducible refine And.intro ZS ?_))
 refine DW.pcr rfl rfl rfl rfl (ascMake_c T [32,9] (by decide) (by decide)) rfl rfl ?_
 try simp only[go_sem]
 (repeat(with_reducible refine And.intro ZS ?_))
 intro b5
 first|intro fb5|have fb5:=True.intro
 try simp only[freshL] at fb5
 try simp only[go_sem,fb5]
 (repeat(with_reducible refine And.intro ZS ?_))
 refine Zm 15 ?_
 refine Zp 23 ?_
 refine Zc (fun hc2=>?_) fun hc2=>?_
 ·
  refine Zx ?_
  try simp only[go_sem,fb5]
  (repeat(with_reducible refine And.intro ZS ?_))
  refine DW.acp [b5] [] rfl rfl rfl rfl (by(try simp only[go_sem,fb5])<;>rfl) rfl (trimRA_c T s b5 _ _ hs) ?_
  rintro _ _ ⟨rfl,rfl⟩
  try simp only[go_sem,fb5]
  (repeat(with_reducible refine And.intro ZS ?_))
  refine DW.acp [b5] [] rfl rfl rfl rfl (by(try simp only[go_sem,fb5])<;>rfl) rfl (trimLA_c T (trimR s) b5 _ _ (Nat.le_trans (trimR_len s) hs)) ?_
  rintro _ _ ⟨rfl,rfl⟩
  try simp only[go_sem,fb5]
  (repeat(with_reducible refine And.intro ZS ?_))
  refine Zm 4 ?_
  refine AWp.ret ?_
  try simp only[go_sem,fb5]
  simp[LeA,LeD,trimS]
 exact absurd hc2 (by simp)
end
section
def fldD (f:Tx×Tx):List D:=[.str f.1,.str f.2]
def fldsD (l:List (Tx×Tx)):List (List D):=l.map fldD
@[go_sem] theorem fldsD_len (l:List (Tx×Tx)):(fldsD l).length=l.length:=by simp[fldsD]
theorem fldsD_get (l:List (Tx×Tx)) (i:Nat) (d:List D) (h:i<l.length):(fldsD l).getD i d=fldD (l[i]'h):=map_getD fldD _ _ _ h
theorem frow_get {l:List (Tx×Tx)} {i:Nat} (h:i<l.length):(dRows (fldsD l))[i]?=some [.d (.str (l.getD i ([],[])).1),.d (.str (l.getD i ([],[])).2)]:=by
 simp[dRows,fldsD,List.getD,h,fldD]
theorem frow_set (l:List (Tx×Tx)) (i:Nat) (x y:Tx):(dRows (fldsD l)).set i [.d (.str x),.d (.str y)]=dRows (fldsD (l.set i (x,y))):=by
 simp[dRows,fldsD,List.map_set,fldD]
theorem frow_full (l:List (Tx×Tx)):∀r∈dRows (fldsD l),r.length=2:=fun r hr=>by
 simp only[dRows,fldsD,List.mem_map] at hr
 obtain⟨_,⟨f,_,rfl⟩,rfl⟩:=hr
 rfl
theorem fld_full (l:List (Tx×Tx)):∀r∈fldsD l,r.length=2:=fun r hr=>by
 simp only[fldsD,List.mem_map] at hr
 obtain⟨f,_,rfl⟩:=hr
 rfl
def glue (acc:List (Tx×Tx)) (t:Tx):List (Tx×Tx):=acc.set (acc.length-1) ((acc.getD (acc.length-1) ([],[])).1,(acc.getD (acc.length-1) ([],[])).2++t)
@[go_sem] theorem glue_len (acc:List (Tx×Tx)) (t:Tx):(glue acc t).length=acc.length:=by simp[glue]
def msgF:Nat→List (Tx×Tx)→Nat→Tx→List (Tx×Tx)×Tx×Nat×Int
 |0,_,ln,_=>([],[],ln,4)
 |n+1,acc,ln,s=>
  if Lib.index s [13,10]<0 then([],[],ln,4)
  else if s.take (Lib.index s [13,10]).toNat=[] then(acc,s.drop ((Lib.index s [13,10]).toNat+2),0,0)
  else if isBl ((s.take (Lib.index s [13,10]).toNat).getD 0 0)=true∧0<acc.length then msgF n (glue acc (s.take (Lib.index s [13,10]).toNat)) (ln+1) (s.drop ((Lib.index s [13,10]).toNat+2))
  else if Lib.index (s.take (Lib.index s [13,10]).toNat) [58]<0 then([],[],ln,3)
  else if nmL ((s.take (Lib.index s [13,10]).toNat).take (Lib.index (s.take (Lib.index s [13,10]).toNat) [58]).toNat)=false then([],[],ln,3)
  else if acc.length=30 then([],[],ln,5)
  else msgF n (acc++[((s.take (Lib.index s [13,10]).toNat).take (Lib.index (s.take (Lib.index s [13,10]).toNat) [58]).toNat,(s.take (Lib.index s [13,10]).toNat).drop ((Lib.index (s.take (Lib.index s [13,10]).toNat) [58]).toNat+1))]) (ln+1) (s.drop ((Lib.index s [13,10]).toNat+2))
section
variable {n ln e c:Nat} {acc:List (Tx×Tx)} {s:Tx}
theorem ms_short (h:Lib.index s [13,10]<0):msgF (n+1) acc ln s=([],[],ln,4):=if_pos h
theorem ms_end (h:Lib.index s [13,10]=(e:Nat)) (ht:s.take e=[]):msgF (n+1) acc ln s=(acc,s.drop (e+2),0,0):=by
 rw[msgF,h,if_neg (by omega),if_pos (by simpa using ht)];rfl
theorem ms_glue (h:Lib.index s [13,10]=(e:Nat)) (ht:¬s.take e=[]) (hb:isBl ((s.take e).getD 0 0)=true) (ha:0<acc.length):msgF (n+1) acc ln s=msgF n (glue acc (s.take e)) (ln+1) (s.drop (e+2)):=by
 rw[msgF,h,if_neg (by omega),if_neg (by simpa using ht),if_pos (by simpa using⟨hb,ha⟩)];rfl
theorem ms_form1 (h:Lib.index s [13,10]=(e:Nat)) (ht:¬s.take e=[]) (hb:¬(isBl ((s.take e).getD 0 0)=true∧0<acc.length)) (hc:Lib.index (s.take e) [58]<0):msgF (n+1) acc ln s=([],[],ln,3):=by
 rw[msgF,h,if_neg (by omega),if_neg (by simpa using ht),if_neg (by simpa using hb),if_pos (by simpa using hc)]
theorem ms_form2 (h:Lib.index s [13,10]=(e:Nat)) (ht:¬s.take e=[]) (hb:¬(isBl ((s.take e).getD 0 0)=true∧0<acc.length)) (hc:Lib.index (s.take e) [58]=(c:Nat)) (hn:nmL ((s.take e).take c)=false):msgF (n+1) acc ln s=([],[],ln,3):=by
 rw[msgF,h,if_neg (by omega),if_neg (by simpa using ht),if_neg (by simpa using hb),Int.toNat_natCast,hc,if_neg (by omega),if_pos (by simpa using hn)]
theorem ms_full (h:Lib.index s [13,10]=(e:Nat)) (ht:¬s.take e=[]) (hb:¬(isBl ((s.take e).getD 0 0)=true∧0<acc.length)) (hc:Lib.index (s.take e) [58]=(c:Nat)) (hn:nmL ((s.take e).take c)=true) (ha:acc.length=30):msgF (n+1) acc ln s=([],[],ln,5):=by
 rw[msgF,h,if_neg (by omega),if_neg (by simpa using ht),if_neg (by simpa using hb),Int.toNat_natCast,hc,if_neg (by omega),Int.toNat_natCast,if_neg (by simp[hn]),if_pos ha]
theorem ms_add (h:Lib.index s [13,10]=(e:Nat)) (ht:¬s.take e=[]) (hb:¬(isBl ((s.take e).getD 0 0)=true∧0<acc.length)) (hc:Lib.index (s.take e) [58]=(c:Nat)) (hn:nmL ((s.take e).take c)=true) (ha:¬acc.length=30):msgF (n+1) acc ln s=msgF n (acc++[((s.take e).take c,(s.take e).drop (c+1))]) (ln+1) (s.drop (e+2)):=by
 rw[msgF,h,if_neg (by omega),if_neg (by simpa using ht),if_neg (by simpa using hb),Int.toNat_natCast,hc,if_neg (by omega),Int.toNat_natCast,if_neg (by simp[hn]),if_neg ha]
end
def trF (f:Tx×Tx):Tx×Tx:=(f.1,trimS f.2)
def msgV (s:Tx):List (Tx×Tx)×Tx×Nat×Int:=if 2000<s.length then([],[],0,1) else((msgF (s.length+1) [] 0 s).1.map trF,(msgF (s.length+1) [] 0 s).2)
theorem msgV_big {s:Tx} (h:2000<s.length):msgV s=([],[],0,1):=if_pos h
theorem msgV_of {s q:Tx} {m ln:Nat} {acc:List (Tx×Tx)} {x:List (Tx×Tx)×Tx×Nat×Int} (h:¬2000<s.length) (h2:msgF m acc ln q=msgF (s.length+1) [] 0 s) (h3:msgF m acc ln q=x):msgV s=(x.1.map trF,x.2):=by
 unfold msgV;rw[if_neg h,←h2,h3]
def FOk (acc:List (Tx×Tx)) (n:Nat):Prop:=∀f∈acc,f.1.length≤2000∧f.2.length+n≤2000
theorem FOk.nil (n:Nat):FOk [] n:=fun f hf=>by cases hf
theorem FOk.le {acc:List (Tx×Tx)} {n m:Nat} (h:FOk acc n) (hm:m≤n):FOk acc m:=fun f hf=>⟨(h f hf).1,by have:=(h f hf).2;omega⟩
theorem FOk.get {acc:List (Tx×Tx)} {n i:Nat} (h:FOk acc n) (hi:i<acc.length):(acc.getD i ([],[])).1.length≤2000∧(acc.getD i ([],[])).2.length+n≤2000:=by
 have:=h (acc[i]'hi) (List.getElem_mem hi)
 simpa[List.getD,hi] using this
theorem FOk.glue {acc:List (Tx×Tx)} {n m:Nat} {t:Tx} (h:FOk acc n) (ha:0<acc.length) (hm:m+t.length≤n):FOk (glue acc t) m:=fun f hf=>by
 rcases List.mem_or_eq_of_mem_set hf with hf|rfl
 ·exact h.le (by omega) f hf
 ·obtain⟨h1,h2⟩:=h.get (i:=acc.length-1) (by omega)
  exact⟨h1,by simp only[List.length_append];omega⟩
theorem FOk.add {acc:List (Tx×Tx)} {n m:Nat} {x y:Tx} (h:FOk acc n) (hm:m≤n) (hx:x.length≤2000) (hy:y.length+m≤2000):FOk (acc++[(x,y)]) m:=fun f hf=>by
 rcases List.mem_append.1 hf with hf|hf
 ·exact h.le hm f hf
 ·rw[List.mem_singleton.1 hf];exact⟨hx,hy⟩
def mixT (acc:List (Tx×Tx)) (k:Nat):List (Tx×Tx):=(acc.take k).map trF++acc.drop k
theorem mixT_0 (acc:List (Tx×Tx)):mixT acc 0=acc:=by simp[mixT]
@[go_sem] theorem mixT_len (acc:List (Tx×Tx)) (k:Nat):(mixT acc k).length=acc.length:=by simp[mixT];omega
theorem mixT_all {acc:List (Tx×Tx)} {k:Nat} (h:acc.length≤k):mixT acc k=acc.map trF:=by
 unfold mixT;rw[List.take_of_length_le h,List.drop_eq_nil_of_le h,List.append_nil]
theorem mixT_get {acc:List (Tx×Tx)} {k:Nat} (h:k<acc.length):(mixT acc k).getD k ([],[])=acc.getD k ([],[]):=by
 unfold mixT
 have hl:((acc.take k).map trF).length=k:=by simp;omega
 rw[List.getD_eq_getElem?_getD,List.getElem?_append_right (by omega),hl,Nat.sub_self,List.drop_eq_getElem_cons h]
 simp[List.getD,h]
theorem mixT_set {acc:List (Tx×Tx)} {k:Nat} (h:k<acc.length):(mixT acc k).set k ((acc.getD k ([],[])).1,trimS (acc.getD k ([],[])).2)=mixT acc (k+1):=by
 unfold mixT
 have hl:((acc.take k).map trF).length=k:=by simp;omega
 rw[List.set_append_right _ _ (by omega),hl,Nat.sub_self,List.drop_eq_getElem_cons h,List.set_cons_zero,List.take_add_one,List.getElem?_eq_getElem h,List.map_append,List.append_assoc]
 congr 1
 simp[List.getD,h,trF]
theorem lix {s sub:Tx} {e:Nat} (h:Lib.index s sub=(e:Nat)):e+sub.length≤s.length:=by
 have:=Lib.index_room s sub (by omega)
 omega
end
section
theorem tk_len (q:Tx) (e:Nat) (h:e≤q.length):(q.take e).length=e:=by simp;omega
theorem isBl_or {c:UInt8} :isBl c=true↔((c.toNat:Int)=32∨(c.toNat:Int)=9):=by simp[isBl]
theorem mrow_set (l:List (Tx×Tx)) (t:Tx):l.set (l.length-1) ((l.getD (l.length-1) ([],[])).1,(l.getD (l.length-1) ([],[])).2++t)=glue l t:=rfl
attribute [local go_sem] icast natT fldsD_len Nat.zero_add List.take_length in
theorem Parse_c (T:Tbl) (hL:LibT T) (s:Tx):PC Tryz.prog T 69 [.d (.str s)] (.tup [.agg [.d (.slc 2 (fldsD (msgV s).1)),.d (.str (msgV s).2.1)],.d (.int .i64 ((msgV s).2.2.1:Nat)),.d (.int .i64 (msgV s).2.2.2)]):=by
 refine⟨Tryz.call69,PCall.enterS Tryz.func69 rfl Tryz.ntmps69 rfl fun hb=>?_⟩
 simp only[go_sem,Tryz.results69]
 refine Zx ?_
 try simp only[go_sem]
 (repeat(with_reducible refine And.intro ZS ?_))
 intro b2
 first|intro fb2|have fb2:=True.intro
 try simp only[freshL] at fb2
 try simp only[go_sem,fb2]
 (repeat(with_reducible refine And.intro ZS ?_))
 refine Zs (Zp 67 ?_)
 refine Zc (fun hc0=>?_) fun hc0=>?_
 ·
  refine Zp 14 ?_
  refine AWp.ret ?_
  try simp only[go_sem,fb2]
  rw[msgV_big (by omega)];simp[LeA,LeL,LeD,fldsD]
 have hle0:¬2000<s.length:=by omega
 refine Zk ?_
 refine Zx ?_
 try simp only[go_sem,fb2]
 (repeat(with_reducible refine And.intro ZS ?_))
 intro b5
 first|intro fb5|have fb5:=True.intro
 try simp only[freshL] at fb5
 try simp only[go_sem,fb2,fb5]
 (repeat(with_reducible refine And.intro ZS ?_))
 refine Zp 15 ?_
 refine AWp.block (Zy ?_)
 refine AWp.wkH [(b5,⟨2,1,[[.full 2 [],.d (.str [])]]⟩),(b2,⟨2,1,[[.nils,.d (.str [])]]⟩)] (by simp[LeObs,LeRows,LeA,LeL,LeD,AV.one]) ?_
 refine Zl 6 9 (fun n lc hc=> ∃(m ln bf cf:Nat) (acc:List (Tx×Tx)) (q:Tx),n=q.length∧EqS lc [(0,.d (.str q)),(6,.d (.int .i64 (ln:Nat)))]∧EqS hc (⟨mO bf 2 cf (dRows (fldsD acc)) [(b5,⟨2,1,[[mA bf 2 cf acc.length,.d (.str [])]]⟩),(b2,⟨2,1,[[.nils,.d (.str [])]]⟩)],[]⟩)∧(q.length≤m)∧(msgF (m+1) acc ln q=msgF (s.length+1) [] 0 s)∧(acc.length≤30)∧(ln+q.length≤2000)∧(FOk acc q.length)∧(cf=0→acc=[])∧(((bf==b5)=false∧(b5==bf)=false)∧(bf==b2)=false∧(b2==bf)=false)) ?_ ?_
 · refine ⟨_,s.length,0,(b5+b2+1),0,[],s,rfl,?_,?_,?_,?_,?_,?_,?_,?_,?_⟩
   · (try simp only[go_sem,fb2,fb5])<;>first|exact⟨rfl⟩|(constructor;rfl)
   · (try simp only[go_sem,fb2,fb5])<;>first|exact⟨rfl⟩|(constructor;simp[mO,mA,dRows,fldsD];done)
   all_goals(first|omega|rfl|exact FOk.nil _|(intro _;rfl)|(simp<;>omega))
 rintro _ _ _ ⟨m,ln,bf,cf,acc,q,rfl,⟨rfl⟩,⟨rfl⟩,h1,h2,h3,h4,h5,h6,h7⟩
 refine Zy ?_
 refine Zs (AWp.block ?_)
 rcases(show Lib.index q [13,10]<0∨0≤Lib.index q [13,10] by omega) with hx|hx
 rotate_left
 rcases Nat.eq_zero_or_pos cf with hz|hz
 rotate_right
 ·
  have zf1:=fun k c rows F=>getO_mO (k:=k) (c:=c) (rows:=rows) (F:=F) h7.2.1
  have zf2:=fun k c ob rows F=>setO_mO (k:=k) (c:=c) (ob:=ob) (rows:=rows) (F:=F) h7.2.1
  refine Z1 126 (Cut_no T hL q [13,10] (by omega) hx) ?_
  refine Zs (AWp.block (Zp 95 ?_))
  refine Zc (fun hc1=>?_) fun hc1=>?_
  ·
   refine Zp 7 ?_
   refine AWp.ret ?_
   try simp only[go_sem,fb2,fb5,zf1,zf2]
   rw[msgV_of hle0 h2 (ms_short hx)];simp[LeA,LeL,LeD,fldsD]
  exact absurd hc1 (by first|(simp;done)|omega|(simp[*];done))
 ·
  obtain⟨e,he⟩:=Int.eq_ofNat_of_zero_le hx
  have hle:=lix he
  simp only[List.length_cons,List.length_nil] at hle
  have htl:=tk_len q e (by omega)
  subst hz
  obtain rfl:acc=[]:=h6 rfl
  simp only[mA_nil,mO_nil]
  refine Z1 126 (Cut_yes T hL q [13,10] (by omega) e he) ?_
  refine Zs (AWp.block (Zp 95 ?_))
  refine Zc (fun hc1=>?_) fun hc1=>?_
  ·
   exact absurd hc1 (by first|(simp;done)|omega|(simp[*];done))
  refine Zp 95 ?_
  refine Zc (fun hc2=>?_) fun hc2=>?_
  ·
   refine Zp 3 ?_
   refine Zs (Zp 51 ?_)
   refine AWp.block (Zy ?_)
   refine Zl 7 8 (fun n lc hc=> ∃(k:Nat),n=0∧EqS lc [(68,.d (.int .i64 k))]∧EqS hc (⟨[(b5,⟨2,1,[[.full 2 [],.d (.str (q.drop (e+2)))]]⟩),(b2,⟨2,1,[[.nils,.d (.str [])]]⟩)],[]⟩)) ⟨_,0,rfl,ZE,ZE⟩ ?_
   rintro _ _ _ ⟨k,rfl,⟨rfl⟩,⟨rfl⟩⟩
   refine Zy ?_
   refine Zp 31 ?_
   refine Zs (Zc (fun hc3=>?_) fun hc3=>?_)
   ·
    exfalso
    simp at hc3
    omega
   refine AWp.exit (thenQ_e (thenQ_e (blkQ_e (thenQ_n ?_))))
   refine Zp 7 ?_
   refine AWp.ret ?_
   try simp only[go_sem,fb2,fb5]
   rw[msgV_of hle0 h2 (ms_end he hc2)];simp[LeA,LeL,LeD,fldsD]
  have htn:¬q.take e=[]:=by simpa using hc2
  have htp:0<(q.take e).length:=List.length_pos_iff.2 htn
  refine Zp 95 ?_
  refine Zc (fun hc4=>?_) fun hc4=>?_
  ·
   exfalso
   simp at hc4
  have hnb:¬(isBl ((q.take e).getD 0 0)=true∧0<([]:List (Tx×Tx)).length):=by simp
  rcases(show Lib.index (q.take e) [58]<0∨0≤Lib.index (q.take e) [58] by omega) with hy|hy
  ·
   refine Z1 247 (Cut_no T hL (q.take e) [58] (by omega) hy) ?_
   refine Zs (Zx ?_)
   try simp only[go_sem,fb2,fb5]
   (repeat(with_reducible refine And.intro ZS ?_))
   refine DW.pcgr rfl rfl rfl rfl rfl (fun hg=>fname_c T _ (by simp only[List.length_take];omega)) (fun hg=>by(try simp only[go_sem,fb2,fb5])<;>first|exact hg|(exfalso;simp at hg;done)|(simpa using hg)|grind) rfl rfl ?_
   try simp only[go_sem,fb2,fb5]
   (repeat(with_reducible refine And.intro ZS ?_))
   refine Zm 8255 ?_
   refine Zc (fun hc5=>?_) fun hc5=>?_
   ·
    refine Zp 7 ?_
    refine AWp.ret ?_
    try simp only[go_sem,fb2,fb5]
    rw[msgV_of hle0 h2 (ms_form1 he htn hnb hy)];simp[LeA,LeL,LeD,fldsD]
   exact absurd hc5 (by first|(simp;done)|omega|(simp[*];done))
  obtain⟨c,hc⟩:=Int.eq_ofNat_of_zero_le hy
  have hcl:=lix hc
  simp only[List.length_cons,List.length_nil] at hcl
  refine Z1 247 (Cut_yes T hL (q.take e) [58] (by omega) c hc) ?_
  refine Zs (Zx ?_)
  try simp only[go_sem,fb2,fb5]
  (repeat(with_reducible refine And.intro ZS ?_))
  refine DW.pcgr rfl rfl rfl rfl rfl (fun hg=>fname_c T _ (by simp only[List.length_take];omega)) (fun hg=>by(try simp only[go_sem,fb2,fb5])<;>first|exact hg|(exfalso;simp at hg;done)|(simpa using hg)|grind) rfl rfl ?_
  try simp only[go_sem,fb2,fb5]
  (repeat(with_reducible refine And.intro ZS ?_))
  refine Zm 8255 ?_
  refine Zc (fun hc5=>?_) fun hc5=>?_
  ·
   refine Zp 7 ?_
   refine AWp.ret ?_
   try simp only[go_sem,fb2,fb5]
   rw[msgV_of hle0 h2 (ms_form2 he htn hnb hc (by simpa using hc5))];simp[LeA,LeL,LeD,fldsD]
  have hnm:nmL ((q.take e).take c)=true:=by simpa using hc5
  refine Zk ?_
  refine Zs (Zp 1087 ?_)
  refine Zc (fun hc6=>?_) fun hc6=>?_
  ·
   exfalso
   simp at hc6
  refine Zk ?_
  refine Zq fun K_ k_=>?_
  try simp only[go_sem,fb2,fb5]
  (repeat(with_reducible refine And.intro ZS ?_))
  refine DW.appM (b0:=0) (c0:=0) (rows:=[]) rfl rfl rfl rfl (fun _=>rfl) rfl (show slI Tryz.prog 77=some (203,2,32) by simp only[go_sem]) rfl rfl (by simp) rfl (by first|decide|(simp;done)|omega) (by first|omega|(simp only[go_sem]<;>omega)|(simp only[go_sem,List.length_take,List.length_map,List.length_append,List.length_cons,List.length_nil]<;>omega)|(simp<;>omega)) (by first|omega|(simp only[go_sem]<;>omega)|(simp only[go_sem,List.length_take,List.length_map,List.length_append,List.length_cons,List.length_nil]<;>omega)|(simp<;>omega)) fun bm1 cm1 hcm1 fbm1=>?_
  try simp only[freshL] at fbm1
  try simp only[go_sem,fb2,fb5,fbm1]
  (repeat(with_reducible refine And.intro ZS ?_))
  refine k_ _ _ (blkQ_n (thenQ_n ?_))
  refine Zm 15 ?_
  refine Zr (blkQ_n (thenQ_n ?_))
  refine Zr (thenQ_n ?_)
  refine Zf 6 9 (.e ⟨_,?_,(m-1),(ln+1),bm1,cm1,([]++[((q.take e).take c,(q.take e).drop (c+1))]),(q.drop (e+2)),rfl,?_,?_,?_,?_,?_,?_,?_,?_,?_⟩)
  · first|omega|(simp;omega)|(rw[List.length_drop];omega)
  · (try simp only[go_sem,fb2,fb5,fbm1])<;>first|exact⟨rfl⟩|(constructor;simp;done)
  · (try simp only[go_sem,fb2,fb5,fbm1])<;>first|exact⟨rfl⟩|(constructor;rw[mO_pos hcm1,mA_pos hcm1];simp[dRows,fldsD,fldD];done)
  · rw [List.length_drop];omega
  · rw [show m-1+1=m by omega,←ms_add he htn hnb hc hnm (by first|omega|(simp;done))];exact h2
  · (simp<;>omega)
  · rw [List.length_drop];omega
  · exact h5.add (by rw[List.length_drop];omega) (by simp;omega) (by rw[List.length_drop,List.length_drop];omega)
  · intro hq;omega
  · simp_all [freshL];done
 obtain⟨e,he⟩:=Int.eq_ofNat_of_zero_le hx
 have hle:=lix he
 simp only[List.length_cons,List.length_nil] at hle
 have htl:=tk_len q e (by omega)
 simp only[mA_pos hz,mO_pos hz]
 refine Z1 126 (Cut_yes T hL q [13,10] (by omega) e he) ?_
 refine Zs (AWp.block (Zp 95 ?_))
 refine Zc (fun hc1=>?_) fun hc1=>?_
 ·
  exact absurd hc1 (by first|(simp;done)|omega|(simp[*];done))
 refine Zp 95 ?_
 refine Zc (fun hc2=>?_) fun hc2=>?_
 ·
  refine Zp 3 ?_
  refine Zs (Zp 51 ?_)
  refine AWp.block (Zy ?_)
  refine Zl 7 8 (fun n lc hc=> ∃(k:Nat),n=acc.length-k∧EqS lc [(68,.d (.int .i64 k))]∧EqS hc (⟨[(bf,⟨2,cf,dRows (fldsD (mixT acc k))⟩),(b5,⟨2,1,[[.arr bf 2 acc.length cf,.d (.str (q.drop (e+2)))]]⟩),(b2,⟨2,1,[[.nils,.d (.str [])]]⟩)],[]⟩)∧(k≤acc.length)) ?_ ?_
  · refine ⟨_,0,rfl,ZE,?_,?_⟩
    · (try simp only[go_sem,fb2,fb5,h7])<;>first|exact⟨rfl⟩|(constructor;rw[mixT_0])
    all_goals(omega)
  rintro _ _ _ ⟨k,rfl,⟨rfl⟩,⟨rfl⟩,g1⟩
  refine Zy ?_
  refine Zp 31 ?_
  refine Zs (Zc (fun hc3=>?_) fun hc3=>?_)
  ·
   have hlk:k<acc.length:=by omega
   have hlk2:k<(mixT acc k).length:=by rw[mixT_len];exact hlk
   have hfo:=(h5.get hlk).2
   have zf3:=frow_get hlk2
   have zf4:=mixT_get hlk
   refine Zk ?_
   refine Zs (AWp.block (Zp 31 ?_))
   refine Zt true [0,1,2,3,4,5,6,7,8,9,10,11,12] fun K_ k_=>?_
   try simp only[go_sem,fb2,fb5,h7,zf3,zf4]
   (repeat(with_reducible refine And.intro ZS ?_))
   refine DW.pcr rfl rfl rfl rfl (Trim_c T _ (by omega)) rfl rfl ?_
   try simp only[go_sem,fb2,fb5,h7,zf3,zf4]
   (repeat(with_reducible refine And.intro ZS ?_))
   refine k_ _ _ (blkQ_n (thenQ_n ?_))
   refine Zm 27 ?_
   refine Zr (thenQ_n ?_)
   refine Ze 7 8 [] [] [bf,b5,b2] [] (.e ⟨_,ZM,k+1,rfl,ZE,?_,ZN⟩)
   · (try simp only[go_sem,fb2,fb5,h7,zf3,zf4])<;>first|exact⟨rfl⟩|(constructor;rw[frow_set,mixT_set hlk])
  obtain rfl:k=acc.length:=by omega
  refine AWp.exit (thenQ_e (thenQ_e (blkQ_e (thenQ_n ?_))))
  rw[mixT_all (Nat.le_refl _)]
  refine AWp.ownMH (b:=bf) (b':=b5) (i:=0) (j:=0) (ob:=⟨2,1,[[.arr bf 2 acc.length cf,.d (.str (q.drop (e+2)))]]⟩) (r:=[.arr bf 2 acc.length cf,.d (.str (q.drop (e+2)))]) (by simp[getO]) rfl rfl (by simp[fldsD]) (by decide) (fld_full _) fun tq ftq=>?_
  refine Zy ?_
  refine Zp 7 ?_
  refine AWp.ret ?_
  try simp only[go_sem,fb2,fb5,h7]
  rw[msgV_of hle0 h2 (ms_end he hc2)];simp[LeA,LeL,LeD,fldsD]
 have htn:¬q.take e=[]:=by simpa using hc2
 have htp:0<(q.take e).length:=List.length_pos_iff.2 htn
 refine Zp 95 ?_
 refine Zc (fun hc4=>?_) fun hc4=>?_
 ·
  have hap:0<acc.length:=by omega
  have hbl:=isBl_or.2 hc4.1
  have hfo:=(h5.get (i:=acc.length-1) (by omega)).2
  have zf5:=nlen1 hap
  have zf6:=frow_get (show acc.length-1<acc.length by omega)
  refine Zr (blkQ_n (thenQ_n ?_))
  refine Zm 23 ?_
  refine Zr (blkQ_n (thenQ_n ?_))
  refine Zr (thenQ_n ?_)
  refine Zf 6 9 (.e ⟨_,?_,(m-1),(ln+1),bf,cf,(glue acc (q.take e)),(q.drop (e+2)),rfl,?_,?_,?_,?_,?_,?_,?_,?_,?_⟩)
  · first|omega|(simp;omega)|(rw[List.length_drop];omega)
  · (try simp only[go_sem,fb2,fb5,h7,zf5,zf6])<;>first|exact⟨rfl⟩|(constructor;simp;done)
  · (try simp only[go_sem,fb2,fb5,h7,zf5,zf6])<;>first|exact⟨rfl⟩|(constructor;rw[mO_pos hz,mA_pos hz,frow_set,mrow_set])
  · rw [List.length_drop];omega
  · rw [show m-1+1=m by omega,←ms_glue he htn hbl hap];exact h2
  · rw [glue_len];omega
  · rw [List.length_drop];omega
  · exact h5.glue hap (by rw[List.length_drop,htl];omega)
  · intro hq;omega
  · exact h7
 have hnb:¬(isBl ((q.take e).getD 0 0)=true∧0<acc.length):=fun hh=>by have:=isBl_or.1 hh.1;omega
 rcases(show Lib.index (q.take e) [58]<0∨0≤Lib.index (q.take e) [58] by omega) with hy|hy
 ·
  refine Z1 247 (Cut_no T hL (q.take e) [58] (by omega) hy) ?_
  refine Zs (Zx ?_)
  try simp only[go_sem,fb2,fb5,h7]
  (repeat(with_reducible refine And.intro ZS ?_))
  refine DW.pcgr rfl rfl rfl rfl rfl (fun hg=>fname_c T _ (by simp only[List.length_take];omega)) (fun hg=>by(try simp only[go_sem,fb2,fb5,h7])<;>first|exact hg|(exfalso;simp at hg;done)|(simpa using hg)|grind) rfl rfl ?_
  try simp only[go_sem,fb2,fb5,h7]
  (repeat(with_reducible refine And.intro ZS ?_))
  refine Zm 8255 ?_
  refine Zc (fun hc5=>?_) fun hc5=>?_
  ·
   refine Zp 7 ?_
   refine AWp.ret ?_
   try simp only[go_sem,fb2,fb5,h7]
   rw[msgV_of hle0 h2 (ms_form1 he htn hnb hy)];simp[LeA,LeL,LeD,fldsD]
  exact absurd hc5 (by first|(simp;done)|omega|(simp[*];done))
 obtain⟨c,hc⟩:=Int.eq_ofNat_of_zero_le hy
 have hcl:=lix hc
 simp only[List.length_cons,List.length_nil] at hcl
 refine Z1 247 (Cut_yes T hL (q.take e) [58] (by omega) c hc) ?_
 refine Zs (Zx ?_)
 try simp only[go_sem,fb2,fb5,h7]
 (repeat(with_reducible refine And.intro ZS ?_))
 refine DW.pcgr rfl rfl rfl rfl rfl (fun hg=>fname_c T _ (by simp only[List.length_take];omega)) (fun hg=>by(try simp only[go_sem,fb2,fb5,h7])<;>first|exact hg|(exfalso;simp at hg;done)|(simpa using hg)|grind) rfl rfl ?_
 try simp only[go_sem,fb2,fb5,h7]
 (repeat(with_reducible refine And.intro ZS ?_))
 refine Zm 8255 ?_
 refine Zc (fun hc5=>?_) fun hc5=>?_
 ·
  refine Zp 7 ?_
  refine AWp.ret ?_
  try simp only[go_sem,fb2,fb5,h7]
  rw[msgV_of hle0 h2 (ms_form2 he htn hnb hc (by simpa using hc5))];simp[LeA,LeL,LeD,fldsD]
 have hnm:nmL ((q.take e).take c)=true:=by simpa using hc5
 refine Zk ?_
 refine Zs (Zp 1087 ?_)
 refine Zc (fun hc6=>?_) fun hc6=>?_
 ·
  refine Zp 7 ?_
  refine AWp.ret ?_
  try simp only[go_sem,fb2,fb5,h7]
  rw[msgV_of hle0 h2 (ms_full he htn hnb hc hnm (by omega))];simp[LeA,LeL,LeD,fldsD]
 refine Zk ?_
 refine Zq fun K_ k_=>?_
 try simp only[go_sem,fb2,fb5,h7]
 (repeat(with_reducible refine And.intro ZS ?_))
 refine DW.appM (b0:=bf) (c0:=cf) (rows:=dRows (fldsD acc)) rfl rfl (Eq.trans (b:= .arr bf 2 acc.length cf) rfl (by rw[mA_pos hz,dRows_len,fldsD_len])) (by rw[mO_pos hz]) (fun h=>absurd h (by omega)) rfl (show slI Tryz.prog 77=some (203,2,32) by simp only[go_sem]) rfl rfl (frow_full acc) rfl (by first|decide|(simp;done)|omega) (by first|omega|(simp only[go_sem]<;>omega)|(simp only[go_sem,List.length_take,List.length_map,List.length_append,List.length_cons,List.length_nil]<;>omega)|(simp<;>omega)) (by first|omega|(simp only[go_sem]<;>omega)|(simp only[go_sem,List.length_take,List.length_map,List.length_append,List.length_cons,List.length_nil]<;>omega)|(simp<;>omega)) fun bm2 cm2 hcm2 fbm2=>?_
 try simp only[freshL] at fbm2
 try simp only[go_sem,fb2,fb5,h7,fbm2]
 (repeat(with_reducible refine And.intro ZS ?_))
 refine k_ _ _ (blkQ_n (thenQ_n ?_))
 refine Zm 15 ?_
 refine Zr (blkQ_n (thenQ_n ?_))
 refine Zr (thenQ_n ?_)
 refine Zf 6 9 (.e ⟨_,?_,(m-1),(ln+1),bm2,cm2,(acc++[((q.take e).take c,(q.take e).drop (c+1))]),(q.drop (e+2)),rfl,?_,?_,?_,?_,?_,?_,?_,?_,?_⟩)
 · first|omega|(simp;omega)|(rw[List.length_drop];omega)
 · (try simp only[go_sem,fb2,fb5,h7,fbm2])<;>first|exact⟨rfl⟩|(constructor;simp;done)
 · (try simp only[go_sem,fb2,fb5,h7,fbm2])<;>first|exact⟨rfl⟩|(constructor;rw[mO_pos hcm2,mA_pos hcm2];simp[dRows,fldsD,fldD];done)
 · rw [List.length_drop];omega
 · rw [show m-1+1=m by omega,←ms_add he htn hnb hc hnm (by first|omega|(simp;done))];exact h2
 · (simp<;>omega)
 · rw [List.length_drop];omega
 · exact h5.add (by rw[List.length_drop];omega) (by simp;omega) (by rw[List.length_drop,List.length_drop];omega)
 · intro hq;omega
 · simp_all [freshL];done
end
section
theorem el_no {s:Tx} {f:Nat} (h:Lib.index (s.drop f) [13,10]<0):elI s f= -1:=if_pos h
theorem el_yes {s:Tx} {f e:Nat} (h:Lib.index (s.drop f) [13,10]=(e:Nat)):elI s f=((f+e:Nat):Int):=by
 unfold elI;rw[h,if_neg (by omega)];omega
theorem lineEnd_no (T:Tbl) (s:Tx) (f:Nat) (hs:s.length≤2000000) (hf:f≤2000000) (h:Lib.index (s.drop f) [13,10]<0):PC Tryz.prog T 135 [.d (.str s),.d (.int .i64 (f:Nat))] (.d (.int .i64 (-1))):=by
 have:=lineEnd_c T s f hs hf
 rwa [el_no h] at this
theorem lineEnd_yes (T:Tbl) (s:Tx) (f:Nat) (hs:s.length≤2000000) (hf:f≤2000000) (e:Nat) (h:Lib.index (s.drop f) [13,10]=(e:Nat)):PC Tryz.prog T 135 [.d (.str s),.d (.int .i64 (f:Nat))] (.d (.int .i64 ((f+e:Nat):Int))):=by
 have:=lineEnd_c T s f hs hf
 rwa [el_yes h] at this
theorem co_drop0 (s:Tx):coI s 0=Lib.index s [58]:=by
 have:=Lib.index_ge s [58]
 unfold coI;rw[List.drop_zero];split<;>omega
theorem colonAt_x (T:Tbl) (s:Tx) (hs:s.length≤2000000) (x:Int) (h:Lib.index s [58]=x):PC Tryz.prog T 137 [.d (.str s)] (.d (.int .i64 x)):=by
 have:=colonAt_c T s hs
 rwa [co_drop0,h] at this
theorem fldsD_g2 {l:List (Tx×Tx)} {i:Nat} {d:List D} (h:i<l.length):(fldsD l).getD i d=[.str (l.getD i ([],[])).1,.str (l.getD i ([],[])).2]:=by
 rw[fldsD_get l i d h];simp[fldD,List.getD,h]
theorem fldsT_add {acc:List (Tx×Tx)} {k:Nat} (h:k<acc.length):fldsD ((acc.take k).map trF)++[[.str (acc.getD k ([],[])).1,.str (trimS (acc.getD k ([],[])).2)]]=fldsD ((acc.take (k+1)).map trF):=by
 rw[List.take_add_one,List.getElem?_eq_getElem h,List.map_append];simp[fldsD,fldD,trF,List.getD,h]
theorem sub_drop (s:Tx) (f e:Nat):(s.take (f+e)).drop f=(s.drop f).take e:=by rw[List.drop_take];congr 1;omega
attribute [local go_sem] icast natT fldsD_len Nat.zero_add List.take_length in
theorem MessageOf_c (T:Tbl) (s:Tx):PC Tryz.prog T 75 [.d (.str s)] (.tup [.agg [.d (.slc 2 (fldsD (msgV s).1)),.d (.str (msgV s).2.1)],.d (.int .i64 ((msgV s).2.2.1:Nat)),.d (.int .i64 (msgV s).2.2.2)]):=by
 refine⟨Tryz.call75,PCall.enterS Tryz.func75 rfl Tryz.ntmps75 rfl fun hb=>?_⟩
 simp only[go_sem,Tryz.results75]
 refine Zx ?_
 try simp only[go_sem]
 (repeat(with_reducible refine And.intro ZS ?_))
 intro b2
 first|intro fb2|have fb2:=True.intro
 try simp only[freshL] at fb2
 try simp only[go_sem,fb2]
 (repeat(with_reducible refine And.intro ZS ?_))
 refine Zs (Zp 67 ?_)
 refine Zc (fun hc0=>?_) fun hc0=>?_
 ·
  refine Zp 14 ?_
  refine AWp.ret ?_
  try simp only[go_sem,fb2]
  rw[msgV_big (by omega)];simp[LeA,LeL,LeD,fldsD]
 have hle0:¬2000<s.length:=by omega
 refine Zk ?_
 refine Zp 7 ?_
 refine Zp 15 ?_
 refine Zs (Zp 31 ?_)
 refine AWp.block (Zy ?_)
 refine AWp.wkS1 5 (.full 2 []) (by simp[go_sem]) rfl ?_
 refine Zy ?_
 refine Zl 3 28 (fun n lc hc=> ∃(m ln f bf cf:Nat) (acc:List (Tx×Tx)) (q:Tx),n=q.length∧EqS lc [(5,mA bf 2 cf acc.length),(6,.d (.int .i64 (f:Nat))),(7,.d (.int .i64 (ln:Nat)))]∧EqS hc (⟨mO bf 2 cf (dRows (fldsD acc)) [(b2,⟨2,1,[[.nils,.d (.str [])]]⟩)],[]⟩)∧(q.length≤m)∧(msgF (m+1) acc ln q=msgF (s.length+1) [] 0 s)∧(acc.length≤30)∧(ln+q.length≤2000)∧(FOk acc q.length)∧(cf=0→acc=[])∧((bf==b2)=false∧(b2==bf)=false)∧(s.drop f=q)∧(f≤s.length)) ?_ ?_
 · refine ⟨_,s.length,0,0,(b2+1),0,[],s,rfl,?_,?_,?_,?_,?_,?_,?_,?_,?_,?_,?_⟩
   · (try simp only[go_sem,fb2])<;>first|exact⟨rfl⟩|(constructor;rfl)
   · (try simp only[go_sem,fb2])<;>first|exact⟨rfl⟩|(constructor;simp[mO,mA,dRows,fldsD];done)
   all_goals(first|omega|rfl|exact FOk.nil _|(intro _;rfl)|(simp<;>omega))
 rintro _ _ _ ⟨m,ln,f,bf,cf,acc,q,rfl,⟨rfl⟩,⟨rfl⟩,h1,h2,h3,h4,h5,h6,h7,h8,h9⟩
 refine Zy ?_
 refine Zs (Zc (fun hc1=>?_) fun hc1=>?_)
 ·
  refine Zk ?_
  refine Zs (AWp.block ?_)
  rcases(show Lib.index q [13,10]<0∨0≤Lib.index q [13,10] by omega) with hx|hx
  rotate_left
  rcases Nat.eq_zero_or_pos cf with hz|hz
  rotate_right
  ·
   have zf1:=fun k c rows F=>getO_mO (k:=k) (c:=c) (rows:=rows) (F:=F) h7.1
   have zf2:=fun k c ob rows F=>setO_mO (k:=k) (c:=c) (ob:=ob) (rows:=rows) (F:=F) h7.1
   refine Z1 63 (lineEnd_no T s f (by omega) (by omega) (by rw[h8];exact hx)) ?_
   refine Zs (Zp 191 ?_)
   refine Zc (fun hc2=>?_) fun hc2=>?_
   ·
    refine Zp 14 ?_
    refine AWp.ret ?_
    try simp only[go_sem,fb2,zf1,zf2]
    rw[msgV_of hle0 h2 (ms_short hx)];simp[LeA,LeL,LeD,fldsD]
   exact absurd hc2 (by first|(simp;done)|omega|(simp[*];done))
  ·
   obtain⟨e,he⟩:=Int.eq_ofNat_of_zero_le hx
   have hle:=lix he
   simp only[List.length_cons,List.length_nil] at hle
   have htl:=tk_len q e (by omega)
   have hfl:q.length=s.length-f:=by rw[←h8,List.length_drop]
   subst hz
   obtain rfl:acc=[]:=h6 rfl
   simp only[mA_nil,mO_nil]
   refine Z1 63 (lineEnd_yes T s f (by omega) (by omega) e (by rw[h8];exact he)) ?_
   refine Zs (Zp 191 ?_)
   refine Zc (fun hc2=>?_) fun hc2=>?_
   ·
    exfalso
    try simp only[decide_eq_true_eq] at hc2
    omega
   refine Zk ?_
   refine Zx ?_
   try simp only[go_sem,fb2]
   (repeat(with_reducible refine And.intro ZS ?_))
   try simp only[sub_drop,h8]
   refine Zm 119 ?_
   refine Zp 95 ?_
   refine Zs (Zp 191 ?_)
   refine Zc (fun hc3=>?_) fun hc3=>?_
   ·
    refine AWp.exit (thenQ_e (blkQ_d (by decide) (thenQ_e (thenQ_e (blkQ_e (thenQ_n ?_))))))
    refine Zy ?_
    refine AWp.wkS1 5 (.d (.slc 2 (fldsD []))) (by simp[go_sem,fldsD]) rfl ?_
    refine Zy ?_
    refine Zx ?_
    try simp only[go_sem,fb2]
    (repeat(with_reducible refine And.intro ZS ?_))
    intro b11
    first|intro fb11|have fb11:=True.intro
    try simp only[freshL] at fb11
    try simp only[go_sem,fb2,fb11]
    (repeat(with_reducible refine And.intro ZS ?_))
    refine Zm 70 ?_
    refine Zs (Zp 15 ?_)
    refine Zy ?_
    refine AWp.ownNilH b11 0 0 2 (by(try simp only[go_sem,fb2,fb11])<;>rfl) rfl rfl (by decide) fun t0 ft0=>?_
    try simp only[freshT] at ft0
    simp only[go_sem,fb2,fb11,ft0]
    refine AWp.block (Zl 7 8 (fun n lc hc=> ∃(k v:Nat),n=([]:List (Tx×Tx)).length-k∧EqS lc [(12,.d (.int .i64 (k:Nat)))]∧EqS hc (⟨[(b11,⟨2,1,[[.own v 2 (fldsD ((([]:List (Tx×Tx)).take k).map trF)),.d (.str (q.drop (e+2)))]]⟩),(b2,⟨2,1,[[.nils,.d (.str [])]]⟩)],[v]⟩)∧(k≤([]:List (Tx×Tx)).length)) ?_ ?_)
    · refine ⟨_,0,t0,rfl,ZE,?_,?_⟩
      · (try simp only[go_sem,fb2,fb11,ft0])<;>first|exact⟨rfl⟩|(constructor;simp[fldsD];rw[←h8,List.drop_drop];congr 1<;>omega)
      all_goals(omega)
    rintro _ _ _ ⟨k,v,rfl,⟨rfl⟩,⟨rfl⟩,g1⟩
    refine Zy ?_
    refine Zs (Zp 143 ?_)
    refine Zc (fun hc7=>?_) fun hc7=>?_
    ·
     exfalso
     simp at hc7
     omega
    refine AWp.exit (thenQ_e (thenQ_e (blkQ_e (thenQ_n ?_))))
    refine Zp 7 ?_
    refine AWp.ret ?_
    try simp only[go_sem,fb2,fb11,ft0]
    have hk0:k=0:=by simpa using g1
    subst hk0
    rw[msgV_of hle0 h2 (ms_end he hc3)];exact⟨⟨rfl,rfl⟩,rfl,rfl⟩
   have htn:¬q.take e=[]:=by simpa using hc3
   have htp:0<(q.take e).length:=List.length_pos_iff.2 htn
   refine Zk ?_
   refine Zs (Zx ?_)
   try simp only[go_sem,fb2]
   (repeat(with_reducible refine And.intro ZS ?_))
   refine DW.pcr rfl rfl rfl rfl (lblank_c T _) rfl rfl ?_
   try simp only[go_sem,fb2]
   (repeat(with_reducible refine And.intro ZS ?_))
   refine Zm 16447 ?_
   refine Zc (fun hc4=>?_) fun hc4=>?_
   ·
    exfalso
    simp at hc4
   have hnb:¬(isBl ((q.take e).getD 0 0)=true∧0<([]:List (Tx×Tx)).length):=by simp
   refine Zk ?_
   rcases(show Lib.index (q.take e) [58]<0∨0≤Lib.index (q.take e) [58] by omega) with hy|hy
   ·
    refine Zx ?_
    try simp only[go_sem,fb2]
    (repeat(with_reducible refine And.intro ZS ?_))
    refine DW.pcr rfl rfl rfl rfl (colonAt_x T (q.take e) (by omega) _ rfl) rfl rfl ?_
    try simp only[go_sem,fb2]
    (repeat(with_reducible refine And.intro ZS ?_))
    refine Zs (Zx ?_)
    try simp only[go_sem,fb2]
    (repeat(with_reducible refine And.intro ZS ?_))
    refine DW.pcgr rfl rfl rfl rfl rfl (fun hg=>nameMay_c T (List.take (Lib.index (q.take e) [58]).toNat (q.take e)) (by simp only[List.length_take];omega)) (fun hg=>by(try simp only[go_sem,fb2])<;>first|exact hg|(exfalso;simp at hg;done)|(simpa using hg)|grind) rfl rfl ?_
    try simp only[go_sem,fb2]
    (repeat(with_reducible refine And.intro ZS ?_))
    refine Zm 262271 ?_
    refine Zc (fun hc5=>?_) fun hc5=>?_
    ·
     refine Zp 14 ?_
     refine AWp.ret ?_
     try simp only[go_sem,fb2]
     rw[msgV_of hle0 h2 (ms_form1 he htn hnb hy)];simp[LeA,LeL,LeD,fldsD]
    exfalso
    first|omega|(simp[hy] at hc5;done)|(simp[hy] at*;done)
   obtain⟨c,hc⟩:=Int.eq_ofNat_of_zero_le hy
   have hcl:=lix hc
   simp only[List.length_cons,List.length_nil] at hcl
   refine Zx ?_
   try simp only[go_sem,fb2]
   (repeat(with_reducible refine And.intro ZS ?_))
   refine DW.pcr rfl rfl rfl rfl (colonAt_x T (q.take e) (by omega) _ hc) rfl rfl ?_
   try simp only[go_sem,fb2]
   (repeat(with_reducible refine And.intro ZS ?_))
   refine Zs (Zx ?_)
   try simp only[go_sem,fb2]
   (repeat(with_reducible refine And.intro ZS ?_))
   refine DW.pcgr rfl rfl rfl rfl rfl (fun hg=>nameMay_c T ((q.take e).take c) (by simp only[List.length_take];omega)) (fun hg=>by(try simp only[go_sem,fb2])<;>first|exact hg|(exfalso;simp at hg;done)|(simpa using hg)|grind) rfl rfl ?_
   try simp only[go_sem,fb2]
   (repeat(with_reducible refine And.intro ZS ?_))
   refine Zm 262271 ?_
   refine Zc (fun hc5=>?_) fun hc5=>?_
   ·
    refine Zp 14 ?_
    refine AWp.ret ?_
    try simp only[go_sem,fb2]
    rw[msgV_of hle0 h2 (ms_form2 he htn hnb hc (hc5.resolve_left (by omega)))];simp[LeA,LeL,LeD,fldsD]
   have hnm:nmL ((q.take e).take c)=true:=by simpa using hc5
   refine Zk ?_
   refine Zs (Zp 1151 ?_)
   refine Zc (fun hc6=>?_) fun hc6=>?_
   ·
    exfalso
    simp at hc6
   refine Zk ?_
   refine Zt true [0,1,2,3,4,5,6,7,8,9,10,11] fun K_ k_=>?_
   try simp only[go_sem,fb2]
   (repeat(with_reducible refine And.intro ZS ?_))
   refine DW.appM (b0:=0) (c0:=0) (rows:=[]) rfl rfl rfl rfl (fun _=>rfl) rfl (show slI Tryz.prog 77=some (203,2,32) by simp only[go_sem]) rfl rfl (by simp) rfl (by first|decide|(simp;done)|omega) (by first|omega|(simp only[go_sem]<;>omega)|(simp only[go_sem,List.length_take,List.length_map,List.length_append,List.length_cons,List.length_nil]<;>omega)|(simp<;>omega)) (by first|omega|(simp only[go_sem]<;>omega)|(simp only[go_sem,List.length_take,List.length_map,List.length_append,List.length_cons,List.length_nil]<;>omega)|(simp<;>omega)) fun bm1 cm1 hcm1 fbm1=>?_
   try simp only[freshL] at fbm1
   try simp only[go_sem,fb2,fbm1]
   (repeat(with_reducible refine And.intro ZS ?_))
   refine k_ _ _ (blkQ_n (thenQ_n ?_))
   refine Zm 31 ?_
   refine Zr (thenQ_n ?_)
   refine Zf 3 28 (.e ⟨_,?_,(m-1),(ln+1),(f+(e+2)),bm1,cm1,(([]:List (Tx×Tx))++[((q.take e).take c,(q.take e).drop (c+1))]),(q.drop (e+2)),rfl,?_,?_,?_,?_,?_,?_,?_,?_,?_,?_,?_⟩)
   · first|omega|(simp;omega)|(rw[List.length_drop];omega)
   · (try simp only[go_sem,fb2,fbm1])<;>first|exact⟨rfl⟩|(constructor;simp[mA_pos hcm1]<;>omega)
   · (try simp only[go_sem,fb2,fbm1])<;>first|exact⟨rfl⟩|(constructor;rw[mO_pos hcm1];simp[dRows,fldsD,fldD];done)
   · rw [List.length_drop];omega
   · rw [show m-1+1=m by omega,←ms_add he htn hnb hc hnm (by first|omega|(simp;done))];exact h2
   · (simp<;>omega)
   · rw [List.length_drop];omega
   · exact h5.add (by rw[List.length_drop];omega) (by simp;omega) (by rw[List.length_drop,List.length_drop];omega)
   · intro hq;omega
   · simp_all [freshL];done
   · rw [←h8,List.drop_drop]
   · omega
  obtain⟨e,he⟩:=Int.eq_ofNat_of_zero_le hx
  have hle:=lix he
  simp only[List.length_cons,List.length_nil] at hle
  have htl:=tk_len q e (by omega)
  have hfl:q.length=s.length-f:=by rw[←h8,List.length_drop]
  simp only[mA_pos hz,mO_pos hz]
  refine Z1 63 (lineEnd_yes T s f (by omega) (by omega) e (by rw[h8];exact he)) ?_
  refine Zs (Zp 191 ?_)
  refine Zc (fun hc2=>?_) fun hc2=>?_
  ·
   exfalso
   try simp only[decide_eq_true_eq] at hc2
   omega
  refine Zk ?_
  refine Zx ?_
  try simp only[go_sem,fb2,h7]
  (repeat(with_reducible refine And.intro ZS ?_))
  try simp only[sub_drop,h8]
  refine Zm 119 ?_
  refine Zp 95 ?_
  refine Zs (Zp 191 ?_)
  refine Zc (fun hc3=>?_) fun hc3=>?_
  ·
   refine AWp.exit (thenQ_e (blkQ_d (by decide) (thenQ_e (thenQ_e (blkQ_e (thenQ_n ?_))))))
   refine Zy ?_
   refine AWp.ownMS 5 rfl rfl (by simp[fldsD]) (by decide) (fld_full _) fun tq ftq=>?_
   refine Zy ?_
   refine AWp.wkS1 5 (.d (.slc 2 (fldsD acc))) (by simp[go_sem,fldsD]) rfl ?_
   refine AWp.ord [] [tq] [] [] rfl ?_
   refine Zy ?_
   refine Zx ?_
   try simp only[go_sem,fb2,h7]
   (repeat(with_reducible refine And.intro ZS ?_))
   intro b11
   first|intro fb11|have fb11:=True.intro
   try simp only[freshL] at fb11
   try simp only[go_sem,fb2,h7,fb11]
   (repeat(with_reducible refine And.intro ZS ?_))
   refine Zm 70 ?_
   refine Zs (Zp 15 ?_)
   refine Zy ?_
   refine AWp.ownNilH b11 0 0 2 (by(try simp only[go_sem,fb2,h7,fb11])<;>rfl) rfl rfl (by decide) fun t0 ft0=>?_
   try simp only[freshT] at ft0
   simp only[go_sem,fb2,h7,fb11,ft0]
   refine AWp.block (Zl 7 8 (fun n lc hc=> ∃(k v:Nat),n=acc.length-k∧EqS lc [(12,.d (.int .i64 (k:Nat)))]∧EqS hc (⟨[(b11,⟨2,1,[[.own v 2 (fldsD ((acc.take k).map trF)),.d (.str (q.drop (e+2)))]]⟩),(b2,⟨2,1,[[.nils,.d (.str [])]]⟩)],[v]⟩)∧(k≤acc.length)) ?_ ?_)
   · refine ⟨_,0,t0,rfl,ZE,?_,?_⟩
     · (try simp only[go_sem,fb2,h7,fb11,ft0])<;>first|exact⟨rfl⟩|(constructor;simp[fldsD];rw[←h8,List.drop_drop];congr 1<;>omega)
     all_goals(omega)
   rintro _ _ _ ⟨k,v,rfl,⟨rfl⟩,⟨rfl⟩,g1⟩
   refine Zy ?_
   refine Zs (Zp 143 ?_)
   refine Zc (fun hc7=>?_) fun hc7=>?_
   ·
    have hlt:k<acc.length:=by omega
    have hfk:=(h5.get hlt).2
    have zf3:=fun dd=>fldsD_g2 (d:=dd) hlt
    refine Zk ?_
    refine Zs (AWp.block (Zt true [0,1,2,3,4,5,6,7,8,9,10,11,12,13,14,15,16,17] fun K_ k_=>?_))
    try simp only[go_sem,fb2,h7,fb11,ft0,zf3]
    (repeat(with_reducible refine And.intro ZS ?_))
    refine DW.pcr rfl rfl rfl rfl (trimmed_c T (acc.getD k ([],[])).2 (by omega)) rfl rfl ?_
    try simp only[go_sem,fb2,h7,fb11,ft0,zf3]
    (repeat(with_reducible refine And.intro ZS ?_))
    refine DW.app rfl rfl rfl rfl (show slI Tryz.prog 77=some (203,2,32) by simp only[go_sem]) rfl rfl (by simp only[go_sem,fb2,h7,fb11,ft0,zf3]) (by first|exact .inl rfl|exact .inr rfl) (by(try simp only[go_sem,List.length_take]);omega) (by(try simp only[go_sem,List.length_take]);omega) fun t2 ft2=>?_
    try simp only[freshT] at ft2
    try simp only[go_sem,fb2,h7,fb11,ft0,zf3,ft2]
    (repeat(with_reducible refine And.intro ZS ?_))
    refine k_ _ _ (blkQ_n (thenQ_n ?_))
    refine Zm 15 ?_
    refine Zr (thenQ_n ?_)
    refine Ze 7 8 [] [] [b11,b2] [t2] (.e ⟨_,ZM,k+1,t2,rfl,ZE,?_,?_⟩)
    · (try simp only[go_sem,fb2,h7,fb11,ft0,zf3,ft2])<;>first|exact⟨rfl⟩|(constructor;rw[←fldsT_add hlt];done)
    all_goals omega
   refine AWp.exit (thenQ_e (thenQ_e (blkQ_e (thenQ_n ?_))))
   refine Zp 7 ?_
   refine AWp.ret ?_
   try simp only[go_sem,fb2,h7,fb11,ft0]
   obtain rfl:k=acc.length:=by omega
   rw[List.take_length,msgV_of hle0 h2 (ms_end he hc3)];exact⟨⟨rfl,rfl⟩,rfl,rfl⟩
  have htn:¬q.take e=[]:=by simpa using hc3
  have htp:0<(q.take e).length:=List.length_pos_iff.2 htn
  refine Zk ?_
  refine Zs (Zx ?_)
  try simp only[go_sem,fb2,h7]
  (repeat(with_reducible refine And.intro ZS ?_))
  refine DW.pcr rfl rfl rfl rfl (lblank_c T _) rfl rfl ?_
  try simp only[go_sem,fb2,h7]
  (repeat(with_reducible refine And.intro ZS ?_))
  refine Zm 16447 ?_
  refine Zc (fun hc4=>?_) fun hc4=>?_
  ·
   have hap:0<acc.length:=by omega
   have hbl:=hc4.1
   have hfo:=(h5.get (i:=acc.length-1) (by omega)).2
   have zf4:=nlen1 hap
   have zf5:=frow_get (show acc.length-1<acc.length by omega)
   refine Zp 31 ?_
   refine AWp.exit (thenQ_e (blkQ_e (thenQ_n ?_)))
   refine Zr (thenQ_n ?_)
   refine Zf 3 28 (.e ⟨_,?_,(m-1),(ln+1),(f+(e+2)),bf,cf,(glue acc (q.take e)),(q.drop (e+2)),rfl,?_,?_,?_,?_,?_,?_,?_,?_,?_,?_,?_⟩)
   · first|omega|(simp;omega)|(rw[List.length_drop];omega)
   · (try simp only[go_sem,fb2,h7,zf4,zf5])<;>first|exact⟨rfl⟩|(constructor;simp[mA_pos hz,glue_len];omega)
   · (try simp only[go_sem,fb2,h7,zf4,zf5])<;>first|exact⟨rfl⟩|(constructor;rw[mO_pos hz,frow_set,mrow_set])
   · rw [List.length_drop];omega
   · rw [show m-1+1=m by omega,←ms_glue he htn hbl hap];exact h2
   · rw [glue_len];omega
   · rw [List.length_drop];omega
   · exact h5.glue hap (by rw[List.length_drop,htl];omega)
   · intro hq;omega
   · exact h7
   · rw [←h8,List.drop_drop]
   · omega
  have hnb:¬(isBl ((q.take e).getD 0 0)=true∧0<acc.length):=fun hh=>by
    rcases hc4 with hq|hq
    · rw [hh.1] at hq;cases hq
    · omega
  refine Zk ?_
  rcases(show Lib.index (q.take e) [58]<0∨0≤Lib.index (q.take e) [58] by omega) with hy|hy
  ·
   refine Zx ?_
   try simp only[go_sem,fb2,h7]
   (repeat(with_reducible refine And.intro ZS ?_))
   refine DW.pcr rfl rfl rfl rfl (colonAt_x T (q.take e) (by omega) _ rfl) rfl rfl ?_
   try simp only[go_sem,fb2,h7]
   (repeat(with_reducible refine And.intro ZS ?_))
   refine Zs (Zx ?_)
   try simp only[go_sem,fb2,h7]
   (repeat(with_reducible refine And.intro ZS ?_))
   refine DW.pcgr rfl rfl rfl rfl rfl (fun hg=>nameMay_c T (List.take (Lib.index (q.take e) [58]).toNat (q.take e)) (by simp only[List.length_take];omega)) (fun hg=>by(try simp only[go_sem,fb2,h7])<;>first|exact hg|(exfalso;simp at hg;done)|(simpa using hg)|grind) rfl rfl ?_
   try simp only[go_sem,fb2,h7]
   (repeat(with_reducible refine And.intro ZS ?_))
   refine Zm 262271 ?_
   refine Zc (fun hc5=>?_) fun hc5=>?_
   ·
    refine Zp 14 ?_
    refine AWp.ret ?_
    try simp only[go_sem,fb2,h7]
    rw[msgV_of hle0 h2 (ms_form1 he htn hnb hy)];simp[LeA,LeL,LeD,fldsD]
   exfalso
   first|omega|(simp[hy] at hc5;done)|(simp[hy] at*;done)
  obtain⟨c,hc⟩:=Int.eq_ofNat_of_zero_le hy
  have hcl:=lix hc
  simp only[List.length_cons,List.length_nil] at hcl
  refine Zx ?_
  try simp only[go_sem,fb2,h7]
  (repeat(with_reducible refine And.intro ZS ?_))
  refine DW.pcr rfl rfl rfl rfl (colonAt_x T (q.take e) (by omega) _ hc) rfl rfl ?_
  try simp only[go_sem,fb2,h7]
  (repeat(with_reducible refine And.intro ZS ?_))
  refine Zs (Zx ?_)
  try simp only[go_sem,fb2,h7]
  (repeat(with_reducible refine And.intro ZS ?_))
  refine DW.pcgr rfl rfl rfl rfl rfl (fun hg=>nameMay_c T ((q.take e).take c) (by simp only[List.length_take];omega)) (fun hg=>by(try simp only[go_sem,fb2,h7])<;>first|exact hg|(exfalso;simp at hg;done)|(simpa using hg)|grind) rfl rfl ?_
  try simp only[go_sem,fb2,h7]
  (repeat(with_reducible refine And.intro ZS ?_))
  refine Zm 262271 ?_
  refine Zc (fun hc5=>?_) fun hc5=>?_
  ·
   refine Zp 14 ?_
   refine AWp.ret ?_
   try simp only[go_sem,fb2,h7]
   rw[msgV_of hle0 h2 (ms_form2 he htn hnb hc (hc5.resolve_left (by omega)))];simp[LeA,LeL,LeD,fldsD]
  have hnm:nmL ((q.take e).take c)=true:=by simpa using hc5
  refine Zk ?_
  refine Zs (Zp 1151 ?_)
  refine Zc (fun hc6=>?_) fun hc6=>?_
  ·
   refine Zp 14 ?_
   refine AWp.ret ?_
   try simp only[go_sem,fb2,h7]
   rw[msgV_of hle0 h2 (ms_full he htn hnb hc hnm (by omega))];simp[LeA,LeL,LeD,fldsD]
  refine Zk ?_
  refine Zt true [0,1,2,3,4,5,6,7,8,9,10,11] fun K_ k_=>?_
  try simp only[go_sem,fb2,h7]
  (repeat(with_reducible refine And.intro ZS ?_))
  refine DW.appM (b0:=bf) (c0:=cf) (rows:=dRows (fldsD acc)) rfl rfl (Eq.trans (b:= .arr bf 2 acc.length cf) rfl (by rw[mA_pos hz,dRows_len,fldsD_len])) (by rw[mO_pos hz]) (fun h=>absurd h (by omega)) rfl (show slI Tryz.prog 77=some (203,2,32) by simp only[go_sem]) rfl rfl (frow_full acc) rfl (by first|decide|(simp;done)|omega) (by first|omega|(simp only[go_sem]<;>omega)|(simp only[go_sem,List.length_take,List.length_map,List.length_append,List.length_cons,List.length_nil]<;>omega)|(simp<;>omega)) (by first|omega|(simp only[go_sem]<;>omega)|(simp only[go_sem,List.length_take,List.length_map,List.length_append,List.length_cons,List.length_nil]<;>omega)|(simp<;>omega)) fun bm3 cm3 hcm3 fbm3=>?_
  try simp only[freshL] at fbm3
  try simp only[go_sem,fb2,h7,fbm3]
  (repeat(with_reducible refine And.intro ZS ?_))
  refine k_ _ _ (blkQ_n (thenQ_n ?_))
  refine Zm 31 ?_
  refine Zr (thenQ_n ?_)
  refine Zf 3 28 (.e ⟨_,?_,(m-1),(ln+1),(f+(e+2)),bm3,cm3,(acc++[((q.take e).take c,(q.take e).drop (c+1))]),(q.drop (e+2)),rfl,?_,?_,?_,?_,?_,?_,?_,?_,?_,?_,?_⟩)
  · first|omega|(simp;omega)|(rw[List.length_drop];omega)
  · (try simp only[go_sem,fb2,h7,fbm3])<;>first|exact⟨rfl⟩|(constructor;simp[mA_pos hcm3]<;>omega)
  · (try simp only[go_sem,fb2,h7,fbm3])<;>first|exact⟨rfl⟩|(constructor;rw[mO_pos hcm3];simp[dRows,fldsD,fldD];done)
  · rw [List.length_drop];omega
  · rw [show m-1+1=m by omega,←ms_add he htn hnb hc hnm (by first|omega|(simp;done))];exact h2
  · (simp<;>omega)
  · rw [List.length_drop];omega
  · exact h5.add (by rw[List.length_drop];omega) (by simp;omega) (by rw[List.length_drop,List.length_drop];omega)
  · intro hq;omega
  · simp_all [freshL];done
  · rw [←h8,List.drop_drop]
  · omega
 exact absurd hc1 (by simp)
end
section
theorem msgF_len:∀(n:Nat) (acc:List (Tx×Tx)) (ln:Nat) (s:Tx),acc.length≤30→(msgF n acc ln s).1.length≤30
 |0,acc,ln,s,h=>by simp[msgF]
 | n+1,acc,ln,s,h=>by
  rw[msgF]
  split
  ·simp
  ·split
   ·exact h
   ·split
    ·exact msgF_len n _ _ _ (by rw[glue_len];exact h)
    ·split
     ·simp
     ·split
      ·simp
      ·split
       ·simp
       ·exact msgF_len n _ _ _ (by rw[List.length_append,List.length_singleton];omega)
theorem msgV_len (s:Tx):(msgV s).1.length≤30:=by
 unfold msgV
 split
 ·simp
 ·rw[List.length_map];exact msgF_len _ _ _ _ (by simp)
theorem msgF_ok:∀(n:Nat) (acc:List (Tx×Tx)) (ln:Nat) (s:Tx),s.length≤2000→FOk acc s.length→∀f∈(msgF n acc ln s).1,f.1.length≤2000∧f.2.length≤2000
 |0,acc,ln,s,hs,h=>by rw[msgF];intro f hf;cases hf
 | n+1,acc,ln,s,hs,h=>by
  rw[msgF]
  generalize (Lib.index s [13,10]).toNat=e
  have h1:(s.drop (e+2)).length≤s.length:=by rw[List.length_drop];omega
  have h2:(s.drop (e+2)).length+(s.take e).length≤s.length:=by rw[List.length_drop,List.length_take];omega
  split
  ·intro f hf;cases hf
  ·split
   ·intro f hf
    have:=h f hf
    exact⟨this.1,by omega⟩
   ·split
    ·rename_i hb
     exact msgF_ok n _ _ _ (by omega) (h.glue hb.2 h2)
    ·split
     ·intro f hf;cases hf
     ·split
      ·intro f hf;cases hf
      ·split
       ·intro f hf;cases hf
       ·refine msgF_ok n _ _ _ (by omega) (h.add h1 ?_ ?_)
        ·rw[List.length_take];omega
        ·rw[List.length_drop];omega
theorem msgV_ok (s:Tx):∀f∈(msgV s).1,f.1.length≤2000∧f.2.length≤2000:=by
 unfold msgV
 split
 ·intro f hf;cases hf
 ·rename_i hs
  intro f hf
  obtain⟨g,hg,rfl⟩:=List.mem_map.1 hf
  have:=msgF_ok _ _ _ _ (by omega) (FOk.nil _) g hg
  exact⟨this.1,Nat.le_trans (trimS_len _) this.2⟩
def ltrM (a1 a2 c1 c2 s:Tx):List (Tx×Tx)×Tx×Int:=if¬adrE a1 a2=0 then([],[],adrE a1 a2) else if¬adrE c1 c2=0 then([],[],adrE c1 c2) else((msgV s).1,(msgV s).2.1,(msgV s).2.2.2)
section
variable {a1 a2 c1 c2 s:Tx}
theorem ltr_1 (h:¬adrE a1 a2=0):ltrM a1 a2 c1 c2 s=([],[],adrE a1 a2):=if_pos h
theorem ltr_2 (h:adrE a1 a2=0) (h2:¬adrE c1 c2=0):ltrM a1 a2 c1 c2 s=([],[],adrE c1 c2):=by rw[ltrM,if_neg (by simp[h]),if_pos h2]
theorem ltr_3 (h:adrE a1 a2=0) (h2:adrE c1 c2=0):ltrM a1 a2 c1 c2 s=((msgV s).1,(msgV s).2.1,(msgV s).2.2.2):=by rw[ltrM,if_neg (by simp[h]),if_neg (by simp[h2])]
end
structure LtrOk (a1 a2 c1 c2:Tx):Prop where
 h1:a1.length≤1048576
 h2:a2.length≤1048576
 h3:c1.length≤1048576
 h4:c2.length≤1048576
attribute [local go_sem] icast Nat.zero_add in
theorem JCheck_c (T:Tbl) (hL:LibT T) (a1 a2 c1 c2 s:Tx) (ok:LtrOk a1 a2 c1 c2):PC Tryz.prog T 34 [.agg [.d (.str a1),.d (.str a2),.d (.str c1),.d (.str c2),.d (.str s)]] (.tup [.agg [.d (.slc 2 (fldsD (ltrM a1 a2 c1 c2 s).1)),.d (.str ((ltrM a1 a2 c1 c2 s).2.1))],.d (.int .i64 ((ltrM a1 a2 c1 c2 s).2.2))]):=by
 refine⟨Tryz.call34,PCall.enterS Tryz.func34 rfl Tryz.ntmps34 rfl fun hb=>?_⟩
 simp only[go_sem,Tryz.results34]
 refine Zx ?_
 try simp only[go_sem]
 (repeat(with_reducible refine And.intro ZS ?_))
 intro b1
 first|intro fb1|have fb1:=True.intro
 try simp only[freshL] at fb1
 try simp only[go_sem,fb1]
 (repeat(with_reducible refine And.intro ZS ?_))
 intro b2
 first|intro fb2|have fb2:=True.intro
 try simp only[freshL] at fb2
 try simp only[go_sem,fb1,fb2]
 (repeat(with_reducible refine And.intro ZS ?_))
 refine Zs (Zp 774 ?_)
 refine AWp.block (Zy ?_)
 refine Zl 7 8 (fun n lc hc=> ∃(j:Nat),n=2-j∧EqS lc [(15,.d (.int .i64 j))]∧EqS hc (⟨[(b2,⟨2,1,[[.nils,.d (.str [])]]⟩),(b1,⟨5,1,[[.d (.str a1),.d (.str a2),.d (.str c1),.d (.str c2),.d (.str s)]]⟩)],[]⟩)∧(j≤2)∧(0<j→adrE a1 a2=0)∧(1<j→adrE c1 c2=0)) ?_ ?_
 · refine ⟨_,0,rfl,ZE,ZE,?_,?_,?_⟩
   all_goals(first|omega|(intro hq;omega))
 rintro _ _ _ ⟨j,rfl,⟨rfl⟩,⟨rfl⟩,h1,h2,h3⟩
 refine Zy ?_
 refine Zp 31 ?_
 refine Zs (Zc (fun hc0=>?_) fun hc0=>?_)
 ·
  refine Zk ?_
  refine Zs (AWp.block ?_)
  rcases(show j=0∨j=1 by omega) with rfl|rfl
  ·
   refine Zx ?_
   try simp only[go_sem,fb1,fb2]
   (repeat(with_reducible refine And.intro ZS ?_))
   intro b5
   first|intro fb5|have fb5:=True.intro
   try simp only[freshL] at fb5
   try simp only[go_sem,fb1,fb2,fb5]
   (repeat(with_reducible refine And.intro ZS ?_))
   refine Z1 59 (whoCheck_p T hL a1 a2 ok.h1 ok.h2) ?_
   refine Zp 95 ?_
   refine Zc (fun hc1=>?_) fun hc1=>?_
   ·
    refine Zp 6 ?_
    refine AWp.ret ?_
    try simp only[go_sem,fb1,fb2,fb5]
    rw[ltr_1 hc1];simp[LeA,LeL,LeD,fldsD]
   refine AWp.skip (blkQ_n (thenQ_n ?_))
   refine Zr (thenQ_n ?_)
   refine Ze 11 16 [b5] [] [b2,b1] [] (.e ⟨_,ZM,1,rfl,ZE,ZE,?_,?_,?_⟩)
   all_goals first|omega|(intro _;omega)|(intro _;assumption)|(intro hq;omega)
  refine Zx ?_
  try simp only[go_sem,fb1,fb2]
  (repeat(with_reducible refine And.intro ZS ?_))
  intro b5
  first|intro fb5|have fb5:=True.intro
  try simp only[freshL] at fb5
  try simp only[go_sem,fb1,fb2,fb5]
  (repeat(with_reducible refine And.intro ZS ?_))
  refine Z1 59 (whoCheck_p T hL c1 c2 ok.h3 ok.h4) ?_
  refine Zp 95 ?_
  refine Zc (fun hc1=>?_) fun hc1=>?_
  ·
   refine Zp 6 ?_
   refine AWp.ret ?_
   try simp only[go_sem,fb1,fb2,fb5]
   rw[ltr_2 (h2 (by omega)) hc1];simp[LeA,LeL,LeD,fldsD]
  refine AWp.skip (blkQ_n (thenQ_n ?_))
  refine Zr (thenQ_n ?_)
  refine Ze 11 16 [b5] [] [b2,b1] [] (.e ⟨_,ZM,2,rfl,ZE,ZE,?_,?_,?_⟩)
  all_goals first|omega|(intro _;omega)|(intro _;assumption)|(intro hq;omega)
 have hj:j=2:=by omega
 refine AWp.exit (thenQ_e (thenQ_e (blkQ_e (thenQ_n ?_))))
 refine Zx ?_
 try simp only[go_sem,fb1,fb2]
 (repeat(with_reducible refine And.intro ZS ?_))
 refine DW.pcr rfl rfl rfl rfl (Parse_c T hL s) rfl rfl ?_
 try simp only[go_sem,fb1,fb2]
 (repeat(with_reducible refine And.intro ZS ?_))
 intro b7
 first|intro fb7|have fb7:=True.intro
 try simp only[freshL] at fb7
 try simp only[go_sem,fb1,fb2,fb7]
 (repeat(with_reducible refine And.intro ZS ?_))
 refine Zm 22 ?_
 refine Zp 3 ?_
 refine AWp.ret ?_
 try simp only[go_sem,fb1,fb2,fb7]
 rw[ltr_3 (h2 (by omega)) (h3 (by omega))];simp[LeA,LeL,LeD]
attribute [local go_sem] icast Nat.zero_add in
theorem LetterOf_c (T:Tbl) (hL:LibT T) (a1 a2 c1 c2 s:Tx) (ok:LtrOk a1 a2 c1 c2):PC Tryz.prog T 36 [.agg [.d (.str a1),.d (.str a2),.d (.str c1),.d (.str c2),.d (.str s)]] (.tup [.agg [.d (.slc 2 (fldsD (ltrM a1 a2 c1 c2 s).1)),.d (.str ((ltrM a1 a2 c1 c2 s).2.1))],.d (.int .i64 ((ltrM a1 a2 c1 c2 s).2.2))]):=by
 refine⟨Tryz.call36,PCall.enterS Tryz.func36 rfl Tryz.ntmps36 rfl fun hb=>?_⟩
 simp only[go_sem,Tryz.results36]
 refine Zx ?_
 try simp only[go_sem]
 (repeat(with_reducible refine And.intro ZS ?_))
 intro b1
 first|intro fb1|have fb1:=True.intro
 try simp only[freshL] at fb1
 try simp only[go_sem,fb1]
 (repeat(with_reducible refine And.intro ZS ?_))
 intro b2
 first|intro fb2|have fb2:=True.intro
 try simp only[freshL] at fb2
 try simp only[go_sem,fb1,fb2]
 (repeat(with_reducible refine And.intro ZS ?_))
 refine Z1 22 (addrFault_p T a1 a2 ok.h1 ok.h2) ?_
 refine Zs (Zp 23 ?_)
 refine Zc (fun hc0=>?_) fun hc0=>?_
 ·
  refine Zq fun K_ k_=>?_
  try simp only[go_sem,fb1,fb2]
  (repeat(with_reducible refine And.intro ZS ?_))
  refine DW.pcr rfl rfl rfl rfl (addrFault_p T c1 c2 ok.h3 ok.h4) rfl rfl ?_
  try simp only[go_sem,fb1,fb2]
  (repeat(with_reducible refine And.intro ZS ?_))
  refine k_ _ _ (thenQ_n ?_)
  refine Zm 7 ?_
  refine Zs (Zp 23 ?_)
  refine Zc (fun hc1=>?_) fun hc1=>?_
  ·
   refine Zp 6 ?_
   refine AWp.ret ?_
   try simp only[go_sem,fb1,fb2]
   first|(rw[ltr_2 hc0 hc1];simp[LeA,LeL,LeD,fldsD];done)|(rw[ltr_1 hc0];simp[LeA,LeL,LeD,fldsD])
  refine Zk ?_
  refine Zx ?_
  try simp only[go_sem,fb1,fb2]
  (repeat(with_reducible refine And.intro ZS ?_))
  refine DW.pcr rfl rfl rfl rfl (MessageOf_c T s) rfl rfl ?_
  try simp only[go_sem,fb1,fb2]
  (repeat(with_reducible refine And.intro ZS ?_))
  intro b5
  first|intro fb5|have fb5:=True.intro
  try simp only[freshL] at fb5
  try simp only[go_sem,fb1,fb2,fb5]
  (repeat(with_reducible refine And.intro ZS ?_))
  refine Zm 14 ?_
  refine Zp 3 ?_
  refine AWp.ret ?_
  try simp only[go_sem,fb1,fb2,fb5]
  first|exact absurd hc1 hc0|(rw[ltr_3 hc0 hc1];simp[LeA,LeL,LeD])
 refine Zk ?_
 refine Zs (Zp 39 ?_)
 refine Zc (fun hc1=>?_) fun hc1=>?_
 ·
  refine Zp 6 ?_
  refine AWp.ret ?_
  try simp only[go_sem,fb1,fb2]
  first|(rw[ltr_2 hc0 hc1];simp[LeA,LeL,LeD,fldsD];done)|(rw[ltr_1 hc0];simp[LeA,LeL,LeD,fldsD])
 refine Zk ?_
 refine Zx ?_
 try simp only[go_sem,fb1,fb2]
 (repeat(with_reducible refine And.intro ZS ?_))
 refine DW.pcr rfl rfl rfl rfl (MessageOf_c T s) rfl rfl ?_
 try simp only[go_sem,fb1,fb2]
 (repeat(with_reducible refine And.intro ZS ?_))
 intro b5
 first|intro fb5|have fb5:=True.intro
 try simp only[freshL] at fb5
 try simp only[go_sem,fb1,fb2,fb5]
 (repeat(with_reducible refine And.intro ZS ?_))
 refine Zm 14 ?_
 refine Zp 3 ?_
 refine AWp.ret ?_
 try simp only[go_sem,fb1,fb2,fb5]
 first|exact absurd hc1 hc0|(rw[ltr_3 hc0 hc1];simp[LeA,LeL,LeD])
end
section
open Go.RowKit
structure Pc where
 c:UInt8
 one:Bool
 many:Bool
def Pc.hit (x:Pc) (b:UInt8):Bool:=x.one||x.c==b
def plainPc (c:UInt8):Pc:=⟨c,c.toNat==63,c.toNat==42⟩
def piecesOf:List UInt8→List Pc
 |[]=>[]
 |[c]=>[plainPc c]
 |c::d::r=>if c.toNat=92 then⟨d,false,false⟩::piecesOf r else plainPc c::piecesOf (d::r)
theorem pieces_nil:piecesOf []=[]:=by simp[piecesOf]
theorem pieces_last (c:UInt8):piecesOf [c]=[plainPc c]:=by simp[piecesOf]
theorem pieces_esc (c d:UInt8) (r:List UInt8) (h:c.toNat=92):piecesOf (c::d::r)=⟨d,false,false⟩::piecesOf r:=by rw[piecesOf,if_pos h]
theorem pieces_plain (c:UInt8) (r:List UInt8) (h:c.toNat≠92∨r=[]):piecesOf (c::r)=plainPc c::piecesOf r:=by
  cases r with
  |nil=>simp[piecesOf]
  | cons d r => rcases h with h|h
                · rw [piecesOf,if_neg h]
                · cases h
theorem pieces_len:∀(n:Nat) (l:List UInt8),l.length≤n→(piecesOf l).length≤l.length
 |0,l,h=>by have:l=[]:=List.eq_nil_of_length_eq_zero (by omega);subst this;simp[pieces_nil]
 |n+1,[],_=>by simp[pieces_nil]
 |n+1,[c],_=>by simp[pieces_last]
 | n+1,c::d::r,h=>by
  by_cases hc:c.toNat=92
  ·have:=pieces_len n r (by simp at h;omega)
   rw[pieces_esc c d r hc];simp;omega
  ·have:=pieces_len n (d::r) (by simp at h⊢;omega)
   rw[pieces_plain c _ (.inl hc)];simp at this⊢;omega
def PM:List Pc→List UInt8→Prop
 |[],s=>s=[]
 |x::l,s=>(x.many=true∧∃n,n≤s.length∧PM l (s.drop n))∨(x.many=false∧∃b t,s=b::t∧x.hit b=true∧PM l t)
theorem PM_nil (s:List UInt8):PM [] s↔s=[]:=Iff.rfl
theorem PM_many {x:Pc} (h:x.many=true) (l:List Pc) (s:List UInt8):PM (x::l) s↔∃n,n≤s.length∧PM l (s.drop n):=by simp[PM,h]
theorem PM_one {x:Pc} (h:x.many=false) (l:List Pc) (s:List UInt8):PM (x::l) s↔∃b t,s=b::t∧x.hit b=true∧PM l t:=by simp[PM,h]
theorem PM_app (l1 l2:List Pc):∀s,PM (l1++l2) s↔∃n,n≤s.length∧PM l1 (s.take n)∧PM l2 (s.drop n):=by
 induction l1 with
 | nil=>
  intro s
  constructor
  ·intro h;exact⟨0,by omega,by simp[PM],by simpa using h⟩
  ·rintro⟨n,hn,h1,h2⟩
   have:n=0:=by
    have h3:(s.take n).length=0:=by rw[(PM_nil _).1 h1];rfl
    rw[List.length_take] at h3;omega
   subst this
   simpa using h2
 | cons x l1 ih=>
  intro s
  cases hx:x.many with
  | true=>
   rw[List.cons_append,PM_many hx]
   constructor
   ·rintro⟨n,hn,h⟩
    obtain⟨m,hm,h1,h2⟩:=(ih _).1 h
    rw[List.length_drop] at hm
    refine⟨n+m,by omega,(PM_many hx _ _).2 ⟨n,by rw[List.length_take];omega,?_⟩,by rw[←List.drop_drop];exact h2⟩
    rw[List.drop_take,Nat.add_sub_cancel_left]
    exact h1
   ·rintro⟨n,hn,h1,h2⟩
    obtain⟨m,hm,h3⟩:=(PM_many hx _ _).1 h1
    rw[List.length_take] at hm
    refine⟨m,by omega,(ih _).2 ⟨n-m,by rw[List.length_drop];omega,?_,?_⟩⟩
    ·rw[List.drop_take] at h3;exact h3
    ·rw[List.drop_drop,show m+(n-m)=n by omega];exact h2
  | false=>
   rw[List.cons_append,PM_one hx]
   constructor
   ·rintro⟨b,t,rfl,hb,h⟩
    obtain⟨m,hm,h1,h2⟩:=(ih _).1 h
    exact⟨m+1,by simp;omega,(PM_one hx _ _).2 ⟨b,t.take m,rfl,hb,h1⟩,by simpa using h2⟩
   ·rintro⟨n,hn,h1,h2⟩
    obtain⟨b,t,e,hb,h3⟩:=(PM_one hx _ _).1 h1
    cases s with
    |nil=>simp at e
    | cons c s=>
     cases n with
     |zero=>simp at e
     |succ n=>
      simp only[List.take_succ_cons,List.cons.injEq] at e
      obtain⟨rfl,rfl⟩:=e
      exact⟨c,s,rfl,hb,(ih _).2 ⟨n,by simp at hn;omega,h3,by simpa using h2⟩⟩
theorem PM_snoc_many {x:Pc} (h:x.many=true) (l:List Pc) (s:List UInt8):PM (l++[x]) s↔∃n,n≤s.length∧PM l (s.take n):=by
 rw[PM_app]
 constructor
 ·rintro⟨n,hn,h1,_⟩;exact⟨n,hn,h1⟩
 ·rintro⟨n,hn,h1⟩
  exact⟨n,hn,h1,(PM_many h _ _).2 ⟨(s.drop n).length,Nat.le_refl _,(PM_nil _).2 (List.drop_eq_nil_of_le (Nat.le_refl _))⟩⟩
theorem PM_snoc_one {x:Pc} (h:x.many=false) (l:List Pc) (s:List UInt8) (b:UInt8):PM (l++[x]) (s++[b])↔PM l s∧x.hit b=true:=by
 rw[PM_app]
 constructor
 ·rintro⟨n,hn,h1,h2⟩
  obtain⟨c,t,e,hc,ht⟩:=(PM_one h _ _).1 h2
  have ht':=(PM_nil _).1 ht
  subst ht'
  have hl:=congrArg List.length e
  simp at hl hn
  have hn':n=s.length:=by omega
  subst hn'
  rw[List.drop_left] at e
  injection e with e _
  subst e
  rw[List.take_left] at h1
  exact⟨h1,hc⟩
 ·rintro⟨h1,h2⟩
  exact⟨s.length,by simp,by rw[List.take_left];exact h1,by rw[List.drop_left];exact(PM_one h _ _).2 ⟨b,[],rfl,h2,rfl⟩⟩
theorem PM_snoc_nil {x:Pc} (h:x.many=false) (l:List Pc):¬PM (l++[x]) []:=by
 rw[PM_app]
 rintro⟨n,hn,h1,h2⟩
 obtain⟨c,t,e,_⟩:=(PM_one h _ _).1 h2
 simp at e
def Ones (l:List Pc):Prop:=∀x∈l,x.many=false
theorem PM_ones {l:List Pc} (h:Ones l):∀{s:List UInt8},PM l s→s.length=l.length:=by
 induction l with
 |nil=>intro s hs;rw[(PM_nil _).1 hs];rfl
 |cons x l ih=>
  intro s hs
  obtain⟨b,t,rfl,_,ht⟩:=(PM_one (h x (by simp)) _ _).1 hs
  have:=ih (fun y hy=>h y (by simp[hy])) ht
  simp[this]
theorem PM_seg {l m:List Pc} (h:Ones l) {u v:List UInt8} (hu:u.length=l.length):PM (l++m) (u++v)↔PM l u∧PM m v:=by
 rw[PM_app]
 constructor
 ·rintro⟨n,hn,h1,h2⟩
  have h3:=PM_ones h h1
  rw[List.length_take,List.length_append] at h3
  rw[List.length_append] at hn
  have hn':n=u.length:=by omega
  subst hn'
  rw[List.take_left] at h1
  rw[List.drop_left] at h2
  exact⟨h1,h2⟩
 ·rintro⟨h1,h2⟩
  exact⟨u.length,by simp,by rw[List.take_left];exact h1,by rw[List.drop_left];exact h2⟩
theorem PM_end:∀l:List Pc,PM l []↔∀x∈l,x.many=true:=by
 intro l
 induction l with
 |nil=>simp[PM]
 | cons x l ih=>
  cases hx:x.many with
  |true=>rw[PM_many hx];simp[ih,hx]
  |false=>
   rw[PM_one hx]
   simp[hx]
def Later (l:List Pc) (s:List UInt8) (j fr:Nat):Prop:=∃n,fr≤n∧n≤s.length∧PM (l.drop (j+1)) (s.drop n)
structure Gr (l:List Pc) (s:List UInt8) (i k:Nat) (st:Option Nat) (fr:Nat):Prop where
 hi:i≤s.length
 hk:k≤l.length
 hf:fr≤i
 none_:st=none→fr=0∧(PM l s↔PM (l.drop k) (s.drop i))
 some_:∀j,st=some j→j+1≤k∧k-(j+1)=i-fr∧Ones ((l.drop (j+1)).take (k-(j+1)))∧PM ((l.drop (j+1)).take (k-(j+1))) ((s.drop fr).take (i-fr))∧
  (PM l s↔Later l s j fr)
theorem Gr.start (l:List Pc) (s:List UInt8):Gr l s 0 0 none 0:=⟨by omega,by omega,by omega,fun _=>⟨rfl,by simp⟩,fun _ h=>by cases h⟩
section
variable {l:List Pc} {s:List UInt8} {i k fr:Nat} {st:Option Nat}
theorem cut_drop {α:Type} (l:List α) (a k:Nat) (h:a≤k):l.drop a=(l.drop a).take (k-a)++l.drop k:=by
 conv=>lhs;rw[←List.take_append_drop (k-a) (l.drop a)]
 rw[List.drop_drop,show a+(k-a)=k by omega]
theorem drop_at {α:Type} {l:List α} {k:Nat} {x:α} (h:l[k]?=some x):l.drop k=x::l.drop (k+1):=by
 obtain⟨hk,e⟩:=List.getElem?_eq_some_iff.1 h
 rw[List.drop_eq_getElem_cons hk,e]
theorem Gr.seg (h:Gr l s i k st fr) {j:Nat} (hj:st=some j) (n:Nat) (hn:n=fr):(PM (l.drop (j+1)) (s.drop n)↔PM (l.drop k) (s.drop i)):=by
 obtain⟨h1,h2,h3,h4,h5⟩:=h.some_ j hj
 have hf:=h.hf
 have hi:=h.hi
 have hk:=h.hk
 subst hn
 rw[cut_drop l (j+1) k h1,cut_drop s n i hf,PM_seg h3 (by rw[List.length_take,List.length_take,List.length_drop,List.length_drop];omega)]
 exact⟨fun h=>h.2,fun h=>⟨h4,h⟩⟩
theorem Gr.many (h:Gr l s i k st fr) {x:Pc} (hx:l[k]?=some x) (hm:x.many=true):Gr l s i (k+1) (some k) i:=by
 have hk':=(List.getElem?_eq_some_iff.1 hx).1
 have hi:=h.hi
 refine⟨h.hi,by omega,Nat.le_refl _,fun h=>by(cases h),fun j hj=>?_⟩
 injection hj with hj
 subst hj
 refine⟨Nat.le_refl _,by omega,by simp[Ones],by simp[PM],?_⟩
 have key:PM (l.drop k) (s.drop i)↔Later l s k i:=by
  rw[drop_at hx,PM_many hm]
  constructor
  ·rintro⟨n,hn,h1⟩
   rw[List.length_drop] at hn
   rw[List.drop_drop] at h1
   exact⟨i+n,by omega,by omega,h1⟩
  ·rintro⟨n,h1,h2,h3⟩
   exact⟨n-i,by rw[List.length_drop];omega,by rw[List.drop_drop,show i+(n-i)=n by omega];exact h3⟩
 cases st with
 |none=>exact(h.none_ rfl).2.trans key
 | some j=>
  obtain⟨h1,h2,h3,h4,h5⟩:=h.some_ j rfl
  rw[h5]
  constructor
  ·rintro⟨n,hn,hns,hp⟩
   rw[cut_drop l (j+1) k h1,PM_app] at hp
   obtain⟨m,hm',hp1,hp2⟩:=hp
   have hl:=PM_ones h3 hp1
   rw[List.length_take,List.length_take,List.length_drop,List.length_drop] at hl
   rw[List.length_drop] at hm'
   rw[List.drop_drop] at hp2
   rw[drop_at hx] at hp2
   obtain⟨q,hq,hp3⟩:=(PM_many hm _ _).1 hp2
   rw[List.length_drop] at hq
   rw[List.drop_drop] at hp3
   have:=h.hf
   exact⟨n+m+q,by omega,by omega,hp3⟩
  ·intro hp
   exact⟨fr,Nat.le_refl _,by have:=h.hf;omega,(h.seg rfl fr rfl).2 (key.2 hp)⟩
theorem Gr.hit (h:Gr l s i k st fr) {x:Pc} {b:UInt8} (hx:l[k]?=some x) (hb:s[i]?=some b) (hm:x.many=false) (hh:x.hit b=true):Gr l s (i+1) (k+1) st fr:=by
 have hk':=(List.getElem?_eq_some_iff.1 hx).1
 have hi':=(List.getElem?_eq_some_iff.1 hb).1
 have hf:=h.hf
 refine⟨by omega,by omega,by omega,fun e=>⟨(h.none_ e).1,(h.none_ e).2.trans ?_⟩,fun j hj=>?_⟩
 ·rw[drop_at hx,drop_at hb,PM_one hm]
  constructor
  ·rintro⟨c,t,e,_,ht⟩
   injection e with e1 e2
   subst e2
   exact ht
  ·intro ht;exact⟨b,_,rfl,hh,ht⟩
 ·obtain⟨h1,h2,h3,h4,h5⟩:=h.some_ j hj
  have e1:(l.drop (j+1)).take (k+1-(j+1))=(l.drop (j+1)).take (k-(j+1))++[x]:=by
   rw[show k+1-(j+1)=k-(j+1)+1 by omega,List.take_add_one,List.getElem?_drop,show j+1+(k-(j+1))=k by omega,hx];rfl
  have e2:(s.drop fr).take (i+1-fr)=(s.drop fr).take (i-fr)++[b]:=by
   rw[show i+1-fr=i-fr+1 by omega,List.take_add_one,List.getElem?_drop,show fr+(i-fr)=i by omega,hb];rfl
  refine⟨by omega,by omega,?_,?_,h5⟩
  ·rw[e1]
   intro y hy
   rcases List.mem_append.1 hy with hy|hy
   ·exact h3 y hy
   ·rw[List.mem_singleton.1 hy];exact hm
  ·rw[e1,e2]
   exact(PM_snoc_one hm _ _ _).2 ⟨h4,hh⟩
def Miss (l:List Pc) (s:List UInt8) (i k:Nat):Prop:=i<s.length∧∀x,l[k]?=some x→x.many=false∧∀b,s[i]?=some b→x.hit b=false
theorem Miss.no (h:Miss l s i k):¬PM (l.drop k) (s.drop i):=by
 obtain⟨hi,hx⟩:=h
 have hb:s[i]?=some s[i]:=List.getElem?_eq_getElem hi
 by_cases hk:k<l.length
 ·have hx':=hx l[k] (List.getElem?_eq_getElem hk)
  rw[drop_at (List.getElem?_eq_getElem hk),drop_at hb,PM_one hx'.1]
  rintro⟨c,t,e,hc,_⟩
  injection e with e1 e2
  subst e1
  rw[hx'.2 _ hb] at hc
  cases hc
 ·rw[List.drop_eq_nil_of_le (by omega),PM_nil,drop_at hb]
  intro e;cases e
theorem Gr.miss_none (h:Gr l s i k none fr) (hm:Miss l s i k):¬PM l s:=fun hp=>hm.no ((h.none_ rfl).2.1 hp)
theorem Gr.miss_some {j:Nat} (h:Gr l s i k (some j) fr) (hm:Miss l s i k):Gr l s (fr+1) (j+1) (some j) (fr+1):=by
 obtain⟨h1,h2,h3,h4,h5⟩:=h.some_ j rfl
 have hf:=h.hf
 have hi:=hm.1
 have hk:=h.hk
 refine⟨by omega,by omega,by omega,fun h=>by(cases h),fun j' hj=>?_⟩
 injection hj with hj
 subst hj
 refine⟨Nat.le_refl _,by omega,by simp[Ones],by simp[PM],?_⟩
 rw[h5]
 constructor
 ·rintro⟨n,hn,hns,hp⟩
  by_cases e:n=fr
  ·exact absurd ((h.seg rfl n e).1 hp) hm.no
  ·exact⟨n,by omega,hns,hp⟩
 ·rintro⟨n,hn,hns,hp⟩
  exact⟨n,by omega,hns,hp⟩
theorem Gr.end_ (h:Gr l s s.length k st fr):PM l s↔∀x∈l.drop k,x.many=true:=by
 rw[←PM_end]
 cases st with
 |none=>
  have:=(h.none_ rfl).2
  rw[List.drop_eq_nil_of_le (Nat.le_refl _)] at this
  exact this
 | some j=>
  obtain⟨h1,h2,h3,h4,h5⟩:=h.some_ j rfl
  have key:=h.seg rfl fr rfl
  rw[List.drop_eq_nil_of_le (Nat.le_refl s.length)] at key
  have hk:=h.hk
  have hf:=h.hf
  rw[h5]
  constructor
  ·rintro⟨n,hn,hns,hp⟩
   have:n=fr:=by
    rw[cut_drop l (j+1) k h1,PM_app] at hp
    obtain⟨m,hm',hp1,hp2⟩:=hp
    have hl:=PM_ones h3 hp1
    rw[List.length_take,List.length_take,List.length_drop,List.length_drop] at hl
    rw[List.length_drop] at hm'
    omega
   subst this
   exact key.1 hp
  ·intro hp
   exact⟨fr,Nat.le_refl _,h.hf,key.2 hp⟩
end
end
section
open Go.RowKit
def pcF:Flat Pc:=⟨3,fun x=>[.int .u8 x.c.toNat,.bool x.one,.bool x.many],fun _=>rfl,fun x u hu=>by
 simp at hu
 rcases hu with rfl|rfl|rfl<;>rfl,by decide⟩
theorem pc_cell {w:World} {D:Nat→Prop} {A:Option Addr} {n c:Nat} {l:List Pc} (h:RF pcF w D (.slice A n c) l) {i:Nat} (hi:i<n):
  ∃b off x,A=some ⟨b,off,none⟩∧D b∧l[i]?=some x∧w.cell? ⟨b,off+i*3,none⟩=some (.int .u8 x.c.toNat)∧w.cell? ⟨b,off+i*3+1,none⟩=some (.bool x.one)∧w.cell? ⟨b,off+i*3+2,none⟩=some (.bool x.many):=by
 obtain⟨b,off,x,e,hb,hx,hc⟩:=h.at_ hi
 exact⟨b,off,x,e,hb,hx,hc 0 _ rfl,hc 1 _ rfl,hc 2 _ rfl⟩
def Told (p:Prop) (w:World) (e:Ending) (w':World):Prop:=∃b,e= .returned (.bool b)∧(b=true↔p)∧∃d,w'=w.drewN d
theorem Told.yes {p:Prop} (hp:p) (w:World) (d:Nat):Told p w (.returned (.bool true)) (w.drewN d):=⟨true,rfl,by simp[hp],d,rfl⟩
theorem Told.no {p:Prop} (hp:¬p) (w:World) (d:Nat):Told p w (.returned (.bool false)) (w.drewN d):=⟨false,rfl,by simp[hp],d,rfl⟩
def stI:Option Nat→Int
 |none=> -1
 |some j=>j
theorem gr_less {S L fr k fr' k':Nat} (hk:k<L) (h:(fr=fr'∧k'=k+1)∨(fr<fr'∧fr'≤S)):(S-fr')*L+(L-k')<(S-fr)*L+(L-k):=by
 rcases h with⟨rfl,rfl⟩|⟨h1,h2⟩
 ·omega
 ·have h3:(S-fr')*L+L≤(S-fr)*L:=by
   rw[←Nat.succ_mul]
   exact Nat.mul_le_mul_right _ (by omega)
  omega
theorem matches_any (s:ByteArray) (v:Value) (l:List Pc) (w:World) (hs:s.size≤2000) (hl:l.length≤100) (h:RF pcF w (· <w.heap.size) v l):
  Calls Tryz.prog 261 #[.string s,v] w (Told (PM l (bs s)) w):=by
 obtain⟨A,c,rfl,h⟩:=h.ex
 have H:=Lib.hid h
 have hbl:=Lib.hid (bs_len s)
 clear h
 go_enter Tryz.func261,Tryz.ntmps261
 go_wp2_with fail
 go_loopw [5,6,7,8] (fun vi vk vs vf wr=> ∃(i k fr:Nat) (st:Option Nat),Gr l (bs s) i k st fr∧vi= .int .i64 i∧vk= .int .i64 k∧vs= .int .i64 (stI st)∧vf= .int .i64 fr∧∃d,wr=w.drewN d)
  (fun _ vk _ vf _=>(s.size+1-(intOf vf).toNat)*(l.length+1)+(l.length+1-(intOf vk).toNat))
 case atStart=>exact⟨0,0,0,none,Gr.start _ _,rfl,rfl,rfl,rfl,0,rfl⟩
 case round=>
  obtain⟨i,k,fr,st,hg,rfl,rfl,rfl,rfl,d,rfl⟩:=hrel
  have gi:=hg.hi
  have gk:=hg.hk
  have gf:=hg.hf
  rw[hbl.out] at gi
  have HG:=Lib.hid hg
  clear hg
  by_cases hi:i<s.size
  ·have HB:=Lib.hid (bs_get s i hi)
   by_cases hk:k<l.length
   ·obtain⟨b,off,x,rfl,_,hx,hc0,hc1,hc2⟩:=pc_cell H.out hk
    have HX:=Lib.hid hx
    obtain⟨xc,x1,xm⟩:=x
    dsimp only at hc0 hc1 hc2
    clear hx
    cases xm
    ·by_cases hh:x1=true∨xc=s[i]
     ·have HH:=Lib.hid (HG.out.hit HX.out HB.out rfl (by unfold Pc.hit;rcases hh with rfl|rfl<;>simp))
      cases x1
      ·have e:xc=s[i]:=by rcases hh with h|h;cases h;exact h
       subst e
       clear hh
       go_wp2_with fail
       go_quiet (fail)
       go_wp2_with fail
       go_roundw
       case rel=>exact⟨i+1,k+1,fr,st,HH.out,by go_num,by go_num,rfl,rfl,_,rfl⟩
       case measure=>simp only[intOf];exact gr_less (by omega) (.inl ⟨rfl,by omega⟩)
      ·clear hh
       go_wp2_with fail
       go_quiet (fail)
       go_wp2_with fail
       go_roundw
       case rel=>exact⟨i+1,k+1,fr,st,HH.out,by go_num,by go_num,rfl,rfl,_,rfl⟩
       case measure=>simp only[intOf];exact gr_less (by omega) (.inl ⟨rfl,by omega⟩)
     ·have hm:Miss l (bs s) i k:=⟨by rw[bs_len];exact hi,fun y hy=>by
       rw[HX.out] at hy
       injection hy with hy
       subst hy
       refine⟨rfl,fun b hb=>?_⟩
       rw[HB.out] at hb
       injection hb with hb
       subst hb
       unfold Pc.hit
       simp at hh⊢
       exact⟨hh.1,hh.2⟩⟩
      have e1:x1=false:=by simp at hh;exact hh.1
      subst e1
      have e2:((xc.toNat:Int)==(s[i].toNat:Int))=false:=beq_false_of_ne fun h=>hh (.inr (UInt8.toNat_inj.1 (by omega)))
      have HM:=Lib.hid hm
      clear hm hh
      cases st with
      |none=>
       rw[show stI none= -1 from rfl]
       have HF:=Lib.hid (HG.out.miss_none HM.out)
       go_wp2_with fail
       go_quiet (fail)
       go_wp2_with fail
       go_ret
       exact Told.no HF.out _ _
      |some j=>
       rw[show stI (some j)=(j:Int) from rfl]
       have HF:=Lib.hid (HG.out.miss_some HM.out)
       have hj:=HF.out.hk
       go_wp2_with fail
       go_quiet (fail)
       go_wp2_with fail
       go_roundw
       case rel=>exact⟨fr+1,j+1,fr+1,some j,HF.out,by go_num,by go_num,rfl,by go_num,_,rfl⟩
       case measure=>simp only[intOf];exact gr_less (by omega) (.inr ⟨by omega,by omega⟩)
    ·have HH:=Lib.hid (HG.out.many HX.out rfl)
     go_wp2_with fail
     go_roundw
     case rel=>exact⟨i,k+1,i,some k,HH.out,rfl,by go_num,rfl,rfl,_,rfl⟩
     case measure=>
      simp only[intOf]
      exact gr_less (by omega) (by omega)
   ·have e1:decide (k<l.length)=false:=by simpa using hk
    have HM:Hid (Miss l (bs s) i k):=Lib.hid ⟨by rw[bs_len];exact hi,fun y hy=>absurd (List.getElem?_eq_some_iff.1 hy) (fun h=>hk h.1)⟩
    have hk':l.length≤k:=by omega
    clear hk
    cases st with
    |none=>
     rw[show stI none= -1 from rfl]
     have HF:=Lib.hid (HG.out.miss_none HM.out)
     go_wp2_with fail
     go_quiet (fail)
     go_wp2_with fail
     go_ret
     exact Told.no HF.out _ _
    |some j=>
     rw[show stI (some j)=(j:Int) from rfl]
     have HF:=Lib.hid (HG.out.miss_some HM.out)
     have hj:=HF.out.hk
     go_wp2_with fail
     go_quiet (fail)
     go_wp2_with fail
     go_roundw
     case rel=>exact⟨fr+1,j+1,fr+1,some j,HF.out,by go_num,by go_num,rfl,by go_num,_,rfl⟩
     case measure=>simp only[intOf];exact gr_less (by omega) (.inr ⟨by omega,by omega⟩)
  ·obtain rfl:i=s.size:=by omega
   have HE:Hid (PM l (bs s)↔∀x∈l.drop k,x.many=true):=Lib.hid (by
    have:=HG.out
    rw[←hbl.out] at this
    exact this.end_)
   clear hi
   go_wp2_with fail
   go_loopw [6] (fun vk wr=> ∃m:Nat,k≤m∧m≤l.length∧(∀x,x∈(l.drop k).take (m-k)→x.many=true)∧vk= .int .i64 m∧∃d,wr=w.drewN d) (fun vk _=>l.length-(intOf vk).toNat)
   case atStart=>exact⟨k,Nat.le_refl _,gk,by simp,rfl,d,rfl⟩
   case round=>
    obtain⟨m,m1,m2,hm,rfl,d',rfl⟩:=hrel
    have HA:=Lib.hid hm
    clear hm
    by_cases hlt:m<l.length
    ·obtain⟨b,off,x,rfl,_,hx,hc0,hc1,hc2⟩:=pc_cell H.out hlt
     have HX:=Lib.hid hx
     obtain⟨xc,x1,xm⟩:=x
     dsimp only at hc0 hc1 hc2
     clear hx
     have ht:Hid ((l.drop k).take (m+1-k)=(l.drop k).take (m-k)++[⟨xc,x1,xm⟩]):=Lib.hid (by
      rw[show m+1-k=m-k+1 by omega,List.take_add_one,List.getElem?_drop,show k+(m-k)=m by omega,HX.out];rfl)
     cases xm
     ·have HF:Hid (¬PM l (bs s)):=Lib.hid (fun h=>by
       have:=HE.out.1 h ⟨xc,x1,false⟩ (List.mem_of_getElem? (i:=m-k) (by rw[List.getElem?_drop,show k+(m-k)=m by omega,HX.out]))
       cases this)
      have e1:((m:Int)==(l.length:Int))=false:=beq_false_of_ne (by omega)
      go_wp2_with fail
      go_ret
      exact Told.no HF.out _ _
     ·go_wp2_with fail
      go_roundw
      case rel=>
       refine⟨m+1,by omega,by omega,fun x hx=>?_,by go_num,_,rfl⟩
       rw[ht.out] at hx
       rcases List.mem_append.1 hx with hx|hx
       ·exact HA.out x hx
       ·rw[List.mem_singleton.1 hx]
      case measure=>simp[intOf];omega
    ·obtain rfl:m=l.length:=by omega
     have HF:Hid (PM l (bs s)):=Lib.hid (HE.out.2 fun x hx=>HA.out x (by rw[List.take_of_length_le (by rw[List.length_drop];omega)];exact hx))
     go_wp2_with fail
     go_ret
     exact Told.yes HF.out _ _
end
section
open Go.RowKit
def Arr (w:World) (b n:Nat) (f:Nat→Value):Prop:=∀j,j<n→w.cell? ⟨b,j,none⟩=some (f j)∧w.frozen? ⟨b,j,none⟩=false
theorem Arr.cell {w:World} {b n:Nat} {f:Nat→Value} (h:Arr w b n f) {j:Nat} (hj:j<n):w.cell? ⟨b,j,none⟩=some (f j):=(h j hj).1
theorem Arr.free {w:World} {b n:Nat} {f:Nat→Value} (h:Arr w b n f) {j:Nat} (hj:j<n):w.frozen? ⟨b,j,none⟩=false:=(h j hj).2
theorem Arr.below {w w':World} {b n B:Nat} {f:Nat→Value} (h:Arr w b n f) (hb:Below B w w') (hB:b<B):Arr w' b n f:=
 fun j hj=>⟨(hb.cell (p:=⟨b,j,none⟩) hB).trans (h j hj).1,(hb.frozen (p:=⟨b,j,none⟩) hB).trans (h j hj).2⟩
theorem Arr.other {w:World} {b n:Nat} {f:Nat→Value} (h:Arr w b n f) {p:Addr} (hp:p.block≠b) (v:Value):Arr (w.setCell p v) b n f:=fun j hj=>by
 refine⟨?_,by rw[World.frozen?_setCell];exact(h j hj).2⟩
 rw[World.cell?_setCell_other _ _ _ _ (by intro e;apply hp;rw[e])]
 exact(h j hj).1
theorem Arr.set {w:World} {b n i:Nat} {f g:Nat→Value} (h:Arr w b n f) (hi:i<n) (v:Value) (hv:g i=v) (ho:∀j,j<n→j≠i→g j=f j):Arr (w.setCell ⟨b,i,none⟩ v) b n g:=fun j hj=>by
 refine⟨?_,by rw[World.frozen?_setCell];exact(h j hj).2⟩
 by_cases e:j=i
 ·subst e
  rw[World.cell?_setCell_same _ _ _ (h j hj).1,hv]
 ·rw[World.cell?_setCell_other _ _ _ _ (by intro h;injection h;omega),(h j hj).1,ho j hj e]
theorem Arr.congr {w:World} {b n:Nat} {f g:Nat→Value} (h:Arr w b n f) (hg:∀j,j<n→g j=f j):Arr w b n g:=fun j hj=>by rw[hg j hj];exact h j hj
theorem wpList_make_arr {P:Program} {ops:Array Oper} {rest:List Oper} {o:Oper} {a:Act} {Q:Exit→Act→World→Prop} {w:World} (hgd:Region.wanted o (yielded ops a.tmps)=true) (l c:Operand) (t e:TypeId) (bytes:Nat) (z:Value)
  (hop:o.op=Op.makeSlice t l c) (ht:P.underlying t=some (.slice e)) (hi:(P.info? e).map (fun i=>(i.zero,i.size,i.bytes))=some (some z,1,bytes)) (hz:z.cells= #[z])
  {L C:Int} {n:Nat} (hl:a.eval l= .int .i64 L) (hc:a.eval c= .int .i64 C) (hL:L=(n:Int)) (hC:C=(n:Int)) (hb:bytes*n≤281474976710656) (hm:n≤maxLen)
  (k:∀w',Arr w' w.heap.size n (fun _=>z)→Below w.heap.size w w'→w'.heap.size=w.heap.size+1→wpList P ops Q rest (a.put o.dst (.slice (some ⟨w.heap.size,0,none⟩) n n)) w'):wpList P ops Q (o::rest) a w:=
 wpList_by hgd fun _ hK=>by
  obtain⟨i,hi1,hi2⟩:=Option.map_eq_some_iff.1 hi
  simp only[Prod.mk.injEq] at hi2
  obtain⟨h1,h2,h3⟩:=hi2
  subst hL hC
  have h4:((bytes*n:Nat):Int)≤281474976710656:=by omega
  have h5:(i.bytes:Int)*(n:Int)≤281474976710656:=by rw[h3];rwa [Int.natCast_mul] at h4
  have hr:=run_make (P:=P) w t e i z ht hi1 h1 .i64 .i64 n n (by omega) (Int.le_refl _) h5 (by unfold maxLen at hm;omega)
  simp only[Int.toNat_natCast,h2,Nat.mul_one] at hr
  unfold Oper.wp execOp
  simp only[hop,hl,hc,Sem.run_bind,hr,Result.andThen_ok]
  refine hK _ _ (k _ ?_ (Below.alloc (Below.refl _ _) (Nat.le_refl _) _) (by simp))
  intro j hj
  have hh:(w.alloc (.cells (madeCells z.cells n) e)).heap[w.heap.size]?=some (.cells (madeCells z.cells n) e (0,0)):=heap_alloc_new w _
  refine⟨?_,?_⟩
  ·rw[cell_of_row _ _ _ _ e (0,0) hh]
   rw[hz]
   simp[madeCells,hj,Nat.mod_one]
  ·unfold World.frozen?
   dsimp only
   rw[hh]
   simp
end
section
open Go.RowKit
def rowNext (x:Pc) (s:List UInt8) (f:Nat→Bool):Nat→Bool
 |0=>x.many&&f 0
 |j+1=>if x.many then f (j+1)||rowNext x s f j else f j&&(match s[j]? with|some b=>x.hit b|none=>false)
def RowOk (l:List Pc) (s:List UInt8) (f:Nat→Bool):Prop:=∀j,j≤s.length→(f j=true↔PM l (s.take j))
theorem RowOk.start (s:List UInt8):RowOk [] s (fun j=>decide (j=0)):=fun j hj=>by
 rw[PM_nil]
 constructor
 ·intro h
  have:j=0:=by simpa using h
  subst this;rfl
 ·intro h
  have:=congrArg List.length h
  rw[List.length_take,List.length_nil] at this
  have:j=0:=by omega
  simp[this]
theorem RowOk.next {l:List Pc} {s:List UInt8} {f:Nat→Bool} (h:RowOk l s f) (x:Pc):RowOk (l++[x]) s (rowNext x s f):=by
 intro j
 induction j with
 | zero=>
  intro _
  have h0:=h 0 (by omega)
  rw[List.take_zero] at h0⊢
  cases hm:x.many with
  |true=>
   rw[PM_snoc_many hm]
   simp only[rowNext,hm,Bool.true_and,h0]
   constructor
   ·intro hp;exact⟨0,by omega,by simpa using hp⟩
   ·rintro⟨n,hn,hp⟩;simpa using hp
  |false=>
   simp only[rowNext,hm,Bool.false_and]
   constructor
   ·intro hp;cases hp
   ·intro hp;exact absurd hp (PM_snoc_nil hm l)
 | succ j ih=>
  intro hj
  have ih:=ih (by omega)
  have hb:s[j]?=some s[j]:=List.getElem?_eq_getElem (by omega)
  cases hm:x.many with
  | true=>
   rw[PM_snoc_many hm] at ih⊢
   simp only[rowNext,hm,if_true,Bool.or_eq_true,ih,h (j+1) hj]
   constructor
   ·rintro(hp|⟨n,hn,hp⟩)
    ·exact⟨(s.take (j+1)).length,Nat.le_refl _,by rw[List.take_of_length_le (Nat.le_refl _)];exact hp⟩
    ·rw[List.length_take] at hn
     refine⟨n,by rw[List.length_take];omega,?_⟩
     rw[List.take_take] at hp⊢
     rw[show min n (j+1)=n by omega]
     rw[show min n j=n by omega] at hp
     exact hp
   ·rintro⟨n,hn,hp⟩
    rw[List.length_take] at hn
    by_cases e:n=j+1
    ·left
     rw[e,List.take_take,Nat.min_self] at hp
     exact hp
    ·right
     refine⟨n,by rw[List.length_take];omega,?_⟩
     rw[List.take_take] at hp⊢
     rw[show min n j=n by omega]
     rw[show min n (j+1)=n by omega] at hp
     exact hp
  |false=>
   rw[List.take_add_one,hb]
   show _↔PM (l++[x]) (s.take j++[s[j]])
   rw[PM_snoc_one hm]
   have h1:=h j (by omega)
   simp only[rowNext,hm,hb]
   rw[←h1]
   simp
theorem next_many0 {x:Pc} {s:List UInt8} {f:Nat→Bool} (hm:x.many=true):rowNext x s f 0=f 0:=by simp[rowNext,hm]
theorem next_many {x:Pc} {s:List UInt8} {f:Nat→Bool} {i:Nat} (hm:x.many=true) (hi:0<i):rowNext x s f i=(f i||rowNext x s f (i-1)):=by
 obtain⟨m,rfl⟩:∃m,i=m+1:=⟨i-1,by omega⟩
 simp[rowNext,hm]
theorem next_one0 {x:Pc} {s:List UInt8} {f:Nat→Bool} (hm:x.many=false):rowNext x s f 0=false:=by simp[rowNext,hm]
theorem next_one {x:Pc} {s:List UInt8} {f:Nat→Bool} {i:Nat} {b:UInt8} (hm:x.many=false) (hi:0<i) (hb:s[i-1]?=some b):rowNext x s f i=(f (i-1)&&x.hit b):=by
 obtain⟨m,rfl⟩:∃m,i=m+1:=⟨i-1,by omega⟩
 simp at hb
 simp[rowNext,hm,hb]
def upB (g:Nat→Bool) (i:Nat) (j:Nat):Value:= .bool (if j<i then g j else false)
def rowB (f:Nat→Bool) (j:Nat):Value:= .bool (f j)
theorem Arr.step {w:World} {b n i:Nat} {g:Nat→Bool} (h:Arr w b n (upB g i)) (hi:i<n) (v:Bool) (hv:g i=v):Arr (w.setCell ⟨b,i,none⟩ (.bool v)) b n (upB g (i+1)):=
 h.set hi _ (by simp[upB,hv]) (fun j hj hne=>by
  unfold upB
  by_cases hji:j<i
  ·rw[if_pos hji,if_pos (by omega)]
  ·rw[if_neg hji,if_neg (by omega)])
theorem Arr.stay {w:World} {b n:Nat} {g:Nat→Bool} (h:Arr w b n (upB g 0)) (hv:g 0=false):Arr w b n (upB g (0+1)):=
 h.congr fun j hj=>by
  unfold upB
  by_cases e:j=0
  ·subst e;simp[hv]
  ·rw[if_neg (by omega),if_neg (by omega)]
theorem Arr.done {w:World} {b n:Nat} {g:Nat→Bool} (h:Arr w b n (upB g n)):Arr w b n (rowB g):=h.congr fun j hj=>by unfold upB rowB;rw[if_pos hj]
theorem Arr.fresh {w:World} {b n:Nat} (h:Arr w b n (fun _=> .bool false)) (g:Nat→Bool):Arr w b n (upB g 0):=h.congr fun j hj=>by unfold upB;rw[if_neg (by omega)]
theorem info_bool:(Tryz.prog.info? 4).map (fun i=>(i.zero,i.size,i.bytes))=some (some (.bool false),1,1):=by kernel_rfl
def FitPost (s p:ByteArray) (w:World) (e:Ending) (w':World):Prop:=∃b,e= .returned (.bool b)∧(b=true↔PM (piecesOf (bs p)) (bs s))∧Below w.heap.size w w'
end
end Go.Proofs.YtidldcfpmehpiaaGreatDoor
