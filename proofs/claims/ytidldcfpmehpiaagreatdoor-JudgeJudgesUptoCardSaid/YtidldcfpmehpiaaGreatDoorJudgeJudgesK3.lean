/- Texts that the law JudgeJudges rests on, packed. -/
import Derived.Test.YtidldcfpmehpiaaGreatDoorJudgeJudgesK2
import Derived.Lib.Index
import Derived.Lib.IndexMore
import Derived.RangeFuncNested
import Derived.RangeFuncBound
import Derived.RangeFuncCalls
import Derived.RangeFuncLeaves
import Derived.RangeFuncBox
import Derived.Shelf.Abstract
import Derived.Shelf.RegionOpen
import Derived.WalkKit
import Derived.OwnWalkIn
import Derived.TacticsInMore
import Derived.LoopNIn
import Derived.LoopIn
import Derived.Test.YtidldcfpmehpiaaGreatDoorGD
import Derived.Maps.AppendAt
import Derived.Outline
import Derived.Test.YtidldcfpmehpiaaGreatDoorGB
import Derived.Test.YtidldcfpmehpiaaGreatDoorJudgeJudgesK1
import Derived.Test.YtidldcfpmehpiaaGreatDoorJudgeJudgesK0
import Derived.Test.YtidldcfpmehpiaaGreatDoorGC
set_option linter.unusedSimpArgs false
set_option linter.unusedVariables false
set_option maxRecDepth 20000
set_option maxHeartbeats 4000000
namespace Go.Proofs.YtidldcfpmehpiaaGreatDoor
section
open Go.RowKit
theorem fits_any (s p:ByteArray) (w:World) (hs:s.size≤2000) (hp:p.size≤100):
  Calls Tryz.prog 225 #[.string s,.string p] w (FitPost s p w):=by
 have hbl:=Lib.hid (bs_len s)
 have hbp:=Lib.hid (bs_len p)
 go_enter Tryz.func225,Tryz.ntmps225
 go_wp2_with (refine wpList_make_arr rfl _ _ 313 4 1 (.bool false) rfl Tryz.underlying313 info_bool rfl rfl rfl (n:=s.size+1) (by omega) (by omega) (by omega) (by unfold maxLen;omega) ?_;intro w1 a1 b1 z1;have HA1:=Lib.hid a1;have c0:=a1.cell (j:=0) (by omega);have f0:=a1.free (j:=0) (by omega);clear a1)
 go_loopw [5,6] (fun vn vk wr=> ∃(k:Nat) (L:List Pc) (b:Nat) (f:Nat→Bool),k≤p.size∧piecesOf (bs p)=L++piecesOf ((bs p).drop k)∧RowOk L (bs s) f∧vk= .int .i64 k∧vn= .slice (some ⟨b,0,none⟩) (s.size+1) (s.size+1)∧w.heap.size≤b∧b<wr.heap.size∧Arr wr b (s.size+1) (rowB f)∧Below w.heap.size w wr)
  (fun _ vk _=>p.size-(intOf vk).toNat)
 case atStart=>exact⟨0,[],w.heap.size,fun j=>decide (j=0),by omega,rfl,RowOk.start _,rfl,rfl,Nat.le_refl _,by simp;omega,HA1.out.set (by omega) _ (by simp[rowB]) (fun j hj hne=>by simp[rowB,hne]),b1.setCell (by simp) _⟩
 case round=>
  obtain⟨k,L,b,f,hk,hpl,hf,rfl,rfl,hbase,hbs,ha,hb⟩:=hrel
  have A0:=Lib.hid ha
  have B0:=Lib.hid hb
  have HL:=Lib.hid hpl
  have HF:=Lib.hid hf
  clear ha hb hpl hf HA1 c0 f0 b1 z1 w1
  by_cases hlt:k<p.size
  ·have hpk:=bs_get p k hlt
   have hdk:=Lib.hid (drop_at hpk)
   by_cases hesc:p[k].toNat=92∧k+1<p.size
   ·obtain⟨e1,e2⟩:=hesc
    obtain⟨x,hx⟩:∃x:Pc,x=⟨p[k+1],false,false⟩:=⟨_,rfl⟩
    have hfx:=Lib.hid (HF.out.next x)
    have hl2:Hid (piecesOf (bs p)=(L++[x])++piecesOf ((bs p).drop (k+2))):=Lib.hid (by
     rw[HL.out,hdk.out,drop_at (bs_get p (k+1) e2),pieces_esc _ _ _ e1,hx,List.append_assoc];rfl)
    have hmy:=Lib.hid (show x.many=false by rw[hx])
    have hone:=Lib.hid (show x.one=false by rw[hx])
    obtain⟨cc,hcc0⟩:∃c:UInt8,c=p[k+1]:=⟨_,rfl⟩
    have hcc:=Lib.hid (show x.c=cc by rw[hx,hcc0])
    have t1:((p[k].toNat:Int)==92)=true:=by rw[e1];rfl
    have t3:((p[k].toNat:Int)==42)=false:=by rw[e1];rfl
    have t4:((p[k].toNat:Int)==63)=false:=by rw[e1];rfl
    have t2:(k:Int)+1<p.size:=by omega
    have e1':=Lib.hid e1
    have HCC:=Lib.hid hcc0.symm
    clear hx e1 hpk hcc0
    go_wp2_with (refine wpList_make_arr rfl _ _ 313 4 1 (.bool false) rfl Tryz.underlying313 info_bool rfl rfl rfl (n:=s.size+1) (by omega) (by omega) (by omega) (by unfold maxLen;omega) ?_;intro w2 a2 bb2 zz2;have HA2:=Lib.hid a2;have HB2:=Lib.hid bb2;have HZ2:=Lib.hid zz2;clear a2 bb2 zz2)
    have HA1:=Lib.hid (A0.out.below HB2.out hbs)
    have HB:=Lib.hid (B0.out.trans (HB2.out.mono B0.out.size))
    obtain⟨z2,hz2'⟩:∃z,z=w2.heap.size:=⟨_,rfl⟩
    have hz2:=Lib.hid hz2'.symm
    have hz3:z2=wr.heap.size+1:=by have:=HZ2.out;omega
    obtain⟨b2,hb2⟩:∃q,q=wr.heap.size:=⟨_,rfl⟩
    rw[←hb2] at HA2⊢
    have hb3:b2+1=z2∧b<b2∧w.heap.size≤b2:=by omega
    clear hz2' hb2 hz3
    rw[HCC.out]
    clear t1 t2 t3 t4 e1' HCC
    go_loopw [11] (fun vi wr'=> ∃i:Nat,i≤s.size+1∧vi= .int .i64 i∧Arr wr' b (s.size+1) (rowB f)∧Arr wr' b2 (s.size+1) (upB (rowNext x (bs s) f) i)∧Below w.heap.size w wr'∧wr'.heap.size=z2) (fun vi _=>s.size+1-(intOf vi).toNat)
    case atStart=>exact⟨0,by omega,rfl,HA1.out,HA2.out.fresh _,HB.out,hz2⟩
    case round=>
     obtain⟨i,hi,rfl,ha,ha2,hb',hz⟩:=hrel
     have A1:=Lib.hid ha
     have A2:=Lib.hid ha2
     have BB:=Lib.hid hb'
     have ZZ:=Lib.hid hz
     clear ha ha2 hb' hz
     by_cases hle:i≤s.size
     ·have fr2:=A2.out.free (j:=i) (by omega)
      have old2:=A2.out.cell (j:=i) (by omega)
      obtain⟨ov,hov⟩:∃v,v=upB (rowNext x (bs s) f) i i:=⟨_,rfl⟩
      rw[←hov] at old2
      clear hov
      by_cases h0:i=0
      ·subst h0
       have HV:=Lib.hid (next_one0 (s:=bs s) (f:=f) hmy.out)
       go_wp2_with fail
       go_roundw
       case rel=>exact⟨0+1,by omega,by go_num,A1.out,A2.out.stay HV.out,BB.out,ZZ.out⟩
       case measure=>first|(simp[intOf];done)|(simp[intOf];omega)
      ·have i1:0<i:=by omega
       have ie:((i:Int)-1).toNat=i-1:=by omega
       have ig:(1:Int)≤i:=by omega
       have il:(i:Int)-1<s.size:=by omega
       clear h0
       have c1:=A1.out.cell (j:=i-1) (by omega)
       unfold rowB at c1
       have hsb:=bs_get s (i-1) (by omega)
       have HN:=Lib.hid (next_one (s:=bs s) (f:=f) hmy.out i1 hsb)
       have HSB:=Lib.hid hsb
       clear hsb
       cases hf:f (i-1)
       ·rw[hf] at c1 HN
        have HV:Hid (rowNext x (bs s) f i=false):=Lib.hid (HN.out)
        go_wp2_with fail
        go_roundw
        case rel=>exact⟨i+1,by omega,by go_num,A1.out.other (by simp;omega) _,A2.out.step (by omega) _ HV.out,BB.out.setCell (by simp;omega) _,by simpa using ZZ.out⟩
        case measure=>first|(simp[intOf];done)|(simp[intOf];omega)
       ·rw[hf] at c1 HN
        by_cases hh:x.hit s[i-1]=true
        ·rw[hh] at HN
         have q2:(((s[i-1]'(by omega)).toNat:Int)==(cc.toNat:Int))=true:=by
          unfold Pc.hit at hh
          rw[hone.out,hcc.out] at hh
          have:cc=s[i-1]:=by simpa using hh
          rw[this];simp
         clear hh
         have HV:Hid (rowNext x (bs s) f i=true):=Lib.hid (HN.out)
         go_wp2_with fail
         go_roundw
         case rel=>exact⟨i+1,by omega,by go_num,A1.out.other (by simp;omega) _,A2.out.step (by omega) _ HV.out,BB.out.setCell (by simp;omega) _,by simpa using ZZ.out⟩
         case measure=>first|(simp[intOf];done)|(simp[intOf];omega)
        ·have hh':x.hit s[i-1]=false:=by simpa using hh
         rw[hh'] at HN
         have q1:x.one=false:=by unfold Pc.hit at hh';simp at hh';exact hh'.1
         have q2:(((s[i-1]'(by omega)).toNat:Int)==(x.c.toNat:Int))=false:=by unfold Pc.hit at hh';simp at hh';exact beq_false_of_ne fun h=>hh'.2 (UInt8.toNat_inj.1 (by omega))
         clear hh hh'
         rw[hone.out] at q1
         rw[hcc.out] at q2
         clear q1
         have HV:Hid (rowNext x (bs s) f i=false):=Lib.hid (HN.out)
         go_wp2_with fail
         go_roundw
         case rel=>exact⟨i+1,by omega,by go_num,A1.out.other (by simp;omega) _,A2.out.step (by omega) _ HV.out,BB.out.setCell (by simp;omega) _,by simpa using ZZ.out⟩
         case measure=>first|(simp[intOf];done)|(simp[intOf];omega)
     ·obtain rfl:i=s.size+1:=by omega
      have AD:=Lib.hid A2.out.done
      go_wp2_with fail
      go_roundw
      case rel=>exact⟨k+2,L++[x],b2,rowNext x (bs s) f,by omega,hl2.out,hfx.out,by go_num,rfl,by have:=BB.out.size;omega,by have:=ZZ.out;omega,AD.out,BB.out⟩
      case measure=>first|(simp[intOf];done)|(simp[intOf];omega)
   ·obtain⟨x,hx⟩:∃x:Pc,x=plainPc p[k]:=⟨_,rfl⟩
    have hfx:=Lib.hid (HF.out.next x)
    have hl2:Hid (piecesOf (bs p)=(L++[x])++piecesOf ((bs p).drop (k+1))):=Lib.hid (by
     rw[HL.out,hdk.out,pieces_plain _ _ (by
      by_cases e:p[k].toNat=92
      ·right
       rw[List.drop_eq_nil_of_le (by rw[hbp.out];omega)]
      ·exact .inl e),hx,List.append_assoc];rfl)
    obtain⟨st,hst⟩:∃q:Bool,((p[k].toNat:Int)==42)=q:=⟨_,rfl⟩
    obtain⟨an,han⟩:∃q:Bool,((p[k].toNat:Int)==63)=q:=⟨_,rfl⟩
    have hmy:=Lib.hid (show x.many=st by rw[hx,←hst];unfold plainPc;rw[Bool.eq_iff_iff];simp;omega)
    have hone:=Lib.hid (show x.one=an by rw[hx,←han];unfold plainPc;rw[Bool.eq_iff_iff];simp;omega)
    obtain⟨cc,hcc0⟩:∃c:UInt8,c=p[k]:=⟨_,rfl⟩
    have hcc:=Lib.hid (show x.c=cc by rw[hx,hcc0];rfl)
    have HCC:=Lib.hid hcc0.symm
    clear hx hpk hcc0
    have hne:((p[k].toNat:Int)==92)=false∨(((p[k].toNat:Int)==92)=true∧¬((k:Int)+1<p.size)):=by
     by_cases e:p[k].toNat=92
     ·right;exact⟨by rw[e];rfl,by omega⟩
     ·left;exact beq_false_of_ne (by omega)
    clear hesc
    rcases hne with t1|⟨t1,t2⟩
    all_goals
     go_wp2_with (refine wpList_make_arr rfl _ _ 313 4 1 (.bool false) rfl Tryz.underlying313 info_bool rfl rfl rfl (n:=s.size+1) (by omega) (by omega) (by omega) (by unfold maxLen;omega) ?_;intro w2 a2 bb2 zz2;have HA2:=Lib.hid a2;have HB2:=Lib.hid bb2;have HZ2:=Lib.hid zz2;clear a2 bb2 zz2)
     have HA1:=Lib.hid (A0.out.below HB2.out hbs)
     have HB:=Lib.hid (B0.out.trans (HB2.out.mono B0.out.size))
     obtain⟨z2,hz2'⟩:∃z,z=w2.heap.size:=⟨_,rfl⟩
     have hz2:=Lib.hid hz2'.symm
     have hz3:z2=wr.heap.size+1:=by have:=HZ2.out;omega
     obtain⟨b2,hb2⟩:∃q,q=wr.heap.size:=⟨_,rfl⟩
     rw[←hb2] at HA2⊢
     have hb3:b2+1=z2∧b<b2∧w.heap.size≤b2:=by omega
     clear hz2' hb2 hz3
     rw[HCC.out]
     clear t1 hst han HCC
     cases st
     ·
      go_loopw [11] (fun vi wr'=> ∃i:Nat,i≤s.size+1∧vi= .int .i64 i∧Arr wr' b (s.size+1) (rowB f)∧Arr wr' b2 (s.size+1) (upB (rowNext x (bs s) f) i)∧Below w.heap.size w wr'∧wr'.heap.size=z2) (fun vi _=>s.size+1-(intOf vi).toNat)
      case atStart=>exact⟨0,by omega,rfl,HA1.out,HA2.out.fresh _,HB.out,hz2⟩
      case round=>
       obtain⟨i,hi,rfl,ha,ha2,hb',hz⟩:=hrel
       have A1:=Lib.hid ha
       have A2:=Lib.hid ha2
       have BB:=Lib.hid hb'
       have ZZ:=Lib.hid hz
       clear ha ha2 hb' hz
       by_cases hle:i≤s.size
       ·have fr2:=A2.out.free (j:=i) (by omega)
        have old2:=A2.out.cell (j:=i) (by omega)
        obtain⟨ov,hov⟩:∃v,v=upB (rowNext x (bs s) f) i i:=⟨_,rfl⟩
        rw[←hov] at old2
        clear hov
        by_cases h0:i=0
        ·subst h0
         have HV:=Lib.hid (next_one0 (s:=bs s) (f:=f) hmy.out)
         go_wp2_with fail
         go_roundw
         case rel=>exact⟨0+1,by omega,by go_num,A1.out,A2.out.stay HV.out,BB.out,ZZ.out⟩
         case measure=>first|(simp[intOf];done)|(simp[intOf];omega)
        ·have i1:0<i:=by omega
         have ie:((i:Int)-1).toNat=i-1:=by omega
         have ig:(1:Int)≤i:=by omega
         have il:(i:Int)-1<s.size:=by omega
         clear h0
         have c1:=A1.out.cell (j:=i-1) (by omega)
         unfold rowB at c1
         have hsb:=bs_get s (i-1) (by omega)
         have HN:=Lib.hid (next_one (s:=bs s) (f:=f) hmy.out i1 hsb)
         have HSB:=Lib.hid hsb
         clear hsb
         cases hf:f (i-1)
         ·rw[hf] at c1 HN
          have HV:Hid (rowNext x (bs s) f i=false):=Lib.hid (HN.out)
          go_wp2_with fail
          go_roundw
          case rel=>exact⟨i+1,by omega,by go_num,A1.out.other (by simp;omega) _,A2.out.step (by omega) _ HV.out,BB.out.setCell (by simp;omega) _,by simpa using ZZ.out⟩
          case measure=>first|(simp[intOf];done)|(simp[intOf];omega)
         ·rw[hf] at c1 HN
          by_cases hh:x.hit s[i-1]=true
          ·rw[hh] at HN
           cases an
           ·have q2:(((s[i-1]'(by omega)).toNat:Int)==(cc.toNat:Int))=true:=by
             unfold Pc.hit at hh
             rw[hone.out,hcc.out] at hh
             have:cc=s[i-1]:=by simpa using hh
             rw[this];simp
            clear hh
            have HV:Hid (rowNext x (bs s) f i=true):=Lib.hid (HN.out)
            go_wp2_with fail
            go_roundw
            case rel=>exact⟨i+1,by omega,by go_num,A1.out.other (by simp;omega) _,A2.out.step (by omega) _ HV.out,BB.out.setCell (by simp;omega) _,by simpa using ZZ.out⟩
            case measure=>first|(simp[intOf];done)|(simp[intOf];omega)
           ·clear hh
            have HV:Hid (rowNext x (bs s) f i=true):=Lib.hid (HN.out)
            go_wp2_with fail
            go_roundw
            case rel=>exact⟨i+1,by omega,by go_num,A1.out.other (by simp;omega) _,A2.out.step (by omega) _ HV.out,BB.out.setCell (by simp;omega) _,by simpa using ZZ.out⟩
            case measure=>first|(simp[intOf];done)|(simp[intOf];omega)
          ·have hh':x.hit s[i-1]=false:=by simpa using hh
           rw[hh'] at HN
           have q1:x.one=false:=by unfold Pc.hit at hh';simp at hh';exact hh'.1
           have q2:(((s[i-1]'(by omega)).toNat:Int)==(x.c.toNat:Int))=false:=by unfold Pc.hit at hh';simp at hh';exact beq_false_of_ne fun h=>hh'.2 (UInt8.toNat_inj.1 (by omega))
           clear hh hh'
           rw[hone.out] at q1
           rw[hcc.out] at q2
           subst q1
           have HV:Hid (rowNext x (bs s) f i=false):=Lib.hid (HN.out)
           go_wp2_with fail
           go_roundw
           case rel=>exact⟨i+1,by omega,by go_num,A1.out.other (by simp;omega) _,A2.out.step (by omega) _ HV.out,BB.out.setCell (by simp;omega) _,by simpa using ZZ.out⟩
           case measure=>first|(simp[intOf];done)|(simp[intOf];omega)
       ·obtain rfl:i=s.size+1:=by omega
        have AD:=Lib.hid A2.out.done
        go_wp2_with fail
        go_roundw
        case rel=>exact⟨k+1,L++[x],b2,rowNext x (bs s) f,by omega,hl2.out,hfx.out,by go_num,rfl,by have:=BB.out.size;omega,by have:=ZZ.out;omega,AD.out,BB.out⟩
        case measure=>first|(simp[intOf];done)|(simp[intOf];omega)
     ·
      go_loopw [11] (fun vi wr'=> ∃i:Nat,i≤s.size+1∧vi= .int .i64 i∧Arr wr' b (s.size+1) (rowB f)∧Arr wr' b2 (s.size+1) (upB (rowNext x (bs s) f) i)∧Below w.heap.size w wr'∧wr'.heap.size=z2) (fun vi _=>s.size+1-(intOf vi).toNat)
      case atStart=>exact⟨0,by omega,rfl,HA1.out,HA2.out.fresh _,HB.out,hz2⟩
      case round=>
       obtain⟨i,hi,rfl,ha,ha2,hb',hz⟩:=hrel
       have A1:=Lib.hid ha
       have A2:=Lib.hid ha2
       have BB:=Lib.hid hb'
       have ZZ:=Lib.hid hz
       clear ha ha2 hb' hz
       by_cases hle:i≤s.size
       ·have fr2:=A2.out.free (j:=i) (by omega)
        have old2:=A2.out.cell (j:=i) (by omega)
        obtain⟨ov,hov⟩:∃v,v=upB (rowNext x (bs s) f) i i:=⟨_,rfl⟩
        rw[←hov] at old2
        clear hov
        by_cases h0:i=0
        ·subst h0
         have c1:=A1.out.cell (j:=0) (by omega)
         unfold rowB at c1
         have HN:=Lib.hid (next_many0 (s:=bs s) (f:=f) hmy.out)
         cases hf:f 0
         ·rw[hf] at c1 HN
          have HV:Hid (rowNext x (bs s) f 0=false):=Lib.hid (HN.out)
          go_wp2_with fail
          go_roundw
          case rel=>exact⟨0+1,by omega,by go_num,A1.out.other (by simp;omega) _,A2.out.step (by omega) _ HV.out,BB.out.setCell (by simp;omega) _,by simpa using ZZ.out⟩
          case measure=>first|(simp[intOf];done)|(simp[intOf];omega)
         ·rw[hf] at c1 HN
          have HV:Hid (rowNext x (bs s) f 0=true):=Lib.hid (HN.out)
          go_wp2_with fail
          go_roundw
          case rel=>exact⟨0+1,by omega,by go_num,A1.out.other (by simp;omega) _,A2.out.step (by omega) _ HV.out,BB.out.setCell (by simp;omega) _,by simpa using ZZ.out⟩
          case measure=>first|(simp[intOf];done)|(simp[intOf];omega)
        ·have i1:0<i:=by omega
         have ie:((i:Int)-1).toNat=i-1:=by omega
         have ig:(1:Int)≤i:=by omega
         have il:(i:Int)-1<s.size:=by omega
         clear h0
         have c1:=A1.out.cell (j:=i) (by omega)
         have c2:=A2.out.cell (j:=i-1) (by omega)
         unfold rowB at c1
         unfold upB at c2
         rw[if_pos (by omega)] at c2
         have HN:=Lib.hid (next_many (s:=bs s) (f:=f) hmy.out i1)
         cases hf:f i
         ·rw[hf] at c1 HN
          cases hg:rowNext x (bs s) f (i-1)
          ·rw[hg] at c2 HN
           clear hg
           have HV:Hid (rowNext x (bs s) f i=false):=Lib.hid (HN.out)
           go_wp2_with fail
           go_roundw
           case rel=>exact⟨i+1,by omega,by go_num,A1.out.other (by simp;omega) _,A2.out.step (by omega) _ HV.out,BB.out.setCell (by simp;omega) _,by simpa using ZZ.out⟩
           case measure=>first|(simp[intOf];done)|(simp[intOf];omega)
          ·rw[hg] at c2 HN
           clear hg
           have HV:Hid (rowNext x (bs s) f i=true):=Lib.hid (HN.out)
           go_wp2_with fail
           go_roundw
           case rel=>exact⟨i+1,by omega,by go_num,A1.out.other (by simp;omega) _,A2.out.step (by omega) _ HV.out,BB.out.setCell (by simp;omega) _,by simpa using ZZ.out⟩
           case measure=>first|(simp[intOf];done)|(simp[intOf];omega)
         ·rw[hf] at c1 HN
          clear c2
          have HV:Hid (rowNext x (bs s) f i=true):=Lib.hid (HN.out)
          go_wp2_with fail
          go_roundw
          case rel=>exact⟨i+1,by omega,by go_num,A1.out.other (by simp;omega) _,A2.out.step (by omega) _ HV.out,BB.out.setCell (by simp;omega) _,by simpa using ZZ.out⟩
          case measure=>first|(simp[intOf];done)|(simp[intOf];omega)
       ·obtain rfl:i=s.size+1:=by omega
        have AD:=Lib.hid A2.out.done
        go_wp2_with fail
        go_roundw
        case rel=>exact⟨k+1,L++[x],b2,rowNext x (bs s) f,by omega,hl2.out,hfx.out,by go_num,rfl,by have:=BB.out.size;omega,by have:=ZZ.out;omega,AD.out,BB.out⟩
        case measure=>first|(simp[intOf];done)|(simp[intOf];omega)
  ·obtain rfl:k=p.size:=by omega
   have HR:Hid (f s.size=true↔PM (piecesOf (bs p)) (bs s)):=Lib.hid (by
    have h1:=HL.out
    rw[List.drop_eq_nil_of_le (by rw[hbp.out];omega),pieces_nil,List.append_nil] at h1
    rw[h1,HF.out s.size (by rw[hbl.out];omega),List.take_of_length_le (by rw[hbl.out];omega)])
   have c1:=A0.out.cell (j:=s.size) (by omega)
   unfold rowB at c1
   obtain⟨r,hr⟩:∃r,r=f s.size:=⟨_,rfl⟩
   rw[←hr] at c1 HR
   clear hr
   go_wp2_with fail
   go_ret
   exact⟨r,rfl,HR.out,B0.out⟩
end
section
open Go.RowKit
def AtIn (s p:ByteArray) (i:Nat):Prop:=i+p.size≤s.size∧s.extract i (i+p.size)=p
theorem inside_any (s p:ByteArray) (w:World) (hs:s.size≤1000000) (hp:p.size≤1000000):
  Calls Tryz.prog 224 #[.string s,.string p] w (Told (∃i,AtIn s p i) w):=by
 go_enter Tryz.func224,Tryz.ntmps224
 go_wp2_with fail
 go_loop [5] (fun vi=> ∃i:Nat,i≤s.size+1∧vi= .int .i64 i∧∀j,j<i→¬AtIn s p j) (fun vi=>s.size+1-(intOf vi).toNat)
 case atStart=>exact⟨0,by omega,rfl,fun j hj=>by omega⟩
 case round=>
  obtain⟨i,hi,rfl,hn⟩:=hrel
  have HN:=Lib.hid hn
  clear hn
  by_cases hle:i+p.size≤s.size
  ·have q1:(i:Int)+p.size≤s.size:=by omega
   by_cases he:s.extract i (i+p.size)=p
   ·have HE:Hid (∃i,AtIn s p i):=Lib.hid ⟨i,hle,he⟩
    have q2:((s.extract i (i+p.size)).toList==p.toList)=true:=by rw[he];simp
    clear he
    go_wp2_with fail
    go_ret
    exact Told.yes HE.out _ 0
   ·have HE:=Lib.hid he
    have q2:=text_ne he
    clear he
    go_wp2_with fail
    go_round
    case rel=>
     refine⟨i+1,by omega,by go_num,fun j hj=>?_⟩
     by_cases e:j=i
     ·subst e
      exact fun h=>HE.out h.2
     ·exact HN.out j (by omega)
    case measure=>simp[intOf];omega
  ·have q1:¬((i:Int)+p.size≤s.size):=by omega
   have HE:Hid (¬∃i,AtIn s p i):=Lib.hid (by
    rintro⟨j,hj⟩
    by_cases e:j<i
    ·exact HN.out j e hj
    ·have:=hj.1;omega)
   go_wp2_with fail
   go_ret
   exact Told.no HE.out _ 0
theorem AtIn_iff (s p:ByteArray) (i:Nat):AtIn s p i↔i+p.size≤s.size∧Lib.occAt (bs s) (bs p) i=true:=by
 unfold AtIn
 constructor
 ·rintro⟨h1,h2⟩
  refine⟨h1,?_⟩
  rw[Lib.occAt_iff_take _ _ _ (by rw[bs_len,bs_len];exact h1),beq_iff_eq,bs_len]
  have:=congrArg bs h2
  unfold bs at this⊢
  rw[Lib.extract_data] at this
  rw[show i+p.size-i=p.size by omega] at this
  exact this
 ·rintro⟨h1,h2⟩
  refine⟨h1,?_⟩
  rw[Lib.occAt_iff_take _ _ _ (by rw[bs_len,bs_len];exact h1),beq_iff_eq,bs_len] at h2
  apply bs_inj
  unfold bs at h2⊢
  rw[Lib.extract_data]
  rw[show i+p.size-i=p.size by omega]
  exact h2
theorem contains_iff (s p:ByteArray):Lib.contains (bs s) (bs p)=true↔∃i,AtIn s p i:=by
 unfold Lib.contains
 rw[decide_eq_true_eq]
 rcases Lib.index_spec (bs s) (bs p) with⟨h1,h2⟩|⟨i,h1,h2,h3,_⟩
 ·rw[h1]
  refine⟨fun h=>by omega,?_⟩
  rintro⟨j,hj⟩
  obtain⟨h4,h5⟩:=(AtIn_iff s p j).1 hj
  rw[h2 j (by rw[bs_len];omega)] at h5
  cases h5
 ·refine⟨fun _=>⟨i,(AtIn_iff s p i).2 ⟨?_,h3⟩⟩,fun _=>by omega⟩
  rcases Lib.occAt_room h3 with h|h
  ·rw[bs_len,bs_len] at h;exact h
  ·have:p.size=0:=by rw[←bs_len,h];rfl
   rw[bs_len] at h2
   omega
end
section
open Go.RowKit
open Go.Shelf
attribute [local go_sem] Oper.semAt_some
def pcEnc (x:Pc):Array Value:= #[.agg #[.int .u8 x.c.toNat,.bool x.one,.bool x.many]]
def KeepB (b:Nat) (W W':World):Prop:=W'.heap[b]?=W.heap[b]?∧W.heap.size≤W'.heap.size
theorem KeepB.refl (b:Nat) (W:World):KeepB b W W:=⟨rfl,Nat.le_refl _⟩
theorem KeepB.trans {b:Nat} {A B C:World} (h:KeepB b A B) (k:KeepB b B C):KeepB b A C:=⟨k.1.trans h.1,Nat.le_trans h.2 k.2⟩
theorem KeepB.of_below {b B:Nat} {W W':World} (h:Below B W W') (hb:b<B):KeepB b W W':=⟨h.block b hb,h.size⟩
theorem grown_new (w:World) (o:Obj):w.grownBy (w.alloc o).drew none:=
 have h:=World.grownBy_alloc w o none
 ⟨h.os,h.tape,h.output,h.size,h.block⟩
set_option maxRecDepth 100000 in
theorem pieces1_in (n:Nat) (hn:1≤n) (l Bp:Nat) (p:ByteArray) (hp:p.size≤100) (J Jx:List Pc→World→Prop)
  (hJ:∀s A B,J s A→A.grownBy B none→J s B)
  (hY:∀pre x W,J pre W→pre.length<p.size→YieldAt Fence.wide (n-1) Tryz.prog l (pcEnc x) W fun e W'=>
   (e= .returned (.bool true)∧J (pre++[x]) W'∧KeepB Bp W W')∨(e= .returned (.bool false)∧Jx (pre++[x]) W'))
  (W:World) (hc:W.cell? ⟨Bp,0,none⟩=some (.string p)) (h0:J [] W):
  CallsIn Fence.wide n Tryz.prog 283 #[.func (.yield l) #[] #[],.pointer (some ⟨Bp,0,none⟩)] W fun e W'=>(∃v,e= .returned v)∧
   ((∃ys,ys=piecesOf (bs p)∧J ys W')∨(∃pre,True∧Jx pre W')):=by
 refine callsIn_of_wp Tryz.func283 rfl trivial ?_ rfl
 simp only[Tryz.ntmps283,List.size_toArray,List.length_cons,List.length_nil,Nat.reduceAdd,Nat.reduceSub,Array.replicate_succ,Array.replicate_zero,List.push_toArray,List.append_toArray,List.nil_append,List.cons_append]
 have hbp:=Lib.hid (bs_len p)
 gi_wp2
 gi_loopw [3] (fun i wr=> ∃(k:Nat) (pre:List Pc),k≤p.size∧i= .int .i64 k∧piecesOf (bs p)=pre++piecesOf ((bs p).drop k)∧pre.length≤k∧J pre wr∧KeepB Bp W wr)
  (fun i _=>p.size-(intOf i).toNat)
 case atStart=>exact⟨0,[],by omega,rfl,rfl,by simp,h0,KeepB.refl _ _⟩
 case round=>
  obtain⟨k,pre,hk,rfl,hpl,hlen,hJs,hbw⟩:=hrel
  have HL:=Lib.hid hpl
  have HJ:=Lib.hid hJs
  have HB:=Lib.hid hbw
  have hcx:wr.cell? ⟨Bp,0,none⟩=some (.string p):=(World.cell?_of_block (a:=⟨Bp,0,none⟩) hbw.1).trans hc
  clear hpl hJs hbw
  by_cases hlt:k<p.size
  ·have hpk:=bs_get p k hlt
   have hdk:=Lib.hid (drop_at hpk)
   have k0:(0:Int)≤k:=by omega
   have k1:(k:Int)<p.size:=by omega
   have hne:wr.heap.size≠Bp:=Nat.ne_of_gt (World.block_lt_of_cell? wr ⟨Bp,0,none⟩ hcx)
   have hca:∀o,(wr.alloc o).cell? ⟨Bp,0,none⟩=some (.string p):=fun o=>(Below.cell (p:=⟨Bp,0,none⟩) (Below.alloc (Below.refl wr.heap.size wr) (Nat.le_refl _) o) (by have:=World.block_lt_of_cell? wr ⟨Bp,0,none⟩ hcx;exact this)).trans hcx
   obtain⟨st,hst⟩:∃q:Bool,((p[k].toNat:Int)==42)=q:=⟨_,rfl⟩
   obtain⟨an,han⟩:∃q:Bool,((p[k].toNat:Int)==63)=q:=⟨_,rfl⟩
   have hpx:=Lib.hid (show plainPc p[k]=⟨p[k],an,st⟩ by
    unfold plainPc
    rw[←hst,←han]
    congr 1<;>(rw[Bool.eq_iff_iff];simp;omega))
   have hgrow:∀o,J pre (wr.alloc o).drew:=fun o=>hJ pre wr _ HJ.out (grown_new wr o)
   have HG:=Lib.hid hgrow
   have HBn:∀o,KeepB Bp W (wr.alloc o).drew:=fun o=>HB.out.trans (KeepB.of_below (Below.alloc (Below.refl wr.heap.size wr) (Nat.le_refl _) o).drew (by have:=World.block_lt_of_cell? wr ⟨Bp,0,none⟩ hcx;exact this))
   have HBN:=Lib.hid HBn
   clear hgrow HBn hpk
   by_cases hesc:p[k].toNat=92∧k+1<p.size
   ·obtain⟨e1,e2⟩:=hesc
    have hl2:Hid (piecesOf (bs p)=(pre++[⟨p[k+1],false,false⟩])++piecesOf ((bs p).drop (k+2))):=Lib.hid (by
     rw[HL.out,hdk.out,drop_at (bs_get p (k+1) e2),pieces_esc _ _ _ e1,List.append_assoc];rfl)
    have t1:((p[k].toNat:Int)==92)=true:=by rw[e1];rfl
    have t2:(k:Int)+1<p.size:=by omega
    have e1':=Lib.hid e1
    clear e1
    gi_wp2
    gi_region
    obtain⟨fn,tmps,assign,body,hy,hR⟩:=hY pre ⟨p[k+1],false,false⟩ ((wr.alloc (.cells #[.int .u8 p[k+1].toNat,.bool false,.bool false] 310)).drew) (HG.out _) (by omega)
    dsimp only[pcEnc] at hy
    gi_wp2
    refine hR.mono ?_
    rintro e W3 (⟨rfl,hJ3,hk3⟩|⟨rfl,hJx3⟩)
    ·gi_wp2
     go_roundw
     case rel=>exact⟨k+2,_,by omega,by go_num,hl2.out,by simp;omega,hJ3,(HBN.out _).trans hk3⟩
     case measure=>simp[intOf];omega
    ·gi_wp2
     refine bodyPost_ret (results_none rfl _ _ _) rfl ?_
     exact⟨⟨_,rfl⟩,.inr ⟨_,trivial,hJx3⟩⟩
   ·have hl2:Hid (piecesOf (bs p)=(pre++[⟨p[k],an,st⟩])++piecesOf ((bs p).drop (k+1))):=Lib.hid (by
     rw[HL.out,hdk.out,pieces_plain _ _ (by
      by_cases e:p[k].toNat=92
      ·right
       rw[List.drop_eq_nil_of_le (by rw[hbp.out];omega)]
      ·exact .inl e),hpx.out,List.append_assoc];rfl)
    have hne2:((p[k].toNat:Int)==92)=false∨(((p[k].toNat:Int)==92)=true∧¬((k:Int)+1<p.size)):=by
     by_cases e:p[k].toNat=92
     ·right;exact⟨by rw[e];rfl,by omega⟩
     ·left;exact beq_false_of_ne (by omega)
    clear hesc
    rcases hne2 with t1|⟨t1,t2⟩
    all_goals
     gi_wp2
     gi_region
     obtain⟨fn,tmps,assign,body,hy,hR⟩:=hY pre ⟨p[k],an,st⟩ ((wr.alloc (.cells #[.int .u8 p[k].toNat,.bool an,.bool st] 310)).drew) (HG.out _) (by omega)
     dsimp only[pcEnc] at hy
     gi_wp2
     refine hR.mono ?_
     rintro e W3 (⟨rfl,hJ3,hk3⟩|⟨rfl,hJx3⟩)
     ·gi_wp2
      go_roundw
      case rel=>exact⟨k+1,_,by omega,by go_num,hl2.out,by simp;omega,hJ3,(HBN.out _).trans hk3⟩
      case measure=>simp[intOf];omega
     ·gi_wp2
      refine bodyPost_ret (results_none rfl _ _ _) rfl ?_
      exact⟨⟨_,rfl⟩,.inr ⟨_,trivial,hJx3⟩⟩
  ·obtain rfl:k=p.size:=by omega
   have hl2:Hid (pre=piecesOf (bs p)):=Lib.hid (by
    have:=HL.out
    rw[List.drop_eq_nil_of_le (by rw[hbp.out];omega),pieces_nil,List.append_nil] at this
    exact this.symm)
   gi_wp2
   go_end0
   exact⟨⟨_,rfl⟩,.inl ⟨pre,hl2.out,HJ.out⟩⟩
end
section
open Go.RowKit
def small (c:UInt8):UInt8:=if 65≤c.toNat∧c.toNat≤90 then c+32 else c
def foldL (s:ByteArray):List UInt8:=(bs s).map small
theorem foldL_len (s:ByteArray):(foldL s).length=s.size:=by simp[foldL,bs_len]
theorem foldL_get (s:ByteArray) (j:Nat) (hj:j<s.size):(foldL s)[j]?=some (small s[j]):=by simp[foldL,bs_get s j hj]
theorem small_yes (c:UInt8) (h1:65≤(c.toNat:Int)) (h2:(c.toNat:Int)≤90):((small c).toNat:Int)=(c.toNat:Int)+32:=by
 have:small c=c+32:=if_pos ⟨by omega,by omega⟩
 rw[this,UInt8.toNat_add]
 have:(32:UInt8).toNat=32:=rfl
 rw[this];omega
theorem small_no (c:UInt8) (h:(c.toNat:Int)<65∨90<(c.toNat:Int)):small c=c:=if_neg (by omega)
theorem small_any (c:UInt8) (w:World):
  Calls Tryz.prog 282 #[.int .u8 c.toNat] w fun e w'=>e= .returned (bv (small c))∧w=w':=by
 have hu:(c.toNat:Int)<256:=by have:=c.toNat_lt;omega
 by_cases h:65≤(c.toNat:Int)∧(c.toNat:Int)≤90
 ·obtain⟨h1,h2⟩:=h
  have HS:=Lib.hid (small_yes c h1 h2)
  go_enter Tryz.func282,Tryz.ntmps282
  go_wp2
  go_ret
  exact⟨by unfold bv;rw[HS.out];go_num,rfl⟩
 ·have HS:=Lib.hid (small_no c (by omega))
  have h':(c.toNat:Int)<65∨90<(c.toNat:Int):=by omega
  clear h
  rcases h' with h'|h'
  all_goals
   go_enter Tryz.func282,Tryz.ntmps282
   go_wp2
   go_ret
   exact⟨by rw[HS.out];rfl,rfl⟩
theorem fold_any (s:ByteArray) (w:World) (hs:s.size≤1000000):
  Calls Tryz.prog 259 #[.string s] w fun e w'=>e= .returned (.string (mk (foldL s)))∧Below w.heap.size w w':=by
 go_enter Tryz.func259,Tryz.ntmps259
 go_wp2_with (refine wpList_bytes_of rfl _ 9 240 5 rfl Tryz.underlying9 Tryz.underlying240 Tryz.underlying5 rfl ?_;intro cap w1 hf)
 have HF:=Lib.hid hf
 clear hf
 go_loopw [4,5,10] (fun x4 x5 i wr=> ∃k:Nat,k≤s.size∧i= .int .i64 k∧Below w.heap.size w wr∧
   (∀(j:Nat) (hj:j<s.size),wr.cell? ⟨w.heap.size,j,none⟩=some (bv (if j<k then small s[j] else s[j])))∧∀j:Nat,j<s.size→wr.frozen? ⟨w.heap.size,j,none⟩=false)
  (fun _ _ i _=>s.size-(intOf i).toNat)
 case atStart=>exact⟨0,Nat.zero_le _,rfl,HF.out.below,fun j hj=>by simpa using HF.out.cell j hj,HF.out.free⟩
 case round=>
  obtain⟨k,hk,rfl,hb,hc,hz⟩:=hrel
  by_cases hlt:k<s.size
  ·have hck:wr.cell? ⟨w.heap.size,k,none⟩=some (.int .u8 s[k].toNat):=by simpa[bv] using hc k hlt
   have hzk:=hz k hlt
   have HC:=Lib.hid hc
   have HZ:=Lib.hid hz
   clear hc hz
   go_wp2_with (go_at_call 282;refine(small_any _ _).mono ?_;rintro e w' ⟨rfl,rfl⟩;unfold bv)
   go_roundw
   case rel=>
    refine⟨k+1,by omega,by go_num,hb.setCell (Nat.le_refl _) _,fun j hj=>?_,fun j hj=>by simpa using HZ.out j hj⟩
    by_cases e:j=k
    ·subst e
     rw[World.cell?_setCell_same _ _ _ hck,if_pos (by omega)];rfl
    ·rw[World.cell?_setCell_other _ _ _ _ (by intro h;injection h;omega),HC.out j hj]
     by_cases hjk:j<k
     ·rw[if_pos hjk,if_pos (by omega)]
     ·rw[if_neg hjk,if_neg (by omega)]
   case measure=>simp[intOf];omega
  ·have hks:k=s.size:=by omega
   subst hks
   have HR:Sl wr (fun b=>b=w.heap.size) 1 (some ⟨w.heap.size,0,none⟩) s.size ((foldL s).map bv):=
    Sl.of_cells rfl (by simp[foldL_len]) (fun j u hu=>by
     rw[List.getElem?_map,Option.map_eq_some_iff] at hu
     obtain⟨x,hx,rfl⟩:=hu
     have hj:j<s.size:=by rw[←foldL_len];exact(List.getElem?_eq_some_iff.1 hx).1
     rw[foldL_get s j hj] at hx
     injection hx with hx
     subst hx
     rw[Nat.zero_add,hc j hj,if_pos hj])
   clear hc hz
   have HR':=Lib.hid HR
   clear HR
   go_wp2_with (refine wpList_string_of rfl _ 240 9 5 rfl Tryz.underlying240 Tryz.underlying5 Tryz.underlying9 rfl HR'.out ?_)
   go_ret
   exact⟨rfl,hb⟩
end
section
open Go.RowKit
open Go.Shelf
attribute [local go_sem] Oper.semAt_some
theorem pieces_stops (n:Nat) (hn:1≤n) (Bp:Nat) (p:ByteArray) (hp:p.size≤100) (w:World) (hB:Bp<w.heap.size) (hc:w.cell? ⟨Bp,0,none⟩=some (.string p)):
  SeqStopsK Fence.wide n Tryz.prog 283 #[.pointer (some ⟨Bp,0,none⟩)] (fun x:Pc=> #[Value.agg #[.int .u8 x.c.toNat,.bool x.one,.bool x.many]]) (KeepB Bp) (fun ys=>ys=piecesOf (bs p)) (fun _=>True) p.size w:=fun l J Jx W hW hJ _ hY h0=>
 pieces1_in n hn l Bp p hp J Jx (fun s A B hs hg=>hJ s A B none hs hg (by simp)) hY W ((hW.cell (p:=⟨Bp,0,none⟩) hB).trans hc) h0
def Box3 (W:World) (B:Nat) (x:Pc):Prop:=W.heap[B]?=some (.cells #[.int .u8 x.c.toNat,.bool x.one,.bool x.many] 310 (0,0))
theorem Box3.new (W:World) (x:Pc):Box3 (W.alloc (.cells #[.int .u8 x.c.toNat,.bool x.one,.bool x.many] 310)) W.heap.size x:=heap_alloc_new W _
theorem Box3.cells {W:World} {B:Nat} {x:Pc} (h:Box3 W B x):W.cell? ⟨B,0,none⟩=some (.int .u8 x.c.toNat)∧W.cell? ⟨B,1,none⟩=some (.bool x.one)∧W.cell? ⟨B,2,none⟩=some (.bool x.many):=by
 have h':W.heap[B]?=_:=h
 refine⟨?_,?_,?_⟩<;>(rw[cell_of_row _ _ _ _ _ (0,0) h'];rfl)
theorem pc_new (W:World) (x:Pc):∀(j:Nat) (u:Value),(pcF.enc x)[j]?=some u→(W.alloc (.cells #[.int .u8 x.c.toNat,.bool x.one,.bool x.many] 310)).cell? ((⟨W.heap.size,0,none⟩:Addr).add j)=some u:=by
 obtain⟨h0,h1,h2⟩:=(Box3.new W x).cells
 intro j u hu
 match j,hu with
 |0,hu=>injection hu with hu;subst hu;exact h0
 |1,hu=>injection hu with hu;subst hu;exact h1
 |2,hu=>injection hu with hu;subst hu;exact h2
theorem putObj_other (W:World) (l b:Nat) (o:Obj) (h:b≠l):(W.putObj l o).heap[b]?=W.heap[b]?:=by
 simp only[World.putObj]
 rw[Array.getElem?_setIfInBounds]
 simp[Ne.symm h]
theorem own_not {W:World} {base b k:Nat} {v q:Value} {xs:List Value} (h:W.ownsRow base 310 3 v k xs) (hb:Boxed W b 9 q):some b≠v.ownBlock:=by
 intro e
 rcases h.2 with⟨rfl,_⟩|⟨g,cap,cur,rfl,_,hh,_⟩
 ·cases e
 ·have:b=g:=by simpa[Value.ownBlock] using e
  subst this
  rw[show W.heap[b]?=_ from hb] at hh
  injection hh with hh
  injection hh with _ h2
  exact absurd h2 (by decide)
theorem info_piece:(Tryz.prog.info? 310).map (fun i=>(i.zero,i.size,i.bytes))=some (some (.agg #[.int .u8 0,.bool false,.bool false]),3,3):=by kernel_rfl
def MatPost (s p:ByteArray) (w:World) (e:Ending) (w':World):Prop:=∃b,e= .returned (.tuple #[.bool b,.int .i64 0])∧(b=true↔PM (piecesOf (foldL p)) (foldL s))∧Below w.heap.size w w'
theorem pieces_any (p:ByteArray) (w:World):Calls Tryz.prog 260 #[.string p] w fun e w'=>e= .returned (.func (.func 283) #[] #[.pointer (some ⟨w.heap.size,0,none⟩)])∧w'=w.alloc (.cells #[.string p] 9):=by
 go_enter Tryz.func260,Tryz.ntmps260
 go_wp2_with fail
 go_ret
 exact⟨rfl,rfl⟩
set_option maxRecDepth 100000 in
theorem Match_pat (s p:ByteArray) (w:World) (hs:s.size≤2000) (hp:p.size≤100):Calls Tryz.prog 217 #[.int .i64 3,.string s,.string p] w (MatPost s p w):=by
 refine(callsIn_wide (n:=6)).1 ?_
 refine callsIn_of_wp_marks Tryz.func217 rfl trivial ?_ rfl
 simp only[Tryz.ntmps217,List.size_toArray,List.length_cons,List.length_nil,Nat.reduceAdd,Nat.reduceSub,Array.replicate_succ,Array.replicate_zero,List.push_toArray,List.append_toArray,List.nil_append,List.cons_append]
 have i1:¬((2000:Int)<s.size):=by omega
 have i2:¬((100:Int)<p.size):=by omega
 have i3:decide ((100:Int)<p.size)=false:=by simpa using i2
 clear i2
 have tok:True:=trivial
 gi_wp2_with (first
  |(refine⟨trivial,?_⟩;gi_at_call 259;clear tok;refine(callsIn_wide.2 (fold_any _ _ (by omega))).mono ?_;rintro e w0 ⟨rfl,hb0⟩)
  |(refine⟨trivial,?_⟩;gi_at_call 259;refine(callsIn_wide.2 (fold_any _ _ (by omega))).mono ?_;rintro e w1 ⟨rfl,hb1⟩)
  |(refine⟨trivial,?_⟩;gi_at_call 260;refine(callsIn_wide.2 (pieces_any _ _)).mono ?_;rintro e w2 ⟨rfl,rfl⟩))
 have hwz:=hb1.size
 have bO:=Boxed.new w1 306 (.slice none 0 0)
 have bN:=Boxed.new (w1.alloc (.cells #[.slice none 0 0] 306)) 9 (.string (mk (foldL p)))
 rw[World.size_alloc] at bN
 have HB0:=Lib.hid ((hb0.trans (hb1.mono hb0.size)))
 have hfz:(mk (foldL p)).size=p.size:=by rw[mk_size,foldL_len]
 have hpl:(piecesOf (foldL p)).length≤p.size:=by
  have:=pieces_len _ (foldL p) (Nat.le_refl _)
  rw[foldL_len] at this
  exact this
 obtain⟨i0,hi,hz0,hz1,hz2⟩:=info_parts info_piece
 have HB1:Below w.heap.size w ((w1.alloc (.cells #[.slice none 0 0] 306)).alloc (.cells #[.string (mk (foldL p))] 9)):=(HB0.out.alloc HB0.out.size _).alloc (by have:=HB0.out.size;simp;omega) _
 obtain⟨q,hq⟩:∃q,q=mk (foldL p):=⟨_,rfl⟩
 obtain⟨r,hr⟩:∃r,r=mk (foldL s):=⟨_,rfl⟩
 have hqs:bs q=foldL p:=by rw[hq,bs_mk]
 have hrs:bs r=foldL s:=by rw[hr,bs_mk]
 have hrz:r.size≤2000:=by rw[hr,mk_size,foldL_len];exact hs
 rw[←hq] at HB1 bN hfz⊢
 rw[←hr]
 rw[←hqs] at hpl
 have HQ:=Lib.hid hqs
 have HRR:=Lib.hid hrs
 clear hq hr hqs hrs
 obtain⟨W0,hW0⟩:∃W0,(w1.alloc (.cells #[.slice none 0 0] 306)).alloc (.cells #[.string q] 9)=W0:=⟨_,rfl⟩
 have bO1:=bO.alloc (.cells #[.string q] 9)
 have hsz:W0.heap.size=w1.heap.size+2:=by rw[←hW0];simp
 have hbz:=HB0.out.size
 have hsz1:w1.heap.size+2≤W0.heap.size:=by omega
 have HSZ:=Lib.hid hsz
 clear hsz
 rw[hW0] at HB1 bN bO1⊢
 clear hW0 bO hb0 hb1
 refine wpIn_rangeFunc_ownH rfl (by omega) (gf:=283) (lb:= #[.pointer (some ⟨w1.heap.size+1,0,none⟩)]) rfl trivial (enters_of Tryz.func283 (by kernel_rfl) rfl)
  (pieces_stops 5 (by omega) (w1.heap.size+1) q (by omega) W0 (by omega) bN.cell) KeepB.trans (fun W l o o' hl _ _ _=>⟨putObj_other W l (w1.heap.size+1) o' (by omega),by simp[World.putObj]⟩) (Below.refl _ _) (fun _=>rfl)
  (fun pre W=>((∃v,Boxed W w1.heap.size 306 v∧W.ownsRow w1.heap.size 310 3 v pre.length (pre.flatMap pcF.enc)∧True)∧Boxed W (w1.heap.size+1) 9 (.string q))∧Below w1.heap.size W0 W)
  (fun _ _ _=>False)
  (OwnFrom.and (OwnFrom.and (Own.from (holdsRow_own w1.heap.size w1.heap.size 306 310 3 (fun pre:List Pc=>pre.length) (fun pre=>pre.flatMap pcF.enc) (fun _ _=>True)) _) (Own.from (boxed_own _ _ (fun _:List Pc=>Value.string q)) _)) (ownFrom_below (by omega) (by omega)))
  (fun _ _ _ _ _ hs _ _=>hs)
  ⟨⟨⟨_,bO1,World.ownsRow_nil _ _ _ _,trivial⟩,bN⟩,Below.refl _ _⟩
  (fun x a' W=> ∃Bx,w1.heap.size+1<Bx∧Box3 W Bx x∧a'= {tmps:= #[.int .i64 3,.string s,.string p,undef,undef,undef,.bool false,.int .i64 0,.string r,.string q,.pointer (some ⟨w1.heap.size,0,none⟩),.pointer (some ⟨Bx,0,none⟩),.int .i64 3,.bool false,.bool false,.int .i64 3,.bool false,.bool false,.string s,.int .i64 s.size,.bool false,.bool false,.string p,.int .i64 p.size,.bool false,.bool false,.string s,.string r,.string p,.string q,.int .i64 3,.bool false,.bool false,undef,undef,undef,.bool false,.bool false,undef,undef,undef,.string q,.func (.func 283) #[] #[.pointer (some ⟨w1.heap.size+1,0,none⟩)],.agg #[.int .u8 x.c.toNat,.bool x.one,.bool x.many],undef,undef,undef,undef,undef,undef,undef],defers:=[]})
  (fun x a' _ X Y row hs hg hr=>by
   obtain⟨Bx,h1,h2,h3⟩:=hs
   refine⟨Bx,h1,?_,h3⟩
   unfold Box3 at h2⊢
   rw[hg.block Bx (Array.getElem?_eq_some_iff.1 h2).1 (fun e=>by
    obtain⟨_,o,ho,hc⟩:=hr Bx e.symm
    rw[h2] at ho
    cases ho
    cases hc)]
   exact h2)
  ?assign ?body ?done ?stop
 case assign=>
  rintro l pre x W K ⟨⟨⟨v,hv,hrow,_⟩,hN⟩,hB⟩ hK
  have hvl:=hv.lt
  have hB':=hB.size
  gi_wp2
  exact hK _ _ ((KeepsOthers.alloc _ _).from _) (KeepB.of_below (Below.alloc (Below.refl W.heap.size W) (Nat.le_refl _) _) (by omega)) ⟨⟨⟨v,hv.alloc _,hrow.alloc _,trivial⟩,hN.alloc _⟩,hB.alloc (by omega) _⟩ ⟨W.heap.size,by omega,Box3.new W x,rfl⟩
 case body=>
  rintro l pre x a' W hl _ ⟨⟨⟨v,hv,hrow,_⟩,hN⟩,hB⟩ ⟨Bx,hBx,bX,rfl⟩ hlt
  have hc:=hv.cell
  obtain⟨x0,x1,x2⟩:=bX.cells
  have hB':=hB.size
  have HR:=Lib.hid hrow
  have HV:=Lib.hid hv
  have HBB:=Lib.hid hB
  have HN:=Lib.hid hN
  clear hrow hv hB hN
  gi_wp2_with (gi_at_builtin;refine wpListIn_append_own _ rfl _ _ 306 rfl w1.heap.size 310 i0 (.agg #[.int .u8 0,.bool false,.bool false]) 3 3 Tryz.underlying306 hi hz0 hz1 hz2 rfl (by decide) _ _ _ rfl (HR.out.alloc _) ⟨W.heap.size,0,none⟩ 1 1 (pcF.enc x) rfl rfl (pc_new W x) (pcF.one x) (by unfold maxLen;omega) (by omega) (by simp;omega) ?_;intro v' w2 hown' hgrow _;obtain⟨g',cap',rfl⟩:=ownsRow_succ hown';obtain⟨hv1,hv2,hr2,hk2,hb2⟩:=HV.out.appended (by decide) HR.out (by omega) (Nat.le_refl _) hown' hgrow;have hc1:=hv1.cell;have hf1:=hv1.frozen)
  have hN2:=((HN.out.alloc (.cells #[.int .u8 x.c.toNat,.bool x.one,.bool x.many] 310)).kept hgrow (own_not HR.out HN.out)).other (by omega) (B':=w1.heap.size) (.slice (some ⟨g',0,none⟩) (pre.length+1) cap')
  have hkeep:KeepB (w1.heap.size+1) W (w2.setCell ⟨w1.heap.size,0,none⟩ (.slice (some ⟨g',0,none⟩) (pre.length+1) cap')):=⟨Eq.trans hN2 (Eq.symm HN.out),hb2.size⟩
  exact⟨hk2.from _,hkeep,⟨⟨_,hv2,by rw[List.flatMap_append];simpa using hr2,trivial⟩,hN2⟩,HBB.out.trans hb2⟩
 case done=>
  rintro D ys W hD rfl ⟨⟨⟨v,hv,hrow,_⟩,hN⟩,hB⟩ hK
  have hc:=hv.cell
  have hB':=hB.size
  have hrf:RF pcF W (· <W.heap.size) v (piecesOf (bs q)):=(RF.of_own rfl hrow).mono fun b hb=>hb.2
  have HR:=Lib.hid hrf
  have HBB:=Lib.hid hB
  have HK:=Lib.hid hK
  clear hrow hB hrf
  gi_wp2_with (refine⟨trivial,?_⟩;gi_at_call 261;refine(callsIn_wide.2 (matches_any r _ _ _ hrz (by omega) HR.out)).mono ?_;rintro e w3 ⟨b,rfl,hbt,d,rfl⟩;have HT:=Lib.hid hbt;clear hbt)
  refine⟨by simp,.inl ⟨_,_,rfl,run_takeDeferred HK.out,?_⟩⟩
  refine⟨_,results_tmp2 rfl _ _ _,b,rfl,by rw[←HQ.out,←HRR.out];exact HT.out,?_⟩
  exact(below_drewN (HB1.trans (HBB.out.mono hbz)) d).trans (belowK_b (w:=w) (Nat.le_refl _) (W.drewN d) D _ _ (by omega) HK.out rfl rfl)
 case stop=>
  rintro D c pre W _ _ h _
  exact h.elim
end
section
open Go.RowKit
theorem el_u8:Elem Tryz.prog 240 5 1 1:=⟨Tryz.underlying240,by kernel_rfl,by decide⟩
theorem one_one (v:Value) (h:v.oneCell'=true):∀u∈[v],u.oneCell'=true:=by
 intro u hu
 rw[List.mem_singleton] at hu
 rw[hu];exact h
theorem lower_any (s:ByteArray) (w:World) (hs:s.size≤1000000):
  Calls Tryz.prog 140 #[.string s] w fun e w'=>e= .returned (.string (mk (foldL s)))∧Below w.heap.size w w':=by
 go_enter Tryz.func140,Tryz.ntmps140
 go_wp2_with fail
 go_loopw [3,4,5] (fun v i x5 wr=> ∃k:Nat,k≤s.size∧i= .int .i64 k∧Below w.heap.size w wr∧wr.ownsRow w.heap.size 5 1 v k (((foldL s).take k).map bv))
  (fun _ i _ _=>s.size-(intOf i).toNat)
 case atStart=>exact⟨0,Nat.zero_le _,rfl,Below.refl _ _,World.ownsRow_nil _ _ _ _⟩
 case round=>
  obtain⟨k,hk,rfl,hb,hown⟩:=hrel
  have HO:=Lib.hid hown
  clear hown
  by_cases hlt:k<s.size
  ·have hu:(s[k].toNat:Int)<256:=by have:=s[k].toNat_lt;omega
   have HT:=Lib.hid (show(foldL s).take (k+1)=(foldL s).take k++[small s[k]] by
    rw[List.take_add_one,foldL_get s k hlt];rfl)
   by_cases h:65≤(s[k].toNat:Int)∧(s[k].toNat:Int)≤90
   ·obtain⟨h1,h2⟩:=h
    have HS:=Lib.hid (small_yes s[k] h1 h2)
    go_wp2_with (first
     |(go_at_call 98;refine(In_yes _ _ _ _ h1 h2).mono ?_;rintro e w' ⟨rfl,rfl⟩)
     |(refine wpList_append_sl el_u8 rfl _ _ rfl rfl (HO.out.alloc _) rfl (Sl.new _ _ _ 1 rfl) (one_one _ rfl) (by simp) (by unfold maxLen;omega) (by omega) (by have:=hb.size;simp;omega) ?_;intro A1 c1 w1 hown' hgr hb1))
    go_roundw
    case rel=>
     refine⟨k+1,by omega,by go_num,(hb.alloc hb.size _).trans hb1,?_⟩
     rw[HT.out,List.map_append]
     simpa[bv,HS.out] using hown'
    case measure=>simp[intOf];omega
   ·have h':(s[k].toNat:Int)<65∨90<(s[k].toNat:Int):=by omega
    have HS:=Lib.hid (small_no s[k] h')
    clear h
    rcases h' with h'|h'
    all_goals
     go_wp2_with (first
      |(go_at_call 98;refine(In_no _ _ _ _ ?_).mono ?_;omega;rintro e w' ⟨rfl,rfl⟩)
      |(refine wpList_append_sl el_u8 rfl _ _ rfl rfl (HO.out.alloc _) rfl (Sl.new _ _ _ 1 rfl) (one_one _ rfl) (by simp) (by unfold maxLen;omega) (by omega) (by have:=hb.size;simp;omega) ?_;intro A1 c1 w1 hown' hgr hb1))
     go_roundw
     case rel=>
      refine⟨k+1,by omega,by go_num,(hb.alloc hb.size _).trans hb1,?_⟩
      rw[HT.out,List.map_append]
      simpa[bv,HS.out] using hown'
     case measure=>simp[intOf];omega
  ·have hks:k=s.size:=by omega
   subst hks
   have HW:=Lib.hid (show(foldL s).take s.size=foldL s from List.take_of_length_le (by rw[foldL_len];omega))
   obtain⟨A,c,rfl,_,_⟩:=own_form HO.out
   go_wp2_with (refine wpList_string_of (l:=foldL s) rfl _ 240 9 5 rfl Tryz.underlying240 Tryz.underlying5 Tryz.underlying9 rfl (by rw[←HW.out];exact Sl.of_own HO.out) ?_)
   go_ret
   exact⟨rfl,hb⟩
end
section
open Go.RowKit
def Asks (kind:Int) (s p:ByteArray):Prop:=(kind=1∧foldL s=foldL p)∨(kind=2∧∃i,AtIn (mk (foldL s)) (mk (foldL p)) i)∨(kind=3∧PM (piecesOf (foldL p)) (foldL s))
noncomputable def asksB (kind:Int) (s p:ByteArray):Bool:= @decide (Asks kind s p) (Classical.propDecidable _)
def matchE (kind:Int) (s p:ByteArray):Int:=if kind<1∨3<kind then 2 else if 2000<s.size∨100<p.size then 1 else 0
noncomputable def matchB (kind:Int) (s p:ByteArray):Bool:=if matchE kind s p=0 then asksB kind s p else false
theorem asksB_of {kind:Int} {s p:ByteArray} {b:Bool} (h:b=true↔Asks kind s p):asksB kind s p=b:=by
 unfold asksB
 rw[Bool.eq_iff_iff, @decide_eq_true_iff _ (Classical.propDecidable (Asks kind s p))]
 exact h.symm
theorem asks1 (s p:ByteArray):Asks 1 s p↔foldL s=foldL p:=by unfold Asks;simp
theorem asks2 (s p:ByteArray):Asks 2 s p↔∃i,AtIn (mk (foldL s)) (mk (foldL p)) i:=by unfold Asks;simp
theorem asks3 (s p:ByteArray):Asks 3 s p↔PM (piecesOf (foldL p)) (foldL s):=by unfold Asks;simp
def Mat (kind:Int) (s p:ByteArray) (w:World) (e:Ending) (w':World):Prop:=e= .returned (.tuple #[.bool (matchB kind s p),.int .i64 (matchE kind s p)])∧Below w.heap.size w w'
theorem matchE_kind {kind:Int} {s p:ByteArray} (h:kind<1∨3<kind):matchE kind s p=2:=if_pos h
theorem matchE_size {kind:Int} {s p:ByteArray} (h1:1≤kind) (h3:kind≤3) (h:2000<s.size∨100<p.size):matchE kind s p=1:=by unfold matchE;rw[if_neg (by omega),if_pos h]
theorem matchE_ok {kind:Int} {s p:ByteArray} (h1:1≤kind) (h3:kind≤3) (h:s.size≤2000) (h':p.size≤100):matchE kind s p=0:=by unfold matchE;rw[if_neg (by omega),if_neg (by omega)]
theorem matchB_bad {kind:Int} {s p:ByteArray} (h:matchE kind s p≠0):matchB kind s p=false:=if_neg h
theorem matchB_ok {kind:Int} {s p:ByteArray} (h:matchE kind s p=0):matchB kind s p=asksB kind s p:=if_pos h
theorem fold_beq (s p:ByteArray):((mk (foldL s)).toList==(mk (foldL p)).toList)=asksB 1 s p:=by
 symm
 apply asksB_of
 rw[asks1,beq_iff_eq]
 constructor
 ·intro h
  have:=congrArg bs (toList_inj h)
  rwa [bs_mk,bs_mk] at this
 ·intro h;rw[h]
theorem Match_any (kind:Int) (s p:ByteArray) (w:World) (hs:s.size≤maxLen) (hp:p.size≤maxLen) (h0:Lib0 w):
  Calls Tryz.prog 217 #[.int .i64 kind,.string s,.string p] w (Mat kind s p w):=by
 unfold maxLen at hs hp
 by_cases hk:kind<1∨3<kind
 ·have HE:=Lib.hid (matchE_kind (s:=s) (p:=p) hk)
  have HB:=Lib.hid (matchB_bad (s:=s) (p:=p) (kind:=kind) (by rw[HE.out];decide))
  rcases hk with hk|hk
  all_goals
   go_enter Tryz.func217,Tryz.ntmps217
   go_wp2_with fail
   go_ret2
   exact⟨by rw[HE.out,HB.out];rfl,Below.refl _ _⟩
 ·have k1:1≤kind:=by omega
  have k3:kind≤3:=by omega
  clear hk
  by_cases hz:2000<s.size∨100<p.size
  ·have HE:=Lib.hid (matchE_size (s:=s) (p:=p) k1 k3 hz)
   have HB:=Lib.hid (matchB_bad (s:=s) (p:=p) (kind:=kind) (by rw[HE.out];decide))
   rcases hz with hz|hz
   ·have hz':(2000:Int)<s.size:=by omega
    go_enter Tryz.func217,Tryz.ntmps217
    go_wp2_with fail
    go_ret2
    exact⟨by rw[HE.out,HB.out];rfl,Below.refl _ _⟩
   ·have hz':(100:Int)<p.size:=by omega
    by_cases hy:(2000:Int)<s.size
    all_goals
     go_enter Tryz.func217,Tryz.ntmps217
     go_wp2_with fail
     go_ret2
     exact⟨by rw[HE.out,HB.out];rfl,Below.refl _ _⟩
  ·have s1:s.size≤2000:=by omega
   have p1:p.size≤100:=by omega
   have HE:=Lib.hid (matchE_ok (s:=s) (p:=p) k1 k3 s1 p1)
   have HB:=Lib.hid (matchB_ok HE.out)
   clear hz hs hp
   have i1:¬((2000:Int)<s.size):=by omega
   have i2:¬((100:Int)<p.size):=by omega
   have i3:decide ((100:Int)<p.size)=false:=by simpa using i2
   by_cases hk3:kind=3
   ·subst hk3
    refine(Match_pat s p w s1 p1).mono ?_
    rintro e w' ⟨b,rfl,hb,hw⟩
    refine⟨?_,hw⟩
    rw[HE.out,HB.out,asksB_of (by rw[asks3];exact hb)]
   ·by_cases hk1:kind=1
    ·subst hk1
     have HF:=Lib.hid (fold_beq s p)
     have tok:True:=trivial
     clear i2
     go_enter Tryz.func217,Tryz.ntmps217
     go_wp2_with (first
      |(go_at_call 259;clear tok;refine(fold_any _ _ (by omega)).mono ?_;rintro e w1 ⟨rfl,hb1⟩)
      |(go_at_call 259;refine(fold_any _ _ (by omega)).mono ?_;rintro e w2 ⟨rfl,hb2⟩))
     go_ret2
     refine⟨?_,hb1.trans (hb2.mono hb1.size)⟩
     rw[HE.out,HB.out,←HF.out]
     rfl
    ·obtain rfl:kind=2:=by omega
     have tok:True:=trivial
     clear i2
     have HL:=Lib.hid h0
     clear h0
     go_enter Tryz.func217,Tryz.ntmps217
     go_wp2_with (first
      |(go_at_call 259;clear tok;refine(fold_any _ _ (by omega)).mono ?_;rintro e w1 ⟨rfl,hb1⟩)
      |(go_at_call 259;refine(fold_any _ _ (by omega)).mono ?_;rintro e w2 ⟨rfl,hb2⟩))
     obtain⟨_,m,hm⟩:=(HL.out.below hb1).below hb2
     refine(Tryz.strings_Contains (mk (foldL s)) (mk (foldL p)) m _ (by rw[mk_size,foldL_len];omega) hm).mono ?_
     rintro e w3 ⟨rfl,rfl⟩
     go_wp2_with fail
     go_ret2
     refine⟨?_,hb1.trans (hb2.mono hb1.size)⟩
     rw[HE.out,HB.out,asksB_of (by rw[asks2];exact(contains_iff (mk (foldL s)) (mk (foldL p))))]
     rfl
def Matd (kind:Int) (s p:ByteArray) (w:World) (e:Ending) (w':World):Prop:=e= .returned (.bool (asksB kind s p))∧Below w.heap.size w w'
theorem matched_any (kind:Int) (s p:ByteArray) (w:World) (s1:s.size≤2000) (p1:p.size≤100) (k1:1≤kind) (k3:kind≤3):
  Calls Tryz.prog 142 #[.int .i64 kind,.string s,.string p] w (Matd kind s p w):=by
 have tok:True:=trivial
 by_cases hk1:kind=1
 ·subst hk1
  have HF:=Lib.hid (fold_beq s p)
  go_enter Tryz.func142,Tryz.ntmps142
  go_wp2_with (first
   |(go_at_call 140;clear tok;refine(lower_any _ _ (by omega)).mono ?_;rintro e w1 ⟨rfl,hb1⟩)
   |(go_at_call 140;refine(lower_any _ _ (by omega)).mono ?_;rintro e w2 ⟨rfl,hb2⟩))
  go_ret
  refine⟨?_,hb1.trans (hb2.mono hb1.size)⟩
  rw[←HF.out]
  rfl
 ·have e1:(kind==1)=false:=by simpa using hk1
  have hzs:(mk (foldL s)).size=s.size:=by rw[mk_size,foldL_len]
  have hzp:(mk (foldL p)).size=p.size:=by rw[mk_size,foldL_len]
  have hrs:bs (mk (foldL s))=foldL s:=bs_mk _
  have hrp:bs (mk (foldL p))=foldL p:=bs_mk _
  by_cases hk2:kind=2
  ·subst hk2
   have HT:Hid (∀b:Bool,(b=true↔∃i,AtIn (mk (foldL s)) (mk (foldL p)) i)→asksB 2 s p=b):=Lib.hid fun b hb=>asksB_of (by rw[asks2];exact hb)
   have HI:=Lib.hid (fun wx=>inside_any (mk (foldL s)) (mk (foldL p)) wx (by rw[hzs];omega) (by rw[hzp];omega))
   clear hzs hzp hrs hrp hk1
   go_enter Tryz.func142,Tryz.ntmps142
   go_wp2_with (first
    |(go_at_call 140;clear tok;refine(lower_any _ _ (by omega)).mono ?_;rintro e w1 ⟨rfl,hb1⟩)
    |(go_at_call 140;refine(lower_any _ _ (by omega)).mono ?_;rintro e w2 ⟨rfl,hb2⟩))
   refine(HI.out _).mono ?_
   rintro e w3 ⟨b,rfl,hb,d,rfl⟩
   have hb':=HT.out b hb
   have HBB:=Lib.hid hb'
   clear hb hb'
   go_wp2_with fail
   go_ret
   exact⟨by rw[HBB.out];rfl,below_drewN (hb1.trans (hb2.mono hb1.size)) _⟩
  ·obtain rfl:kind=3:=by omega
   have HT:Hid (∀b:Bool,(b=true↔PM (piecesOf (bs (mk (foldL p)))) (bs (mk (foldL s))))→asksB 3 s p=b):=Lib.hid fun b hb=>asksB_of (by rw[asks3,←hrs,←hrp];exact hb)
   have HI:=Lib.hid (fun wx=>fits_any (mk (foldL s)) (mk (foldL p)) wx (by rw[hzs];omega) (by rw[hzp];omega))
   clear hzs hzp hrs hrp hk1 hk2
   go_enter Tryz.func142,Tryz.ntmps142
   go_wp2_with (first
    |(go_at_call 140;clear tok;refine(lower_any _ _ (by omega)).mono ?_;rintro e w1 ⟨rfl,hb1⟩)
    |(go_at_call 140;refine(lower_any _ _ (by omega)).mono ?_;rintro e w2 ⟨rfl,hb2⟩))
   refine(HI.out _).mono ?_
   rintro e w3 ⟨b,rfl,hb,hb3⟩
   have hb':=HT.out b hb
   have HBB:=Lib.hid hb'
   clear hb hb'
   go_wp2_with fail
   go_ret
   exact⟨by rw[HBB.out];rfl,(hb1.trans (hb2.mono hb1.size)).trans (hb3.mono (by have:=hb1.size;have:=hb2.size;omega))⟩
end
section
open Go.RowKit
theorem vr_tup2 {G:Gh} {a b:AV} {v u:Value} (h:VR G a v) (k:VR G b u):VR G (.tup [a,b]) (.tuple #[v,u]):= .tup [a,b] [v,u] rfl fun i x y h1 h2=>by
 match i,h1,h2 with
 |0,h1,h2=>simp at h1 h2;subst h1 h2;exact h
 |1,h1,h2=>simp at h1 h2;subst h1 h2;exact k
 |i+2,h1,h2=>simp at h1
noncomputable def matB (m:Int) (s p:Tx):Bool:=matchB m ⟨s.toArray⟩ ⟨p.toArray⟩
theorem Match_p (T:Tbl) (hL:LibT T) (m:Int) (s p:Tx):PC Tryz.prog T 217 [.d (.int .i64 m),.d (.str s),.d (.str p)] (.tup [.d (.bool (matB m s p)),.d (.int .i64 (matchE m ⟨s.toArray⟩ ⟨p.toArray⟩))]):=PC.old Tryz.call217 fun F w vs hF hT R=>by
 obtain⟨v1,v2,v3,rfl,h1,h2,h3⟩:=slr3 R
 obtain rfl:=h1.int_inv
 obtain⟨t2,rfl,e2,z2⟩:=h2.str_inv
 obtain⟨t3,rfl,e3,z3⟩:=h3.str_inv
 refine(Match_any m t2 t3 w z2 z3 (hL.lib0 hF hT)).mono ?_
 rintro e w' ⟨rfl,hb⟩
 have q2:t2=⟨s.toArray⟩:=by rw[←e2]
 have q3:t3=⟨p.toArray⟩:=by rw[←e3]
 rw[q2,q3]
 exact⟨_,rfl,hb,vr_tup2 (.d (.bool _)) (.d (.int _ _))⟩
theorem matched_p (T:Tbl) (m:Int) (s p:Tx) (hs:s.length≤2000) (hp:p.length≤100) (hm:1≤m∧m≤3):PC Tryz.prog T 142 [.d (.int .i64 m),.d (.str s),.d (.str p)] (.d (.bool (matB m s p))):=PC.old Tryz.call142 fun F w vs hF hT R=>by
 obtain⟨v1,v2,v3,rfl,h1,h2,h3⟩:=slr3 R
 obtain rfl:=h1.int_inv
 obtain⟨t2,rfl,e2,z2⟩:=h2.str_inv
 obtain⟨t3,rfl,e3,z3⟩:=h3.str_inv
 have q2:t2=⟨s.toArray⟩:=by rw[←e2]
 have q3:t3=⟨p.toArray⟩:=by rw[←e3]
 have n2:t2.size≤2000:=by rw[←size_data,e2];exact hs
 have n3:t3.size≤100:=by rw[←size_data,e3];exact hp
 refine(matched_any m t2 t3 w n2 n3 hm.1 hm.2).mono ?_
 rintro e w' ⟨rfl,hb⟩
 refine⟨_,rfl,hb,?_⟩
 rw[matB,←q2,←q3,matchB_ok (matchE_ok hm.1 hm.2 n2 n3)]
 exact .d (.bool _)
end
section
def btD (b:Bt):List D:=[.str b.text,.bool b.run,.bool b.quo,.bool b.apart]
def btsD (l:List Bt):List (List D):=l.map btD
@[go_sem] theorem btsD_len (l:List Bt):(btsD l).length=l.length:=by simp[btsD]
theorem btsD_get (l:List Bt) (i:Nat) (d:List D) (h:i<l.length):(btsD l).getD i d=btD (l[i]'h):=map_getD btD _ _ _ h
theorem btsD_none (l:List Bt) (i:Nat) (h:l.length≤i):(btsD l).getD i []=[]:=by simp[btsD,List.getD,h]
def bitsV:Option (List Bt)→AV
 |some l=> .tup [.d (.slc 4 (btsD l)),.d (.bool true)]
 |none=> .tup [.any,.d (.bool false)]
theorem take1 {s:Tx} {i:Nat} (h:i<s.length):(s.take (i+1)).drop i=[s.getD i 0]:=by
 have:=take_step h (Nat.le_refl i) []
 simp only[List.append_nil] at this
 rw[←this]
 simp
theorem run_pos {s:Tx} {i e:Nat} (h1:(s.take e).drop i++runS (s.drop e)=runS (s.drop i)) (h2:runS (s.drop e)=[]) (h3:i<e) (h4:e≤s.length):runS (s.drop i)≠[]:=by
 rw[h2,List.append_nil] at h1
 rw[←h1]
 intro e1
 have:=congrArg List.length e1
 simp at this
 omega
theorem run_zero {s:Tx} {i e:Nat} (h1:(s.take e).drop i++runS (s.drop e)=runS (s.drop i)) (h2:runS (s.drop e)=[]) (h3:e≤i) (h4:i<s.length):runB (s.getD i 0)=false:=by
 have h5:(s.take e).drop i=[]:=List.drop_eq_nil_of_le (by simp;omega)
 rw[h2,h5,List.nil_append,drop_cons h4] at h1
 cases e1:runB (s.getD i 0) with
 |false=>rfl
 |true=>rw[runS_cons e1] at h1;cases h1
theorem blank_c (T:Tbl) (c:UInt8):PC Tryz.prog T 136 [.d (.int .u8 c.toNat)] (.d (.bool (blkB c))):=by
 refine⟨Tryz.call136,PCall.enterS Tryz.func136 rfl Tryz.ntmps136 rfl fun hb=>?_⟩
 simp only[go_sem,Tryz.results136]
 refine Zp 1 ?_
 refine Zp 2 ?_
 refine AWp.ret ?_
 simp only[go_sem]
 have e:blkB c=(decide ((c.toNat:Int)=32)||decide ((c.toNat:Int)=9)):=by
   unfold blkB
   congr 1<;>rw[Bool.eq_iff_iff,beq_iff_eq,decide_eq_true_eq]
   · exact (byte_is c 32).symm
   · exact (byte_is c 9).symm
 rw[e]
attribute [local go_sem] icast in
theorem bitsOf_c (T:Tbl) (s:Tx) (hs:s.length≤4294967296):PC Tryz.prog T 146 [.d (.str s)] (bitsV (bitsS false s)):=by
 refine⟨Tryz.call146,PCall.enterS Tryz.func146 rfl Tryz.ntmps146 rfl fun hb=>?_⟩
 simp only[go_sem,Tryz.results146]
 refine Zp 1 ?_
 refine Zp 3 ?_
 refine Zy ?_
 refine AWp.ownNilS 4 4 rfl rfl (by decide) fun t0 ft0=>?_
 try simp only[freshT] at ft0
 refine Zy ?_
 refine Zp 7 ?_
 refine Zs (Zp 15 ?_)
 refine AWp.block (Zy ?_)
 refine Zl 1 14 (fun n lc hc=> ∃(i v:Nat) (ap:Bool) (Y:List Bt),n=s.length-i∧EqS lc [(4,.own v 4 (btsD Y)),(5,.d (.bool ap)),(6,.d (.int .i64 i))]∧EqS hc (⟨[],[v]⟩)∧(i≤s.length)∧(Y.length≤i)∧((bitsS ap (s.drop i)).map (Y++ ·)=bitsS false s)) ?_ ?_
 · refine ⟨_,0,t0,false,[],rfl,?_,ZE,?_,?_,?_⟩
   · (try simp only[go_sem])<;>first|exact⟨rfl⟩|(constructor;simp[btsD];done)
   all_goals(first|omega|(simp;done)|(cases bitsS false s<;>rfl))
 rintro _ _ _ ⟨i,v,ap,Y,rfl,⟨rfl⟩,⟨rfl⟩,h1,h2,h3⟩
 refine Zy ?_
 refine Zs (Zp 143 ?_)
 refine Zc (fun hc0=>?_) fun hc0=>?_
 ·
  have hlt:i<s.length:=by omega
  have hd:=drop_cons hlt
  refine Zk ?_
  refine AWp.block (Zs (Zx (Z3 ?_)))
  refine ZP (blank_c T _) ?_
  refine Zy ?_
  refine Zm 271 ?_
  refine Zc (fun hc1=>?_) fun hc1=>?_
  ·
   have hst:bitsS ap (s.drop i)=bitsS true (s.drop (i+1)):=by rw[hd,bits_blank hc1]
   refine Zp 15 ?_
   refine Zp 15 ?_
   refine AWp.exit (thenQ_e (blkQ_e (thenQ_n ?_)))
   refine Ze 1 14 [] [] [] [v] (.e ⟨_,ZM,(i+1),v,true,Y,rfl,?_,ZE,?_,?_,?_⟩)
   · (try simp only[go_sem])<;>first|exact⟨rfl⟩|(constructor;first|(simp[btsD,btD,take1 hlt];done)|(simp[btsD,btD];done))
   · omega
   · first|omega|(simp;omega)
   · first|(rw[←h3,hst];done)|(rw[←h3,hst];cases bitsS true (s.drop (i+1))<;>simp)
  refine Zk ?_
  refine Zp 31 ?_
  refine Zs (AWp.block (Zy ?_))
  refine Zl 15 16 (fun n lc hc=> ∃(e:Nat),n=s.length-e∧EqS lc [(7,.d (.int .i64 e))]∧EqS hc (⟨[],[v]⟩)∧(i≤e)∧(e≤s.length)∧(offS (s.drop e)=offS (s.drop i))∧((s.take e).drop i++runS (s.drop e)=runS (s.drop i))) ?_ ?_
  · refine ⟨_,i,rfl,ZE,ZE,?_,?_,?_,?_⟩
    all_goals(first|omega|rfl|(simp;done))
  rintro _ _ _ ⟨e,rfl,⟨rfl⟩,⟨rfl⟩,g1,g2,g3,g4⟩
  refine Zy ?_
  refine Zs (Zx (Zy ?_))
  (repeat(with_reducible refine And.intro ZS ?_))
  refine DW.pcgr rfl rfl rfl rfl rfl (fun hg=>atomByte_p T _) (fun hg=>by(try simp only[go_sem])<;>first|exact hg|(exfalso;simp at hg;done)|(simpa using hg)|grind) rfl rfl ?_
  refine Zy ?_
  (repeat(with_reducible refine And.intro ZS ?_))
  refine Zm 1048607 ?_
  refine Zc (fun hc2=>?_) fun hc2=>?_
  ·
   have hrb:∀h,runB (s.getD e 0)=true:=fun(h:(atomB (s.getD e 0)=true∨((s.getD e 0).toNat:Int)=46))=>by rw[runB_eq];simpa using h
   refine Zk ?_
   refine AWp.block (Zr (blkQ_n (thenQ_n ?_)))
   refine Zf 15 16 (.e ⟨_,ZM,e+1,rfl,ZE,ZE,?_,?_,?_,?_⟩)
   · omega
   · omega
   · rw [←(run_step (by omega) (hrb hc2.2)).2];exact g3
   · rw [(run_step (by omega) (hrb hc2.2)).1,take_step (by omega) g1] at g4;exact g4
  have he:=run_end (s:=s) (j:=e) (fun hj=>by
    rw[runB_eq]
    rcases hc2 with hc2|hc2
    · omega
    · simpa using hc2)
  refine AWp.exit (thenQ_e (thenQ_e (blkQ_e (thenQ_n ?_))))
  refine Zs (Zp 287 ?_)
  refine Zc (fun hc3=>?_) fun hc3=>?_
  ·
   have hrne:=run_pos g4 he.1 (by omega) g2
   have hru:runS (s.drop i)=(s.take e).drop i:=by rw[←g4,he.1,List.append_nil]
   have hst:bitsS ap (s.drop i)=(bitsS false (s.drop e)).map (⟨(s.take e).drop i,true,false,ap⟩:: ·):=by rw[bits_runs hrne,hru,←g3,he.2]
   refine Zx (Zy ?_)
   (repeat(with_reducible refine And.intro ZS ?_))
   refine DW.app rfl rfl rfl rfl (show slI Tryz.prog 215=some (221,4,24) by simp only[go_sem]) rfl rfl (by simp only[go_sem]) (by first|exact .inl rfl|exact .inr rfl) (by(try simp only[go_sem]);omega) (by(try simp only[go_sem]);omega) fun t1 ft1=>?_
   try simp only[freshT] at ft1
   refine Zy ?_
   refine Zm 19 ?_
   refine Zp 15 ?_
   refine Zp 15 ?_
   refine AWp.exit (thenQ_e (blkQ_e (thenQ_n ?_)))
   refine Ze 1 14 [] [] [] [t1] (.e ⟨_,ZM,e,t1,false,(Y++[⟨(s.take e).drop i,true,false,ap⟩]),rfl,?_,ZE,?_,?_,?_⟩)
   · (try simp only[go_sem])<;>first|exact⟨rfl⟩|(constructor;first|(simp[btsD,btD];done)|(simp[btsD,btD];done))
   · omega
   · first|omega|(simp;omega)
   · first|(rw[←h3,hst];done)|(rw[←h3,hst];cases bitsS false (s.drop e)<;>simp)
  have hru:=run_zero g4 he.1 (by omega) hlt
  refine Zk ?_
  refine Zs (Zp 527 ?_)
  refine Zc (fun hc4=>?_) fun hc4=>?_
  ·
   have hne:s.getD i 0≠34:=fun h=>hc4 (by rw[h];rfl)
   have hst:bitsS ap (s.drop i)=(bitsS false (s.drop (i+1))).map (⟨[s.getD i 0],false,false,ap⟩:: ·):=by rw[hd,bits_one hc1 hru hne]
   refine Zx (Zy ?_)
   (repeat(with_reducible refine And.intro ZS ?_))
   refine DW.app rfl rfl rfl rfl (show slI Tryz.prog 215=some (221,4,24) by simp only[go_sem]) rfl rfl (by simp only[go_sem]) (by first|exact .inl rfl|exact .inr rfl) (by(try simp only[go_sem]);omega) (by(try simp only[go_sem]);omega) fun t2 ft2=>?_
   try simp only[freshT] at ft2
   refine Zy ?_
   refine Zm 11 ?_
   refine Zp 15 ?_
   refine Zp 15 ?_
   refine AWp.exit (thenQ_e (blkQ_e (thenQ_n ?_)))
   refine Ze 1 14 [] [] [] [t2] (.e ⟨_,ZM,(i+1),t2,false,(Y++[⟨[s.getD i 0],false,false,ap⟩]),rfl,?_,ZE,?_,?_,?_⟩)
   · (try simp only[go_sem])<;>first|exact⟨rfl⟩|(constructor;first|(simp[btsD,btD,take1 hlt];done)|(simp[btsD,btD];done))
   · omega
   · first|omega|(simp;omega)
   · first|(rw[←h3,hst];done)|(rw[←h3,hst];cases bitsS false (s.drop (i+1))<;>simp)
  have h34:s.getD i 0=34:=(byte_is _ 34).1 hc4
  rw[h34] at hd
  refine Zk ?_
  refine Zp 23 ?_
  refine Zs (AWp.block (Zy ?_))
  refine Zl 7 8 (fun n lc hc=> ∃(e:Nat),n=s.length+2-e∧EqS lc [(7,.d (.int .i64 e))]∧EqS hc (⟨[],[v]⟩)∧(i+1≤e)∧(quoS (s.drop e)=quoS (s.drop (i+1)))) ⟨_,(i+1),rfl,ZE,ZE,ZI,ZI⟩ ?_
  rintro _ _ _ ⟨e,rfl,⟨rfl⟩,⟨rfl⟩,k1,k2⟩
  refine Zy ?_
  refine Zs (Zp 8207 ?_)
  refine Zc (fun hc5=>?_) fun hc5=>?_
  ·
   have hel:e<s.length:=by omega
   have hed:=drop_cons hel
   have hn34:s.getD e 0≠34:=fun h=>hc5.2 (by rw[h];rfl)
   refine Zk ?_
   refine AWp.block (Zs (Zp 271 ?_))
   refine Zc (fun hc6=>?_) fun hc6=>?_
   ·
    have h92:s.getD e 0=92:=(byte_is _ 92).1 hc6
    have hsq:quoS (s.drop e)=quoS (s.drop (e+1+1)):=by
      rw[hed,h92]
      rcases Nat.lt_or_ge (e+1) s.length with h|h
      · rw [drop_cons h,quo_esc]
      · rw [drop_none h,drop_none (by omega)];exact quo_esc1
    refine Zr (thenQ_n ?_)
    refine Zr (blkQ_n (thenQ_n ?_))
    refine Zf 7 8 (.e ⟨_,ZM,(e+1+1),rfl,ZE,ZE,?_,?_⟩)
    · omega
    · rw [←k2];exact hsq.symm
   have hsq:quoS (s.drop e)=quoS (s.drop (e+1)):=by rw[hed];exact quo_step hn34 (fun h=>hc6 (by rw[h];rfl))
   refine Zk ?_
   refine Zr (blkQ_n (thenQ_n ?_))
   refine Zf 7 8 (.e ⟨_,ZM,(e+1),rfl,ZE,ZE,?_,?_⟩)
   · omega
   · rw [←k2];exact hsq.symm
  refine AWp.exit (thenQ_e (thenQ_e (blkQ_e (thenQ_n ?_))))
  refine Zs (Zp 271 ?_)
  refine Zc (fun hc7=>?_) fun hc7=>?_
  ·
   have hq:quoS (s.drop (i+1))=none:=by rw[←k2,drop_none (by omega)];rfl
   refine Zp 6 ?_
   refine AWp.ret ?_
   simp only[go_sem]
   have hn:bitsS false s=none:=by rw[←h3,hd,bits_quoN hq];rfl
   rw[hn];simp[bitsV,LeA,LeL,LeD]
  have hel:e<s.length:=by omega
  have h34e:s.getD e 0=34:=(byte_is _ 34).1 (by
    rcases hc5 with hc5|hc5
    · omega
    · exact hc5)
  have hq:quoS (s.drop (i+1))=some (s.drop (e+1)):=by rw[←k2,drop_cons hel,h34e,quo_end]
  have hst:bitsS ap (s.drop i)=(bitsS false (s.drop (e+1))).map (⟨[],false,true,ap⟩:: ·):=by rw[hd,bits_quoS hq]
  refine Zk ?_
  refine Zx (Zy ?_)
  refine ZW fun t3 ft3=>?_
  try simp only[freshT] at ft3
  refine Zy ?_
  refine Zm 11 ?_
  refine Zp 15 ?_
  refine Zr (blkQ_n (thenQ_n ?_))
  refine Ze 1 14 [] [] [] [t3] (.e ⟨_,ZM,(e+1),t3,false,(Y++[⟨[],false,true,ap⟩]),rfl,?_,ZE,?_,?_,?_⟩)
  · (try simp only[go_sem])<;>first|exact⟨rfl⟩|(constructor;first|(simp[btsD,btD];done)|(simp[btsD,btD];done))
  · omega
  · first|omega|(simp;omega)
  · first|(rw[←h3,hst];done)|(rw[←h3,hst];cases bitsS false (s.drop (e+1))<;>simp)
 refine AWp.exit (thenQ_e (thenQ_e (blkQ_e (thenQ_n ?_))))
 refine Zm 2 ?_
 refine Zp 3 ?_
 refine AWp.ret ?_
 simp only[go_sem]
 have hn:bitsS false s=some Y:=by rw[←h3,drop_none (by omega),bits_nil];simp
 rw[hn];simp[bitsV,LeA,LeL,LeD]
theorem icast2 (n:Nat):(n:Int)+2=((n+2:Nat):Int):=rfl
theorem icast3 (n:Nat):(n:Int)+3=((n+3:Nat):Int):=rfl
theorem icast4 (n:Nat):(n:Int)+4=((n+4:Nat):Int):=rfl
theorem icast5 (n:Nat):(n:Int)+5=((n+5:Nat):Int):=rfl
def plainV:Option (Ad×List Bt)→AV
 |some (a,_)=> .tup [.agg [.d (.str a.1),.d (.str a.2)],.d (.int .i64 3)]
 |none=> .tup [.agg [.d (.str []),.d (.str [])],.d (.int .i64 0)]
theorem plain_in {l:List Bt} {i:Nat} (h:i+2<l.length):plainB (l.drop i)=if l[i].run=true∧l[i+1].text=[64]∧l[i+2].run=true∧l[i+1].apart=false∧l[i+2].apart=false∧adrE l[i].text l[i+2].text=0 then some ((l[i].text,l[i+2].text),l.drop (i+3)) else none:=by
 rw[List.drop_eq_getElem_cons (by omega:i<l.length),List.drop_eq_getElem_cons (by omega:i+1<l.length),List.drop_eq_getElem_cons (by omega:i+1+1<l.length)]
 rfl
theorem plain_out {l:List Bt} {i:Nat} (h:l.length≤i+2):plainB (l.drop i)=none:=by
 cases e:plainB (l.drop i) with
 |none=>rfl
 |some x=>obtain⟨a,t⟩:=x;have:=plainB_len e;simp at this;omega
def Short (l:List Bt):Prop:=∀x∈l,x.text.length≤4294967296
theorem Short.at {l:List Bt} (h:Short l) {i:Nat} (hi:i<l.length):(l[i]'hi).text.length≤4294967296:=h _ (List.getElem_mem hi)
attribute [local go_sem] icast icast2 decide_false decide_true Bool.false_or Bool.true_or Bool.not_true Bool.not_false Bool.false_eq_true Bool.true_eq_false and_true true_and btD in
theorem plainAt_c (T:Tbl) (hL:LibT T) (l:List Bt) (i:Nat) (hs:Short l) (hi:i≤4294967296) (hl:l.length≤4294967296):PC Tryz.prog T 230 [.d (.slc 4 (btsD l)),.d (.int .i64 i)] (plainV (plainB (l.drop i))):=by
 refine⟨Tryz.call230,PCall.enterS Tryz.func230 rfl Tryz.ntmps230 rfl fun hb=>?_⟩
 simp only[go_sem,Tryz.results230]
 refine Zx (Zy ?_)
 intro b4
 first|intro fb4|have fb4:=True.intro
 try simp only[freshL] at fb4
 refine Zs ?_
 rcases Nat.lt_or_ge (i+2) l.length with hlt|hlt
 ·
  have hge:((l.length:Int)≤((i+2:Nat):Int))=False:=by simp;omega
  have e0:=btsD_get l i [] (by omega)
  have e1:=btsD_get l (i+1) [] (by omega)
  have e2:=btsD_get l (i+2) [] (by omega)
  have zf1:=fun d0_=>btsD_get l i d0_ (by omega)
  have zf2:=fun d0_=>btsD_get l (i+1) d0_ (by omega)
  have zf3:=fun d0_=>btsD_get l (i+2) d0_ (by omega)
  refine Zp 1125899906842631 ?_
  refine Zc (fun hc0=>?_) fun hc0=>?_
  ·
   refine Zp 12 ?_
   refine AWp.ret ?_
   simp only[go_sem]
   first|(rw[plain_out hlt];simp[plainV,LeA,LeL,LeD];done)|(rw[plain_in hlt,if_neg (fun h=>by simp[h] at hc0)];simp[plainV,LeA,LeL,LeD])
  refine Zk ?_
  refine AWp.trees true (.seg 0 (.seg 1 (.seg 2 (.seg 3 (.seg 5 (.seg 6 (.seg 7 (.seg 8 (.seg 9 (.many (.alt 4 (.many (.alt 10 (.seg 11 (.seg 12 (.seg 13 (.done)))) (.alt 12 (.seg 10 (.seg 11 (.seg 13 (.done)))) (.nil)))) (.alt 10 (.many (.alt 4 (.seg 11 (.seg 12 (.seg 13 (.done)))) (.alt 12 (.seg 4 (.seg 11 (.seg 13 (.done)))) (.nil)))) (.alt 12 (.seg 4 (.seg 10 (.seg 11 (.seg 13 (.done))))) (.nil)))))))))))))) rfl (by kernel_rfl) fun K_ hK_=>?_
  simp only[go_sem,zf1,zf3]
  (repeat(with_reducible refine And.intro ZS ?_))
  intro b6
  first|intro fb6|have fb6:=True.intro
  try simp only[freshL] at fb6
  refine hK_ _ _ ?_
  refine Zm 12 ?_
  refine Zs (Zx ?_)
  simp only[go_sem,fb6]
  refine ZP (addrFault_bp T _ _ (by have:=hs.at (i:=i) (by omega);omega) (by have:=hs.at (i:=i+2) (by omega);omega)) ?_
  refine Zy ?_
  refine Zc (fun hc1=>?_) fun hc1=>?_
  ·
   refine Zp 3 ?_
   refine AWp.ret ?_
   simp only[go_sem,fb6]
   rw[plain_in hlt,if_neg (fun h=>hc1 h.2.2.2.2.2)];simp[plainV,LeA,LeL,LeD]
  refine Zk ?_
  refine Zp 3 ?_
  refine AWp.ret ?_
  simp only[go_sem,fb6]
  rw[plain_in hlt,if_pos ⟨hc0.1.1.1.1,hc0.1.1.1.2,hc0.1.1.2,hc0.1.2,hc0.2,hc1⟩];simp[plainV,LeA,LeL,LeD]
 have hge:((l.length:Int)≤((i+2:Nat):Int))=True:=by simp;omega
 refine Zp 1125899906842631 ?_
 refine Zc (fun hc0=>?_) fun hc0=>?_
 ·
  refine Zp 12 ?_
  refine AWp.ret ?_
  simp only[go_sem]
  first|(rw[plain_out hlt];simp[plainV,LeA,LeL,LeD];done)|(rw[plain_in hlt,if_neg (fun h=>by simp[h] at hc0)];simp[plainV,LeA,LeL,LeD])
 exact absurd hc0 (by first|(simp;done)|omega|(simp[*];done))
end
section
def addrV (n:Nat):Option (Ad×List Bt)→AV
 |some (a,t)=> .tup [.agg [.d (.str a.1),.d (.str a.2)],.d (.int .i64 (n-t.length:Int))]
 |none=> .tup [.agg [.d (.str []),.d (.str [])],.d (.int .i64 (-1))]
theorem plain_t {l:List Bt} {i:Nat} {a:Ad} {t:List Bt} (h:plainB (l.drop i)=some (a,t)):t=l.drop (i+3)∧i+3≤l.length:=by
 have h1:=plainB_len h
 simp at h1
 refine⟨?_,by omega⟩
 rcases Nat.lt_or_ge (i+2) l.length with h2|h2
 ·rw[plain_in h2] at h
  split at h
  ·injection h with h;injection h with _ h;exact h.symm
  ·cases h
 ·rw[plain_out h2] at h;cases h
theorem plainAt_none (T:Tbl) (hL:LibT T) (l:List Bt) (i:Nat) (hs:Short l) (hi:i≤4294967296) (hl:l.length≤4294967296) (hp:plainB (l.drop i)=none):PC Tryz.prog T 230 [.d (.slc 4 (btsD l)),.d (.int .i64 i)] (.tup [.agg [.d (.str []),.d (.str [])],.d (.int .i64 0)]):=by
 have:=plainAt_c T hL l i hs hi hl
 rw[hp] at this;exact this
theorem plainAt_some (T:Tbl) (hL:LibT T) (l:List Bt) (i:Nat) (hs:Short l) (hi:i≤4294967296) (hl:l.length≤4294967296) (a:Ad) (t:List Bt) (hp:plainB (l.drop i)=some (a,t)):PC Tryz.prog T 230 [.d (.slc 4 (btsD l)),.d (.int .i64 i)] (.tup [.agg [.d (.str a.1),.d (.str a.2)],.d (.int .i64 3)]):=by
 have:=plainAt_c T hL l i hs hi hl
 rw[hp] at this;exact this
theorem dropw_step {l:List Bt} {k:Nat} (h:k<l.length) (hw:wordB l[k]=true):(l.drop k).dropWhile wordB=(l.drop (k+1)).dropWhile wordB:=by
 rw[List.drop_eq_getElem_cons h,List.dropWhile_cons,if_pos hw]
theorem dropw_end {l:List Bt} {k:Nat} (h:∀hk:k<l.length,wordB l[k]=false):(l.drop k).dropWhile wordB=l.drop k:=by
 rcases Nat.lt_or_ge k l.length with hk|hk
 ·rw[List.drop_eq_getElem_cons hk,List.dropWhile_cons,if_neg (by rw[h hk];decide)]
 ·rw[List.drop_eq_nil_of_le hk];rfl
theorem ang_nil {l:List Bt} {k:Nat} (h:l.length≤k):angB (l.drop k)=none:=by rw[List.drop_eq_nil_of_le h];rfl
theorem ang_ne {l:List Bt} {k:Nat} (h:k<l.length) (hx:l[k].text≠[60]):angB (l.drop k)=none:=by
 rw[List.drop_eq_getElem_cons h];simp[angB,hx]
theorem ang_np {l:List Bt} {k:Nat} (h:k<l.length) (hp:plainB (l.drop (k+1))=none):angB (l.drop k)=none:=by
 rw[List.drop_eq_getElem_cons h];simp[angB,hp]
theorem ang_p {l:List Bt} {k:Nat} (h:k<l.length) (hx:l[k].text=[60]) {a:Ad} {t:List Bt} (hp:plainB (l.drop (k+1))=some (a,t)) (h1:k+1<l.length):angB (l.drop k)=if h4:k+4<l.length then(if l[k+1].apart=false∧l[k+4].text=[62]∧l[k+4].apart=false then some (a,l.drop (k+5)) else none) else none:=by
 obtain⟨ht,hle⟩:=plain_t hp
 have hh:(l.drop (k+1)).head?.map Bt.apart=some l[k+1].apart:=by rw[List.drop_eq_getElem_cons h1];rfl
 rw[List.drop_eq_getElem_cons h]
 simp only[angB,hx,if_true,hp,hh,Option.some.injEq]
 subst ht
 rcases Nat.lt_or_ge (k+4) l.length with h4|h4
 ·rw[dif_pos h4,List.drop_eq_getElem_cons (show k+1+3<l.length by omega)]
 ·rw[dif_neg (by omega),List.drop_eq_nil_of_le (by omega)]
theorem addrB_some {l:List Bt} {x:Ad×List Bt} (h:plainB l=some x):addrB l=some x:=by unfold addrB;rw[h]
theorem addrB_none {l:List Bt} (h:plainB l=none):addrB l=angB (l.dropWhile wordB):=by unfold addrB;rw[h]
theorem b30:((3:Int)=0)=False:=by simp
theorem b00:((0:Int)=0)=True:=by simp
theorem b03:((0:Int)<3)=True:=by simp
theorem b000:((0:Int)<0)=False:=by simp
theorem intF {a b:Nat} (h:b≤a):((a:Int)<(b:Int))=False:=by simp;omega
theorem intT {a b:Nat} (h:a<b):((a:Int)<(b:Int))=True:=by simp;omega
theorem inlF {a b:Nat} (h:b<a):((a:Int)≤(b:Int))=False:=by simp;omega
theorem inlT {a b:Nat} (h:a≤b):((a:Int)≤(b:Int))=True:=by simp;omega
attribute [local go_sem] icast icast3 icast4 icast5 decide_false decide_true Bool.false_or Bool.true_or Bool.false_and Bool.true_and Bool.not_true Bool.not_false Bool.false_eq_true Bool.true_eq_false and_true true_and b30 b00 b03 b000 btD List.drop_nil List.take_nil List.map_nil List.headD_nil in
theorem addressAt_c (T:Tbl) (hL:LibT T) (l:List Bt) (i:Nat) (hs:Short l) (hi:i≤4294967296) (hl:l.length≤4294967296):PC Tryz.prog T 147 [.d (.slc 4 (btsD l)),.d (.int .i64 i)] (addrV l.length (addrB (l.drop i))):=by
 refine⟨Tryz.call147,PCall.enterS Tryz.func147 rfl Tryz.ntmps147 rfl fun hb=>?_⟩
 simp only[go_sem,Tryz.results147]
 refine Zx (Zy ?_)
 intro b4
 first|intro fb4|have fb4:=True.intro
 try simp only[freshL] at fb4
 rcases hp:plainB (l.drop i) with _|x
 ·
  refine Zx (Zy ?_)
  refine ZP (plainAt_none T hL l i hs hi hl hp) ?_
  refine Zy ?_
  intro b6
  first|intro fb6|have fb6:=True.intro
  try simp only[freshL] at fb6
  refine Zm 55 ?_
  refine Zs (Zp 79 ?_)
  refine Zc (fun hc0=>?_) fun hc0=>?_
  ·
   exact absurd hc0 (by first|(simp;done)|omega|(simp[*];done))
  refine Zk ?_
  refine Zs (AWp.block (Zn 15 ?_))
  refine Zl 13 2 (fun n lc hc=> ∃(k:Nat),n=l.length-k∧EqS lc [(1,.d (.int .i64 k))]∧EqS hc (⟨[(b6,⟨2,1,[[.d (.str []),.d (.str [])]]⟩),(b4,⟨2,1,[[.d (.str []),.d (.str [])]]⟩)],[]⟩)∧(i≤k)∧(k≤4294967296)∧((l.drop k).dropWhile wordB=(l.drop i).dropWhile wordB)) ?_ ?_
  · refine ⟨_,i,rfl,ZE,ZE,?_,?_,?_⟩
    all_goals(first|omega|rfl)
  rintro _ _ _ ⟨k,rfl,⟨rfl⟩,⟨rfl⟩,h1,h2,h3⟩
  refine Zy ?_
  refine Zs ?_
  rcases Nat.lt_or_ge k l.length with hlt|hlt
  ·
   have zf1:=fun d0_=>btsD_get l k d0_ hlt
   have zf2:=intT hlt
   have zf3:=inlF hlt
   refine Zp 2097167 ?_
   refine Zc (fun hc1=>?_) fun hc1=>?_
   ·
    refine Zk ?_
    refine AWp.block (Zr (blkQ_n (thenQ_n ?_)))
    refine Ze 13 2 [] [] [b6,b4] [] (.e ⟨_,ZM,k+1,rfl,ZE,ZE,?_,?_,?_⟩)
    · omega
    · omega
    · rw [←dropw_step hlt (by simpa[wordB] using hc1)];exact h3
   have hdw:(l.drop i).dropWhile wordB=l.drop k:=by
     rw[←h3]
     exact dropw_end (fun hk=>by first|(exfalso;omega)|(unfold wordB;simpa using hc1))
   refine AWp.exit (thenQ_e (thenQ_e (blkQ_e (thenQ_n ?_))))
   refine Zs (Zp 65551 ?_)
   refine Zc (fun hc2=>?_) fun hc2=>?_
   ·
    refine Zp 12 ?_
    refine AWp.ret ?_
    simp only[go_sem,fb6]
    rw[addrB_none hp,hdw];first|rw[ang_nil hlt]|rw[ang_ne hlt (by simpa using hc2)]
    simp[addrV,LeA,LeL,LeD]
   refine Zk ?_
   rcases hp2:plainB (l.drop (k+1)) with _|x
   ·
    refine Z1 31 (plainAt_none T hL l (k+1) hs (by omega) hl hp2) ?_
    refine Zs (Zp 274877906958 ?_)
    refine Zc (fun hc3=>?_) fun hc3=>?_
    ·
     refine Zp 6 ?_
     refine AWp.ret ?_
     simp only[go_sem,fb6]
     have h60:l[k].text=[60]:=by simpa using hc2
     rw[addrB_none hp,hdw]
     first
     |rw[ang_np hlt hp2]
     |rw[ang_p hlt h60 hp2 (by omega),dif_neg (by omega)]
     |rw[ang_p hlt h60 hp2 (by omega),dif_pos hlt4,if_neg (fun h=>by simp[h] at hc3)]
     simp[addrV,LeA,LeL,LeD]
    exact absurd hc3 (by first|(simp;done)|omega|(simp[*];done))
   obtain⟨a,t⟩:=x
   obtain⟨rfl,hle⟩:=plain_t hp2
   refine Zx (Zy ?_)
   (repeat(with_reducible refine And.intro ZS ?_))
   refine DW.pcr rfl rfl rfl rfl (plainAt_some T hL l (k+1) hs (by omega) hl a _ hp2) rfl rfl ?_
   simp only[go_sem,fb6]
   refine Zm 31 ?_
   refine Zs ?_
   rcases Nat.lt_or_ge (k+4) l.length with hlt4|hlt4
   ·
    have zf4:=fun d0_=>btsD_get l (k+1) d0_ (by omega)
    have zf5:=fun d0_=>btsD_get l (k+4) d0_ hlt4
    have zf6:=inlF hlt4
    refine Zp 274877906958 ?_
    refine Zc (fun hc3=>?_) fun hc3=>?_
    ·
     refine Zp 6 ?_
     refine AWp.ret ?_
     simp only[go_sem,fb6]
     have h60:l[k].text=[60]:=by simpa using hc2
     rw[addrB_none hp,hdw]
     first
     |rw[ang_np hlt hp2]
     |rw[ang_p hlt h60 hp2 (by omega),dif_neg (by omega)]
     |rw[ang_p hlt h60 hp2 (by omega),dif_pos hlt4,if_neg (fun h=>by simp[h] at hc3)]
     simp[addrV,LeA,LeL,LeD]
    refine Zk ?_
    refine Zp 6 ?_
    refine AWp.ret ?_
    simp only[go_sem,fb6]
    have h60:l[k].text=[60]:=by simpa using hc2
    rw[addrB_none hp,hdw,ang_p hlt h60 hp2 (by omega),dif_pos hlt4,if_pos ⟨hc3.1.1,hc3.1.2,hc3.2⟩]
    simp[addrV,LeA,LeL,LeD]
    omega
   have zf7:=fun d0_=>btsD_get l (k+1) d0_ (by omega)
   have zf8:=inlT hlt4
   refine Zp 274877906958 ?_
   refine Zc (fun hc3=>?_) fun hc3=>?_
   ·
    refine Zp 6 ?_
    refine AWp.ret ?_
    simp only[go_sem,fb6]
    have h60:l[k].text=[60]:=by simpa using hc2
    rw[addrB_none hp,hdw]
    first
    |rw[ang_np hlt hp2]
    |rw[ang_p hlt h60 hp2 (by omega),dif_neg (by omega)]
    |rw[ang_p hlt h60 hp2 (by omega),dif_pos hlt4,if_neg (fun h=>by simp[h] at hc3)]
    simp[addrV,LeA,LeL,LeD]
   exact absurd hc3 (by first|(simp;done)|omega|(simp[*];done))
  have zf9:=intF hlt
  have zf10:=inlT hlt
  have zf11:=btsD_none l k hlt
  refine Zp 2097167 ?_
  refine Zc (fun hc1=>?_) fun hc1=>?_
  ·
   exact absurd hc1 (by first|(simp;done)|omega|(simp[*];done))
  have hdw:(l.drop i).dropWhile wordB=l.drop k:=by
    rw[←h3]
    exact dropw_end (fun hk=>by first|(exfalso;omega)|(unfold wordB;simpa using hc1))
  refine AWp.exit (thenQ_e (thenQ_e (blkQ_e (thenQ_n ?_))))
  refine Zs (Zp 65551 ?_)
  refine Zc (fun hc2=>?_) fun hc2=>?_
  ·
   refine Zp 12 ?_
   refine AWp.ret ?_
   simp only[go_sem,fb6]
   rw[addrB_none hp,hdw];first|rw[ang_nil hlt]|rw[ang_ne hlt (by simpa using hc2)]
   simp[addrV,LeA,LeL,LeD]
  exact absurd hc2 (by first|(simp;done)|omega|(simp[*];done))
 obtain⟨a,t⟩:=x
 obtain⟨rfl,hle⟩:=plain_t hp
 refine Zx (Zy ?_)
 refine ZP (plainAt_some T hL l i hs hi hl a _ hp) ?_
 refine Zy ?_
 intro b6
 first|intro fb6|have fb6:=True.intro
 try simp only[freshL] at fb6
 refine Zm 55 ?_
 refine Zs (Zp 79 ?_)
 refine Zc (fun hc0=>?_) fun hc0=>?_
 ·
  refine Zp 12 ?_
  refine AWp.ret ?_
  simp only[go_sem,fb6]
  rw[addrB_some hp];simp[addrV,LeA,LeL,LeD];omega
 exact absurd hc0 (by first|(simp;done)|omega|(simp[*];done))
end
section
theorem dropw_drop (l:List Bt) (i:Nat):∃k,i≤k∧(l.drop i).dropWhile wordB=l.drop k:=by
 obtain⟨t,ht⟩:=List.dropWhile_suffix (l:=l.drop i) wordB
 refine⟨i+t.length,by omega,?_⟩
 have h2:List.drop t.length (t++List.dropWhile wordB (l.drop i))=List.dropWhile wordB (l.drop i):=by simp
 rw[ht,List.drop_drop] at h2
 exact h2.symm
theorem ang_t {l:List Bt} {k:Nat} {a:Ad} {t:List Bt} (h:angB (l.drop k)=some (a,t)):t=l.drop (k+5)∧k+5≤l.length:=by
 rcases Nat.lt_or_ge k l.length with hk|hk
 ·by_cases hx:l[k].text=[60]
  ·cases hp:plainB (l.drop (k+1)) with
   |none=>rw[ang_np hk hp] at h;cases h
   | some x=>
    obtain⟨a',t'⟩:=x
    obtain⟨_,hle⟩:=plain_t hp
    rw[ang_p hk hx hp (by omega)] at h
    split at h
    ·split at h
     ·injection h with h;injection h with _ h;exact⟨h.symm,by omega⟩
     ·cases h
    ·cases h
  ·rw[ang_ne hk hx] at h;cases h
 ·rw[ang_nil hk] at h;cases h
theorem addr_t {l:List Bt} {i:Nat} {a:Ad} {t:List Bt} (h:addrB (l.drop i)=some (a,t)):∃e,i<e∧e≤l.length∧t=l.drop e:=by
 cases hp:plainB (l.drop i) with
 |some x=>
  rw[addrB_some hp] at h
  injection h with h;subst h
  obtain⟨h1,h2⟩:=plain_t hp
  exact⟨i+3,by omega,h2,h1⟩
 |none=>
  rw[addrB_none hp] at h
  obtain⟨k,hk,e⟩:=dropw_drop l i
  rw[e] at h
  obtain⟨h1,h2⟩:=ang_t h
  exact⟨k+5,by omega,h2,h1⟩
theorem addressAt_none (T:Tbl) (hL:LibT T) (l:List Bt) (i:Nat) (hs:Short l) (hi:i≤4294967296) (hl:l.length≤4294967296) (hp:addrB (l.drop i)=none):PC Tryz.prog T 147 [.d (.slc 4 (btsD l)),.d (.int .i64 i)] (.tup [.agg [.d (.str []),.d (.str [])],.d (.int .i64 (-1))]):=by
 have:=addressAt_c T hL l i hs hi hl
 rw[hp] at this;exact this
theorem addressAt_some (T:Tbl) (hL:LibT T) (l:List Bt) (i e:Nat) (hs:Short l) (hi:i≤4294967296) (hl:l.length≤4294967296) (a:Ad) (he:e≤l.length) (hp:addrB (l.drop i)=some (a,l.drop e)):PC Tryz.prog T 147 [.d (.slc 4 (btsD l)),.d (.int .i64 i)] (.tup [.agg [.d (.str a.1),.d (.str a.2)],.d (.int .i64 e)]):=by
 have:=addressAt_c T hL l i hs hi hl
 rw[hp] at this
 simp only[addrV,List.length_drop] at this
 rw[show((l.length:Int)-((l.length-e:Nat):Int))=e by omega] at this
 exact this
theorem bits_ok (n:Nat):∀(s:Tx) (ap:Bool) (l:List Bt),s.length≤n→bitsS ap s=some l→l.length≤s.length∧∀x∈l,x.text.length≤s.length:=by
 induction n with
 |zero=>
  intro s ap l hs h
  have:s=[]:=List.eq_nil_of_length_eq_zero (by omega)
  subst this
  rw[bits_nil] at h;injection h with h;subst h;simp
 | succ n ih=>
  intro s ap l hs h
  cases s with
  |nil=>rw[bits_nil] at h;injection h with h;subst h;simp
  | cons c r=>
   simp only[List.length_cons] at hs⊢
   have fin:∀(q:Tx) (x:Bt) (l':List Bt),q.length≤r.length→x.text.length≤r.length+1→bitsS false q=some l'→x::l'=l→l.length≤r.length+1∧∀x∈l,x.text.length≤r.length+1:=by
    intro q x l' hq hx h1 h2
    obtain⟨i1,i2⟩:=ih q false l' (by omega) h1
    subst h2
    refine⟨by simp;omega,fun y hy=>?_⟩
    rcases List.mem_cons.1 hy with rfl|hy
    ·exact hx
    ·have:=i2 y hy;omega
   cases e:blkB c with
   |true=>
    rw[bits_blank e] at h
    obtain⟨i1,i2⟩:=ih r true l (by omega) h
    exact⟨by omega,fun x hx=>by have:=i2 x hx;omega⟩
   | false=>
    cases e2:runB c with
    |true=>
     rw[bits_run e2] at h
     obtain⟨l',h1,h2⟩:=Option.map_eq_some_iff.1 h
     have h3:=off_lt (c::r) (by rw[runS_cons e2];simp)
     have h4:=(List.takeWhile_sublist (l:=c::r) runB).length_le
     simp only[List.length_cons] at h3 h4
     exact fin _ _ l' (by omega) h4 h1 h2
    | false=>
     by_cases e3:c=34
     ·subst e3
      cases e4:quoS r with
      |none=>rw[bits_quoN e4] at h;cases h
      |some q=>
       rw[bits_quoS e4] at h
       obtain⟨l',h1,h2⟩:=Option.map_eq_some_iff.1 h
       have:=quo_lt _ _ e4
       exact fin q _ l' (by omega) (by simp) h1 h2
     ·rw[bits_one e e2 e3] at h
      obtain⟨l',h1,h2⟩:=Option.map_eq_some_iff.1 h
      exact fin r _ l' (by omega) (by simp) h1 h2
theorem bits_short {s:Tx} {l:List Bt} (h:bitsS false s=some l) (hs:s.length≤4294967296):l.length≤4294967296∧Short l:=by
 obtain⟨h1,h2⟩:=bits_ok s.length s false l (Nat.le_refl _) h
 exact⟨by omega,fun x hx=>by have:=h2 x hx;omega⟩
theorem bitsOf_none (T:Tbl) (s:Tx) (hs:s.length≤4294967296) (h:bitsS false s=none):PC Tryz.prog T 146 [.d (.str s)] (.tup [.any,.d (.bool false)]):=by
 have:=bitsOf_c T s hs
 rw[h] at this;exact this
theorem bitsOf_some (T:Tbl) (s:Tx) (hs:s.length≤4294967296) (l:List Bt) (h:bitsS false s=some l):PC Tryz.prog T 146 [.d (.str s)] (.tup [.d (.slc 4 (btsD l)),.d (.bool true)]):=by
 have:=bitsOf_c T s hs
 rw[h] at this;exact this
def adD (a:Ad):List D:=[.str a.1,.str a.2]
def adsD (l:List Ad):List (List D):=l.map adD
@[go_sem] theorem adsD_len (l:List Ad):(adsD l).length=l.length:=by simp[adsD]
def listV:Option (List Ad)→AV
 |some l=> .tup [.d (.slc 2 (adsD l)),.d (.bool true)]
 |none=> .tup [.d (.slc 2 []),.d (.bool false)]
theorem lessF:(((-1:Int)<0))=True:=by simp
attribute [local go_sem] icast adD lessF btD in
theorem listOf_c (T:Tbl) (hL:LibT T) (s:Tx) (hs:s.length≤4294967296):PC Tryz.prog T 82 [.d (.str s)] (listV (listS s)):=by
 refine⟨Tryz.call82,PCall.enterS Tryz.func82 rfl Tryz.ntmps82 rfl fun hb=>?_⟩
 simp only[go_sem,Tryz.results82]
 refine Zp 1 ?_
 rcases hb0:bitsS false s with _|l
 ·
  refine Z1 6 (bitsOf_none T s hs hb0) ?_
  refine Zs (Zp 9 ?_)
  refine Zc (fun hc0=>?_) fun hc0=>?_
  ·
   refine Zp 3 ?_
   refine AWp.ret ?_
   simp only[go_sem]
   have hn:listS s=none:=by have:=list_bits s.length s false (Nat.le_refl _);rw[hb0] at this;exact this.symm
   rw[hn];simp[listV,LeA,LeL,LeD]
  exact absurd hc0 (by first|(simp;done)|omega|(simp[*];done))
 obtain⟨hl,hsh⟩:=bits_short hb0 hs
 have hLS:listB l=listS s:=by have:=list_bits s.length s false (Nat.le_refl _);rw[hb0] at this;exact this
 refine Z1 6 (bitsOf_some T s hs l hb0) ?_
 refine Zs (Zp 9 ?_)
 refine Zc (fun hc0=>?_) fun hc0=>?_
 ·
  exact absurd hc0 (by first|(simp;done)|omega|(simp[*];done))
 refine Zk ?_
 refine Zp 3 ?_
 refine Zy ?_
 refine AWp.ownNilS 6 2 rfl rfl (by decide) fun t0 ft0=>?_
 try simp only[freshT] at ft0
 refine Zy ?_
 refine Zp 7 ?_
 refine AWp.block (Zy ?_)
 refine Zl 1 6 (fun n lc hc=> ∃(k v:Nat) (Y:List Ad),n=l.length-k∧EqS lc [(6,.own v 2 (adsD Y)),(7,.d (.int .i64 k))]∧EqS hc (⟨[],[v]⟩)∧(k≤l.length)∧(Y.length≤k)∧((listB (l.drop k)).map (Y++ ·)=listB l)) ?_ ?_
 · refine ⟨_,0,t0,[],rfl,?_,ZE,?_,?_,?_⟩
   · (try simp only[go_sem])<;>first|exact⟨rfl⟩|(constructor;simp[adsD];done)
   all_goals(first|omega|(simp;done)|(cases listB l<;>rfl))
 rintro _ _ _ ⟨k,v,Y,rfl,⟨rfl⟩,⟨rfl⟩,h1,h2,h3⟩
 refine Zy ?_
 refine AWp.block ?_
 rcases hp:addrB (l.drop k) with _|x
 ·
  refine Zx (Zy ?_)
  refine ZP (addressAt_none T hL l k hsh (by omega) hl hp) ?_
  refine Zy ?_
  intro b8
  first|intro fb8|have fb8:=True.intro
  try simp only[freshL] at fb8
  refine Zm 27 ?_
  refine Zs (Zp 47 ?_)
  refine Zc (fun hc1=>?_) fun hc1=>?_
  ·
   refine Zp 3 ?_
   refine AWp.ret ?_
   simp only[go_sem]
   first|(exfalso;omega)|(rw[(by rw[←hLS,←h3,listB_none hp];rfl:listS s=none)];simp[listV,LeA,LeL,LeD])
  exact absurd hc1 (by first|(simp;done)|omega|(simp[*];done))
 obtain⟨a,t⟩:=x
 obtain⟨e,he1,he2,rfl⟩:=addr_t hp
 refine Zx (Zy ?_)
 refine ZP (addressAt_some T hL l k e hsh (by omega) hl a he2 hp) ?_
 refine Zy ?_
 intro b8
 first|intro fb8|have fb8:=True.intro
 try simp only[freshL] at fb8
 refine Zm 27 ?_
 refine Zs (Zp 47 ?_)
 refine Zc (fun hc1=>?_) fun hc1=>?_
 ·
  refine Zp 3 ?_
  refine AWp.ret ?_
  simp only[go_sem]
  first|(exfalso;omega)|(rw[(by rw[←hLS,←h3,listB_none hp];rfl:listS s=none)];simp[listV,LeA,LeL,LeD])
 refine Zk ?_
 refine Zx (Zy ?_)
 refine ZW fun t1 ft1=>?_
 try simp only[freshT] at ft1
 refine Zy ?_
 refine Zm 11 ?_
 refine Zs (Zp 71 ?_)
 refine Zc (fun hc2=>?_) fun hc2=>?_
 ·
  have hst:listB (l.drop k)=some [a]:=by
    have h0:l.drop e=[]:=List.drop_eq_nil_of_le (by omega)
    rw[h0] at hp
    exact listB_one hp
  refine Zp 3 ?_
  refine AWp.ret ?_
  simp only[go_sem]
  have hn:listS s=some (Y++[a]):=by rw[←hLS,←h3,hst];rfl
  rw[hn];simp[listV,adsD,adD,LeA,LeL,LeD]
 have hel:e<l.length:=by omega
 rw[List.drop_eq_getElem_cons hel] at hp
 have zf1:=fun d0_=>btsD_get l e d0_ hel
 refine Zk ?_
 refine Zs (Zp 519 ?_)
 refine Zc (fun hc3=>?_) fun hc3=>?_
 ·
  have hst:listB (l.drop k)=none:=by rw[listB_more hp,if_neg (by simpa using hc3)]
  refine Zp 3 ?_
  refine AWp.ret ?_
  simp only[go_sem]
  have hn:listS s=none:=by rw[←hLS,←h3,hst];rfl
  rw[hn];simp[listV,LeA,LeL,LeD]
 have hst:listB (l.drop k)=(listB (l.drop (e+1))).map (a:: ·):=by rw[listB_more hp,if_pos (by simpa using hc3)]
 refine Zk ?_
 refine Zr (blkQ_n (thenQ_n ?_))
 refine Ze 1 6 [b8] [] [] [t1] (.e ⟨_,ZM,(e+1),t1,(Y++[a]),rfl,?_,ZE,?_,?_,?_⟩)
 · (try simp only[go_sem])<;>first|exact⟨rfl⟩|(constructor;simp[adsD,adD];done)
 · omega
 · simp;omega
 · rw [←h3,hst];cases listB (l.drop (e+1))<;>simp
end
section
def adsV (r:List Ad×Int):AV:= .tup [.d (.slc 2 (adsD r.1)),.d (.int .i64 r.2)]
theorem list1_none (T:Tbl) (b2 b3:Nat) (h:AH):ADefer Tryz.prog T 218 [.ptr b2 1 0 0,.ptr b3 1 0 0] h none (fun h'=>h'=h):=by
 refine ADefer.enter (t0:=3) (t1:=2) Tryz.call218 Tryz.func218 rfl Tryz.ntmps218 Tryz.results218 rfl rfl rfl rfl rfl rfl rfl rfl trivial ?_
 simp only[go_sem,Option.getD]
 refine AWp.rs fun K1 hK1=>?_
 refine Zy ?_
 refine hK1 _ _ ?_
 refine AWp.cond _ rfl (fun hc=>?_) (fun hc=>?_)
 ·exact absurd hc (by simp)
 ·exact AWp.skip rfl
theorem list1_some (T:Tbl) (b2 b3:Nat) (x:AV) (y e:Int) (F:List (Nat×Ob)) (L:List Nat) (h23:(b2==b3)=false):ADefer Tryz.prog T 218 [.ptr b2 1 0 0,.ptr b3 1 0 0] ⟨(b2,⟨1,1,[[x]]⟩)::(b3,⟨1,1,[[.d (.int .i64 y)]]⟩)::F,L⟩ (some (.ifc 25 (.d (.int .i64 e)))) (fun h'=>h'=⟨(b2,⟨1,1,[[.nils]]⟩)::(b3,⟨1,1,[[.d (.int .i64 e)]]⟩)::F,L⟩):=by
 refine ADefer.enter (t0:=3) (t1:=2) Tryz.call218 Tryz.func218 rfl Tryz.ntmps218 Tryz.results218 rfl rfl rfl rfl rfl rfl rfl rfl trivial ?_
 simp only[go_sem,Option.getD]
 refine AWp.rs fun K1 hK1=>?_
 refine Zy ?_
 refine hK1 _ _ ?_
 refine AWp.cond _ rfl (fun hc=>?_) (fun hc=>?_)
 ·refine AWp.dk true [0,1,2,3] rfl (by kernel_rfl) fun K2 hK2=>?_
  simp only[go_sem,assertP,h23]
  refine hK2 _ _ ?_
  rfl
 ·exact absurd hc (by simp)
theorem list_step {s:Tx} {j j1 j2:Nat} {a:Ad} (hq:addrS true (s.drop j)=some (a,s.drop j1)) (hsk:s.drop j2=skipS (s.drop j1)):listS (s.drop j)=match s.drop j2 with|[]=>some [a]|c::q=>if c=44 then(listS q).map (a:: ·) else none:=by
 rw[listS_some hq,←hsk]
 rfl
theorem list_no {s:Tx} {j j1 j2:Nat} {a:Ad} (hq:addrS true (s.drop j)=some (a,s.drop j1)) (hsk:s.drop j2=skipS (s.drop j1)) (h1:j2<s.length) (h:(s.drop j2).head?≠some 44):listS (s.drop j)=none:=by
 rw[list_step hq hsk,drop_cons h1]
 rw[drop_cons h1] at h
 simp at h
 simp[h]
theorem list_more {s:Tx} {j j1 j2:Nat} {a:Ad} (hq:addrS true (s.drop j)=some (a,s.drop j1)) (hsk:s.drop j2=skipS (s.drop j1)) (hd:s.drop j2=44::s.drop (j2+1)):listS (s.drop j)=(listS (s.drop (j2+1))).map (a:: ·):=by
 rw[list_step hq hsk,hd];simp
theorem list_end {s:Tx} {j j1 j2:Nat} {a:Ad} (hq:addrS true (s.drop j)=some (a,s.drop j1)) (hsk:s.drop j2=skipS (s.drop j1)) (h1:s.length≤j2):listS (s.drop j)=some [a]:=by
 rw[list_step hq hsk,drop_none h1]
theorem listR_no {s:Tx} (h:¬2000<s.length) (hn:listS s=none):listR s=([],3):=by rw[listR,if_neg h,hn]
theorem listR_full {s:Tx} {l:List Ad} (h:¬2000<s.length) (hn:listS s=some l) (hl:20<l.length):listR s=([],5):=by rw[listR,if_neg h,hn];exact if_pos hl
theorem listR_ok {s:Tx} {l:List Ad} (h:¬2000<s.length) (hn:listS s=some l) (hl:¬20<l.length):listR s=(l,0):=by rw[listR,if_neg h,hn];exact if_neg hl
attribute [local go_sem] qob icast in
theorem List_a (T:Tbl) (hL:LibT T) (s:Tx):AC Tryz.prog T 133 [.d (.str s)] (⟨[],[]⟩) (fun x _=>x= .ret (adsV (listR s))):=by
 refine⟨Tryz.call133,ACalls.enterD Tryz.func133 rfl Tryz.ntmps133 rfl fun hb=>?_⟩
 simp only[go_sem,Tryz.results133]
 refine AWpD.seq fun K1 hK1=>?_
 refine Zq fun K_ k_=>?_
 refine Zy ?_
 intro b2
 first|intro fb2|have fb2:=True.intro
 try simp only[freshL,qob] at fb2
 intro b3
 first|intro fb3|have fb3:=True.intro
 try simp only[freshL,qob] at fb3
 refine k_ _ _ (thenQ_n ?_)
 refine hK1 _ _ ?_
 try clear hK1 K1
 refine AWpD.seq fun K2 hK2=>?_
 refine Zp 39 ?_
 refine Zc (fun hc0=>?_) fun hc0=>?_
 ·
  refine Zp 6 ?_
  refine AWp.ret ?_
  simp only[thenQ]
  simp only[endD]
  apply endW_r [b2,b3] [] [] [] (by(try simp only[go_sem,fb3]);rfl)
  · rfl
  · rw [listR,if_pos (by omega)];simp[adsV,adsD,LeA,LeL,LeD]
 have hs:s.length≤4096:=by omega
 refine Zk ?_
 refine hK2 _ _ ?_
 try clear hK2 K2
 refine AWpD.defer rfl rfl rfl (by rw[mkS_len];decide) rfl rfl ?_
 refine Zy ?_
 refine Zx (Zy ?_)
 intro b4
 first|intro fb4|have fb4:=True.intro
 try simp only[freshL,qob] at fb4
 refine Zn 14 ?_
 refine AWp.ownNilH b2 0 0 2 (by(try simp only[go_sem,fb3,fb4]);rfl) rfl rfl (by decide) fun t0 ft0=>?_
 try simp only[freshT] at ft0
 simp only[go_sem,fb3,fb4]
 refine Zs (AWp.block (Zl 7 0 (fun n lc hc=> ∃(j v:Nat) (Y:List Ad),n=s.length-j∧EqS lc []∧EqS hc (⟨[qob b4 s j,(b3,⟨1,1,[[.d (.int .i64 0)]]⟩),(b2,⟨1,1,[[.own v 2 (adsD Y)]]⟩)],[v]⟩)∧(j≤s.length)∧(Y.length≤j)∧((listS (s.drop j)).map (Y++ ·)=listS s)) ?_ ?_))
 · refine ⟨_,0,t0,[],rfl,ZE,?_,?_,?_,?_⟩
   · (try simp only[go_sem])<;>first|exact⟨rfl⟩|(constructor;simp[qob,adsD];done)
   all_goals(first|omega|(simp;done)|(cases listS s<;>rfl))
 rintro _ _ _ ⟨j,v,Y,rfl,⟨rfl⟩,⟨rfl⟩,h1,h2,h3⟩
 refine Zy ?_
 refine AWp.block (AWp.dsC [(2,.ptr b2 1 0 0),(3,.ptr b3 1 0 0)] (AgK.mk2 rfl rfl rfl rfl) rfl [1] 0 [2,3] [4,5] rfl (by kernel_rfl) rfl fun K_ hK_=>?_)
 simp only[go_sem,fb3,fb4]
 try with_reducible refine Exists.intro _ (And.intro (by first|rfl|(simp only[go_sem,fb2,fb3,fb4,ft0];first|rfl|exact⟨by omega,rfl⟩)) ?_)
 refine ZA [b4] [] (address_c T hL b4 s j _ _ (by omega) hs) ?_
 rintro _ _ (⟨hI3q,rfl,yI3,rfl⟩|⟨I3,a4,hI3a,hI3b,hq,rfl,rfl⟩)
 ·
  intro _ hag
  refine endD_p [b4] [] [b2,b3] [] ?_
  simp only[go_sem,fb3,fb4]
  refine(list1_some T b2 b3 _ _ _ _ _ (by simp only[fb3])).mono ?_
  rintro _ rfl
  refine dEnd_mk [] [] [] [] (by(try simp only[go_sem,fb3,hag.one,hag.tl.one]);rfl) rfl ?_
  rw[listR_no (by omega) (by rw[←h3,listS_none hI3q];rfl)]
  simp[adsV,adsD,LeA,LeL,LeD]
 simp only[go_sem,fb3,fb4]
 try with_reducible refine And.intro (by first|rfl|(simp only[go_sem,fb2,fb3,fb4,ft0];first|done|rfl|exact⟨by omega,rfl⟩)) ?_
 refine lvc_ok _ _ _ ?_
 simp only[go_sem,fb3,fb4]
 try with_reducible refine And.intro (by first|rfl|(simp only[go_sem,fb2,fb3,fb4,ft0];first|done|rfl|exact⟨by omega,rfl⟩)) ?_
 refine ZW fun t1 ft1=>?_
 try simp only[freshT] at ft1
 simp only[go_sem,fb3,fb4]
 refine hK_ _ _ ?_
 refine Zm 7 ?_
 refine AWp.rsA [(2,.ptr b2 1 0 0),(3,.ptr b3 1 0 0)] (AgK.mk2 rfl rfl rfl rfl) rfl fun K_ hK_=>?_
 refine Zy ?_
 refine ZA [b4] [] (skip_c T b4 s I3 _ _ (by omega) hs) ?_
 rintro _ _ ⟨I5,hI5a,hI5b,hI5c,rfl,rfl⟩
 refine Zy ?_
 have hsk:=hI5c
 refine hK_ _ _ ?_
 refine Zs (Zd true [0,1,2,3,4,5,6,7,8,9] ?_)
 simp only[go_sem,fb4]
 refine Zm 16391 ?_
 refine Zc (fun hc1=>?_) fun hc1=>?_
 ·
  have hS:listS s=some (Y++[a4]):=by rw[←h3,list_end hq hsk (by omega)];rfl
  refine AWp.exit (thenQ_e (blkQ_d (by decide) (thenQ_e (blkQ_e (thenQ_n ?_)))))
  refine Zs (Zp 67 ?_)
  refine Zc (fun hc2=>?_) fun hc2=>?_
  ·
   refine Zp 3 ?_
   refine AWp.ret ?_
   simp only[thenQ]
   refine endD_r [b4] [] [b2,b3] [] ?_
   simp only[go_sem,fb3,fb4]
   refine(list1_none T b2 b3 _).mono ?_
   rintro _ rfl
   refine dEnd_mk [] [] [] [] (by(try simp only[go_sem,fb3]);rfl) rfl ?_
   rw[listR_full (by omega) hS (by simp[adsD] at hc2⊢;omega)]
   simp[adsV,adsD,LeA,LeL,LeD]
  refine Zk ?_
  refine Zp 3 ?_
  refine AWp.ret ?_
  refine endD_r [b4] [] [b2,b3] [] ?_
  simp only[go_sem,fb3,fb4]
  refine(list1_none T b2 b3 _).mono ?_
  rintro _ rfl
  refine dEnd_mk [] [] [] [] (by(try simp only[go_sem,fb3]);rfl) rfl ?_
  rw[listR_ok (by omega) hS (by simp[adsD] at hc2⊢;omega)]
  simp[adsV,adsD,adD,LeA,LeL,LeD]
 have hne:I5<s.length:=by omega
 refine Zk ?_
 refine AWp.rsA [(2,.ptr b2 1 0 0),(3,.ptr b3 1 0 0)] (AgK.mk2 rfl rfl rfl rfl) rfl fun K_ hK_=>?_
 refine Zy ?_
 refine ZA [b4] [] (next_c T b4 s I5 _ _ (by omega) hs) ?_
 rintro _ _ ⟨rfl,rfl⟩
 refine Zy ?_
 refine ZA [] [] (must_c T _ _) ?_
 rintro _ _ (⟨hm6,rfl,rfl⟩|⟨hm6,rfl,rfl⟩)
 ·
  intro _ hag
  refine endD_p [b4] [] [b2,b3] [] ?_
  simp only[decide_eq_false_iff_not] at hm6
  simp only[go_sem,fb3,fb4]
  refine(list1_some T b2 b3 _ _ _ _ _ (by simp only[fb3])).mono ?_
  rintro _ rfl
  refine dEnd_mk [] [] [] [] (by(try simp only[go_sem,fb3,hag.one,hag.tl.one]);rfl) rfl ?_
  rw[listR_no (by omega) (by rw[←h3,list_no hq hsk hne (head_no (c:=44) rfl hm6)];rfl)]
  simp[adsV,adsD,LeA,LeL,LeD]
 simp only[decide_eq_true_eq] at hm6
 obtain⟨_,hd⟩:=head_is 44 rfl (by decide) hm6
 refine Zy ?_
 refine hK_ _ _ ?_
 refine Zm 7 ?_
 refine Zr (blkQ_n (thenQ_n ?_))
 refine Ze 7 0 [] [] [b4,b3,b2] [t1] (.e ⟨_,ZM,(I5+1),t1,(Y++[a4]),rfl,ZE,?_,?_,?_,?_⟩)
 · (try simp only[go_sem,fb3,fb4])<;>first|exact⟨rfl⟩|(constructor;simp[adsD,adD];done)
 · omega
 · simp;omega
 · rw [←h3,list_more hq hsk hd];cases listS (s.drop (I5+1))<;>simp
end
section
theorem adsD_get (l:List Ad) (i:Nat) (d:List D) (h:i<l.length):(adsD l).getD i d=adD (l[i]'h):=map_getD adD _ _ _ h
theorem listOf_none (T:Tbl) (hL:LibT T) (s:Tx) (hs:s.length≤4294967296) (h:listS s=none):PC Tryz.prog T 82 [.d (.str s)] (.tup [.d (.slc 2 []),.d (.bool false)]):=by
 have:=listOf_c T hL s hs
 rw[h] at this;exact this
theorem listOf_some (T:Tbl) (hL:LibT T) (s:Tx) (hs:s.length≤4294967296) (l:List Ad) (h:listS s=some l):PC Tryz.prog T 82 [.d (.str s)] (.tup [.d (.slc 2 (adsD l)),.d (.bool true)]):=by
 have:=listOf_c T hL s hs
 rw[h] at this;exact this
theorem List_c (T:Tbl) (hL:LibT T) (s:Tx):PC Tryz.prog T 133 [.d (.str s)] (adsV (listR s)):=PC.of_ac (List_a T hL s) (by simp[adsV,LeA,LeL,LeD])
theorem listR_len (s:Tx):(listR s).1.length≤4096:=by
 unfold listR
 split
 ·simp
 ·split
  ·simp
  ·split
   ·simp
   ·rename_i l h;simp;omega
end
section
structure Lr where
 a1:Tx
 a2:Tx
 c1:Tx
 c2:Tx
 s:Tx
structure Ms where
 f:List (Tx×Tx)
 b:Tx
def lrA (x:Lr):List AV:=[.d (.str x.a1),.d (.str x.a2),.d (.str x.c1),.d (.str x.c2),.d (.str x.s)]
def msA (m:Ms):List AV:=[.d (.slc 2 (fldsD m.f)),.d (.str m.b)]
structure JOk (x:Lr) (m:Ms):Prop where
 h1:adrE x.a1 x.a2=0
 h2:adrE x.c1 x.c2=0
 hf:∀f∈m.f,f.1.length≤2000∧f.2.length≤2000
 hl:m.f.length≤30
def prtT (p:Int) (a:Ad):Tx:=if p=2 then a.1 else if p=3 then a.2 else adT a
theorem prt_len {p:Int} {a:Ad} (h:adrE a.1 a.2=0):(prtT p a).length≤100:=by
 obtain⟨_,_,hl⟩:=adr_run h
 unfold prtT
 split
 ·omega
 split
 ·omega
 ·simp[adT];omega
noncomputable def fitB (m:Int) (vs ks:List Tx):Bool:=vs.any fun v=>ks.any fun k=>matB m v k
noncomputable def valJ (l:List (Tx×Tx)) (n:Tx):List Tx:=(l.filter fun f=>matB 1 f.1 n).map (·.2)
theorem valJ_no {l:List (Tx×Tx)} {n:Tx} {k:Nat} (hk:k<l.length) (h:matB 1 (l.getD k ([],[])).1 n=false):valJ (l.take (k+1)) n=valJ (l.take k) n:=by
 rw[show l.getD k ([],[])=l[k]'hk by simp[List.getD,hk]] at h
 rw[List.take_add_one,List.getElem?_eq_getElem hk,valJ,List.filter_append]
 simp[h,valJ]
theorem valJ_yes {l:List (Tx×Tx)} {n:Tx} {k:Nat} (hk:k<l.length) (h:matB 1 (l.getD k ([],[])).1 n=true):valJ (l.take (k+1)) n=valJ (l.take k) n++[(l.getD k ([],[])).2]:=by
 have e:l.getD k ([],[])=l[k]'hk:=by simp[List.getD,hk]
 rw[e] at h⊢
 rw[List.take_add_one,List.getElem?_eq_getElem hk,valJ,List.filter_append]
 simp[h,valJ]
theorem valJ_len (l:List (Tx×Tx)) (n:Tx):(valJ l n).length≤l.length:=by
 unfold valJ;rw[List.length_map];exact List.length_filter_le _ _
theorem valJ_mem {l:List (Tx×Tx)} {n v:Tx} {N:Nat} (hf:∀f∈l,f.1.length≤N∧f.2.length≤N) (h:v∈valJ l n):v.length≤N:=by
 obtain⟨f,hf2,rfl⟩:=List.mem_map.1 h
 exact(hf f (List.mem_filter.1 hf2).1).2
def adsJ (vs:List Tx):List Ad:=vs.flatMap fun s=>(listR s).1
theorem adsJ_s {l:List Tx} {k:Nat} (h:k<l.length):adsJ (l.take (k+1))=adsJ (l.take k)++(listR l[k]).1:=by
 rw[List.take_succ_eq_append_getElem h,adsJ,List.flatMap_append];simp[adsJ]
theorem adsJ_len:∀(l:List Tx),(adsJ l).length≤4096*l.length
 |[]=>by simp[adsJ]
 |s::l=>by
  have h1:=listR_len s
  have h2:=adsJ_len l
  have:adsJ (s::l)=(listR s).1++adsJ l:=by simp[adsJ]
  rw[this,List.length_append,List.length_cons]
  omega
theorem listR_ad (s:Tx):∀a∈(listR s).1,adrE a.1 a.2=0:=by
 intro a ha
 unfold listR at ha
 split at ha
 ·cases ha
 ·split at ha
  ·cases ha
  ·rename_i l hl
   split at ha
   ·cases ha
   ·exact listS_adr _ s l (Nat.le_refl _) hl a ha
theorem adsJ_ad {vs:List Tx} :∀a∈adsJ vs,adrE a.1 a.2=0:=fun a ha=>by
 obtain⟨s,_,h⟩:=List.mem_flatMap.1 ha
 exact listR_ad s a h
noncomputable def lookJ (k p:Int) (x:Lr) (m:Ms) (n:Tx):List Tx:=
 if k=8 then [prtT p (if n=toT then(x.c1,x.c2) else(x.a1,x.a2))] else if k=7 then(adsJ (valJ m.f n)).map (prtT p) else valJ m.f n
noncomputable def askJ (t:Tst) (x:Lr) (m:Ms):Bool:=
 if t.kind=1 then true
 else if t.kind=10 then(if t.over=true then decide (t.limit<(x.s.length:Int)) else decide ((x.s.length:Int)<t.limit))
 else if t.kind=8 then t.names.any fun n=>fitB t.mat (lookJ 8 t.part x m n) t.keys
 else if t.kind=9 then !(t.names.any fun n=>decide ((valJ m.f n).length=0))
 else if t.kind=6∨t.kind=7 then t.names.any fun n=>fitB t.mat (lookJ t.kind t.part x m n) t.keys
 else false
mutual
noncomputable def tellJ (x:Lr) (m:Ms):Tst→Bool
 | .mk k a p ns ks o li kids=>if k=3 then !tellN x m kids else if k=5 then tellY x m kids else if k=4 then tellA x m kids else askJ (.mk k a p ns ks o li kids) x m
noncomputable def tellN (x:Lr) (m:Ms):List Tst→Bool
 |[]=>false
 |t::_=>tellJ x m t
noncomputable def tellY (x:Lr) (m:Ms):List Tst→Bool
 |[]=>false
 |t::l=>tellJ x m t||tellY x m l
noncomputable def tellA (x:Lr) (m:Ms):List Tst→Bool
 |[]=>true
 |t::l=>tellJ x m t&&tellA x m l
end
theorem tellJ_eq (x:Lr) (m:Ms) (t:Tst):tellJ x m t=if t.kind=3 then !tellN x m t.kids else if t.kind=5 then tellY x m t.kids else if t.kind=4 then tellA x m t.kids else askJ t x m:=by cases t;rw[tellJ];rfl
theorem tellN_0 {x:Lr} {m:Ms} {l:List Tst} (h:0<l.length):tellN x m l=tellJ x m l[0]:=by
 cases l with
 |nil=>simp at h
 |cons a l=>rw[tellN];rfl
theorem tellY_any (x:Lr) (m:Ms):∀l:List Tst,tellY x m l=l.any (tellJ x m)
 |[]=>by rw[tellY];rfl
 |t::l=>by rw[tellY,tellY_any x m l];rfl
theorem tellA_all (x:Lr) (m:Ms):∀l:List Tst,tellA x m l=!(l.any fun t=>!tellJ x m t)
 |[]=>by rw[tellA];rfl
 |t::l=>by rw[tellA,tellA_all x m l,List.any_cons,Bool.not_or,Bool.not_not]
inductive JT:Tst→Prop where
 |mk {t:Tst} (hn:∀s∈t.names,s.length≤100) (hk:∀s∈t.keys,s.length≤100) (hm:inB t.kind 6 8=true→1≤t.mat∧t.mat≤3) (hp:inB t.kind 7 8=true→1≤t.part∧t.part≤3) (h3:t.kind=3→0<t.kids.length) (h10:inB t.kind 1 10=true) (h45:inB t.kind 4 5=true→0<t.kids.length) (hs:∀y∈t.kids,JT y):JT t
theorem JT.inv {t:Tst} (h:JT t):(∀s∈t.names,s.length≤100)∧(∀s∈t.keys,s.length≤100)∧(inB t.kind 6 8=true→1≤t.mat∧t.mat≤3)∧(inB t.kind 7 8=true→1≤t.part∧t.part≤3)∧(t.kind=3→0<t.kids.length)∧inB t.kind 1 10=true∧(inB t.kind 4 5=true→0<t.kids.length)∧∀y∈t.kids,JT y:=by
 cases h;exact⟨by assumption,by assumption,by assumption,by assumption,by assumption,by assumption,by assumption,by assumption⟩
theorem sizeE_0:∀{l:List Tx},sizeE l=0→∀s∈l,s.length≤100
 |[],_,s,hs=>by cases hs
 | a::l,h,s,hs=>by
  rw[sizeE] at h
  split at h
  ·omega
  ·rcases List.mem_cons.1 hs with rfl|hs
   ·omega
   ·exact sizeE_0 h s hs
theorem tstEL_mem {ks:List Tx} :∀{l:List Tst},tstEL ks l=0→∀y∈l,tstE ks y=0
 |[],_,y,hy=>by cases hy
 | a::l,h,y,hy=>by
  rw[tstEL] at h
  split at h
  ·contradiction
  ·rename_i h1
   rcases List.mem_cons.1 hy with rfl|hy
   ·omega
   ·exact tstEL_mem h y hy
theorem JT.of (ks:List Tx) (t:Tst):∀d,tF t d=0→tstE ks t=0→JT t:=by
 induction t using Tst.ind with
 |h t ih=>
  intro d h1 h2
  obtain⟨hk,hO,hK⟩:=tF_ok h1
  obtain⟨o1,o2,o3,o4,o5,o6,o7,o8,o9⟩:=okS_inv t hO
  rw[tstE_eq] at h2
  split at h2
  ·omega
  split at h2
  ·omega
  split at h2
  ·omega
  split at h2
  ·omega
  rename_i hn hy
  refine⟨sizeE_0 (by omega),sizeE_0 (by omega),fun h=>(o3 h).2.2,fun h=>o4 h,fun h=>by rw[o1 h];decide,hk,o2,fun y hy2=>ih y hy2 _ (hK y hy2) (tstEL_mem h2 y hy2)⟩
end
section
theorem fldsD_gj {l:List (Tx×Tx)} {i:Nat} {d:List D} (h:i<l.length):(fldsD l).getD i d=[.str (l.getD i ([],[])).1,.str (l.getD i ([],[])).2]:=by
 rw[fldsD_get l i d h];simp[fldD,List.getD,h]
attribute [local go_sem] icast8 List.length_map strD in
theorem IxS_c (T:Tbl) (l:List Tx) (f:FuncId) (cap:List AV) (g:Tx→Bool) (F:List (Nat×Ob)) (L:List Nat) (hl:l.length≤10000000000000) (hg:∀y∈l,AC Tryz.prog T f (.d (.str y)::cap) ⟨F,L⟩ (fun r h=>r= .ret (.d (.bool (g y)))∧h=⟨F,L⟩)):AC Tryz.prog T 214 [.d (.slc 1 (l.map strD)),.fn f cap] (⟨F,L⟩) (fun r h=> ∃i:Int,r= .ret (.d (.int .i64 i))∧decide (0≤i)=l.any g∧h=⟨F,L⟩):=by
 refine⟨Tryz.call214,ACalls.enterS Tryz.func214 rfl Tryz.ntmps214 rfl fun hb=>?_⟩
 simp only[go_sem,Tryz.results214]
 refine Zp 3 ?_
 refine Zs (Zp 27 ?_)
 refine AWp.block (Zy ?_)
 refine Zl 7 8 (fun n lc hc=> ∃(k:Nat),n=l.length-k∧EqS lc [(8,.d (.int .i64 (k:Nat)))]∧EqS hc (⟨F,L⟩)∧(k≤l.length)∧((l.take k).any g=false)) ?_ ?_
 · refine ⟨_,0,rfl,ZE,ZE,?_,?_⟩
   all_goals(first|omega|rfl|simp)
 rintro _ _ _ ⟨k,rfl,⟨rfl⟩,⟨rfl⟩,h1,h2⟩
 refine Zy ?_
 refine Zp 31 ?_
 refine Zs (Zc (fun hc0=>?_) fun hc0=>?_)
 ·
  have hlt:k<l.length:=by omega
  have hki:(k:Int)<(l.length:Int):=by omega
  have zf1:=fun d0_=>map_getD strD l k d0_ hlt
  refine Zk ?_
  refine Zs (AWp.block (Zp 31 ?_))
  refine Zx ?_
  try simp only[go_sem,zf1,hki]
  (repeat(with_reducible refine And.intro ZS ?_))
  refine DW.acp [] [] rfl rfl rfl rfl (by(try simp only[go_sem,zf1,hki])<;>rfl) rfl (hg _ (List.getElem_mem hlt)) ?_
  rintro _ _ ⟨rfl,rfl⟩
  try simp only[go_sem,zf1,hki]
  (repeat(with_reducible refine And.intro ZS ?_))
  refine Zm 1055 ?_
  refine Zc (fun hc1=>?_) fun hc1=>?_
  ·
   refine Zp 4 ?_
   refine AWp.ret ?_
   try simp only[thenQ,blkQ]
   apply endW_r [] [] [] [] (by(try simp only[go_sem,zf1,hki])<;>rfl)
   · exact ⟨(k:Int),rfl,by rw[List.any_eq_true.2 ⟨_,List.getElem_mem hlt,hc1⟩];simp,rfl⟩
   · simp [LeA,LeD]
  refine AWp.skip (blkQ_n (thenQ_n ?_))
  refine Zr (thenQ_n ?_)
  refine Zf 11 16 (.e ⟨_,ZM,k+1,rfl,ZE,ZE,?_,?_⟩)
  · omega
  · rw [List.take_succ_eq_append_getElem hlt,List.any_append,h2];simpa using hc1
 have htk:l.take k=l:=List.take_of_length_le (by omega)
 rw[htk] at h2
 refine AWp.exit (thenQ_e (thenQ_e (blkQ_e (thenQ_n ?_))))
 refine Zm 0 ?_
 refine Zp 1 ?_
 refine AWp.ret ?_
 try simp only[thenQ,blkQ]
 apply endW_r [] [] [] [] (by(try simp only[go_sem])<;>rfl)
 · exact ⟨-1,rfl,by rw[h2];rfl,rfl⟩
 · simp [LeA,LeD]
theorem CfS_c (T:Tbl) (l:List Tx) (f:FuncId) (cap:List AV) (g:Tx→Bool) (F:List (Nat×Ob)) (L:List Nat) (hl:l.length≤10000000000000) (hg:∀y∈l,AC Tryz.prog T f (.d (.str y)::cap) ⟨F,L⟩ (fun r h=>r= .ret (.d (.bool (g y)))∧h=⟨F,L⟩)):AC Tryz.prog T 126 [.d (.slc 1 (l.map strD)),.fn f cap] (⟨F,L⟩) (fun r h=>r= .ret (.d (.bool (l.any g)))∧h=⟨F,L⟩):=by
 refine⟨Tryz.call126,ACalls.enterS Tryz.func126 rfl Tryz.ntmps126 rfl fun hb=>?_⟩
 simp only[go_sem,Tryz.results126]
 refine Zp 3 ?_
 refine Zx ?_
 try simp only[go_sem]
 (repeat(with_reducible refine And.intro ZS ?_))
 refine DW.acp [] [] rfl rfl rfl rfl (by(try simp only[go_sem])<;>rfl) rfl (IxS_c T l f cap g _ _ hl hg) ?_
 rintro _ _ ⟨Q1,rfl,hQ1,rfl⟩
 try simp only[go_sem]
 (repeat(with_reducible refine And.intro ZS ?_))
 refine Zm 4 ?_
 refine AWp.ret ?_
 try simp only[thenQ,blkQ]
 apply endW_r [] [] [] [] (by(try simp only[go_sem])<;>rfl)
 · exact ⟨by rw[←hQ1],rfl⟩
 · simp [LeA,LeD]
theorem fits11_c (T:Tbl) (hL:LibT T) (m:Int) (v k:Tx) (bv bm:Nat) (F:List (Nat×Ob)) (L:List Nat):AC Tryz.prog T 216 [.d (.str k),.ptr bm 1 0 0,.ptr bv 1 0 0] (⟨(bv,⟨1,1,[[.d (.str v)]]⟩)::(bm,⟨1,1,[[.d (.int .i64 m)]]⟩)::F,L⟩) (fun r h=>r= .ret (.d (.bool (matB m v k)))∧h=⟨(bv,⟨1,1,[[.d (.str v)]]⟩)::(bm,⟨1,1,[[.d (.int .i64 m)]]⟩)::F,L⟩):=by
 refine⟨Tryz.call216,ACalls.enterS Tryz.func216 rfl Tryz.ntmps216 rfl fun hb=>?_⟩
 simp only[go_sem,Tryz.results216]
 refine AWp.nd fun hnd=>?_
 have hq:=nd2 hnd
 clear hnd
 have zf1:=bne_l hq
 have zf2:=bne_r hq
 refine Zp 7 ?_
 refine Z1 8 (Match_p T hL m v k) ?_
 refine Zp 1 ?_
 refine AWp.ret ?_
 try simp only[thenQ,blkQ]
 apply endW_r [] [] [bv,bm] [] (by(try simp only[go_sem,zf1,zf2])<;>rfl)
 · exact ⟨rfl,by first|rfl|(simp only[go_sem,zf1,zf2];done)⟩
 · simp [LeA,LeD]
attribute [local go_sem] Array.isEmpty_empty in
theorem fits1_c (T:Tbl) (hL:LibT T) (m:Int) (ks:List Tx) (v:Tx) (bk bm:Nat) (F:List (Nat×Ob)) (L:List Nat) (hk:ks.length≤10000000000000):AC Tryz.prog T 215 [.d (.str v),.ptr bk 1 0 0,.ptr bm 1 0 0] (⟨(bk,⟨1,1,[[.d (.slc 1 (ks.map strD))]]⟩)::(bm,⟨1,1,[[.d (.int .i64 m)]]⟩)::F,L⟩) (fun r h=>r= .ret (.d (.bool (ks.any fun k=>matB m v k)))∧h=⟨(bk,⟨1,1,[[.d (.slc 1 (ks.map strD))]]⟩)::(bm,⟨1,1,[[.d (.int .i64 m)]]⟩)::F,L⟩):=by
 refine⟨Tryz.call215,ACalls.enterS Tryz.func215 rfl Tryz.ntmps215 rfl fun hb=>?_⟩
 simp only[go_sem,Tryz.results215]
 refine AWp.nd fun hnd=>?_
 have hq:=nd2 hnd
 clear hnd
 have zf1:=bne_l hq
 have zf2:=bne_r hq
 refine Zx ?_
 try simp only[go_sem,if_true,zf1,zf2]
 (repeat(with_reducible refine And.intro ZS ?_))
 intro bv
 first|intro fbv|have fbv:=True.intro
 try simp only[freshL] at fbv
 try simp only[go_sem,if_true,zf1,zf2,fbv]
 (repeat(with_reducible refine And.intro ZS ?_))
 refine Zx ?_
 try simp only[go_sem,if_true,zf1,zf2,fbv]
 (repeat(with_reducible refine And.intro ZS ?_))
 have hC:=CfS_c T ks _ _ (fun k=>matB m v k) _ _ hk fun y hy=>fits11_c T hL m v y bv bm ((bk,⟨1,1,[[.d (.slc 1 (ks.map strD))]]⟩)::F) L
 refine DW.acp [bv,bm] [] rfl rfl rfl rfl (by(try simp only[go_sem,if_true,zf1,zf2,fbv])<;>rfl) rfl (hC) ?_
 rintro _ _ ⟨rfl,rfl⟩
 try simp only[go_sem,if_true,zf1,zf2,fbv]
 (repeat(with_reducible refine And.intro ZS ?_))
 refine Zm 16 ?_
 refine AWp.ret ?_
 try simp only[thenQ,blkQ]
 apply endW_r [bv] [] [bk,bm] [] (by(try simp only[go_sem,if_true,zf1,zf2,fbv])<;>rfl)
 · exact ⟨rfl,by first|rfl|(simp only[go_sem,if_true,zf1,zf2,fbv];done)⟩
 · simp [LeA,LeD]
attribute [local go_sem] Array.isEmpty_empty in
theorem fits_c (T:Tbl) (hL:LibT T) (m:Int) (vs ks:List Tx) (hv:vs.length≤10000000000000) (hk:ks.length≤10000000000000):PC Tryz.prog T 128 [.d (.int .i64 m),.d (.slc 1 (vs.map strD)),.d (.slc 1 (ks.map strD))] (.d (.bool (fitB m vs ks))):=by
 refine⟨Tryz.call128,PCall.enterS Tryz.func128 rfl Tryz.ntmps128 rfl fun hb=>?_⟩
 simp only[go_sem,Tryz.results128]
 refine Zx ?_
 try simp only[go_sem,if_true]
 (repeat(with_reducible refine And.intro ZS ?_))
 intro b3
 first|intro fb3|have fb3:=True.intro
 try simp only[freshL] at fb3
 try simp only[go_sem,if_true,fb3]
 (repeat(with_reducible refine And.intro ZS ?_))
 intro b5
 first|intro fb5|have fb5:=True.intro
 try simp only[freshL] at fb5
 try simp only[go_sem,if_true,fb3,fb5]
 (repeat(with_reducible refine And.intro ZS ?_))
 refine Zx ?_
 try simp only[go_sem,if_true,fb3,fb5]
 (repeat(with_reducible refine And.intro ZS ?_))
 have hC:=CfS_c T vs _ _ (fun v=>ks.any fun k=>matB m v k) _ _ hv fun y hy=>fits1_c T hL m ks y b5 b3 [] [] hk
 refine DW.acp [b5,b3] [] rfl rfl rfl rfl (by(try simp only[go_sem,if_true,fb3,fb5])<;>rfl) rfl (hC) ?_
 rintro _ _ ⟨rfl,rfl⟩
 try simp only[go_sem,if_true,fb3,fb5]
 (repeat(with_reducible refine And.intro ZS ?_))
 refine Zm 32 ?_
 refine AWp.ret ?_
 try simp only[go_sem,if_true,fb3,fb5]
 first|rfl|(simp[LeA,LeD,fitB];done)|(simp[fitB,LeA,LeD])
theorem map_s {α:Type} (f:α→List D) {l:List α} {k:Nat} (h:k<l.length):(l.take (k+1)).map f=(l.take k).map f++[f l[k]]:=by rw[List.take_succ_eq_append_getElem h,List.map_append];rfl
theorem WPart_c (T:Tbl) (hL:LibT T) (p:Int) (l d:Tx) (h:adrE l d=0) (hp:1≤p∧p≤3):PC Tryz.prog T 93 [.d (.int .i64 p),.agg [.d (.str l),.d (.str d)]] (.tup [.d (.str (prtT p (l,d))),.d (.int .i64 0)]):=by
 refine⟨Tryz.call93,PCall.enterS Tryz.func93 rfl Tryz.ntmps93 rfl fun hb=>?_⟩
 obtain⟨_,_,hll⟩:=adr_run h
 simp only[go_sem,Tryz.results93]
 refine Zx ?_
 try simp only[go_sem,h]
 (repeat(with_reducible refine And.intro ZS ?_))
 intro b3
 first|intro fb3|have fb3:=True.intro
 try simp only[freshL] at fb3
 try simp only[go_sem,h,fb3]
 (repeat(with_reducible refine And.intro ZS ?_))
 refine Zs (Z1 37 (whoCheck_p T hL l d (by omega) (by omega)) ?_)
 refine Zp 23 ?_
 refine Zc (fun hc0=>?_) fun hc0=>?_
 ·
  exact absurd h hc0
 refine Zk ?_
 refine Zs (Zp 18 ?_)
 refine AWp.block (Zp 7 ?_)
 refine Zc (fun hc1=>?_) fun hc1=>?_
 ·
  have h1:p=1:=by first|exact hc1|omega
  subst h1
  refine Zp 6 ?_
  refine AWp.ret ?_
  try simp only[go_sem,h,fb3]
  simp[LeA,LeL,LeD,prtT,adT]
 refine Zp 11 ?_
 refine Zc (fun hc2=>?_) fun hc2=>?_
 ·
  have h1:p=2:=by first|exact hc2|omega
  subst h1
  refine Zp 6 ?_
  refine AWp.ret ?_
  try simp only[go_sem,h,fb3]
  simp[LeA,LeL,LeD,prtT]
 refine Zp 9 ?_
 refine Zc (fun hc3=>?_) fun hc3=>?_
 ·
  have h1:p=3:=by first|exact hc3|omega
  subst h1
  refine Zp 6 ?_
  refine AWp.ret ?_
  try simp only[go_sem,h,fb3]
  simp[LeA,LeL,LeD,prtT]
 exfalso;omega
attribute [local go_sem] icast8 adsD_len adD in
theorem parts_c (T:Tbl) (hL:LibT T) (p:Int) (l:List Ad) (hp:1≤p∧p≤3) (ha:∀a∈l,adrE a.1 a.2=0) (hl:l.length≤1000000):PC Tryz.prog T 129 [.d (.int .i64 p),.d (.slc 2 (adsD l))] (.d (.slc 1 ((l.map (prtT p)).map strD))):=by
 refine⟨Tryz.call129,PCall.enterS Tryz.func129 rfl Tryz.ntmps129 rfl fun hb=>?_⟩
 simp only[go_sem,Tryz.results129]
 refine Zp 3 ?_
 refine Zp 7 ?_
 refine Zs (Zp 61 ?_)
 refine AWp.block (Zy ?_)
 refine AWp.ownNilS 5 1 rfl rfl (by decide) fun w0 fw0=>?_
 try simp only[freshT] at fw0
 refine Zy ?_
 refine Zl 13 18 (fun n lc hc=> ∃(k w:Nat),n=l.length-k∧EqS lc [(5,.own w 1 ((l.take k).map fun a=>strD (prtT p a))),(12,.d (.int .i64 (k:Nat)))]∧EqS hc (⟨[],[w]⟩)∧(k≤l.length)) ⟨_,0,w0,rfl,ZE,ZE,ZI⟩ ?_
 rintro _ _ _ ⟨k,w,rfl,⟨rfl⟩,⟨rfl⟩,h1⟩
 refine Zy ?_
 refine Zp 63 ?_
 refine Zs (Zc (fun hc0=>?_) fun hc0=>?_)
 ·
  have hlt:k<l.length:=by omega
  have hki:(k:Int)<(l.length:Int):=by omega
  have hak:=ha _ (List.getElem_mem hlt)
  have zf1:=fun d0_=>adsD_get l k d0_ hlt
  refine Zk ?_
  refine Zs (AWp.block (Zx ?_))
  try simp only[go_sem,fw0,zf1,hki]
  (repeat(with_reducible refine And.intro ZS ?_))
  intro b7
  first|intro fb7|have fb7:=True.intro
  try simp only[freshL] at fb7
  try simp only[go_sem,fw0,zf1,hki,fb7]
  (repeat(with_reducible refine And.intro ZS ?_))
  refine Z1 235 (WPart_c T hL p (l[k]).1 (l[k]).2 hak hp) ?_
  refine Zq fun K_ k_=>?_
  try simp only[go_sem,fw0,zf1,hki,fb7]
  (repeat(with_reducible refine And.intro ZS ?_))
  refine DW.app rfl rfl rfl rfl (show slI Tryz.prog 31=some (9,1,16) by simp only[go_sem]) rfl rfl (by simp only[go_sem,fw0,zf1,hki,fb7]) (by first|exact .inl rfl|exact .inr rfl) (by(try simp only[go_sem,List.length_map,List.length_take,List.length_append,List.length_cons,List.length_nil]);first|done|omega) (by(try simp only[go_sem,List.length_map,List.length_take,List.length_append,List.length_cons,List.length_nil]);first|done|omega) fun t1 ft1=>?_
  try simp only[freshT] at ft1
  try simp only[go_sem,fw0,zf1,hki,fb7,ft1]
  (repeat(with_reducible refine And.intro ZS ?_))
  refine k_ _ _ (blkQ_n (thenQ_n ?_))
  refine Zm 59 ?_
  refine Zr (thenQ_n ?_)
  refine Ze 13 18 [b7] [] [] [t1] (.e ⟨_,ZM,k+1,t1,rfl,?_,ZE,ZN⟩)
  · (try simp only[go_sem,fw0,zf1,hki,fb7,ft1])<;>first|exact⟨rfl⟩|(constructor;rw[map_s _ hlt])
 have htk:l.take k=l:=List.take_of_length_le (by omega)
 rw[htk]
 refine AWp.exit (thenQ_e (thenQ_e (blkQ_e (thenQ_n ?_))))
 refine Zm 2 ?_
 refine Zp 1 ?_
 refine AWp.ret ?_
 try simp only[go_sem,fw0]
 simp[LeA,LeD,strD]
attribute [local go_sem] msA icast8 fldsD_len List.map_cons List.map_nil in
theorem values_c (T:Tbl) (hL:LibT T) (m:Ms) (nm:Tx) (hl:m.f.length≤30):PC Tryz.prog T 131 [.agg (msA m),.d (.str nm)] (.d (.slc 1 ((valJ m.f nm).map strD))):=by
 refine⟨Tryz.call131,PCall.enterS Tryz.func131 rfl Tryz.ntmps131 rfl fun hb=>?_⟩
 simp only[go_sem,Tryz.results131]
 refine Zx ?_
 try simp only[go_sem]
 (repeat(with_reducible refine And.intro ZS ?_))
 intro b2
 first|intro fb2|have fb2:=True.intro
 try simp only[freshL] at fb2
 try simp only[go_sem,fb2]
 (repeat(with_reducible refine And.intro ZS ?_))
 refine Zp 22 ?_
 refine Zs (Zp 117 ?_)
 refine AWp.block (Zy ?_)
 refine AWp.ownNilS 5 1 rfl rfl (by decide) fun w0 fw0=>?_
 try simp only[freshT] at fw0
 refine Zy ?_
 refine Zl 13 18 (fun n lc hc=> ∃(k w:Nat),n=m.f.length-k∧EqS lc [(5,.own w 1 ((valJ (m.f.take k) nm).map strD)),(13,.d (.int .i64 (k:Nat)))]∧EqS hc (⟨[(b2,⟨2,1,[msA m]⟩)],[w]⟩)∧(k≤m.f.length)) ⟨_,0,w0,rfl,ZE,ZE,ZI⟩ ?_
 rintro _ _ _ ⟨k,w,rfl,⟨rfl⟩,⟨rfl⟩,h1⟩
 refine Zy ?_
 refine Zp 63 ?_
 refine Zs (Zc (fun hc0=>?_) fun hc0=>?_)
 ·
  have hlt:k<m.f.length:=by omega
  have hki:(k:Int)<(m.f.length:Int):=by omega
  have hvl:=valJ_len (m.f.take k) nm
  rw[List.length_take] at hvl
  have zf1:=fun dd=>fldsD_gj (d:=dd) hlt
  refine Zk ?_
  refine Zs (AWp.block (Zx ?_))
  try simp only[go_sem,fb2,fw0,zf1,hki]
  (repeat(with_reducible refine And.intro ZS ?_))
  intro b7
  first|intro fb7|have fb7:=True.intro
  try simp only[freshL] at fb7
  try simp only[go_sem,fb2,fw0,zf1,hki,fb7]
  (repeat(with_reducible refine And.intro ZS ?_))
  refine Z1 239 (Match_p T hL 1 (m.f.getD k ([],[])).1 nm) ?_
  refine Zp 247 ?_
  refine Zc (fun hc1=>?_) fun hc1=>?_
  ·
   refine Zq fun K_ k_=>?_
   try simp only[go_sem,fb2,fw0,zf1,hki,fb7]
   (repeat(with_reducible refine And.intro ZS ?_))
   refine DW.app rfl rfl rfl rfl (show slI Tryz.prog 31=some (9,1,16) by simp only[go_sem]) rfl rfl (by simp only[go_sem,fb2,fw0,zf1,hki,fb7]) (by first|exact .inl rfl|exact .inr rfl) (by(try simp only[go_sem,List.length_map,List.length_take,List.length_append,List.length_cons,List.length_nil]);first|done|omega) (by(try simp only[go_sem,List.length_map,List.length_take,List.length_append,List.length_cons,List.length_nil]);first|done|omega) fun t1 ft1=>?_
   try simp only[freshT] at ft1
   try simp only[go_sem,fb2,fw0,zf1,hki,fb7,ft1]
   (repeat(with_reducible refine And.intro ZS ?_))
   refine k_ _ _ (blkQ_n (thenQ_n ?_))
   refine Zm 59 ?_
   refine Zr (thenQ_n ?_)
   refine Ze 13 18 [b7] [] [b2] [t1] (.e ⟨_,ZM,k+1,t1,rfl,?_,ZE,ZN⟩)
   · (try simp only[go_sem,fb2,fw0,zf1,hki,fb7,ft1])<;>first|exact⟨rfl⟩|(constructor;rw[valJ_yes hlt hc1,List.map_append];rfl)
  refine AWp.skip (blkQ_n (thenQ_n ?_))
  refine Zr (thenQ_n ?_)
  refine Ze 25 34 [b7] [] [b2] [w] (.e ⟨_,ZM,k+1,w,rfl,?_,ZE,ZN⟩)
  · (try simp only[go_sem,fb2,fw0,zf1,hki,fb7])<;>first|exact⟨rfl⟩|(constructor;rw[valJ_no hlt hc1])
 have htk:m.f.take k=m.f:=List.take_of_length_le (by omega)
 rw[htk]
 refine AWp.exit (thenQ_e (thenQ_e (blkQ_e (thenQ_n ?_))))
 refine Zm 2 ?_
 refine Zp 1 ?_
 refine AWp.ret ?_
 try simp only[go_sem,fb2,fw0]
 try simp[LeA,LeD]
end
section
attribute [local go_sem] lrA tstA msA List.map_cons List.map_nil icast8 Array.isEmpty_empty in
theorem ask1_c (T:Tbl) (hL:LibT T) (t:Tst) (x:Lr) (m:Ms) (nm:Tx) (bl bt:Nat) (F:List (Nat×Ob)) (L:List Nat) (jo:JOk x m) (hp:1≤t.part∧t.part≤3) (hk:t.keys.length≤10000000000000):AC Tryz.prog T 127 [.d (.str nm),.ptr bl 5 0 0,.ptr bt 8 0 0] (⟨(bl,⟨5,1,[lrA x]⟩)::(bt,⟨8,1,[tstA t]⟩)::F,L⟩) (fun r h=>r= .ret (.d (.bool (fitB t.mat (lookJ 8 t.part x m nm) t.keys)))∧h=⟨(bl,⟨5,1,[lrA x]⟩)::(bt,⟨8,1,[tstA t]⟩)::F,L⟩):=by
 refine⟨Tryz.call127,ACalls.enterS Tryz.func127 rfl Tryz.ntmps127 rfl fun hb=>?_⟩
 simp only[go_sem,Tryz.results127]
 refine AWp.nd fun hnd=>?_
 have hq:=nd2 hnd
 clear hnd
 have zf1:=bne_l hq
 have zf2:=bne_r hq
 refine Zp 7 ?_
 refine Zx ?_
 try simp only[go_sem,if_true,zf1,zf2]
 (repeat(with_reducible refine And.intro ZS ?_))
 intro b5
 first|intro fb5|have fb5:=True.intro
 try simp only[freshL] at fb5
 try simp only[go_sem,if_true,zf1,zf2,fb5]
 (repeat(with_reducible refine And.intro ZS ?_))
 refine Zs (Zp 142 ?_)
 refine Zc (fun hc0=>?_) fun hc0=>?_
 ·
  have hn:nm=toT:=by exact hc0
  have e:lookJ 8 t.part x m nm=[(x.c1,x.c2)].map (prtT t.part):=by rw[lookJ,if_pos rfl,if_pos hn];rfl
  refine Zr (thenQ_n ?_)
  refine Zm 6 ?_
  have hPa:=parts_c T hL t.part [(x.c1,x.c2)] hp (fun a ha=>by rw[List.mem_singleton] at ha;subst ha;exact jo.h2) (by simp)
  have hFi:=fits_c T hL t.mat ([(x.c1,x.c2)].map (prtT t.part)) t.keys (by simp) hk
  refine Zd true [0,1,2,3,4,5,6,7,8,9,10] ?_
  try simp only[go_sem,if_true,zf1,zf2,fb5]
  (repeat(with_reducible refine And.intro ZS ?_))
  refine DW.pcr rfl rfl rfl rfl (hPa) rfl rfl ?_
  try simp only[go_sem,if_true,zf1,zf2,fb5]
  (repeat(with_reducible refine And.intro ZS ?_))
  refine DW.pcr rfl rfl rfl rfl (hFi) rfl rfl ?_
  try simp only[go_sem,if_true,zf1,zf2,fb5]
  (repeat(with_reducible refine And.intro ZS ?_))
  refine Zm 2 ?_
  refine AWp.ret ?_
  try simp only[thenQ,blkQ]
  apply endW_r [b5] [] [bl,bt] [] (by(try simp only[go_sem,if_true,zf1,zf2,fb5])<;>rfl)
  · exact ⟨rfl,by first|rfl|(simp only[go_sem,if_true,zf1,zf2,fb5];done)⟩
  · rw [e];simp[LeA,LeD]
 have hn:¬nm=toT:=by exact hc0
 have e:lookJ 8 t.part x m nm=[(x.a1,x.a2)].map (prtT t.part):=by rw[lookJ,if_pos rfl,if_neg hn];rfl
 refine Zk ?_
 have hPa:=parts_c T hL t.part [(x.a1,x.a2)] hp (fun a ha=>by rw[List.mem_singleton] at ha;subst ha;exact jo.h1) (by simp)
 have hFi:=fits_c T hL t.mat ([(x.a1,x.a2)].map (prtT t.part)) t.keys (by simp) hk
 refine Zd true [0,1,2,3,4,5,6,7,8,9,10] ?_
 try simp only[go_sem,if_true,zf1,zf2,fb5]
 (repeat(with_reducible refine And.intro ZS ?_))
 refine DW.pcr rfl rfl rfl rfl (hPa) rfl rfl ?_
 try simp only[go_sem,if_true,zf1,zf2,fb5]
 (repeat(with_reducible refine And.intro ZS ?_))
 refine DW.pcr rfl rfl rfl rfl (hFi) rfl rfl ?_
 try simp only[go_sem,if_true,zf1,zf2,fb5]
 (repeat(with_reducible refine And.intro ZS ?_))
 refine Zm 4 ?_
 refine AWp.ret ?_
 try simp only[thenQ,blkQ]
 apply endW_r [b5] [] [bl,bt] [] (by(try simp only[go_sem,if_true,zf1,zf2,fb5])<;>rfl)
 · exact ⟨rfl,by first|rfl|(simp only[go_sem,if_true,zf1,zf2,fb5];done)⟩
 · rw [e];simp[LeA,LeD]
attribute [local go_sem] lrA tstA msA List.map_cons List.map_nil icast8 Array.isEmpty_empty List.length_map in
theorem ask2_c (T:Tbl) (hL:LibT T) (m:Ms) (nm:Tx) (bg:Nat) (F:List (Nat×Ob)) (L:List Nat) (hl:m.f.length≤30):AC Tryz.prog T 130 [.d (.str nm),.ptr bg 2 0 0] (⟨(bg,⟨2,1,[msA m]⟩)::F,L⟩) (fun r h=>r= .ret (.d (.bool (decide ((valJ m.f nm).length=0))))∧h=⟨(bg,⟨2,1,[msA m]⟩)::F,L⟩):=by
 refine⟨Tryz.call130,ACalls.enterS Tryz.func130 rfl Tryz.ntmps130 rfl fun hb=>?_⟩
 simp only[go_sem,Tryz.results130]
 refine Zp 3 ?_
 refine Z1 4 (values_c T hL m nm hl) ?_
 refine AWp.ret ?_
 try simp only[thenQ,blkQ]
 apply endW_r [] [] [bg] [] (by(try simp only[go_sem,if_true])<;>rfl)
 · exact ⟨rfl,by first|rfl|(simp only[go_sem,if_true];done)⟩
 · simp [LeA,LeD]
theorem adsD_a (a c:List Ad):adsD a++adsD c=adsD (a++c):=by simp[adsD]
attribute [local go_sem] lrA tstA msA List.map_cons List.map_nil icast8 Array.isEmpty_empty List.length_map adsD_a adsV adsD_len strD in
theorem ask3_c (T:Tbl) (hL:LibT T) (t:Tst) (x:Lr) (m:Ms) (nm:Tx) (bg bt:Nat) (F:List (Nat×Ob)) (L:List Nat) (h8:¬t.kind=8) (hl:m.f.length≤30) (hp:t.kind=7→1≤t.part∧t.part≤3) (hk:t.keys.length≤10000000000000):AC Tryz.prog T 132 [.d (.str nm),.ptr bg 2 0 0,.ptr bt 8 0 0] (⟨(bg,⟨2,1,[msA m]⟩)::(bt,⟨8,1,[tstA t]⟩)::F,L⟩) (fun r h=>r= .ret (.d (.bool (fitB t.mat (lookJ t.kind t.part x m nm) t.keys)))∧h=⟨(bg,⟨2,1,[msA m]⟩)::(bt,⟨8,1,[tstA t]⟩)::F,L⟩):=by
 refine⟨Tryz.call132,ACalls.enterS Tryz.func132 rfl Tryz.ntmps132 rfl fun hb=>?_⟩
 have hvl:=valJ_len m.f nm
 generalize hvs:valJ m.f nm=vs at hvl
 simp only[go_sem,Tryz.results132]
 refine AWp.nd fun hnd=>?_
 have hq:=nd2 hnd
 clear hnd
 have zf1:=bne_l hq
 have zf2:=bne_r hq
 refine Zp 7 ?_
 refine Z1 12 ((by have:=values_c T hL m nm hl;rwa [hvs] at this)) ?_
 refine Zs (Zp 19 ?_)
 refine Zc (fun hc0=>?_) fun hc0=>?_
 ·
  have h7:t.kind=7:=by first|exact hc0|omega
  have e:lookJ t.kind t.part x m nm=(adsJ vs).map (prtT t.part):=by rw[lookJ,if_neg h8,if_pos h7,hvs]
  refine Zp 7 ?_
  refine Zs (Zp 61 ?_)
  refine AWp.block (Zy ?_)
  refine AWp.ownNilS 6 2 rfl rfl (by decide) fun w0 fw0=>?_
  try simp only[freshT] at fw0
  refine Zy ?_
  refine Zl 13 18 (fun n lc hc=> ∃(k w:Nat),n=vs.length-k∧EqS lc [(6,.own w 2 (adsD (adsJ (vs.take k)))),(19,.d (.int .i64 (k:Nat)))]∧EqS hc (⟨(bg,⟨2,1,[msA m]⟩)::(bt,⟨8,1,[tstA t]⟩)::F,w::L⟩)∧(k≤vs.length)∧(freshT w L)) ?_ ?_
  · refine ⟨_,0,w0,rfl,ZE,ZE,?_,?_⟩
    all_goals(first|omega|exact fw0|assumption)
  rintro _ _ _ ⟨k,w,rfl,⟨rfl⟩,⟨rfl⟩,h1,h2⟩
  refine Zy ?_
  refine Zp 63 ?_
  refine Zs (Zc (fun hc1=>?_) fun hc1=>?_)
  ·
   have hlt:k<vs.length:=by omega
   have hki:(k:Int)<(vs.length:Int):=by omega
   have hal:=adsJ_len (vs.take k)
   rw[List.length_take] at hal
   have hrl:=listR_len vs[k]
   have zf3:=fun d0_=>map_getD strD vs k d0_ hlt
   refine Zk ?_
   refine Zs (AWp.block (Zp 63 ?_))
   refine Z1 235 (List_c T hL vs[k]) ?_
   refine Zq fun K_ k_=>?_
   try simp only[go_sem,if_true,zf1,zf2,fw0,zf3,hki]
   (repeat(with_reducible refine And.intro ZS ?_))
   refine DW.app rfl rfl rfl rfl (show slI Tryz.prog 144=some (36,2,32) by simp only[go_sem]) rfl rfl (by simp only[go_sem,if_true,zf1,zf2,fw0,zf3,hki]) (by first|exact .inl rfl|exact .inr rfl) (by(try simp only[go_sem,adsD_len,List.length_map,List.length_take,List.length_append,List.length_cons,List.length_nil]);first|done|omega) (by(try simp only[go_sem,adsD_len,List.length_map,List.length_take,List.length_append,List.length_cons,List.length_nil]);first|done|omega) fun t1 ft1=>?_
   try simp only[freshT] at ft1
   try simp only[go_sem,if_true,zf1,zf2,fw0,zf3,hki,ft1]
   (repeat(with_reducible refine And.intro ZS ?_))
   refine k_ _ _ (blkQ_n (thenQ_n ?_))
   refine Zm 59 ?_
   refine Zr (thenQ_n ?_)
   refine Ze 13 18 [] [] [bg,bt] [t1] (.e ⟨_,ZM,k+1,t1,rfl,?_,ZE,?_,?_⟩)
   · (try simp only[go_sem,if_true,zf1,zf2,fw0,zf3,hki,ft1])<;>first|exact⟨rfl⟩|(constructor;rw[adsJ_s hlt])
   · omega
   · first|exact ft1|exact ft1.2|exact ft1.2.2|exact ft1.1|trivial|assumption
  have htk:vs.take k=vs:=List.take_of_length_le (by omega)
  rw[htk]
  refine AWp.exit (thenQ_e (thenQ_e (blkQ_e (thenQ_n ?_))))
  refine Zm 3 ?_
  refine Zy ?_
  refine AWp.ownD 6 rfl (LeDR.rfl' _) rfl ?_
  refine Zy ?_
  refine Zq fun K_ k_=>?_
  try simp only[go_sem,if_true,zf1,zf2,fw0]
  (repeat(with_reducible refine And.intro ZS ?_))
  refine DW.pcr rfl rfl rfl rfl (parts_c T hL t.part (adsJ vs) (hp h7) adsJ_ad (by have:=adsJ_len vs;omega)) rfl rfl ?_
  try simp only[go_sem,if_true,zf1,zf2,fw0]
  (repeat(with_reducible refine And.intro ZS ?_))
  refine k_ _ _ (thenQ_n ?_)
  refine Zm 3 ?_
  refine Z1 2 (fits_c T hL t.mat ((adsJ vs).map (prtT t.part)) t.keys (by have:=adsJ_len vs;simp;omega) hk) ?_
  refine AWp.ret ?_
  try simp only[thenQ,blkQ]
  apply endW_r [] [w] [bg,bt] [] (by(try simp only[go_sem,if_true,zf1,zf2,fw0])<;>rfl)
  · exact ⟨rfl,by first|rfl|(simp only[go_sem,if_true,zf1,zf2,fw0];done)|(simp only[go_sem,if_true,zf1,zf2,fw0];rw[h7])⟩
  · rw [e];simp[LeA,LeD]
 have h7:¬t.kind=7:=by first|exact hc0|omega
 have e:lookJ t.kind t.part x m nm=vs:=by rw[lookJ,if_neg h8,if_neg h7,hvs]
 refine Zk ?_
 refine Z1 2 (fits_c T hL t.mat vs t.keys (by omega) hk) ?_
 refine AWp.ret ?_
 try simp only[thenQ,blkQ]
 apply endW_r [] [] [bg,bt] [] (by(try simp only[go_sem,if_true,zf1,zf2])<;>rfl)
 · exact ⟨rfl,by first|rfl|(simp only[go_sem,if_true,zf1,zf2];done)|(simp only[go_sem,if_true,zf1,zf2];rw[h7])⟩
 · rw [e];simp[LeA,LeD]
end
section
theorem nd3j {x y z:Nat} {o o' o2:Ob} {F:List (Nat×Ob)} (h:(List.map Prod.fst ((x,o)::(y,o')::(z,o2)::F)).Nodup):x≠y∧x≠z∧y≠z:=by
 simp only[List.map_cons,List.nodup_cons,List.mem_cons,not_or] at h
 exact⟨h.1.1,h.1.2.1,h.2.1.1⟩
attribute [local go_sem] lrA tstA msA List.map_cons List.map_nil icast8 Array.isEmpty_empty in
theorem ask_c (T:Tbl) (hL:LibT T) (t:Tst) (x:Lr) (m:Ms) (ok:t.Ok) (jt:JT t) (jo:JOk x m) (hs:x.s.length≤9223372036854775807):PC Tryz.prog T 73 [.agg (tstA t),.agg (lrA x),.agg (msA m)] (.d (.bool (askJ t x m))):=by
 refine⟨Tryz.call73,PCall.enterS Tryz.func73 rfl Tryz.ntmps73 rfl fun hb=>?_⟩
 obtain⟨s1,s2,s3,s4⟩:=ok.inv
 obtain⟨j1,j2,j3,j4,j5,j6,j8,j7⟩:=jt.inv
 have hkl:t.keys.length≤10000000000000:=by omega
 have hnl:t.names.length≤10000000000000:=by omega
 simp only[go_sem,Tryz.results73]
 refine Zx ?_
 try simp only[go_sem,if_true]
 (repeat(with_reducible refine And.intro ZS ?_))
 intro b3
 first|intro fb3|have fb3:=True.intro
 try simp only[freshL] at fb3
 try simp only[go_sem,if_true,fb3]
 (repeat(with_reducible refine And.intro ZS ?_))
 intro b4
 first|intro fb4|have fb4:=True.intro
 try simp only[freshL] at fb4
 try simp only[go_sem,if_true,fb3,fb4]
 (repeat(with_reducible refine And.intro ZS ?_))
 intro b5
 first|intro fb5|have fb5:=True.intro
 try simp only[freshL] at fb5
 try simp only[go_sem,if_true,fb3,fb4,fb5]
 (repeat(with_reducible refine And.intro ZS ?_))
 refine Zm 56 ?_
 refine Zs (Zp 23 ?_)
 refine AWp.block (Zp 31 ?_)
 refine Zc (fun hc0=>?_) fun hc0=>?_
 ·
  have e:askJ t x m=true:=by rw[askJ,if_pos hc0]
  refine Zp 8 ?_
  refine AWp.ret ?_
  try simp only[go_sem,if_true,fb3,fb4,fb5]
  rw[e];try simp[LeA,LeD]
 refine Zp 47 ?_
 refine Zc (fun hc1=>?_) fun hc1=>?_
 ·
  have e:askJ t x m=(if t.over=true then decide (t.limit<(x.s.length:Int)) else decide ((x.s.length:Int)<t.limit)):=by rw[askJ,if_neg hc0,if_pos hc1]
  refine Zs (Zp 67 ?_)
  refine Zc (fun hc2=>?_) fun hc2=>?_
  ·
   rw[if_pos hc2] at e
   refine Zp 4 ?_
   refine AWp.ret ?_
   try simp only[go_sem,if_true,fb3,fb4,fb5]
   rw[e];try simp[LeA,LeD]
  rw[if_neg (by simp[hc2])] at e
  refine Zk ?_
  refine Zp 4 ?_
  refine AWp.ret ?_
  try simp only[go_sem,if_true,fb3,fb4,fb5]
  rw[e];try simp[LeA,LeD]
 refine Zp 47 ?_
 refine Zc (fun hc3=>?_) fun hc3=>?_
 ·
  have e:askJ t x m=t.names.any fun n=>fitB t.mat (lookJ 8 t.part x m n) t.keys:=by rw[askJ,if_neg hc0,if_neg hc1,if_pos hc3]
  have hpp:=j4 (by simp[inB,hc3])
  refine Zx ?_
  try simp only[go_sem,if_true,fb3,fb4,fb5]
  (repeat(with_reducible refine And.intro ZS ?_))
  have hC:=CfS_c T t.names _ _ (fun n=>fitB t.mat (lookJ 8 t.part x m n) t.keys) _ _ hnl fun y hy=>ask1_c T hL t x m y b4 b3 [(b5,⟨2,1,[msA m]⟩)] [] jo hpp hkl
  refine DW.acp [b4,b3] [] rfl rfl rfl rfl (by(try simp only[go_sem,if_true,fb3,fb4,fb5])<;>rfl) rfl (hC) ?_
  rintro _ _ ⟨rfl,rfl⟩
  try simp only[go_sem,if_true,fb3,fb4,fb5]
  (repeat(with_reducible refine And.intro ZS ?_))
  refine Zm 8 ?_
  refine AWp.ret ?_
  try simp only[go_sem,if_true,fb3,fb4,fb5]
  rw[e];try simp[LeA,LeD]
 refine Zp 45 ?_
 refine Zc (fun hc4=>?_) fun hc4=>?_
 ·
  have e:askJ t x m=!(t.names.any fun n=>decide ((valJ m.f n).length=0)):=by rw[askJ,if_neg hc0,if_neg hc1,if_neg hc3,if_pos hc4]
  refine Zx ?_
  try simp only[go_sem,if_true,fb3,fb4,fb5]
  (repeat(with_reducible refine And.intro ZS ?_))
  have hC:=CfS_c T t.names _ _ (fun n=>decide ((valJ m.f n).length=0)) _ _ hnl fun y hy=>ask2_c T hL m y b5 [(b4,⟨5,1,[lrA x]⟩),(b3,⟨8,1,[tstA t]⟩)] [] jo.hl
  refine DW.acp [b5] [] rfl rfl rfl rfl (by(try simp only[go_sem,if_true,fb3,fb4,fb5])<;>rfl) rfl (hC) ?_
  rintro _ _ ⟨rfl,rfl⟩
  try simp only[go_sem,if_true,fb3,fb4,fb5]
  (repeat(with_reducible refine And.intro ZS ?_))
  refine Zm 4 ?_
  refine AWp.ret ?_
  try simp only[go_sem,if_true,fb3,fb4,fb5]
  rw[e];try simp[LeA,LeD]
 refine Zs (Zp 23 ?_)
 refine Zy ?_
 apply Za (z:=(_||_)) 3 40
 ·
  refine AWp.cond _ rfl (fun hc5=>?_) fun hc5=>?_
  rotate_left
  ·
   refine Zr (thenQ_n ?_)
   refine Zf 3 8 (.e ⟨EqS.bo (or_f hc5 rfl),⟨rfl⟩⟩)
  refine AWp.skip (thenQ_n ?_)
  refine Zf 3 8 (.e ⟨EqS.bo (or_t hc5),⟨rfl⟩⟩)
 refine Zy ?_
 refine Zc (fun hc6=>?_) fun hc6=>?_
 ·
  have h67:t.kind=6∨t.kind=7:=by simpa using hc6
  have e:askJ t x m=t.names.any fun n=>fitB t.mat (lookJ t.kind t.part x m n) t.keys:=by rw[askJ,if_neg hc0,if_neg hc1,if_neg hc3,if_neg hc4,if_pos h67]
  refine Zx ?_
  try simp only[go_sem,if_true,fb3,fb4,fb5]
  (repeat(with_reducible refine And.intro ZS ?_))
  have hC:=CfS_c T t.names _ _ (fun n=>fitB t.mat (lookJ t.kind t.part x m n) t.keys) _ _ hnl fun y hy=>ask3_c T hL t x m y b5 b3 [(b4,⟨5,1,[lrA x]⟩)] [] hc3 jo.hl (fun h7=>j4 (by simp[inB,h7])) hkl
  refine DW.acp [b5,b3] [] rfl rfl rfl rfl (by(try simp only[go_sem,if_true,fb3,fb4,fb5])<;>rfl) rfl (hC) ?_
  rintro _ _ ⟨rfl,rfl⟩
  try simp only[go_sem,if_true,fb3,fb4,fb5]
  (repeat(with_reducible refine And.intro ZS ?_))
  refine Zm 4 ?_
  refine AWp.ret ?_
  try simp only[go_sem,if_true,fb3,fb4,fb5]
  rw[e];try simp[LeA,LeD]
 have h67:¬(t.kind=6∨t.kind=7):=by simpa using hc6
 refine AWp.skip (blkQ_n (thenQ_n ?_))
 refine Zp 4 ?_
 refine AWp.ret ?_
 try simp only[go_sem,if_true,fb3,fb4,fb5]
 rw[show askJ t x m=false by rw[askJ,if_neg hc0,if_neg hc1,if_neg hc3,if_neg hc4,if_neg h67]];try simp[LeA,LeD]
attribute [local go_sem] icast8 List.length_map tstD tstA in
theorem IxT_c (T:Tbl) (l:List Tst) (f:FuncId) (cap:List AV) (g:Tst→Bool) (F:List (Nat×Ob)) (L:List Nat) (hl:l.length≤10000000000000) (hg:∀y∈l,AC Tryz.prog T f (.agg (tstA y)::cap) ⟨F,L⟩ (fun r h=>r= .ret (.d (.bool (g y)))∧h=⟨F,L⟩)):AC Tryz.prog T 125 [.d (.slc 8 (l.map tstD)),.fn f cap] (⟨F,L⟩) (fun r h=> ∃i:Int,r= .ret (.d (.int .i64 i))∧decide (0≤i)=l.any g∧h=⟨F,L⟩):=by
 refine⟨Tryz.call125,ACalls.enterS Tryz.func125 rfl Tryz.ntmps125 rfl fun hb=>?_⟩
 simp only[go_sem,Tryz.results125]
 refine Zp 3 ?_
 refine Zs (Zp 27 ?_)
 refine AWp.block (Zy ?_)
 refine Zl 7 8 (fun n lc hc=> ∃(k:Nat),n=l.length-k∧EqS lc [(8,.d (.int .i64 (k:Nat)))]∧EqS hc (⟨F,L⟩)∧(k≤l.length)∧((l.take k).any g=false)) ?_ ?_
 · refine ⟨_,0,rfl,ZE,ZE,?_,?_⟩
   all_goals(first|omega|rfl|simp)
 rintro _ _ _ ⟨k,rfl,⟨rfl⟩,⟨rfl⟩,h1,h2⟩
 refine Zy ?_
 refine Zp 31 ?_
 refine Zs (Zc (fun hc0=>?_) fun hc0=>?_)
 ·
  have hlt:k<l.length:=by omega
  have hki:(k:Int)<(l.length:Int):=by omega
  have zf1:=fun d0_=>map_getD tstD l k d0_ hlt
  refine Zk ?_
  refine Zs (AWp.block (Zp 31 ?_))
  refine Zx ?_
  try simp only[go_sem,zf1,hki]
  (repeat(with_reducible refine And.intro ZS ?_))
  refine DW.acp [] [] rfl rfl rfl rfl (by(try simp only[go_sem,zf1,hki])<;>rfl) rfl (hg _ (List.getElem_mem hlt)) ?_
  rintro _ _ ⟨rfl,rfl⟩
  try simp only[go_sem,zf1,hki]
  (repeat(with_reducible refine And.intro ZS ?_))
  refine Zm 1055 ?_
  refine Zc (fun hc1=>?_) fun hc1=>?_
  ·
   refine Zp 4 ?_
   refine AWp.ret ?_
   try simp only[thenQ,blkQ]
   apply endW_r [] [] [] [] (by(try simp only[go_sem,zf1,hki])<;>rfl)
   · exact ⟨(k:Int),rfl,by rw[List.any_eq_true.2 ⟨_,List.getElem_mem hlt,hc1⟩];simp,rfl⟩
   · simp [LeA,LeD]
  refine AWp.skip (blkQ_n (thenQ_n ?_))
  refine Zr (thenQ_n ?_)
  refine Zf 11 16 (.e ⟨_,ZM,k+1,rfl,ZE,ZE,?_,?_⟩)
  · omega
  · rw [List.take_succ_eq_append_getElem hlt,List.any_append,h2];simpa using hc1
 have htk:l.take k=l:=List.take_of_length_le (by omega)
 rw[htk] at h2
 refine AWp.exit (thenQ_e (thenQ_e (blkQ_e (thenQ_n ?_))))
 refine Zm 0 ?_
 refine Zp 1 ?_
 refine AWp.ret ?_
 try simp only[thenQ,blkQ]
 apply endW_r [] [] [] [] (by(try simp only[go_sem])<;>rfl)
 · exact ⟨-1,rfl,by rw[h2];rfl,rfl⟩
 · simp [LeA,LeD]
theorem CfT_c (T:Tbl) (l:List Tst) (f:FuncId) (cap:List AV) (g:Tst→Bool) (F:List (Nat×Ob)) (L:List Nat) (hl:l.length≤10000000000000) (hg:∀y∈l,AC Tryz.prog T f (.agg (tstA y)::cap) ⟨F,L⟩ (fun r h=>r= .ret (.d (.bool (g y)))∧h=⟨F,L⟩)):AC Tryz.prog T 71 [.d (.slc 8 (l.map tstD)),.fn f cap] (⟨F,L⟩) (fun r h=>r= .ret (.d (.bool (l.any g)))∧h=⟨F,L⟩):=by
 refine⟨Tryz.call71,ACalls.enterS Tryz.func71 rfl Tryz.ntmps71 rfl fun hb=>?_⟩
 simp only[go_sem,Tryz.results71]
 refine Zp 3 ?_
 refine Zx ?_
 try simp only[go_sem]
 (repeat(with_reducible refine And.intro ZS ?_))
 refine DW.acp [] [] rfl rfl rfl rfl (by(try simp only[go_sem])<;>rfl) rfl (IxT_c T l f cap g _ _ hl hg) ?_
 rintro _ _ ⟨Q1,rfl,hQ1,rfl⟩
 try simp only[go_sem]
 (repeat(with_reducible refine And.intro ZS ?_))
 refine Zm 4 ?_
 refine AWp.ret ?_
 try simp only[thenQ,blkQ]
 apply endW_r [] [] [] [] (by(try simp only[go_sem])<;>rfl)
 · exact ⟨by rw[←hQ1],rfl⟩
 · simp [LeA,LeD]
attribute [local go_sem] lrA tstA msA List.map_cons List.map_nil icast8 Array.isEmpty_empty in
theorem test1_c (T:Tbl) (t:Tst) (x:Lr) (m:Ms) (bl bg:Nat) (F:List (Nat×Ob)) (L:List Nat) (ih:PC Tryz.prog T 35 [.agg (tstA t),.agg (lrA x),.agg (msA m)] (.d (.bool (tellJ x m t)))):AC Tryz.prog T 70 [.agg (tstA t),.ptr bl 5 0 0,.ptr bg 2 0 0] (⟨(bl,⟨5,1,[lrA x]⟩)::(bg,⟨2,1,[msA m]⟩)::F,L⟩) (fun r h=>r= .ret (.d (.bool (tellJ x m t)))∧h=⟨(bl,⟨5,1,[lrA x]⟩)::(bg,⟨2,1,[msA m]⟩)::F,L⟩):=by
 refine⟨Tryz.call70,ACalls.enterS Tryz.func70 rfl Tryz.ntmps70 rfl fun hb=>?_⟩
 simp only[go_sem,Tryz.results70]
 refine AWp.nd fun hnd=>?_
 have hq:=nd2 hnd
 clear hnd
 have zf1:=bne_l hq
 have zf2:=bne_r hq
 refine Zx ?_
 try simp only[go_sem,if_true,zf1,zf2]
 (repeat(with_reducible refine And.intro ZS ?_))
 intro b3
 first|intro fb3|have fb3:=True.intro
 try simp only[freshL] at fb3
 try simp only[go_sem,if_true,zf1,zf2,fb3]
 (repeat(with_reducible refine And.intro ZS ?_))
 refine Z1 16 (ih) ?_
 refine AWp.ret ?_
 try simp only[thenQ,blkQ]
 apply endW_r [b3] [] [bl,bg] [] (by(try simp only[go_sem,if_true,zf1,zf2,fb3])<;>rfl)
 · exact ⟨rfl,by first|rfl|(simp only[go_sem,if_true,zf1,zf2,fb3];done)⟩
 · simp [LeA,LeD]
attribute [local go_sem] lrA tstA msA List.map_cons List.map_nil icast8 Array.isEmpty_empty in
theorem test2_c (T:Tbl) (t:Tst) (x:Lr) (m:Ms) (bf bl bg:Nat) (F:List (Nat×Ob)) (L:List Nat) (ih:PC Tryz.prog T 35 [.agg (tstA t),.agg (lrA x),.agg (msA m)] (.d (.bool (tellJ x m t)))):AC Tryz.prog T 72 [.agg (tstA t),.ptr bf 1 0 0] (⟨(bf,⟨1,1,[[.fn 70 [.ptr bl 5 0 0,.ptr bg 2 0 0]]]⟩)::(bl,⟨5,1,[lrA x]⟩)::(bg,⟨2,1,[msA m]⟩)::F,L⟩) (fun r h=>r= .ret (.d (.bool (!tellJ x m t)))∧h=⟨(bf,⟨1,1,[[.fn 70 [.ptr bl 5 0 0,.ptr bg 2 0 0]]]⟩)::(bl,⟨5,1,[lrA x]⟩)::(bg,⟨2,1,[msA m]⟩)::F,L⟩):=by
 refine⟨Tryz.call72,ACalls.enterS Tryz.func72 rfl Tryz.ntmps72 rfl fun hb=>?_⟩
 simp only[go_sem,Tryz.results72]
 refine AWp.nd fun hnd=>?_
 obtain⟨hq,hq2,hq3⟩:=nd3j hnd
 clear hnd
 have zf1:=bne_l hq
 have zf2:=bne_r hq
 have zf3:=bne_l hq2
 have zf4:=bne_r hq2
 have zf5:=bne_l hq3
 have zf6:=bne_r hq3
 refine Zx ?_
 try simp only[go_sem,if_true,zf1,zf2,zf3,zf4,zf5,zf6]
 (repeat(with_reducible refine And.intro ZS ?_))
 intro b2
 first|intro fb2|have fb2:=True.intro
 try simp only[freshL] at fb2
 try simp only[go_sem,if_true,zf1,zf2,zf3,zf4,zf5,zf6,fb2]
 (repeat(with_reducible refine And.intro ZS ?_))
 refine Zx ?_
 try simp only[go_sem,if_true,zf1,zf2,zf3,zf4,zf5,zf6,fb2]
 (repeat(with_reducible refine And.intro ZS ?_))
 have hC:=test1_c T t x m bl bg ((b2,⟨8,1,[tstA t]⟩)::(bf,⟨1,1,[[.fn 70 [.ptr bl 5 0 0,.ptr bg 2 0 0]]]⟩)::F) L ih
 refine DW.acp [bl,bg] [] rfl rfl rfl rfl (by(try simp only[go_sem,if_true,zf1,zf2,zf3,zf4,zf5,zf6,fb2])<;>rfl) rfl (hC) ?_
 rintro _ _ ⟨rfl,rfl⟩
 try simp only[go_sem,if_true,zf1,zf2,zf3,zf4,zf5,zf6,fb2]
 (repeat(with_reducible refine And.intro ZS ?_))
 refine Zm 8 ?_
 refine AWp.ret ?_
 try simp only[thenQ,blkQ]
 apply endW_r [b2] [] [bf,bl,bg] [] (by(try simp only[go_sem,if_true,zf1,zf2,zf3,zf4,zf5,zf6,fb2])<;>rfl)
 · exact ⟨rfl,by first|rfl|(simp only[go_sem,if_true,zf1,zf2,zf3,zf4,zf5,zf6,fb2];done)⟩
 · simp [LeA,LeD]
attribute [local go_sem] lrA tstA msA List.map_cons List.map_nil icast8 Array.isEmpty_empty in
theorem test_s (T:Tbl) (hL:LibT T) (t:Tst) (x:Lr) (m:Ms) (ok:t.Ok) (jt:JT t) (jo:JOk x m) (hs:x.s.length≤9223372036854775807) (ih:∀y∈t.kids,PC Tryz.prog T 35 [.agg (tstA y),.agg (lrA x),.agg (msA m)] (.d (.bool (tellJ x m y)))):PC Tryz.prog T 35 [.agg (tstA t),.agg (lrA x),.agg (msA m)] (.d (.bool (tellJ x m t))):=by
 refine⟨Tryz.call35,PCall.enterS Tryz.func35 rfl Tryz.ntmps35 rfl fun hb=>?_⟩
 obtain⟨s1,s2,s3,s4⟩:=ok.inv
 obtain⟨j1,j2,j3,j4,j5,j6,j8,j7⟩:=jt.inv
 have hkl:t.kids.length≤10000000000000:=by omega
 simp only[go_sem,Tryz.results35]
 refine Zx ?_
 try simp only[go_sem,if_true]
 (repeat(with_reducible refine And.intro ZS ?_))
 intro b3
 first|intro fb3|have fb3:=True.intro
 try simp only[freshL] at fb3
 try simp only[go_sem,if_true,fb3]
 (repeat(with_reducible refine And.intro ZS ?_))
 intro b4
 first|intro fb4|have fb4:=True.intro
 try simp only[freshL] at fb4
 try simp only[go_sem,if_true,fb3,fb4]
 (repeat(with_reducible refine And.intro ZS ?_))
 intro b5
 first|intro fb5|have fb5:=True.intro
 try simp only[freshL] at fb5
 try simp only[go_sem,if_true,fb3,fb4,fb5]
 (repeat(with_reducible refine And.intro ZS ?_))
 refine Zm 56 ?_
 refine Zx ?_
 try simp only[go_sem,if_true,fb3,fb4,fb5]
 (repeat(with_reducible refine And.intro ZS ?_))
 intro b7
 first|intro fb7|have fb7:=True.intro
 try simp only[freshL] at fb7
 try simp only[go_sem,if_true,fb3,fb4,fb5,fb7]
 (repeat(with_reducible refine And.intro ZS ?_))
 refine Zs (Zp 79 ?_)
 refine AWp.block (Zp 63 ?_)
 refine Zc (fun hc0=>?_) fun hc0=>?_
 ·
  have h0:=j5 hc0
  have e:tellJ x m t=!tellJ x m (t.kids[0]):=by rw[tellJ_eq,if_pos hc0,tellN_0 h0]
  have zf1:=fun d0_=>kidsD_get t 0 d0_ h0
  refine Zd false [0,1,2,3,4,5,6,7] ?_
  try simp only[go_sem,if_true,fb3,fb4,fb5,fb7,zf1]
  (repeat(with_reducible refine And.intro ZS ?_))
  have hC:=test1_c T (t.kids[0]) x m b4 b5 [(b7,⟨1,1,[[.fn 70 [.ptr b4 5 0 0,.ptr b5 2 0 0]]]⟩),(b3,⟨8,1,[tstA t]⟩)] [] (ih _ (List.getElem_mem h0))
  refine DW.acp [b4,b5] [] rfl rfl rfl rfl (by(try simp only[go_sem,if_true,fb3,fb4,fb5,fb7,zf1])<;>rfl) rfl (hC) ?_
  rintro _ _ ⟨rfl,rfl⟩
  try simp only[go_sem,if_true,fb3,fb4,fb5,fb7,zf1]
  (repeat(with_reducible refine And.intro ZS ?_))
  refine Zm 8 ?_
  refine AWp.ret ?_
  try simp only[go_sem,if_true,fb3,fb4,fb5,fb7,zf1]
  rw[e];try simp[LeA,LeD]
 refine Zp 95 ?_
 refine Zc (fun hc1=>?_) fun hc1=>?_
 ·
  have e:tellJ x m t=t.kids.any (tellJ x m):=by rw[tellJ_eq,if_neg hc0,if_pos hc1,tellY_any]
  refine Zx ?_
  try simp only[go_sem,if_true,fb3,fb4,fb5,fb7]
  (repeat(with_reducible refine And.intro ZS ?_))
  have hC:=CfT_c T t.kids _ _ (tellJ x m) _ _ hkl fun y hy=>test1_c T y x m b4 b5 [(b7,⟨1,1,[[.fn 70 [.ptr b4 5 0 0,.ptr b5 2 0 0]]]⟩),(b3,⟨8,1,[tstA t]⟩)] [] (ih y hy)
  rw[←kidsD_eq] at hC
  refine DW.acp [b4,b5] [] rfl rfl rfl rfl (by(try simp only[go_sem,if_true,fb3,fb4,fb5,fb7])<;>rfl) rfl (hC) ?_
  rintro _ _ ⟨rfl,rfl⟩
  try simp only[go_sem,if_true,fb3,fb4,fb5,fb7]
  (repeat(with_reducible refine And.intro ZS ?_))
  refine Zm 8 ?_
  refine AWp.ret ?_
  try simp only[go_sem,if_true,fb3,fb4,fb5,fb7]
  rw[e];try simp[LeA,LeD]
 refine Zp 79 ?_
 refine Zc (fun hc2=>?_) fun hc2=>?_
 ·
  have e:tellJ x m t=!(t.kids.any fun y=>!tellJ x m y):=by rw[tellJ_eq,if_neg hc0,if_neg hc1,if_pos hc2,tellA_all]
  refine Zx ?_
  try simp only[go_sem,if_true,fb3,fb4,fb5,fb7]
  (repeat(with_reducible refine And.intro ZS ?_))
  have hC:=CfT_c T t.kids _ _ (fun y=>!tellJ x m y) _ _ hkl fun y hy=>test2_c T y x m b7 b4 b5 [(b3,⟨8,1,[tstA t]⟩)] [] (ih y hy)
  rw[←kidsD_eq] at hC
  refine DW.acp [b7,b4,b5] [] rfl rfl rfl rfl (by(try simp only[go_sem,if_true,fb3,fb4,fb5,fb7])<;>rfl) rfl (hC) ?_
  rintro _ _ ⟨rfl,rfl⟩
  try simp only[go_sem,if_true,fb3,fb4,fb5,fb7]
  (repeat(with_reducible refine And.intro ZS ?_))
  refine Zm 8 ?_
  refine AWp.ret ?_
  try simp only[go_sem,if_true,fb3,fb4,fb5,fb7]
  rw[e];try simp[LeA,LeD]
 refine AWp.skip (blkQ_n (thenQ_n ?_))
 refine Z1 8 (ask_c T hL t x m ok jt jo hs) ?_
 refine AWp.ret ?_
 try simp only[go_sem,if_true,fb3,fb4,fb5,fb7]
 rw[show tellJ x m t=askJ t x m by rw[tellJ_eq,if_neg hc0,if_neg hc1,if_neg hc2]];try simp[LeA,LeD]
theorem jtest_p (T:Tbl) (hL:LibT T) (x:Lr) (m:Ms) (jo:JOk x m) (hs:x.s.length≤9223372036854775807) (t:Tst):t.Ok→JT t→PC Tryz.prog T 35 [.agg (tstA t),.agg (lrA x),.agg (msA m)] (.d (.bool (tellJ x m t))):=by
 induction t using Tst.ind with
 |h t ih=>exact fun ok jt=>test_s T hL t x m ok jt jo hs fun y hy=>ih y hy (ok.inv.2.2.2 y hy) (jt.inv.2.2.2.2.2.2.2 y hy)
end
section
open Go.RowKit
open Go.RowKit
theorem foldL_data (t:ByteArray):(mk (foldL t)).data.toList=t.data.toList.map small:=by simp[mk,foldL,bs]
theorem lower_p (T:Tbl) (s:Tx) (h:s.length≤2000):PC Tryz.prog T 140 [.d (.str s)] (.d (.str (s.map small))):=PC.old Tryz.call140 fun F w vs hF hT R=>by
 obtain⟨v,rfl,hv⟩:=slr1 R
 cases hv with
 |d hv=>
  obtain⟨t,rfl,e1,_⟩:=hv.str_inv
  subst e1
  have hsz:t.size≤2000:=by rw[←size_data];exact h
  refine(lower_any t w (by omega)).mono ?_
  rintro e w' ⟨rfl,hb⟩
  refine⟨_,rfl,hb,?_⟩
  rw[←foldL_data]
  refine .d (.str _ ?_)
  rw[mk_size,foldL_len]
  unfold maxLen;omega
end
section
theorem mat1 {s p:Tx} (hs:s.length≤2000) (hp:p.length≤100):matB 1 s p=decide (s.map small=p.map small):=by
 have h1:(⟨s.toArray⟩:ByteArray).size≤2000:=by rw[←size_data];exact hs
 have h2:(⟨p.toArray⟩:ByteArray).size≤100:=by rw[←size_data];exact hp
 rw[matB,matchB_ok (matchE_ok (by decide) (by decide) h1 h2)]
 exact asksB_of (by rw[asks1,decide_eq_true_iff];simp[foldL,bs])
theorem listR_e0 {s:Tx} (h:0<(listR s).1.length):(listR s).2=0:=by
 unfold listR at h⊢
 split
 ·rename_i h1;rw[if_pos h1] at h;simp at h
 ·rename_i h1
  rw[if_neg h1] at h
  split
  ·rename_i h2;rw[h2] at h;simp at h
  ·rename_i l h2
   rw[h2] at h
   split
   ·rename_i h3;simp only[if_pos h3] at h;simp at h
   ·rfl
theorem adsJ_t {vs:List Tx} {k j:Nat} (hk:k<vs.length) (hj:j<(listR vs[k]).1.length) (p:Int):((adsJ (vs.take k)++(listR vs[k]).1.take (j+1)).map fun a=>strD (prtT p a))=((adsJ (vs.take k)++(listR vs[k]).1.take j).map fun a=>strD (prtT p a))++[strD (prtT p (listR vs[k]).1[j])]:=by
 rw[List.take_succ_eq_append_getElem hj,←List.append_assoc,List.map_append];rfl
def cntB {α:Type} (g:α→Bool) (l:List α):Nat:=(l.filter g).length
theorem cntB_y {α:Type} {g:α→Bool} {l:List α} {k:Nat} (h:k<l.length) (hg:g l[k]=true):cntB g (l.take (k+1))=cntB g (l.take k)+1:=by
 rw[List.take_succ_eq_append_getElem h,cntB,List.filter_append];simp[cntB,hg]
theorem cntB_n {α:Type} {g:α→Bool} {l:List α} {k:Nat} (h:k<l.length) (hg:g l[k]=false):cntB g (l.take (k+1))=cntB g (l.take k):=by
 rw[List.take_succ_eq_append_getElem h,cntB,List.filter_append];simp[cntB,hg]
theorem cntB_le {α:Type} (g:α→Bool) (l:List α):cntB g l≤l.length:=List.length_filter_le _ _
theorem cntB_all {α:Type} (g:α→Bool) (l:List α):decide ((cntB g l:Int)=(l.length:Int))=l.all g:=by
 rw[Bool.eq_iff_iff,decide_eq_true_iff,List.all_eq_true,Int.ofNat_inj,cntB,List.length_filter_eq_length_iff]
theorem cntB_any {α:Type} (g:α→Bool) (l:List α):decide (0<(cntB g l:Int))=l.any g:=by
 rw[Bool.eq_iff_iff,decide_eq_true_iff,List.any_eq_true]
 constructor
 ·intro h
  have:0<(l.filter g).length:=by simpa[cntB] using h
  obtain⟨a,ha⟩:=List.exists_mem_of_length_pos this
  exact⟨a,(List.mem_filter.1 ha).1,(List.mem_filter.1 ha).2⟩
 ·rintro⟨a,ha,hg⟩
  have:0<(l.filter g).length:=List.length_pos_of_mem (List.mem_filter.2 ⟨ha,hg⟩)
  simpa[cntB] using this
attribute [local go_sem] icast adD in
theorem ListOf_c (T:Tbl) (hL:LibT T) (s:Tx):PC Tryz.prog T 141 [.d (.str s)] (adsV (listR s)):=by
 refine⟨Tryz.call141,PCall.enterS Tryz.func141 rfl Tryz.ntmps141 rfl fun hb=>?_⟩
 simp only[go_sem,Tryz.results141]
 refine Zp 1 ?_
 refine Zs (Zp 9 ?_)
 refine Zc (fun hc0=>?_) fun hc0=>?_
 ·
  refine Zp 6 ?_
  refine AWp.ret ?_
  try simp only[go_sem]
  rw[listR,if_pos (by omega)];simp[adsV,adsD,LeA,LeL,LeD]
 refine Zk ?_
 rcases hp:listS s with _|l
 ·
  refine Z1 6 (listOf_none T hL s (by omega) hp) ?_
  refine Zs (Zp 9 ?_)
  refine Zc (fun hc1=>?_) fun hc1=>?_
  ·
   refine Zp 3 ?_
   refine AWp.ret ?_
   try simp only[go_sem]
   rw[listR_no (by omega) hp];simp[adsV,adsD,LeA,LeL,LeD]
  exact absurd hc1 (by first|(simp;done)|omega|(simp[*];done))
 refine Z1 6 (listOf_some T hL s (by omega) l hp) ?_
 refine Zs (Zp 9 ?_)
 refine Zc (fun hc1=>?_) fun hc1=>?_
 ·
  exact absurd hc1 (by first|(simp;done)|omega|(simp[*];done))
 refine Zk ?_
 refine Zs (Zp 17 ?_)
 refine Zc (fun hc2=>?_) fun hc2=>?_
 ·
  refine Zp 3 ?_
  refine AWp.ret ?_
  try simp only[go_sem]
  rw[listR_full (by omega) hp (by omega)];simp[adsV,adsD,LeA,LeL,LeD]
 refine Zk ?_
 refine Zp 3 ?_
 refine AWp.ret ?_
 try simp only[go_sem]
 rw[listR_ok (by omega) hp (by omega)];simp[adsV,adsD,LeA,LeL,LeD]
theorem rpart_c (T:Tbl) (p:Int) (l d:Tx) (hl:l.length+d.length≤1000):PC Tryz.prog T 83 [.d (.int .i64 p),.agg [.d (.str l),.d (.str d)]] (.d (.str (prtT p (l,d)))):=by
 refine⟨Tryz.call83,PCall.enterS Tryz.func83 rfl Tryz.ntmps83 rfl fun hb=>?_⟩
 simp only[go_sem,Tryz.results83]
 refine Zx ?_
 try simp only[go_sem]
 (repeat(with_reducible refine And.intro ZS ?_))
 intro b3
 first|intro fb3|have fb3:=True.intro
 try simp only[freshL] at fb3
 try simp only[go_sem,fb3]
 (repeat(with_reducible refine And.intro ZS ?_))
 refine Zs (Zp 37 ?_)
 refine Zc (fun hc0=>?_) fun hc0=>?_
 ·
  refine Zp 4 ?_
  refine AWp.ret ?_
  try simp only[go_sem,fb3]
  first|(simp[LeA,LeD,prtT,adT, *];done)|(simp_all [LeA,LeD,prtT,adT])
 refine Zk ?_
 refine Zs (Zp 18 ?_)
 refine Zc (fun hc1=>?_) fun hc1=>?_
 ·
  refine Zp 2 ?_
  refine AWp.ret ?_
  try simp only[go_sem,fb3]
  first|(simp[LeA,LeD,prtT,adT, *];done)|(simp_all [LeA,LeD,prtT,adT])
 refine Zk ?_
 refine Zp 2 ?_
 refine AWp.ret ?_
 try simp only[go_sem,fb3]
 first|(simp[LeA,LeD,prtT,adT, *];done)|(simp_all [LeA,LeD,prtT,adT])
attribute [local go_sem] msA icast8 fldsD_len List.map_cons List.map_nil in
theorem rvals_c (T:Tbl) (m:Ms) (nm:Tx) (hn:nm.length≤100) (hf:∀f∈m.f,f.1.length≤2000∧f.2.length≤2000) (hl:m.f.length≤30):PC Tryz.prog T 76 [.agg (msA m),.d (.str nm)] (.d (.slc 1 ((valJ m.f nm).map strD))):=by
 refine⟨Tryz.call76,PCall.enterS Tryz.func76 rfl Tryz.ntmps76 rfl fun hb=>?_⟩
 simp only[go_sem,Tryz.results76]
 refine Zx ?_
 try simp only[go_sem]
 (repeat(with_reducible refine And.intro ZS ?_))
 intro b2
 first|intro fb2|have fb2:=True.intro
 try simp only[freshL] at fb2
 try simp only[go_sem,fb2]
 (repeat(with_reducible refine And.intro ZS ?_))
 refine Zp 22 ?_
 refine Zs (Zp 15 ?_)
 refine AWp.block (Zy ?_)
 refine AWp.ownNilS 5 1 rfl rfl (by decide) fun w0 fw0=>?_
 try simp only[freshT] at fw0
 refine Zy ?_
 refine Zl 3 12 (fun n lc hc=> ∃(k w:Nat),n=m.f.length-k∧EqS lc [(5,.own w 1 ((valJ (m.f.take k) nm).map strD)),(6,.d (.int .i64 (k:Nat)))]∧EqS hc (⟨[(b2,⟨2,1,[msA m]⟩)],[w]⟩)∧(k≤m.f.length)) ⟨_,0,w0,rfl,ZE,ZE,ZI⟩ ?_
 rintro _ _ _ ⟨k,w,rfl,⟨rfl⟩,⟨rfl⟩,h1⟩
 refine Zy ?_
 refine Zs (Zp 271 ?_)
 refine Zc (fun hc0=>?_) fun hc0=>?_
 ·
  have hlt:k<m.f.length:=by omega
  have hki:(k:Int)<(m.f.length:Int):=by omega
  have hvl:=valJ_len (m.f.take k) nm
  rw[List.length_take] at hvl
  have hnm:(m.f.getD k ([],[])).1.length≤2000:=by have:=hf _ (List.getElem_mem hlt);simpa[List.getD,hlt] using this.1
  have zf1:=fun dd=>fldsD_gj (d:=dd) hlt
  refine Zk ?_
  refine Zs (AWp.block (Zx ?_))
  try simp only[go_sem,fb2,fw0,zf1,hki]
  (repeat(with_reducible refine And.intro ZS ?_))
  refine DW.pcr rfl rfl rfl rfl (lower_p T (m.f.getD k ([],[])).1 hnm) rfl rfl ?_
  try simp only[go_sem,fb2,fw0,zf1,hki]
  (repeat(with_reducible refine And.intro ZS ?_))
  refine DW.pcr rfl rfl rfl rfl (lower_p T nm (by omega)) rfl rfl ?_
  try simp only[go_sem,fb2,fw0,zf1,hki]
  (repeat(with_reducible refine And.intro ZS ?_))
  refine Zm 16399 ?_
  refine Zc (fun hc1=>?_) fun hc1=>?_
  ·
   have hm:matB 1 (m.f.getD k ([],[])).1 nm=true:=by rw[mat1 hnm hn];exact decide_eq_true hc1
   refine Zq fun K_ k_=>?_
   try simp only[go_sem,fb2,fw0,zf1,hki]
   (repeat(with_reducible refine And.intro ZS ?_))
   refine DW.app rfl rfl rfl rfl (show slI Tryz.prog 31=some (9,1,16) by simp only[go_sem]) rfl rfl (by simp only[go_sem,fb2,fw0,zf1,hki]) (by first|exact .inl rfl|exact .inr rfl) (by(try simp only[go_sem,List.length_map,List.length_take,List.length_append,List.length_cons,List.length_nil]);first|done|omega) (by(try simp only[go_sem,List.length_map,List.length_take,List.length_append,List.length_cons,List.length_nil]);first|done|omega) fun t1 ft1=>?_
   try simp only[freshT] at ft1
   try simp only[go_sem,fb2,fw0,zf1,hki,ft1]
   (repeat(with_reducible refine And.intro ZS ?_))
   refine k_ _ _ (blkQ_n (thenQ_n ?_))
   refine Zm 15 ?_
   refine Zr (thenQ_n ?_)
   refine Ze 3 12 [] [] [b2] [t1] (.e ⟨_,ZM,k+1,t1,rfl,?_,ZE,ZN⟩)
   · (try simp only[go_sem,fb2,fw0,zf1,hki,ft1])<;>first|exact⟨rfl⟩|(constructor;rw[valJ_yes hlt hm,List.map_append];rfl)
  have hm:matB 1 (m.f.getD k ([],[])).1 nm=false:=by rw[mat1 hnm hn];exact decide_eq_false hc1
  refine AWp.skip (blkQ_n (thenQ_n ?_))
  refine Zr (thenQ_n ?_)
  refine Ze 3 12 [] [] [b2] [w] (.e ⟨_,ZM,k+1,w,rfl,?_,ZE,ZN⟩)
  · (try simp only[go_sem,fb2,fw0,zf1,hki])<;>first|exact⟨rfl⟩|(constructor;rw[valJ_no hlt hm])
 have htk:m.f.take k=m.f:=List.take_of_length_le (by omega)
 rw[htk]
 refine AWp.exit (thenQ_e (thenQ_e (blkQ_e (thenQ_n ?_))))
 refine Zm 4 ?_
 refine Zp 1 ?_
 refine AWp.ret ?_
 try simp only[go_sem,fb2,fw0]
 try simp[LeA,LeD]
attribute [local go_sem] icast8 List.length_map strD in
theorem onefit_c (T:Tbl) (mm:Int) (vs ks:List Tx) (hm:1≤mm∧mm≤3) (hv:∀v∈vs,v.length≤2000) (hk:∀y∈ks,y.length≤100) (hvl:vs.length≤1000000) (hkl:ks.length≤10000000000000):PC Tryz.prog T 78 [.d (.int .i64 mm),.d (.slc 1 (vs.map strD)),.d (.slc 1 (ks.map strD))] (.d (.bool (fitB mm vs ks))):=by
 refine⟨Tryz.call78,PCall.enterS Tryz.func78 rfl Tryz.ntmps78 rfl fun hb=>?_⟩
 simp only[go_sem,Tryz.results78]
 refine Zp 7 ?_
 refine Zs (Zp 15 ?_)
 refine AWp.block (Zy ?_)
 refine Zl 7 8 (fun n lc hc=> ∃(k:Nat),n=vs.length-k∧EqS lc [(7,.d (.int .i64 (k:Nat)))]∧EqS hc (⟨[],[]⟩)∧(k≤vs.length)∧((vs.take k).any (fun v=>ks.any fun y=>matB mm v y)=false)) ?_ ?_
 · refine ⟨_,0,rfl,ZE,ZE,?_,?_⟩
   all_goals(first|omega|rfl|simp)
 rintro _ _ _ ⟨k,rfl,⟨rfl⟩,⟨rfl⟩,h1,h2⟩
 refine Zy ?_
 refine Zs (Zp 143 ?_)
 refine Zc (fun hc0=>?_) fun hc0=>?_
 ·
  have hlt:k<vs.length:=by omega
  have hki:(k:Int)<(vs.length:Int):=by omega
  have zf1:=fun d0_=>map_getD strD vs k d0_ hlt
  refine Zk ?_
  refine Zs (AWp.block (Zp 31 ?_))
  refine AWp.block (Zy ?_)
  refine Zl 15 16 (fun n lc hc=> ∃(j:Nat),n=ks.length-j∧EqS lc [(8,.d (.int .i64 (j:Nat)))]∧EqS hc (⟨[],[]⟩)∧(j≤ks.length)∧((ks.take j).any (fun y=>matB mm vs[k] y)=false)) ?_ ?_
  · refine ⟨_,0,rfl,ZE,ZE,?_,?_⟩
    all_goals(first|omega|rfl|simp)
  rintro _ _ _ ⟨j,rfl,⟨rfl⟩,⟨rfl⟩,g1,g2⟩
  refine Zy ?_
  refine Zs (Zp 287 ?_)
  refine Zc (fun hc1=>?_) fun hc1=>?_
  ·
   have hlj:j<ks.length:=by omega
   have hji:(j:Int)<(ks.length:Int):=by omega
   have zf2:=fun d0_=>map_getD strD ks j d0_ hlj
   refine Zk ?_
   refine Zs (AWp.block (Zd true [0,1,2,3,4,5,6,7,8,9] ?_))
   try simp only[go_sem,zf1,hki,zf2,hji]
   (repeat(with_reducible refine And.intro ZS ?_))
   refine DW.pcr rfl rfl rfl rfl (matched_p T mm vs[k] ks[j] (hv _ (List.getElem_mem hlt)) (hk _ (List.getElem_mem hlj)) hm) rfl rfl ?_
   try simp only[go_sem,zf1,hki,zf2,hji]
   (repeat(with_reducible refine And.intro ZS ?_))
   refine Zm 32799 ?_
   refine Zc (fun hc2=>?_) fun hc2=>?_
   ·
    refine Zp 8 ?_
    refine AWp.ret ?_
    try simp only[go_sem,zf1,hki,zf2,hji]
    rw[fitB,List.any_eq_true.2 ⟨_,List.getElem_mem hlt,List.any_eq_true.2 ⟨_,List.getElem_mem hlj,hc2⟩⟩];try simp[LeA,LeD]
   refine AWp.skip (blkQ_n (thenQ_n ?_))
   refine Zr (thenQ_n ?_)
   refine Zf 15 16 (.e ⟨_,ZM,j+1,rfl,ZE,ZE,?_,?_⟩)
   · omega
   · rw [List.take_succ_eq_append_getElem hlj,List.any_append,g2];simpa using hc2
  have hnn:(ks.any fun y=>matB mm vs[k] y)=false:=by rwa [List.take_of_length_le (by omega)] at g2
  refine AWp.exit (thenQ_e (thenQ_e (blkQ_e (blkQ_n (thenQ_n ?_)))))
  refine Zr (thenQ_n ?_)
  refine Zf 7 8 (.e ⟨_,ZM,k+1,rfl,ZE,ZE,?_,?_⟩)
  · omega
  · rw [List.take_succ_eq_append_getElem hlt,List.any_append,h2,List.any_cons,hnn];rfl
 have hz:(vs.any fun v=>ks.any fun y=>matB mm v y)=false:=by rwa [List.take_of_length_le (by omega)] at h2
 refine AWp.exit (thenQ_e (thenQ_e (blkQ_e (thenQ_n ?_))))
 refine Zm 0 ?_
 refine Zp 1 ?_
 refine AWp.ret ?_
 try simp only[go_sem]
 rw[fitB,hz];try simp[LeA,LeD]
attribute [local go_sem] lrA tstA msA List.map_cons List.map_nil icast8 List.length_map adsV adsD_len adD strD in
theorem looked_c (T:Tbl) (hL:LibT T) (t:Tst) (x:Lr) (m:Ms) (nm:Tx) (jo:JOk x m) (hn:nm.length≤100):PC Tryz.prog T 77 [.agg (tstA t),.d (.str nm),.agg (lrA x),.agg (msA m)] (.d (.slc 1 ((lookJ t.kind t.part x m nm).map strD))):=by
 refine⟨Tryz.call77,PCall.enterS Tryz.func77 rfl Tryz.ntmps77 rfl fun hb=>?_⟩
 obtain⟨_,_,hz1⟩:=adr_run jo.h1
 obtain⟨_,_,hz2⟩:=adr_run jo.h2
 simp only[go_sem,Tryz.results77]
 refine Zx ?_
 try simp only[go_sem]
 (repeat(with_reducible refine And.intro ZS ?_))
 intro b4
 first|intro fb4|have fb4:=True.intro
 try simp only[freshL] at fb4
 try simp only[go_sem,fb4]
 (repeat(with_reducible refine And.intro ZS ?_))
 intro b6
 first|intro fb6|have fb6:=True.intro
 try simp only[freshL] at fb6
 try simp only[go_sem,fb4,fb6]
 (repeat(with_reducible refine And.intro ZS ?_))
 intro b7
 first|intro fb7|have fb7:=True.intro
 try simp only[freshL] at fb7
 try simp only[go_sem,fb4,fb6,fb7]
 (repeat(with_reducible refine And.intro ZS ?_))
 refine Zm 114 ?_
 refine Zs (Zp 79 ?_)
 refine Zc (fun hc0=>?_) fun hc0=>?_
 ·
  refine Zx ?_
  try simp only[go_sem,fb4,fb6,fb7]
  (repeat(with_reducible refine And.intro ZS ?_))
  intro b9
  first|intro fb9|have fb9:=True.intro
  try simp only[freshL] at fb9
  try simp only[go_sem,fb4,fb6,fb7,fb9]
  (repeat(with_reducible refine And.intro ZS ?_))
  refine Zm 23 ?_
  refine Zs (Zp 46 ?_)
  refine Zc (fun hc1=>?_) fun hc1=>?_
  ·
   have hn2:nm=toT:=hc1
   have e:lookJ t.kind t.part x m nm=[prtT t.part (x.c1,x.c2)]:=by rw[lookJ,if_pos hc0,if_pos hn2]
   refine Zr (thenQ_n ?_)
   refine Zm 5 ?_
   refine AWp.cut 4 fun K_ hK_=>?_
   simp only[List.take_succ_cons,List.take_zero,List.drop_succ_cons,List.drop_zero]
   try simp only[go_sem,fb4,fb6,fb7,fb9]
   (repeat(with_reducible refine And.intro ZS ?_))
   refine DW.pcr rfl rfl rfl rfl (rpart_c T t.part x.c1 x.c2 (by omega)) rfl rfl ?_
   try simp only[go_sem,fb4,fb6,fb7,fb9]
   (repeat(with_reducible refine And.intro ZS ?_))
   refine DW.bsO (he:=by first|rfl|kernel_rfl) rfl rfl (show slI Tryz.prog 31=some (9,1,16) by simp only[go_sem]) (by(try simp only[go_sem,fb4,fb6,fb7,fb9])<;>rfl) rfl (by decide) fun t1 ft1=>?_
   try simp only[freshT] at ft1
   try simp only[go_sem,fb4,fb6,fb7,fb9,ft1]
   (repeat(with_reducible refine And.intro ZS ?_))
   refine hK_ _ _ ?_
   refine Zm 2 ?_
   refine AWp.ret ?_
   try simp only[go_sem,fb4,fb6,fb7,fb9,ft1]
   rw[e];try simp[LeA,LeD,strD]
  have hn2:¬nm=toT:=hc1
  have e:lookJ t.kind t.part x m nm=[prtT t.part (x.a1,x.a2)]:=by rw[lookJ,if_pos hc0,if_neg hn2]
  refine Zk ?_
  refine AWp.cut 4 fun K_ hK_=>?_
  simp only[List.take_succ_cons,List.take_zero,List.drop_succ_cons,List.drop_zero]
  try simp only[go_sem,fb4,fb6,fb7,fb9]
  (repeat(with_reducible refine And.intro ZS ?_))
  refine DW.pcr rfl rfl rfl rfl (rpart_c T t.part x.a1 x.a2 (by omega)) rfl rfl ?_
  try simp only[go_sem,fb4,fb6,fb7,fb9]
  (repeat(with_reducible refine And.intro ZS ?_))
  refine DW.bsO (he:=by first|rfl|kernel_rfl) rfl rfl (show slI Tryz.prog 31=some (9,1,16) by simp only[go_sem]) (by(try simp only[go_sem,fb4,fb6,fb7,fb9])<;>rfl) rfl (by decide) fun t2 ft2=>?_
  try simp only[freshT] at ft2
  try simp only[go_sem,fb4,fb6,fb7,fb9,ft2]
  (repeat(with_reducible refine And.intro ZS ?_))
  refine hK_ _ _ ?_
  refine Zm 4 ?_
  refine AWp.ret ?_
  try simp only[go_sem,fb4,fb6,fb7,fb9,ft2]
  rw[e];try simp[LeA,LeD,strD]
 refine Zk ?_
 refine Z1 18 (rvals_c T m nm hn jo.hf jo.hl) ?_
 refine Zs (Zp 19 ?_)
 refine Zc (fun hc2=>?_) fun hc2=>?_
 ·
  have e:lookJ t.kind t.part x m nm=valJ m.f nm:=by rw[lookJ,if_neg hc0,if_neg hc2]
  refine Zp 2 ?_
  refine AWp.ret ?_
  try simp only[go_sem,fb4,fb6,fb7]
  rw[e];try simp[LeA,LeD]
 have h7:t.kind=7:=by first|exact hc2|omega
 have e:lookJ t.kind t.part x m nm=(adsJ (valJ m.f nm)).map (prtT t.part):=by rw[lookJ,if_neg hc0,if_pos h7]
 have hvl:=valJ_len m.f nm
 have hjl:=jo.hl
 generalize hvs:valJ m.f nm=vs at e hvl
 refine Zk ?_
 refine Zp 7 ?_
 refine Zs (Zp 15 ?_)
 refine AWp.block (Zy ?_)
 refine AWp.ownNilS 11 1 rfl rfl (by decide) fun w0 fw0=>?_
 try simp only[freshT] at fw0
 refine Zy ?_
 refine Zl 3 12 (fun n lc hc=> ∃(k w:Nat),n=vs.length-k∧EqS lc [(11,.own w 1 ((adsJ (vs.take k)).map fun a=>strD (prtT t.part a))),(12,.d (.int .i64 (k:Nat)))]∧EqS hc (⟨[(b7,⟨2,1,[msA m]⟩),(b6,⟨5,1,[lrA x]⟩),(b4,⟨8,1,[tstA t]⟩)],[w]⟩)∧(k≤vs.length)) ⟨_,0,w0,rfl,ZE,ZE,ZI⟩ ?_
 rintro _ _ _ ⟨k,w,rfl,⟨rfl⟩,⟨rfl⟩,h1⟩
 refine Zy ?_
 refine Zs (Zp 143 ?_)
 refine Zc (fun hc3=>?_) fun hc3=>?_
 ·
  have hlt:k<vs.length:=by omega
  have hki:(k:Int)<(vs.length:Int):=by omega
  have hal:=adsJ_len (vs.take k)
  rw[List.length_take] at hal
  have hrl:=listR_len vs[k]
  have zf1:=fun d0_=>map_getD strD vs k d0_ hlt
  refine Zk ?_
  refine Zs (AWp.block (Z1 63 (ListOf_c T hL vs[k]) ?_))
  refine Zp 127 ?_
  refine AWp.block (Zy ?_)
  refine Zl 59 68 (fun n lc hc=> ∃(j w2:Nat),n=(listR vs[k]).1.length-j∧EqS lc [(11,.own w2 1 ((adsJ (vs.take k)++(listR vs[k]).1.take j).map fun a=>strD (prtT t.part a))),(15,.d (.int .i64 (j:Nat)))]∧EqS hc (⟨[(b7,⟨2,1,[msA m]⟩),(b6,⟨5,1,[lrA x]⟩),(b4,⟨8,1,[tstA t]⟩)],[w2]⟩)∧(j≤(listR vs[k]).1.length)) ?_ ?_
  · refine ⟨_,0,w,rfl,?_,ZE,ZI⟩
    · (try simp only[go_sem,fb4,fb6,fb7,hvs,fw0,zf1,hki])<;>first|exact⟨rfl⟩|(constructor;simp)
  rintro _ _ _ ⟨j,w2,rfl,⟨rfl⟩,⟨rfl⟩,g1⟩
  refine Zy ?_
  refine Zs (Zp 16511 ?_)
  refine Zc (fun hc4=>?_) fun hc4=>?_
  ·
   have hlj:j<(listR vs[k]).1.length:=by omega
   have hji:(j:Int)<((listR vs[k]).1.length:Int):=by omega
   have hadr:=listR_ad vs[k] _ (List.getElem_mem hlj)
   obtain⟨_,_,hz3⟩:=adr_run hadr
   have zf2:=fun d0_=>adsD_get (listR vs[k]).1 j d0_ hlj
   refine Zk ?_
   refine Zs (AWp.block (Zt true [0,1,2,3,4,5,6,7,8,9,10] fun K_ k_=>?_))
   try simp only[go_sem,fb4,fb6,fb7,hvs,fw0,zf1,hki,zf2,hji]
   (repeat(with_reducible refine And.intro ZS ?_))
   refine DW.pcr rfl rfl rfl rfl (rpart_c T t.part (listR vs[k]).1[j].1 (listR vs[k]).1[j].2 (by omega)) rfl rfl ?_
   try simp only[go_sem,fb4,fb6,fb7,hvs,fw0,zf1,hki,zf2,hji]
   (repeat(with_reducible refine And.intro ZS ?_))
   refine DW.app rfl rfl rfl rfl (show slI Tryz.prog 31=some (9,1,16) by simp only[go_sem]) rfl rfl (by simp only[go_sem,fb4,fb6,fb7,hvs,fw0,zf1,hki,zf2,hji]) (by first|exact .inl rfl|exact .inr rfl) (by(try simp only[go_sem,List.length_map,List.length_take,List.length_append,List.length_cons,List.length_nil]);first|done|omega) (by(try simp only[go_sem,List.length_map,List.length_take,List.length_append,List.length_cons,List.length_nil]);first|done|omega) fun t3 ft3=>?_
   try simp only[freshT] at ft3
   try simp only[go_sem,fb4,fb6,fb7,hvs,fw0,zf1,hki,zf2,hji,ft3]
   (repeat(with_reducible refine And.intro ZS ?_))
   refine k_ _ _ (blkQ_n (thenQ_n ?_))
   refine Zm 127 ?_
   refine Zr (thenQ_n ?_)
   refine Ze 59 68 [] [] [b7,b6,b4] [t3] (.e ⟨_,ZM,j+1,t3,rfl,?_,ZE,ZN⟩)
   · (try simp only[go_sem,fb4,fb6,fb7,hvs,fw0,zf1,hki,zf2,hji,ft3])<;>first|exact⟨rfl⟩|(constructor;have h9:=adsJ_t hlt hlj t.part;simp only[strD] at h9;rw[h9])
  have hje:(listR vs[k]).1.length≤j:=by
    rcases Nat.lt_or_ge j (listR vs[k]).1.length with h9|h9
    · have:=listR_e0 (s:=vs[k]) (by omega)
      omega
    · exact h9
  have hjt:(listR vs[k]).1.take j=(listR vs[k]).1:=List.take_of_length_le hje
  refine AWp.exit (thenQ_e (thenQ_e (blkQ_e (blkQ_n (thenQ_n ?_)))))
  refine Zm 15 ?_
  refine Zr (thenQ_n ?_)
  refine Ze 3 12 [] [] [b7,b6,b4] [w2] (.e ⟨_,ZM,k+1,w2,rfl,?_,ZE,ZN⟩)
  · (try simp only[go_sem,fb4,fb6,fb7,hvs,fw0,zf1,hki])<;>first|exact⟨rfl⟩|(constructor;first|(rw[adsJ_s hlt];done)|(rw[adsJ_s hlt,hjt];done))
 have htk:vs.take k=vs:=List.take_of_length_le (by omega)
 rw[htk]
 refine AWp.exit (thenQ_e (thenQ_e (blkQ_e (thenQ_n ?_))))
 refine Zm 4 ?_
 refine Zp 1 ?_
 refine AWp.ret ?_
 try simp only[go_sem,fb4,fb6,fb7,hvs,fw0]
 rw[e];simp[LeA,LeD,strD]
end
section
theorem tell45 {x:Lr} {m:Ms} {t:Tst} (h:t.kind=4∨t.kind=5) (h0:0<t.kids.length):(decide ((cntB (tellJ x m) t.kids:Int)=(t.kids.length:Int))||(decide (t.kind=5)&&decide (0<(cntB (tellJ x m) t.kids:Int))))=tellJ x m t:=by
 rw[cntB_all,cntB_any,tellJ_eq,if_neg (by omega)]
 rcases h with h|h
 ·rw[if_neg (by omega),if_pos h,tellA_all,decide_eq_false (by omega),Bool.false_and,Bool.or_false,List.not_any_eq_all_not]
  simp
 ·rw[if_pos h,tellY_any,decide_eq_true h,Bool.true_and]
  cases ha:t.kids.all (tellJ x m) with
  |false=>rw[Bool.false_or]
  |true=>
   rw[Bool.true_or,List.any_eq_true.2 ⟨_,List.getElem_mem h0,List.all_eq_true.1 ha _ (List.getElem_mem h0)⟩]
theorem ask9 {x:Lr} {m:Ms} {t:Tst} (h:t.kind=9):decide ((cntB (fun n=>decide (0<(valJ m.f n).length)) t.names:Int)=(t.names.length:Int))=tellJ x m t:=by
 rw[cntB_all,tellJ_eq,if_neg (by omega),if_neg (by omega),if_neg (by omega),askJ,if_neg (by omega),if_neg (by omega),if_neg (by omega),if_pos h,List.not_any_eq_all_not]
 congr 1
 funext n
 rw[←decide_not]
 congr 1
 exact propext (by omega)
theorem ask68 {x:Lr} {m:Ms} {t:Tst} (h:t.kind=6∨t.kind=7∨t.kind=8):tellJ x m t=t.names.any fun n=>fitB t.mat (lookJ t.kind t.part x m n) t.keys:=by
 rw[tellJ_eq,if_neg (by omega),if_neg (by omega),if_neg (by omega),askJ,if_neg (by omega),if_neg (by omega)]
 by_cases h8:t.kind=8
 ·rw[if_pos h8,h8]
 ·rw[if_neg h8,if_neg (by omega),if_pos (by omega)]
theorem ask0 {x:Lr} {m:Ms} {t:Tst} (h1:¬t.kind=1) (h3:¬t.kind=3) (h10:¬t.kind=10) (h45:¬(t.kind=4∨t.kind=5)) (h9:¬t.kind=9) (h68:¬(t.kind=6∨t.kind=7∨t.kind=8)):tellJ x m t=false:=by
 rw[tellJ_eq,if_neg (by omega),if_neg (by omega),if_neg (by omega),askJ,if_neg (by omega),if_neg (by omega),if_neg (by omega),if_neg (by omega),if_neg (by omega)]
theorem look_len {k p:Int} {x:Lr} {m:Ms} {n:Tx} (jo:JOk x m):(lookJ k p x m n).length≤1000000∧∀v∈lookJ k p x m n,v.length≤2000:=by
 have hl:=valJ_len m.f n
 have h30:=jo.hl
 have hal:=adsJ_len (valJ m.f n)
 unfold lookJ
 split
 ·refine⟨by simp,fun v hv=>?_⟩
  rw[List.mem_singleton] at hv
  subst hv
  split
  ·have:=prt_len (p:=p) (a:=(x.c1,x.c2)) jo.h2;omega
  ·have:=prt_len (p:=p) (a:=(x.a1,x.a2)) jo.h1;omega
 split
 ·refine⟨by rw[List.length_map];omega,fun v hv=>?_⟩
  obtain⟨a,ha,rfl⟩:=List.mem_map.1 hv
  have:=prt_len (p:=p) (adsJ_ad a ha)
  omega
 ·exact⟨by omega,fun v hv=>valJ_mem jo.hf hv⟩
attribute [local go_sem] lrA tstA msA List.map_cons List.map_nil icast8 List.length_map strD in
theorem told_s (T:Tbl) (hL:LibT T) (t:Tst) (x:Lr) (m:Ms) (ok:t.Ok) (jt:JT t) (jo:JOk x m) (hs:x.s.length≤9223372036854775807) (ih:∀y∈t.kids,PC Tryz.prog T 37 [.agg (tstA y),.agg (lrA x),.agg (msA m)] (.d (.bool (tellJ x m y)))):PC Tryz.prog T 37 [.agg (tstA t),.agg (lrA x),.agg (msA m)] (.d (.bool (tellJ x m t))):=by
 refine⟨Tryz.call37,PCall.enterS Tryz.func37 rfl Tryz.ntmps37 rfl fun hb=>?_⟩
 obtain⟨s1,s2,s3,s4⟩:=ok.inv
 obtain⟨j1,j2,j3,j4,j5,j6,j8,j7⟩:=jt.inv
 have hkl:t.keys.length≤10000000000000:=by omega
 simp only[go_sem,Tryz.results37]
 refine Zx ?_
 try simp only[go_sem]
 (repeat(with_reducible refine And.intro ZS ?_))
 intro b3
 first|intro fb3|have fb3:=True.intro
 try simp only[freshL] at fb3
 try simp only[go_sem,fb3]
 (repeat(with_reducible refine And.intro ZS ?_))
 intro b4
 first|intro fb4|have fb4:=True.intro
 try simp only[freshL] at fb4
 try simp only[go_sem,fb3,fb4]
 (repeat(with_reducible refine And.intro ZS ?_))
 intro b5
 first|intro fb5|have fb5:=True.intro
 try simp only[freshL] at fb5
 try simp only[go_sem,fb3,fb4,fb5]
 (repeat(with_reducible refine And.intro ZS ?_))
 refine Zm 56 ?_
 refine Zs (Zp 23 ?_)
 refine AWp.block (Zp 31 ?_)
 refine Zc (fun hc0=>?_) fun hc0=>?_
 ·
  refine Zp 8 ?_
  refine AWp.ret ?_
  try simp only[go_sem,fb3,fb4,fb5]
  rw[show tellJ x m t=true by rw[tellJ_eq,if_neg (by omega),if_neg (by omega),if_neg (by omega),askJ,if_pos hc0]];try simp[LeA,LeD]
 refine Zp 47 ?_
 refine Zc (fun hc1=>?_) fun hc1=>?_
 ·
  have h0:=j5 hc1
  have e:tellJ x m t=!tellJ x m (t.kids[0]):=by rw[tellJ_eq,if_pos hc1,tellN_0 h0]
  have zf1:=fun d0_=>kidsD_get t 0 d0_ h0
  refine Zd true [0,1,2,3,4,5,6,7,8] ?_
  try simp only[go_sem,fb3,fb4,fb5,zf1]
  (repeat(with_reducible refine And.intro ZS ?_))
  refine DW.pcr rfl rfl rfl rfl (ih _ (List.getElem_mem h0)) rfl rfl ?_
  try simp only[go_sem,fb3,fb4,fb5,zf1]
  (repeat(with_reducible refine And.intro ZS ?_))
  refine Zm 8 ?_
  refine AWp.ret ?_
  try simp only[go_sem,fb3,fb4,fb5,zf1]
  rw[e];try simp[LeA,LeD]
 refine Zp 47 ?_
 refine Zc (fun hc2=>?_) fun hc2=>?_
 ·
  have e:tellJ x m t=(if t.over=true then decide (t.limit<(x.s.length:Int)) else decide ((x.s.length:Int)<t.limit)):=by rw[tellJ_eq,if_neg (by omega),if_neg (by omega),if_neg (by omega),askJ,if_neg hc0,if_pos hc2]
  refine Zs (Zp 67 ?_)
  refine Zc (fun hc3=>?_) fun hc3=>?_
  ·
   rw[if_pos hc3] at e
   refine Zp 4 ?_
   refine AWp.ret ?_
   try simp only[go_sem,fb3,fb4,fb5]
   rw[e];try simp[LeA,LeD]
  rw[if_neg (by simp[hc3])] at e
  refine Zk ?_
  refine Zp 4 ?_
  refine AWp.ret ?_
  try simp only[go_sem,fb3,fb4,fb5]
  rw[e];try simp[LeA,LeD]
 refine Zs (Zp 47 ?_)
 refine Zy ?_
 apply Za (z:=(_||_)) 15 43
 ·
  refine AWp.cond _ rfl (fun hc4=>?_) fun hc4=>?_
  rotate_left
  ·
   refine Zr (thenQ_n ?_)
   refine Zf 15 16 (.e ⟨EqS.bo (or_f hc4 rfl),⟨rfl⟩⟩)
  refine AWp.skip (thenQ_n ?_)
  refine Zf 15 16 (.e ⟨EqS.bo (or_t hc4),⟨rfl⟩⟩)
 refine Zy ?_
 refine Zc (fun hc5=>?_) fun hc5=>?_
 ·
  have h45:t.kind=4∨t.kind=5:=by simpa using hc5
  have h0:=j8 (by simp[inB];omega)
  refine Zp 15 ?_
  refine Zs (Zp 31 ?_)
  refine AWp.block (Zy ?_)
  refine Zl 7 24 (fun n lc hc=> ∃(k:Nat),n=t.kids.length-k∧EqS lc [(7,.d (.int .i64 (cntB (tellJ x m) (t.kids.take k):Nat))),(8,.d (.int .i64 (k:Nat)))]∧EqS hc (⟨[(b5,⟨2,1,[msA m]⟩),(b4,⟨5,1,[lrA x]⟩),(b3,⟨8,1,[tstA t]⟩)],[]⟩)∧(k≤t.kids.length)) ?_ ?_
  · refine ⟨_,0,rfl,?_,ZE,ZI⟩
    · (try simp only[go_sem,fb3,fb4,fb5])<;>first|exact⟨rfl⟩|(constructor;simp[cntB];done)
  rintro _ _ _ ⟨k,rfl,⟨rfl⟩,⟨rfl⟩,h1⟩
  refine Zy ?_
  refine Zs (Zp 543 ?_)
  refine Zc (fun hc6=>?_) fun hc6=>?_
  ·
   have hlt:k<t.kids.length:=by omega
   have hki:(k:Int)<(t.kids.length:Int):=by omega
   have hcl:=cntB_le (tellJ x m) (t.kids.take k)
   rw[List.length_take] at hcl
   have zf2:=fun d0_=>kidsD_get t k d0_ hlt
   refine Zk ?_
   refine Zs (AWp.block (Zd true [0,1,2,3,4,5,6,7] ?_))
   try simp only[go_sem,fb3,fb4,fb5,zf2,hki]
   (repeat(with_reducible refine And.intro ZS ?_))
   refine DW.pcr rfl rfl rfl rfl (ih _ (List.getElem_mem hlt)) rfl rfl ?_
   try simp only[go_sem,fb3,fb4,fb5,zf2,hki]
   (repeat(with_reducible refine And.intro ZS ?_))
   refine Zm 8223 ?_
   refine Zc (fun hc7=>?_) fun hc7=>?_
   ·
    refine Zr (blkQ_n (thenQ_n ?_))
    refine Zr (thenQ_n ?_)
    refine Ze 7 24 [] [] [b5,b4,b3] [] (.e ⟨_,ZM,k+1,rfl,?_,ZE,ZN⟩)
    · (try simp only[go_sem,fb3,fb4,fb5,zf2,hki])<;>first|exact⟨rfl⟩|(constructor;rw[cntB_y hlt hc7])
   refine AWp.skip (blkQ_n (thenQ_n ?_))
   refine Zr (thenQ_n ?_)
   refine Ze 7 24 [] [] [b5,b4,b3] [] (.e ⟨_,ZM,k+1,rfl,?_,ZE,ZN⟩)
   · (try simp only[go_sem,fb3,fb4,fb5,zf2,hki])<;>first|exact⟨rfl⟩|(constructor;rw[cntB_n hlt hc7])
  have htk:t.kids.take k=t.kids:=List.take_of_length_le (by omega)
  rw[htk]
  refine AWp.exit (thenQ_e (thenQ_e (blkQ_e (thenQ_n ?_))))
  refine Zm 9 ?_
  refine Zp 2 ?_
  refine AWp.ret ?_
  try simp only[go_sem,fb3,fb4,fb5]
  rw[←tell45 h45 h0];try simp[LeA,LeD]
 have h45:¬(t.kind=4∨t.kind=5):=by simpa using hc5
 refine Zp 47 ?_
 refine Zc (fun hc8=>?_) fun hc8=>?_
 ·
  refine Zp 13 ?_
  refine Zs (Zp 15 ?_)
  refine AWp.block (Zy ?_)
  refine Zl 3 12 (fun n lc hc=> ∃(k:Nat),n=t.names.length-k∧EqS lc [(9,.d (.int .i64 (cntB (fun n=>decide (0<(valJ m.f n).length)) (t.names.take k):Nat))),(10,.d (.int .i64 (k:Nat)))]∧EqS hc (⟨[(b5,⟨2,1,[msA m]⟩),(b4,⟨5,1,[lrA x]⟩),(b3,⟨8,1,[tstA t]⟩)],[]⟩)∧(k≤t.names.length)) ?_ ?_
  · refine ⟨_,0,rfl,?_,ZE,ZI⟩
    · (try simp only[go_sem,fb3,fb4,fb5])<;>first|exact⟨rfl⟩|(constructor;simp[cntB];done)
  rintro _ _ _ ⟨k,rfl,⟨rfl⟩,⟨rfl⟩,h1⟩
  refine Zy ?_
  refine Zs (Zp 271 ?_)
  refine Zc (fun hc9=>?_) fun hc9=>?_
  ·
   have hlt:k<t.names.length:=by omega
   have hki:(k:Int)<(t.names.length:Int):=by omega
   have hcl:=cntB_le (fun n=>decide (0<(valJ m.f n).length)) (t.names.take k)
   rw[List.length_take] at hcl
   have zf3:=fun d0_=>map_getD strD t.names k d0_ hlt
   refine Zk ?_
   refine Zs (AWp.block (Zd true [0,1,2,3,4,5,6,7,8] ?_))
   try simp only[go_sem,fb3,fb4,fb5,zf3,hki]
   (repeat(with_reducible refine And.intro ZS ?_))
   refine DW.pcr rfl rfl rfl rfl (rvals_c T m t.names[k] (j1 _ (List.getElem_mem hlt)) jo.hf jo.hl) rfl rfl ?_
   try simp only[go_sem,fb3,fb4,fb5,zf3,hki]
   (repeat(with_reducible refine And.intro ZS ?_))
   refine Zm 8207 ?_
   refine Zc (fun hc10=>?_) fun hc10=>?_
   ·
    have hcy:(fun n=>decide (0<(valJ m.f n).length)) t.names[k]=true:=decide_eq_true (by omega)
    refine Zr (blkQ_n (thenQ_n ?_))
    refine Zr (thenQ_n ?_)
    refine Ze 3 12 [] [] [b5,b4,b3] [] (.e ⟨_,ZM,k+1,rfl,?_,ZE,ZN⟩)
    · (try simp only[go_sem,fb3,fb4,fb5,zf3,hki])<;>first|exact⟨rfl⟩|(constructor;rw[cntB_y hlt hcy])
   have hcy:(fun n=>decide (0<(valJ m.f n).length)) t.names[k]=false:=decide_eq_false (by omega)
   refine AWp.skip (blkQ_n (thenQ_n ?_))
   refine Zr (thenQ_n ?_)
   refine Ze 3 12 [] [] [b5,b4,b3] [] (.e ⟨_,ZM,k+1,rfl,?_,ZE,ZN⟩)
   · (try simp only[go_sem,fb3,fb4,fb5,zf3,hki])<;>first|exact⟨rfl⟩|(constructor;rw[cntB_n hlt hcy])
  have htk:t.names.take k=t.names:=List.take_of_length_le (by omega)
  rw[htk]
  refine AWp.exit (thenQ_e (thenQ_e (blkQ_e (thenQ_n ?_))))
  refine Zp 4 ?_
  refine AWp.ret ?_
  try simp only[go_sem,fb3,fb4,fb5]
  rw[←ask9 hc8];try simp[LeA,LeD]
 refine Zs (Zp 47 ?_)
 refine Zy ?_
 apply Za (z:=(_||(_||_))) 7 102
 ·
  refine AWp.cond _ rfl (fun hc11=>?_) fun hc11=>?_
  rotate_left
  ·
   refine Zp 31 ?_
   refine AWp.cond _ rfl (fun hc12=>?_) fun hc12=>?_
   rotate_left
   ·
    refine Zr (thenQ_n ?_)
    refine Zf 7 16 (.e ⟨EqS.bo (or_f hc11 (or_f hc12 rfl)),⟨rfl⟩⟩)
   refine AWp.skip (thenQ_n ?_)
   refine Zf 7 16 (.e ⟨EqS.bo (or_f hc11 (or_t hc12)),⟨rfl⟩⟩)
  refine AWp.skip (thenQ_n ?_)
  refine Zf 7 16 (.e ⟨EqS.bo (or_t hc11),⟨rfl⟩⟩)
 refine Zy ?_
 refine Zc (fun hc13=>?_) fun hc13=>?_
 ·
  have h68:t.kind=6∨t.kind=7∨t.kind=8:=by simpa[or_assoc] using hc13
  have e:=ask68 (x:=x) (m:=m) h68
  refine Zp 15 ?_
  refine AWp.block (Zy ?_)
  refine Zl 7 8 (fun n lc hc=> ∃(k:Nat),n=t.names.length-k∧EqS lc [(11,.d (.int .i64 (k:Nat)))]∧EqS hc (⟨[(b5,⟨2,1,[msA m]⟩),(b4,⟨5,1,[lrA x]⟩),(b3,⟨8,1,[tstA t]⟩)],[]⟩)∧(k≤t.names.length)∧((t.names.take k).any (fun n=>fitB t.mat (lookJ t.kind t.part x m n) t.keys)=false)) ?_ ?_
  · refine ⟨_,0,rfl,ZE,ZE,?_,?_⟩
    all_goals(first|omega|rfl|simp)
  rintro _ _ _ ⟨k,rfl,⟨rfl⟩,⟨rfl⟩,h1,h2⟩
  refine Zy ?_
  refine Zs (Zp 271 ?_)
  refine Zc (fun hc14=>?_) fun hc14=>?_
  ·
   have hlt:k<t.names.length:=by omega
   have hki:(k:Int)<(t.names.length:Int):=by omega
   obtain⟨hk1,hk2⟩:=look_len (k:=t.kind) (p:=t.part) (n:=t.names[k]) jo
   have zf4:=fun d0_=>map_getD strD t.names k d0_ hlt
   refine Zk ?_
   refine Zs (AWp.block (Zd true [0,1,2,3,4,5,6,7,8,9] ?_))
   try simp only[go_sem,fb3,fb4,fb5,zf4,hki]
   (repeat(with_reducible refine And.intro ZS ?_))
   refine DW.pcr rfl rfl rfl rfl (looked_c T hL t x m t.names[k] jo (j1 _ (List.getElem_mem hlt))) rfl rfl ?_
   try simp only[go_sem,fb3,fb4,fb5,zf4,hki]
   (repeat(with_reducible refine And.intro ZS ?_))
   refine Zm 31 ?_
   refine Z1 1039 (onefit_c T t.mat (lookJ t.kind t.part x m t.names[k]) t.keys (j3 (by simp[inB];omega)) hk2 j2 hk1 hkl) ?_
   refine Zc (fun hc15=>?_) fun hc15=>?_
   ·
    refine Zp 8 ?_
    refine AWp.ret ?_
    try simp only[go_sem,fb3,fb4,fb5,zf4,hki]
    rw[e,List.any_eq_true.2 ⟨_,List.getElem_mem hlt,hc15⟩];try simp[LeA,LeD]
   refine AWp.skip (blkQ_n (thenQ_n ?_))
   refine Zr (thenQ_n ?_)
   refine Ze 7 8 [] [] [b5,b4,b3] [] (.e ⟨_,ZM,k+1,rfl,ZE,ZE,?_,?_⟩)
   · omega
   · rw [List.take_succ_eq_append_getElem hlt,List.any_append,h2,List.any_cons,hc15];rfl
  have hz:tellJ x m t=false:=by rw[e];rwa [List.take_of_length_le (by omega)] at h2
  refine AWp.exit (thenQ_e (thenQ_e (blkQ_e (blkQ_n (thenQ_n ?_)))))
  refine Zm 0 ?_
  refine Zp 1 ?_
  refine AWp.ret ?_
  try simp only[go_sem,fb3,fb4,fb5]
  first|(rw[hz];try simp[LeA,LeD];done)|(rw[ask0 hc0 hc1 hc2 h45 hc8 h68];try simp[LeA,LeD])
 have h68:¬(t.kind=6∨t.kind=7∨t.kind=8):=by simpa[or_assoc] using hc13
 refine AWp.skip (blkQ_n (thenQ_n ?_))
 refine Zm 0 ?_
 refine Zp 1 ?_
 refine AWp.ret ?_
 try simp only[go_sem,fb3,fb4,fb5]
 first|(rw[hz];try simp[LeA,LeD];done)|(rw[ask0 hc0 hc1 hc2 h45 hc8 h68];try simp[LeA,LeD])
theorem told_p (T:Tbl) (hL:LibT T) (x:Lr) (m:Ms) (jo:JOk x m) (hs:x.s.length≤9223372036854775807) (t:Tst):t.Ok→JT t→PC Tryz.prog T 37 [.agg (tstA t),.agg (lrA x),.agg (msA m)] (.d (.bool (tellJ x m t))):=by
 induction t using Tst.ind with
 |h t ih=>exact fun ok jt=>told_s T hL t x m ok jt jo hs fun y hy=>ih y hy (ok.inv.2.2.2 y hy) (jt.inv.2.2.2.2.2.2.2 y hy)
end
section
open Go.RowKit
abbrev fileT:List UInt8:=[102,105,108,101,105,110,116,111]
abbrev rejT:List UInt8:=[114,101,106,101,99,116]
abbrev imapT:List UInt8:=[105,109,97,112,52,102,108,97,103,115]
def toE (s:List UInt8):Int:=if(listR s).2=0∧(listR s).1.length=1 then 0 else 3
mutual
def cmdE (ks:List (List UInt8)):Cmd→Int
 | .mk k tx t th el=>
  if k=1 then 3
  else if k=2 then(if¬tstE ks t=0 then tstE ks t else if¬cmdEL ks th=0 then cmdEL ks th else cmdEL ks el)
  else if k=5 then(if¬needE ks fileT=0 then needE ks fileT else nameE (tx.headD []))
  else if k=7 then needE ks rejT
  else if k=8∨k=9 then(if¬needE ks imapT=0 then needE ks imapT else flE tx)
  else if k=6 then toE (tx.headD [])
  else 0
def cmdEL (ks:List (List UInt8)):List Cmd→Int
 |[]=>0
 |c::l=>if¬cmdE ks c=0 then cmdE ks c else cmdEL ks l
end
theorem cmdE_eq (ks:List (List UInt8)) (c:Cmd):cmdE ks c=if c.kind=1 then 3
    else if c.kind=2 then(if¬tstE ks c.test=0 then tstE ks c.test else if¬cmdEL ks c.thn=0 then cmdEL ks c.thn else cmdEL ks c.els)
    else if c.kind=5 then(if¬needE ks fileT=0 then needE ks fileT else nameE (c.texts.headD []))
    else if c.kind=7 then needE ks rejT
    else if c.kind=8∨c.kind=9 then(if¬needE ks imapT=0 then needE ks imapT else flE c.texts)
    else if c.kind=6 then toE (c.texts.headD [])
    else 0:=by cases c;rw[cmdE];rfl
theorem cmdEL_t {ks:List (List UInt8)} {l:List Cmd} {k:Nat} (h:k<l.length) (hc:¬cmdE ks (l[k])=0):cmdEL ks (l.drop k)=cmdE ks (l[k]):=by rw[List.drop_eq_getElem_cons h,cmdEL,if_pos hc]
theorem cmdEL_f {ks:List (List UInt8)} {l:List Cmd} {k:Nat} (h:k<l.length) (hc:cmdE ks (l[k])=0):cmdEL ks (l.drop k)=cmdEL ks (l.drop (k+1)):=by rw[List.drop_eq_getElem_cons h,cmdEL,if_neg (fun h9=>h9 hc)]
theorem cmdEL_e {ks:List (List UInt8)} {l:List Cmd} {k:Nat} (h:l.length≤k):cmdEL ks (l.drop k)=0:=by rw[List.drop_eq_nil_of_le h];rfl
def Same (ks ks':List (List UInt8)):Prop:=∀s,s∈ks↔s∈ks'
theorem Same.need {ks ks':List (List UInt8)} (h:Same ks ks') (s:List UInt8):needE ks s=needE ks' s:=by
 unfold needE
 by_cases h1:s∈ks
 ·rw[if_pos h1,if_pos ((h s).1 h1)]
 ·rw[if_neg h1,if_neg (fun h9=>h1 ((h s).2 h9))]
mutual
theorem Same.tst {ks ks':List (List UInt8)} (h:Same ks ks'):∀t:Tst,tstE ks t=tstE ks' t
 | .mk k m p ns ky o li kids=>by
  rw[tstE,tstE,Same.tstL h kids]
  have:=h envT
  by_cases h1:envT∈ks
  ·simp only[h1,this.1 h1]
  ·have h2:¬envT∈ks':=fun h9=>h1 (this.2 h9)
   simp only[h1,h2]
theorem Same.tstL {ks ks':List (List UInt8)} (h:Same ks ks'):∀l:List Tst,tstEL ks l=tstEL ks' l
 |[]=>rfl
 |t::l=>by rw[tstEL,tstEL,Same.tst h t,Same.tstL h l]
end
mutual
theorem Same.cmd {ks ks':List (List UInt8)} (h:Same ks ks'):∀c:Cmd,cmdE ks c=cmdE ks' c
 | .mk k tx t th el=>by rw[cmdE,cmdE,Same.tst h t,Same.cmdL h th,Same.cmdL h el,h.need,h.need,h.need]
theorem Same.cmdL {ks ks':List (List UInt8)} (h:Same ks ks'):∀l:List Cmd,cmdEL ks l=cmdEL ks' l
 |[]=>rfl
 |c::l=>by rw[cmdEL,cmdEL,Same.cmd h c,Same.cmdL h l]
end
theorem Same.add {ks ks':List (List UInt8)} (h:Same ks ks') (s:List UInt8):Same (addK s ks) (ks'++[s]):=fun x=>by
 unfold addK
 rw[List.mem_append,List.mem_singleton]
 split
 ·rename_i hs
  rw[h x]
  exact⟨.inl,fun h9=>h9.elim id fun h8=>by rw[h8];exact(h s).1 hs⟩
 ·rw[List.mem_append,List.mem_singleton,h x]
end
section
theorem headD_get {α:Type} {l:List α} {d:α} (h:0<l.length):l.headD d=l[0]:=by cases l with
 |nil=>simp at h
 |cons x l=>rfl
theorem cmdE_1 {ks:List (List UInt8)} {c:Cmd} (h:c.kind=1):cmdE ks c=3:=by rw[cmdE_eq,if_pos h]
theorem cmdE_2t {ks:List (List UInt8)} {c:Cmd} (h:c.kind=2) (h2:¬tstE ks c.test=0):cmdE ks c=tstE ks c.test:=by rw[cmdE_eq,if_neg (by omega),if_pos h,if_pos h2]
theorem cmdE_2a {ks:List (List UInt8)} {c:Cmd} (h:c.kind=2) (h2:tstE ks c.test=0) (h3:¬cmdEL ks c.thn=0):cmdE ks c=cmdEL ks c.thn:=by rw[cmdE_eq,if_neg (by omega),if_pos h,if_neg (by omega),if_pos h3]
theorem cmdE_2b {ks:List (List UInt8)} {c:Cmd} (h:c.kind=2) (h2:tstE ks c.test=0) (h3:cmdEL ks c.thn=0):cmdE ks c=cmdEL ks c.els:=by rw[cmdE_eq,if_neg (by omega),if_pos h,if_neg (by omega),if_neg (by omega)]
theorem cmdE_5n {ks:List (List UInt8)} {c:Cmd} (h:c.kind=5) (h2:¬needE ks fileT=0):cmdE ks c=needE ks fileT:=by rw[cmdE_eq,if_neg (by omega),if_neg (by omega),if_pos h,if_pos h2]
theorem cmdE_5 {ks:List (List UInt8)} {c:Cmd} (h:c.kind=5) (h2:needE ks fileT=0) (h0:0<c.texts.length):cmdE ks c=nameE (c.texts[0]):=by rw[cmdE_eq,if_neg (by omega),if_neg (by omega),if_pos h,if_neg (by omega),headD_get h0]
theorem cmdE_7 {ks:List (List UInt8)} {c:Cmd} (h:c.kind=7):cmdE ks c=needE ks rejT:=by rw[cmdE_eq,if_neg (by omega),if_neg (by omega),if_neg (by omega),if_pos h]
theorem cmdE_8n {ks:List (List UInt8)} {c:Cmd} (h:c.kind=8∨c.kind=9) (h2:¬needE ks imapT=0):cmdE ks c=needE ks imapT:=by rw[cmdE_eq,if_neg (by omega),if_neg (by omega),if_neg (by omega),if_neg (by omega),if_pos h,if_pos h2]
theorem cmdE_8 {ks:List (List UInt8)} {c:Cmd} (h:c.kind=8∨c.kind=9) (h2:needE ks imapT=0):cmdE ks c=flE c.texts:=by rw[cmdE_eq,if_neg (by omega),if_neg (by omega),if_neg (by omega),if_neg (by omega),if_pos h,if_neg (by omega)]
theorem cmdE_6 {ks:List (List UInt8)} {c:Cmd} (h:c.kind=6) (h0:0<c.texts.length):cmdE ks c=toE (c.texts[0]):=by rw[cmdE_eq,if_neg (by omega),if_neg (by omega),if_neg (by omega),if_neg (by omega),if_neg (by omega),if_pos h,headD_get h0]
theorem cmdE_o {ks:List (List UInt8)} {c:Cmd} (h1:¬c.kind=1) (h2:¬c.kind=2) (h5:¬c.kind=5) (h7:¬c.kind=7) (h8:¬c.kind=8) (h9:¬c.kind=9) (h6:¬c.kind=6):cmdE ks c=0:=by rw[cmdE_eq,if_neg h1,if_neg h2,if_neg h5,if_neg h7,if_neg (by omega),if_neg h6]
theorem toE_t {s:List UInt8} (h:¬(listR s).2=0∨¬(((listR s).1.length:Nat):Int)=1):toE s=3:=by unfold toE;rw[if_neg (by omega)]
theorem toE_f {s:List UInt8} (h:(listR s).2=0∧(((listR s).1.length:Nat):Int)=1):toE s=0:=by unfold toE;rw[if_pos (by omega)]
inductive Cmd.Rd:Cmd→Prop where
 |mk {c:Cmd} (h1:c.kind=5∨c.kind=6→0<c.texts.length) (h2:c.texts.length≤1048576) (h3:∀s∈c.texts,s.length≤1048576) (h4:∀x∈c.thn,Cmd.Rd x) (h5:∀x∈c.els,Cmd.Rd x):Cmd.Rd c
theorem Cmd.Rd.inv {c:Cmd} (h:c.Rd):(c.kind=5∨c.kind=6→0<c.texts.length)∧c.texts.length≤1048576∧(∀s∈c.texts,s.length≤1048576)∧(∀x∈c.thn,Cmd.Rd x)∧(∀x∈c.els,Cmd.Rd x):=by
 cases h;exact⟨by assumption,by assumption,by assumption,by assumption,by assumption⟩
attribute [local go_sem] cmdA tstA icast8 adsV List.cons_append List.nil_append strD in
theorem jcmd_s (T:Tbl) (hL:LibT T) (hF:T 2=flagT.map D.str) (bj t:Nat) (ks:List (List UInt8)) (c:Cmd) (ok:c.Ok) (rd:c.Rd) (i1:∀(F:List (Nat×Ob)) (L:List Nat),AC Tryz.prog T 58 [.ptr bj 1 0 0,.d (.slc 12 (thnD c))] ⟨(bj,⟨1,1,[[.mp t ks]]⟩)::F,t::L⟩ (fun x h=>x= .ret (.d (.int .i64 (cmdEL ks c.thn)))∧h=⟨(bj,⟨1,1,[[.mp t ks]]⟩)::F,t::L⟩)) (i2:∀(F:List (Nat×Ob)) (L:List Nat),AC Tryz.prog T 58 [.ptr bj 1 0 0,.d (.slc 12 (elsD c))] ⟨(bj,⟨1,1,[[.mp t ks]]⟩)::F,t::L⟩ (fun x h=>x= .ret (.d (.int .i64 (cmdEL ks c.els)))∧h=⟨(bj,⟨1,1,[[.mp t ks]]⟩)::F,t::L⟩)) (F:List (Nat×Ob)) (L:List Nat):AC Tryz.prog T 115 [.ptr bj 1 0 0,.agg (cmdA c)] (⟨(bj,⟨1,1,[[.mp t ks]]⟩)::F,t::L⟩) (fun x h=>x= .ret (.d (.int .i64 (cmdE ks c)))∧h=⟨(bj,⟨1,1,[[.mp t ks]]⟩)::F,t::L⟩):=by
 refine⟨Tryz.call115,ACalls.enterS Tryz.func115 rfl Tryz.ntmps115 rfl fun hb=>?_⟩
 obtain⟨s1,s2,s3,s4,s5,s6⟩:=ok.inv
 obtain⟨r1,r2,r3,_,_⟩:=rd.inv
 simp only[go_sem,Tryz.results115]
 refine Zx (Zy ?_)
 intro b3
 first|intro fb3|have fb3:=True.intro
 try simp only[freshL] at fb3
 refine Zs (Zp 37 ?_)
 refine AWp.block (Zp 15 ?_)
 refine Zc (fun hc0=>?_) fun hc0=>?_
 ·
  refine Zp 4 ?_
  refine AWp.ret ?_
  simp only[thenQ,blkQ]
  apply endW_r [b3] [] [bj] [t] (by(try simp only[go_sem]);rfl)
  · rw [cmdE_1 hc0]
    exact⟨rfl,by first|rfl|(simp only[go_sem,fb3];done)|(simp only[go_sem,fb3];rfl)⟩
  · simp [LeA,LeD]
 refine Zp 23 ?_
 refine Zc (fun hc1=>?_) fun hc1=>?_
 ·
  refine Zs (Zx ?_)
  simp only[go_sem,fb3]
  refine ZA [bj] [t] (jtest_c T bj t ks c.test s2 _ _) ?_
  rintro _ _ ⟨rfl,rfl⟩
  refine Zy ?_
  refine Zm 7 ?_
  refine Zp 23 ?_
  refine Zc (fun hc2=>?_) fun hc2=>?_
  ·
   refine Zp 4 ?_
   refine AWp.ret ?_
   simp only[thenQ,blkQ]
   apply endW_r [b3] [] [bj] [t] (by(try simp only[go_sem]);rfl)
   · rw [cmdE_2t hc1 hc2]
     exact⟨rfl,by first|rfl|(simp only[go_sem,fb3];done)|(simp only[go_sem,fb3];rfl)⟩
   · simp [LeA,LeD]
  have hc2:tstE ks c.test=0:=by omega
  refine Zk ?_
  refine Zs (Zx ?_)
  simp only[go_sem,fb3]
  refine ZA [bj] [t] (i1 _ _) ?_
  rintro _ _ ⟨rfl,rfl⟩
  refine Zy ?_
  refine Zm 11 ?_
  refine Zp 23 ?_
  refine Zc (fun hc3=>?_) fun hc3=>?_
  ·
   refine Zp 4 ?_
   refine AWp.ret ?_
   simp only[thenQ,blkQ]
   apply endW_r [b3] [] [bj] [t] (by(try simp only[go_sem]);rfl)
   · rw [cmdE_2a hc1 hc2 hc3]
     exact⟨rfl,by first|rfl|(simp only[go_sem,fb3];done)|(simp only[go_sem,fb3];rfl)⟩
   · simp [LeA,LeD]
  have hc3:cmdEL ks c.thn=0:=by omega
  refine Zk ?_
  refine Zx ?_
  simp only[go_sem,fb3]
  refine ZA [bj] [t] (i2 _ _) ?_
  rintro _ _ ⟨rfl,rfl⟩
  refine Zy ?_
  refine Zm 4 ?_
  refine AWp.ret ?_
  simp only[thenQ,blkQ]
  apply endW_r [b3] [] [bj] [t] (by(try simp only[go_sem]);rfl)
  · rw [cmdE_2b hc1 hc2 hc3]
    exact⟨rfl,by first|rfl|(simp only[go_sem,fb3];done)|(simp only[go_sem,fb3];rfl)⟩
  · simp [LeA,LeD]
 refine Zp 23 ?_
 refine Zc (fun hc4=>?_) fun hc4=>?_
 ·
  refine Zs (Zx (Zy ?_))
  refine ZA [bj] [t] (need_c T bj t ks fileT _ _) ?_
  rintro _ _ ⟨rfl,rfl⟩
  refine Zy ?_
  refine Zm 6 ?_
  refine Zp 11 ?_
  refine Zc (fun hc5=>?_) fun hc5=>?_
  ·
   refine Zp 2 ?_
   refine AWp.ret ?_
   simp only[thenQ,blkQ]
   apply endW_r [b3] [] [bj] [t] (by(try simp only[go_sem]);rfl)
   · rw [cmdE_5n hc4 hc5]
     exact⟨rfl,by first|rfl|(simp only[go_sem,fb3];done)|(simp only[go_sem,fb3];rfl)⟩
   · simp [LeA,LeD]
  have hc5:needE ks fileT=0:=by omega
  have h0:0<c.texts.length:=r1 (.inl hc4)
  have hz0:=r3 _ (List.getElem_mem h0)
  have zf1:=fun d0_=>map_getD strD c.texts 0 d0_ h0
  refine Zk ?_
  refine Zx ?_
  simp only[go_sem,fb3,zf1]
  (repeat(with_reducible refine And.intro ZS ?_))
  refine DW.pcr rfl rfl rfl rfl (Name_c T _ (by omega)) rfl rfl ?_
  refine Zy ?_
  refine Zm 2 ?_
  refine AWp.ret ?_
  simp only[thenQ,blkQ]
  apply endW_r [b3] [] [bj] [t] (by(try simp only[go_sem]);rfl)
  · rw [cmdE_5 hc4 hc5 h0]
    exact⟨rfl,by first|rfl|(simp only[go_sem,fb3];done)|(simp only[go_sem,fb3,zf1];rfl)⟩
  · simp [LeA,LeD]
 refine Zp 23 ?_
 refine Zc (fun hc6=>?_) fun hc6=>?_
 ·
  refine Zx (Zy ?_)
  refine ZA [bj] [t] (need_c T bj t ks rejT _ _) ?_
  rintro _ _ ⟨rfl,rfl⟩
  refine Zy ?_
  refine Zm 4 ?_
  refine AWp.ret ?_
  simp only[thenQ,blkQ]
  apply endW_r [b3] [] [bj] [t] (by(try simp only[go_sem]);rfl)
  · rw [cmdE_7 hc6]
    exact⟨rfl,by first|rfl|(simp only[go_sem,fb3];done)|(simp only[go_sem,fb3];rfl)⟩
  · simp [LeA,LeD]
 refine Zs (Zp 23 ?_)
 refine Zy ?_
 apply Za (z:=(_||_)) 7 53
 ·
  refine AWp.cond _ rfl (fun hc7=>?_) fun hc7=>?_
  rotate_left
  ·
   refine Zr (thenQ_n ?_)
   refine Zf 7 8 (.e ⟨EqS.bo (or_f hc7 rfl),⟨rfl⟩⟩)
  refine AWp.skip (thenQ_n ?_)
  refine Zf 7 8 (.e ⟨EqS.bo (or_t hc7),⟨rfl⟩⟩)
 refine Zy ?_
 refine Zc (fun hc8=>?_) fun hc8=>?_
 ·
  have hk8:c.kind=8∨c.kind=9:=by first|exact .inl hc7|exact .inr hc8|omega
  refine Zs (Zx (Zy ?_))
  refine ZA [bj] [t] (need_c T bj t ks imapT _ _) ?_
  rintro _ _ ⟨rfl,rfl⟩
  refine Zy ?_
  refine Zm 6 ?_
  refine Zp 11 ?_
  refine Zc (fun hc9=>?_) fun hc9=>?_
  ·
   refine Zp 2 ?_
   refine AWp.ret ?_
   simp only[thenQ,blkQ]
   apply endW_r [b3] [] [bj] [t] (by(try simp only[go_sem]);rfl)
   · rw [cmdE_8n hk8 hc9]
     exact⟨rfl,by first|rfl|(simp only[go_sem,fb3];done)|(simp only[go_sem,fb3];rfl)⟩
   · simp [LeA,LeD]
  have hc9:needE ks imapT=0:=by omega
  refine Zk ?_
  refine Zx ?_
  simp only[go_sem,fb3]
  refine ZP (jFlags_c T hF _ (by omega)) ?_
  refine Zy ?_
  refine Zm 8 ?_
  refine Zp 1 ?_
  refine AWp.ret ?_
  simp only[thenQ,blkQ]
  apply endW_r [b3] [] [bj] [t] (by(try simp only[go_sem]);rfl)
  · rw [cmdE_8 hk8 hc9]
    exact⟨rfl,by first|rfl|(simp only[go_sem,fb3];done)|(simp only[go_sem,fb3];rfl)⟩
  · simp [LeA,LeD]
 refine Zp 18 ?_
 refine Zc (fun hc10=>?_) fun hc10=>?_
 ·
  have h0:0<c.texts.length:=r1 (.inr hc10)
  have hz0:=r3 _ (List.getElem_mem h0)
  have zf2:=fun d0_=>map_getD strD c.texts 0 d0_ h0
  refine Zx ?_
  simp only[go_sem,fb3,zf2]
  (repeat(with_reducible refine And.intro ZS ?_))
  refine DW.pcr rfl rfl rfl rfl (List_c T hL _) rfl rfl ?_
  refine Zy ?_
  refine Zm 6 ?_
  refine Zp 256 ?_
  refine Zc (fun hc11=>?_) fun hc11=>?_
  ·
   refine Zp 1 ?_
   refine AWp.ret ?_
   simp only[thenQ,blkQ]
   apply endW_r [b3] [] [bj] [t] (by(try simp only[go_sem]);rfl)
   · rw [cmdE_6 hc10 h0,toE_t hc11]
     exact⟨rfl,by first|rfl|(simp only[go_sem,fb3];done)|(simp only[go_sem,fb3,zf2];rfl)⟩
   · simp [LeA,LeD]
  refine AWp.skip (blkQ_n (thenQ_n ?_))
  refine Zp 1 ?_
  refine AWp.ret ?_
  apply endW_r [b3] [] [bj] [t] (by(try simp only[go_sem]);rfl)
  · rw [cmdE_6 hc10 h0,toE_f hc11]
    exact⟨rfl,by first|rfl|(simp only[go_sem,fb3];done)|(simp only[go_sem,fb3,zf2];rfl)⟩
  · simp [LeA,LeD]
 refine AWp.skip (blkQ_n (thenQ_n ?_))
 refine Zp 2 ?_
 refine AWp.ret ?_
 apply endW_r [b3] [] [bj] [t] (by(try simp only[go_sem]);rfl)
 · rw [cmdE_o hc0 hc1 hc4 hc6 hc8.1 hc8.2 hc10]
   exact⟨rfl,by first|rfl|(simp only[go_sem,fb3];done)|(simp only[go_sem,fb3];rfl)⟩
 · simp [LeA,LeD]
attribute [local go_sem] cmdA tstA tstD cmdD icast8 List.cons_append List.nil_append in
theorem jall_s (T:Tbl) (bj t:Nat) (ks:List (List UInt8)) (l:List Cmd) (hll:l.length*208≤140737488355328) (ih:∀y∈l,∀(F:List (Nat×Ob)) (L:List Nat),AC Tryz.prog T 115 [.ptr bj 1 0 0,.agg (cmdA y)] ⟨(bj,⟨1,1,[[.mp t ks]]⟩)::F,t::L⟩ (fun x h=>x= .ret (.d (.int .i64 (cmdE ks y)))∧h=⟨(bj,⟨1,1,[[.mp t ks]]⟩)::F,t::L⟩)) (F:List (Nat×Ob)) (L:List Nat):AC Tryz.prog T 58 [.ptr bj 1 0 0,.d (.slc 12 (l.map cmdD))] (⟨(bj,⟨1,1,[[.mp t ks]]⟩)::F,t::L⟩) (fun x h=>x= .ret (.d (.int .i64 (cmdEL ks l)))∧h=⟨(bj,⟨1,1,[[.mp t ks]]⟩)::F,t::L⟩):=by
 refine⟨Tryz.call58,ACalls.enterS Tryz.func58 rfl Tryz.ntmps58 rfl fun hb=>?_⟩
 simp only[go_sem,Tryz.results58]
 refine Zp 3 ?_
 refine Zs (Zp 29 ?_)
 refine AWp.block (Zy ?_)
 refine Zl 7 8 (fun n lc hc=> ∃(k:Nat),n=l.length-k∧EqS lc [(10,.d (.int .i64 (k:Nat)))]∧EqS hc (⟨(bj,⟨1,1,[[.mp t ks]]⟩)::F,t::L⟩)∧(k≤l.length)∧(cmdEL ks l=cmdEL ks (l.drop k))) ?_ ?_
 · refine ⟨_,0,rfl,ZE,ZE,?_,?_⟩
   all_goals(first|omega|rfl)
 rintro _ _ _ ⟨k,rfl,⟨rfl⟩,⟨rfl⟩,m1,m2⟩
 refine Zy ?_
 refine Zp 31 ?_
 refine Zs (Zc (fun hc0=>?_) fun hc0=>?_)
 ·
  have hlt:k<l.length:=by omega
  have hki:(k:Int)<(l.length:Int):=by omega
  have zf1:=fun d0_=>map_getD cmdD l k d0_ hlt
  refine Zk ?_
  refine Zs (AWp.block (Zx ?_))
  simp only[go_sem,zf1,hki]
  intro b6
  first|intro fb6|have fb6:=True.intro
  try simp only[freshL] at fb6
  refine Zx ?_
  simp only[go_sem,fb6]
  refine ZA [bj] [t] (ih _ (List.getElem_mem hlt) _ _) ?_
  rintro _ _ ⟨rfl,rfl⟩
  refine Zy ?_
  refine Zm 61 ?_
  refine Zp 95 ?_
  refine Zc (fun hc1=>?_) fun hc1=>?_
  ·
   refine Zp 2 ?_
   refine AWp.ret ?_
   simp only[thenQ,blkQ]
   apply endW_r [b6] [] [bj] [t] (by(try simp only[go_sem]);rfl)
   · rw [m2,cmdEL_t hlt hc1]
     exact⟨rfl,by first|rfl|(simp only[go_sem,fb6];done)|(simp only[go_sem,zf1,hki,fb6];rfl)⟩
   · simp [LeA,LeD]
  have hz:cmdE ks (l[k])=0:=by omega
  refine AWp.skip (blkQ_n (thenQ_n ?_))
  refine Zr (thenQ_n ?_)
  refine Ze 13 16 [b6] [] [bj] [] (.e ⟨_,ZM,k+1,rfl,ZE,ZE,?_,?_⟩)
  · omega
  · rw [m2,cmdEL_f hlt hz]
 refine AWp.exit (thenQ_e (thenQ_e (blkQ_e (thenQ_n ?_))))
 refine Zm 0 ?_
 refine Zp 1 ?_
 refine AWp.ret ?_
 apply endW_r [] [] [bj] [t] (by(try simp only[go_sem]);rfl)
 · rw [m2,cmdEL_e (by omega)]
   exact⟨rfl,by first|rfl|(simp only[go_sem,];done)|(simp only[go_sem,];rfl)⟩
 · simp [LeA,LeD]
theorem jcmd_c (T:Tbl) (hL:LibT T) (hF:T 2=flagT.map D.str) (bj t:Nat) (ks:List (List UInt8)) (c:Cmd) (ok:c.Ok) (rd:c.Rd) (F:List (Nat×Ob)) (L:List Nat):AC Tryz.prog T 115 [.ptr bj 1 0 0,.agg (cmdA c)] ⟨(bj,⟨1,1,[[.mp t ks]]⟩)::F,t::L⟩ (fun x h=>x= .ret (.d (.int .i64 (cmdE ks c)))∧h=⟨(bj,⟨1,1,[[.mp t ks]]⟩)::F,t::L⟩):=by
 induction c using Cmd.ind generalizing F L with
 |h c i1 i2=>
  obtain⟨s1,s2,s3,s4,s5,s6⟩:=ok.inv
  obtain⟨r1,r2,r3,r4,r5⟩:=rd.inv
  refine jcmd_s T hL hF bj t ks c ok rd (fun F L=>?_) (fun F L=>?_) F L
  ·rw[thnD_eq];exact jall_s T bj t ks _ s3 (fun x hx F L=>i1 x hx (s5 x hx) (r4 x hx) F L) F L
  ·rw[elsD_eq];exact jall_s T bj t ks _ s4 (fun x hx F L=>i2 x hx (s6 x hx) (r5 x hx) F L) F L
theorem jall_c (T:Tbl) (hL:LibT T) (hF:T 2=flagT.map D.str) (bj t:Nat) (ks:List (List UInt8)) (l:List Cmd) (hll:l.length*208≤140737488355328) (ok:∀x∈l,x.Ok) (rd:∀x∈l,x.Rd) (F:List (Nat×Ob)) (L:List Nat):AC Tryz.prog T 58 [.ptr bj 1 0 0,.d (.slc 12 (l.map cmdD))] ⟨(bj,⟨1,1,[[.mp t ks]]⟩)::F,t::L⟩ (fun x h=>x= .ret (.d (.int .i64 (cmdEL ks l)))∧h=⟨(bj,⟨1,1,[[.mp t ks]]⟩)::F,t::L⟩):=
 jall_s T bj t ks l hll (fun x hx F L=>jcmd_c T hL hF bj t ks x (ok x hx) (rd x hx) F L) F L
end
section
theorem toE_n {s:List UInt8} (h:listS s=none):toE s=3:=by
 refine toE_t (.inl ?_)
 unfold listR;rw[h];split<;>(intro h9;cases h9)
theorem toE_s {s:List UInt8} {l:List Ad} (h:listS s=some l) (h2:¬(l.length:Int)=1∨2000<(s.length:Int)):toE s=3:=by
 refine toE_t ?_
 unfold listR;rw[h];split
 ·exact .inl (by intro h9;cases h9)
 ·dsimp only;split
  ·exact .inl (by intro h9;cases h9)
  ·exact .inr (by dsimp only;omega)
theorem toE_z {s:List UInt8} {l:List Ad} (h:listS s=some l) (h2:(l.length:Int)=1∧¬2000<(s.length:Int)):toE s=0:=by
 refine toE_f ?_
 unfold listR;rw[h,if_neg (by omega)];dsimp only;rw[if_neg (by omega)];exact⟨rfl,h2.1⟩
attribute [local go_sem] tstA tstD cmdD icast8 List.cons_append List.nil_append adsV adsD strD in
theorem lallow_s (T:Tbl) (hL:LibT T) (ks:List (List UInt8)) (hkn:ks.length≤1048576) (l:List Cmd) (hll:l.length*208≤140737488355328) (ok:∀x∈l,x.Ok) (rd:∀x∈l,x.Rd) (i1:∀x∈l,PC Tryz.prog T 64 [.d (.slc 1 (ks.map strD)),.d (.slc 12 (thnD x))] (.d (.int .i64 (cmdEL ks x.thn)))) (i2:∀x∈l,PC Tryz.prog T 64 [.d (.slc 1 (ks.map strD)),.d (.slc 12 (elsD x))] (.d (.int .i64 (cmdEL ks x.els)))):PC Tryz.prog T 64 [.d (.slc 1 (ks.map strD)),.d (.slc 12 (l.map cmdD))] (.d (.int .i64 (cmdEL ks l))):=by
 refine⟨Tryz.call64,PCall.enterS Tryz.func64 rfl Tryz.ntmps64 rfl fun hb=>?_⟩
 simp only[go_sem,Tryz.results64]
 refine Zp 3 ?_
 refine Zs (Zp 7 ?_)
 refine AWp.block (Zy ?_)
 refine Zl 3 4 (fun n lc hc=> ∃(k:Nat),n=l.length-k∧EqS lc [(5,.d (.int .i64 (k:Nat)))]∧EqS hc (⟨[],[]⟩)∧(k≤l.length)∧(cmdEL ks l=cmdEL ks (l.drop k))) ?_ ?_
 · refine ⟨_,0,rfl,ZE,ZE,?_,?_⟩
   all_goals(first|omega|rfl)
 rintro _ _ _ ⟨k,rfl,⟨rfl⟩,⟨rfl⟩,m1,m2⟩
 refine Zy ?_
 refine Zs (Zp 71 ?_)
 refine Zc (fun hc0=>?_) fun hc0=>?_
 ·
  have hlt:k<l.length:=by omega
  have hki:(k:Int)<(l.length:Int):=by omega
  have okk:=ok _ (List.getElem_mem hlt)
  obtain⟨s1,s2,s3,s4,s5,s6⟩:=okk.inv
  obtain⟨r1,r2,r3,_,_⟩:=(rd _ (List.getElem_mem hlt)).inv
  have zf1:=fun d0_=>map_getD cmdD l k d0_ hlt
  refine Zk ?_
  refine Zs (AWp.block (Zx ?_))
  simp only[go_sem,zf1,hki]
  intro b6
  first|intro fb6|have fb6:=True.intro
  try simp only[freshL] at fb6
  refine Zm 15 ?_
  refine Zp 31 ?_
  refine Zs (Zp 95 ?_)
  refine AWp.block (Zp 127 ?_)
  refine Zc (fun hc1=>?_) fun hc1=>?_
  ·
   refine Zr (blkQ_n (thenQ_n ?_))
   refine Zp 279 ?_
   refine Zc (fun hc13=>?_) fun hc13=>?_
   ·
    have hz:¬cmdE ks (l[k])=0:=by rw[cmdE_1 hc1];first|exact hc13|decide|omega
    refine Zp 4 ?_
    refine AWp.ret ?_
    simp only[go_sem]
    rw[m2,cmdEL_t hlt hz,cmdE_1 hc1];try simp[LeA,LeD]
   first|omega|simp at hc13
  refine Zp 191 ?_
  refine Zc (fun hc2=>?_) fun hc2=>?_
  ·
   refine Zx (Zy ?_)
   refine ZP (tallow_c T ks hkn _ s2) ?_
   refine Zy ?_
   refine Zm 31 ?_
   refine Zs (Zp 95 ?_)
   refine Zc (fun hc3=>?_) fun hc3=>?_
   ·
    refine Zq fun K_ k_=>?_
    refine Zy ?_
    refine ZP (i1 _ (List.getElem_mem hlt)) ?_
    refine Zy ?_
    refine k_ _ _ (thenQ_n ?_)
    refine Zm 31 ?_
    refine Zp 95 ?_
    refine Zc (fun hc4=>?_) fun hc4=>?_
    ·
     refine Zq fun K_ k_=>?_
     refine Zy ?_
     refine ZP (i2 _ (List.getElem_mem hlt)) ?_
     refine Zy ?_
     refine k_ _ _ (blkQ_n (thenQ_n ?_))
     refine Zm 23 ?_
     refine Zp 47 ?_
     refine Zc (fun hc13=>?_) fun hc13=>?_
     ·
      have hz:¬cmdE ks (l[k])=0:=by rw[cmdE_2b hc2 hc3 hc4];first|exact hc13|decide|omega
      refine Zp 4 ?_
      refine AWp.ret ?_
      simp only[go_sem]
      rw[m2,cmdEL_t hlt hz,cmdE_2b hc2 hc3 hc4];try simp[LeA,LeD]
     have hz:cmdE ks (l[k])=0:=by rw[cmdE_2b hc2 hc3 hc4];first|done|exact hc13|omega
     refine AWp.skip (blkQ_n (thenQ_n ?_))
     refine Zr (thenQ_n ?_)
     refine Ze 3 4 [b6] [] [] [] (.e ⟨_,ZM,k+1,rfl,ZE,ZE,?_,?_⟩)
     · omega
     · rw [m2,cmdEL_f hlt hz]
    refine AWp.skip (blkQ_n (thenQ_n ?_))
    refine Zp 151 ?_
    refine Zc (fun hc13=>?_) fun hc13=>?_
    ·
     have hz:¬cmdE ks (l[k])=0:=by rw[cmdE_2a hc2 hc3 hc4];first|exact hc13|decide|omega
     refine Zp 4 ?_
     refine AWp.ret ?_
     simp only[go_sem]
     rw[m2,cmdEL_t hlt hz,cmdE_2a hc2 hc3 hc4];try simp[LeA,LeD]
    have hz:cmdE ks (l[k])=0:=by rw[cmdE_2a hc2 hc3 hc4];first|done|exact hc13|omega
    refine AWp.skip (blkQ_n (thenQ_n ?_))
    refine Zr (thenQ_n ?_)
    refine Ze 3 4 [b6] [] [] [] (.e ⟨_,ZM,k+1,rfl,ZE,ZE,?_,?_⟩)
    · omega
    · rw [m2,cmdEL_f hlt hz]
   refine Zk ?_
   refine Zp 159 ?_
   refine Zc (fun hc4=>?_) fun hc4=>?_
   ·
    exact absurd hc4 hc3
   refine AWp.skip (blkQ_n (thenQ_n ?_))
   refine Zp 151 ?_
   refine Zc (fun hc13=>?_) fun hc13=>?_
   ·
    have hz:¬cmdE ks (l[k])=0:=by rw[cmdE_2t hc2 hc3];first|exact hc13|decide|omega
    refine Zp 4 ?_
    refine AWp.ret ?_
    simp only[go_sem]
    rw[m2,cmdEL_t hlt hz,cmdE_2t hc2 hc3];try simp[LeA,LeD]
   have hz:cmdE ks (l[k])=0:=by rw[cmdE_2t hc2 hc3];first|done|exact hc13|omega
   refine AWp.skip (blkQ_n (thenQ_n ?_))
   refine Zr (thenQ_n ?_)
   refine Ze 3 4 [b6] [] [] [] (.e ⟨_,ZM,k+1,rfl,ZE,ZE,?_,?_⟩)
   · omega
   · rw [m2,cmdEL_f hlt hz]
  refine Zp 191 ?_
  refine Zc (fun hc5=>?_) fun hc5=>?_
  ·
   have h0:0<(l[k]).texts.length:=r1 (.inl hc5)
   have hz0:=r3 _ (List.getElem_mem h0)
   have zf2:=fun d0_=>map_getD strD (l[k]).texts 0 d0_ h0
   refine Z1 31 (required_c T ks fileT hkn) ?_
   refine Zp 95 ?_
   refine Zc (fun hc6=>?_) fun hc6=>?_
   ·
    refine Zq fun K_ k_=>?_
    simp only[go_sem,zf2]
    (repeat(with_reducible refine And.intro ZS ?_))
    refine DW.pcr rfl rfl rfl rfl (BoxName_c T _ (by omega)) rfl rfl ?_
    refine Zy ?_
    refine k_ _ _ (blkQ_n (thenQ_n ?_))
    refine Zm 23 ?_
    refine Zp 47 ?_
    refine Zc (fun hc13=>?_) fun hc13=>?_
    ·
     have hz:¬cmdE ks (l[k])=0:=by rw[cmdE_5 hc5 hc6 h0];first|exact hc13|decide|omega
     refine Zp 4 ?_
     refine AWp.ret ?_
     simp only[go_sem]
     rw[m2,cmdEL_t hlt hz,cmdE_5 hc5 hc6 h0];try simp[LeA,LeD]
    have hz:cmdE ks (l[k])=0:=by rw[cmdE_5 hc5 hc6 h0];first|done|exact hc13|omega
    refine AWp.skip (blkQ_n (thenQ_n ?_))
    refine Zr (thenQ_n ?_)
    refine Ze 3 4 [b6] [] [] [] (.e ⟨_,ZM,k+1,rfl,ZE,ZE,?_,?_⟩)
    · omega
    · rw [m2,cmdEL_f hlt hz]
   refine AWp.skip (blkQ_n (thenQ_n ?_))
   refine Zp 151 ?_
   refine Zc (fun hc13=>?_) fun hc13=>?_
   ·
    have hz:¬cmdE ks (l[k])=0:=by rw[cmdE_5n hc5 hc6];first|exact hc13|decide|omega
    refine Zp 4 ?_
    refine AWp.ret ?_
    simp only[go_sem]
    rw[m2,cmdEL_t hlt hz,cmdE_5n hc5 hc6];try simp[LeA,LeD]
   have hz:cmdE ks (l[k])=0:=by rw[cmdE_5n hc5 hc6];first|done|exact hc13|omega
   refine AWp.skip (blkQ_n (thenQ_n ?_))
   refine Zr (thenQ_n ?_)
   refine Ze 3 4 [b6] [] [] [] (.e ⟨_,ZM,k+1,rfl,ZE,ZE,?_,?_⟩)
   · omega
   · rw [m2,cmdEL_f hlt hz]
  refine Zp 191 ?_
  refine Zc (fun hc7=>?_) fun hc7=>?_
  ·
   refine Zq fun K_ k_=>?_
   refine Zy ?_
   refine ZP (required_c T ks rejT hkn) ?_
   refine Zy ?_
   refine k_ _ _ (blkQ_n (thenQ_n ?_))
   refine Zm 23 ?_
   refine Zp 47 ?_
   refine Zc (fun hc13=>?_) fun hc13=>?_
   ·
    have hz:¬cmdE ks (l[k])=0:=by rw[cmdE_7 hc7];first|exact hc13|decide|omega
    refine Zp 4 ?_
    refine AWp.ret ?_
    simp only[go_sem]
    rw[m2,cmdEL_t hlt hz,cmdE_7 hc7];try simp[LeA,LeD]
   have hz:cmdE ks (l[k])=0:=by rw[cmdE_7 hc7];first|done|exact hc13|omega
   refine AWp.skip (blkQ_n (thenQ_n ?_))
   refine Zr (thenQ_n ?_)
   refine Ze 3 4 [b6] [] [] [] (.e ⟨_,ZM,k+1,rfl,ZE,ZE,?_,?_⟩)
   · omega
   · rw [m2,cmdEL_f hlt hz]
  refine Zs (Zp 191 ?_)
  refine Zy ?_
  apply Za (z:=(_||_)) 63 57
  ·
   refine AWp.cond _ rfl (fun hc8=>?_) fun hc8=>?_
   rotate_left
   ·
    refine Zr (thenQ_n ?_)
    refine Zf 63 64 (.e ⟨EqS.bo (or_f hc8 rfl),⟨rfl⟩⟩)
   refine AWp.skip (thenQ_n ?_)
   refine Zf 63 64 (.e ⟨EqS.bo (or_t hc8),⟨rfl⟩⟩)
  refine Zy ?_
  refine Zc (fun hc9=>?_) fun hc9=>?_
  ·
   refine Z1 31 (required_c T ks imapT hkn) ?_
   refine Zp 95 ?_
   refine Zc (fun hc10=>?_) fun hc10=>?_
   ·
    refine Zq fun K_ k_=>?_
    refine Zy ?_
    refine ZP (jFlagsOf_c T _ (by omega)) ?_
    refine Zy ?_
    refine k_ _ _ (blkQ_n (thenQ_n ?_))
    refine Zm 23 ?_
    refine Zp 47 ?_
    refine Zc (fun hc13=>?_) fun hc13=>?_
    ·
     have hz:¬cmdE ks (l[k])=0:=by rw[cmdE_8 hc9 hc10];first|exact hc13|decide|omega
     refine Zp 4 ?_
     refine AWp.ret ?_
     simp only[go_sem]
     rw[m2,cmdEL_t hlt hz,cmdE_8 hc9 hc10];try simp[LeA,LeD]
    have hz:cmdE ks (l[k])=0:=by rw[cmdE_8 hc9 hc10];first|done|exact hc13|omega
    refine AWp.skip (blkQ_n (thenQ_n ?_))
    refine Zr (thenQ_n ?_)
    refine Ze 3 4 [b6] [] [] [] (.e ⟨_,ZM,k+1,rfl,ZE,ZE,?_,?_⟩)
    · omega
    · rw [m2,cmdEL_f hlt hz]
   refine AWp.skip (blkQ_n (thenQ_n ?_))
   refine Zp 151 ?_
   refine Zc (fun hc13=>?_) fun hc13=>?_
   ·
    have hz:¬cmdE ks (l[k])=0:=by rw[cmdE_8n hc9 hc10];first|exact hc13|decide|omega
    refine Zp 4 ?_
    refine AWp.ret ?_
    simp only[go_sem]
    rw[m2,cmdEL_t hlt hz,cmdE_8n hc9 hc10];try simp[LeA,LeD]
   have hz:cmdE ks (l[k])=0:=by rw[cmdE_8n hc9 hc10];first|done|exact hc13|omega
   refine AWp.skip (blkQ_n (thenQ_n ?_))
   refine Zr (thenQ_n ?_)
   refine Ze 3 4 [b6] [] [] [] (.e ⟨_,ZM,k+1,rfl,ZE,ZE,?_,?_⟩)
   · omega
   · rw [m2,cmdEL_f hlt hz]
  refine Zp 159 ?_
  refine Zc (fun hc11=>?_) fun hc11=>?_
  ·
   have h0:0<(l[k]).texts.length:=r1 (.inr hc11)
   have hz0:=r3 _ (List.getElem_mem h0)
   have zf3:=fun d0_=>map_getD strD (l[k]).texts 0 d0_ h0
   rcases hls:listS ((l[k]).texts[0]) with _|ads
   ·
    refine Zx ?_
    simp only[go_sem,zf3]
    (repeat(with_reducible refine And.intro ZS ?_))
    refine DW.pcr rfl rfl rfl rfl (listOf_none T hL _ (by omega) hls) rfl rfl ?_
    refine Zy ?_
    refine Zm 127 ?_
    refine Zp 2097175 ?_
    refine Zc (fun hc12=>?_) fun hc12=>?_
    ·
     refine Zr (blkQ_n (thenQ_n ?_))
     refine Zp 79 ?_
     refine Zc (fun hc13=>?_) fun hc13=>?_
     ·
      have hz:¬cmdE ks (l[k])=0:=by rw[cmdE_6 hc11 h0,toE_n hls];first|exact hc13|decide|omega
      refine Zp 4 ?_
      refine AWp.ret ?_
      simp only[go_sem]
      rw[m2,cmdEL_t hlt hz,cmdE_6 hc11 h0,toE_n hls];try simp[LeA,LeD]
     first|omega|simp at hc13
    exact absurd hc12 (by first|(simp;done)|omega|(simp[*];done))
   refine Zx ?_
   simp only[go_sem,zf3]
   (repeat(with_reducible refine And.intro ZS ?_))
   refine DW.pcr rfl rfl rfl rfl (listOf_some T hL _ (by omega) ads hls) rfl rfl ?_
   refine Zy ?_
   refine Zm 127 ?_
   refine Zp 2097175 ?_
   refine Zc (fun hc12=>?_) fun hc12=>?_
   ·
    refine Zr (blkQ_n (thenQ_n ?_))
    refine Zp 79 ?_
    refine Zc (fun hc13=>?_) fun hc13=>?_
    ·
     have hz:¬cmdE ks (l[k])=0:=by rw[cmdE_6 hc11 h0,toE_s hls (hc12.imp (fun h9=>h9.resolve_left (by simp)) id)];first|exact hc13|decide|omega
     refine Zp 4 ?_
     refine AWp.ret ?_
     simp only[go_sem]
     rw[m2,cmdEL_t hlt hz,cmdE_6 hc11 h0,toE_s hls (hc12.imp (fun h9=>h9.resolve_left (by simp)) id)];try simp[LeA,LeD]
    first|omega|simp at hc13
   refine AWp.skip (blkQ_n (thenQ_n ?_))
   refine Zp 79 ?_
   refine Zc (fun hc13=>?_) fun hc13=>?_
   ·
    first|omega|simp at hc13
   have hz:cmdE ks (l[k])=0:=by rw[cmdE_6 hc11 h0,toE_z hls ⟨hc12.1.2,by omega⟩];first|done|exact hc13|omega
   refine AWp.skip (blkQ_n (thenQ_n ?_))
   refine Zr (thenQ_n ?_)
   refine Ze 3 4 [b6] [] [] [] (.e ⟨_,ZM,k+1,rfl,ZE,ZE,?_,?_⟩)
   · omega
   · rw [m2,cmdEL_f hlt hz]
  refine AWp.skip (blkQ_n (thenQ_n ?_))
  refine Zp 151 ?_
  refine Zc (fun hc13=>?_) fun hc13=>?_
  ·
   first|omega|simp at hc13
  have hz:cmdE ks (l[k])=0:=by rw[cmdE_o hc1 hc2 hc5 hc7 hc9.1 hc9.2 hc11];first|done|exact hc13|omega
  refine AWp.skip (blkQ_n (thenQ_n ?_))
  refine Zr (thenQ_n ?_)
  refine Ze 3 4 [b6] [] [] [] (.e ⟨_,ZM,k+1,rfl,ZE,ZE,?_,?_⟩)
  · omega
  · rw [m2,cmdEL_f hlt hz]
 refine AWp.exit (thenQ_e (thenQ_e (blkQ_e (thenQ_n ?_))))
 refine Zm 0 ?_
 refine Zp 1 ?_
 refine AWp.ret ?_
 simp only[go_sem]
 rw[m2,cmdEL_e (by omega)];try simp[LeA,LeD]
theorem lallow_c (T:Tbl) (hL:LibT T) (ks:List (List UInt8)) (hkn:ks.length≤1048576) (l:List Cmd) (hll:l.length*208≤140737488355328) (ok:∀x∈l,x.Ok) (rd:∀x∈l,x.Rd):PC Tryz.prog T 64 [.d (.slc 1 (ks.map strD)),.d (.slc 12 (l.map cmdD))] (.d (.int .i64 (cmdEL ks l))):=by
 have H:∀c:Cmd,c.Ok→c.Rd→PC Tryz.prog T 64 [.d (.slc 1 (ks.map strD)),.d (.slc 12 (thnD c))] (.d (.int .i64 (cmdEL ks c.thn)))∧PC Tryz.prog T 64 [.d (.slc 1 (ks.map strD)),.d (.slc 12 (elsD c))] (.d (.int .i64 (cmdEL ks c.els))):=fun c=>by
  induction c using Cmd.ind with
  |h c i1 i2=>
   intro ok rd
   obtain⟨s1,s2,s3,s4,s5,s6⟩:=ok.inv
   obtain⟨_,_,_,r4,r5⟩:=rd.inv
   rw[thnD_eq,elsD_eq]
   exact⟨lallow_s T hL ks hkn _ s3 s5 r4 (fun x hx=>(i1 x hx (s5 x hx) (r4 x hx)).1) (fun x hx=>(i1 x hx (s5 x hx) (r4 x hx)).2),lallow_s T hL ks hkn _ s4 s6 r5 (fun x hx=>(i2 x hx (s6 x hx) (r5 x hx)).1) (fun x hx=>(i2 x hx (s6 x hx) (r5 x hx)).2)⟩
 exact lallow_s T hL ks hkn l hll ok rd (fun x hx=>(H x (ok x hx) (rd x hx)).1) (fun x hx=>(H x (ok x hx) (rd x hx)).2)
end
section
def extT:List (List UInt8):=[[102,105,108,101,105,110,116,111],[114,101,106,101,99,116],[101,110,118,101,108,111,112,101],[105,109,97,112,52,102,108,97,103,115]]
@[go_sem] theorem bd_judge:bdI Tryz.prog 121=some ([.any],[(0,1)]):=by kernel_rfl
def reqE:List (List UInt8)→List Cmd→Int
 |_,[]=>0
 |ks,c::l=>if c.kind=1 then(if∀s∈c.texts,s∈extT then reqE (ks++c.texts) l else 7) else cmdEL ks (c::l)
def ruleE (l:List Cmd):Int:=if¬chkE l=0 then chkE l else reqE [] l
theorem reqE_e {ks:List (List UInt8)} {l:List Cmd} {k:Nat} (h:l.length≤k):reqE ks (l.drop k)=cmdEL ks (l.drop k):=by rw[List.drop_eq_nil_of_le h];rfl
theorem reqE_o {ks:List (List UInt8)} {l:List Cmd} {k:Nat} (h:k<l.length) (hc:¬(l[k]).kind=1):reqE ks (l.drop k)=cmdEL ks (l.drop k):=by rw[List.drop_eq_getElem_cons h,reqE,if_neg hc]
theorem reqE_n {ks:List (List UInt8)} {l:List Cmd} {k q:Nat} (h:k<l.length) (hc:(l[k]).kind=1) (hq:q<(l[k]).texts.length) (hn:¬(l[k]).texts[q]∈extT):reqE ks (l.drop k)=7:=by
 rw[List.drop_eq_getElem_cons h,reqE,if_pos hc,if_neg fun h9=>hn (h9 _ (List.getElem_mem hq))]
theorem reqE_s {ks:List (List UInt8)} {l:List Cmd} {k:Nat} (h:k<l.length) (hc:(l[k]).kind=1) (ha:∀s∈(l[k]).texts,s∈extT):reqE ks (l.drop k)=reqE (ks++(l[k]).texts) (l.drop (k+1)):=by
 rw[List.drop_eq_getElem_cons h,reqE,if_pos hc,if_pos ha]
theorem drop_get0 {α β:Type} (f:α→β) (l:List α) (k:Nat) (d:β) (h:k<l.length):((l.drop k).map f).getD 0 d=f (l[k]):=by
 rw[List.drop_eq_getElem_cons h];rfl
def AllX (l:List (List UInt8)):Prop:=∀s∈l,s∈extT
theorem AllX.s {l:List (List UInt8)} {q:Nat} (hq:q<l.length) (h:AllX (l.take q)) (hn:l[q]∈extT):AllX (l.take (q+1)):=fun s hs=>by
 rw[List.take_succ_eq_append_getElem hq,List.mem_append,List.mem_singleton] at hs
 rcases hs with h9|rfl
 ·exact h s h9
 ·exact hn
theorem AllX.e {l:List (List UInt8)} {q:Nat} (hq:l.length≤q) (h:AllX (l.take q)):∀s∈l,s∈extT:=by rwa [List.take_of_length_le hq] at h
theorem Same.nil:Same [] []:=fun _=>Iff.rfl
theorem Same.st {kz ks l:List (List UInt8)} {q:Nat} (hq:q<l.length) (h:Same kz (ks++l.take q)):Same (addK l[q] kz) (ks++l.take (q+1)):=by
 have:=h.add l[q]
 rwa [List.append_assoc,←List.take_succ_eq_append_getElem hq] at this
theorem Same.en {kz ks l:List (List UInt8)} {q:Nat} (hq:l.length≤q) (h:Same kz (ks++l.take q)):Same kz (ks++l):=by rwa [List.take_of_length_le hq] at h
attribute [local go_sem] cmdD icast8 decide_true strD decide_false in
theorem jCheck_c (T:Tbl) (hL:LibT T) (hF:T 2=flagT.map D.str) (hE:T 0=extT.map D.str) (tb:Tabs T) (l:List Cmd) (hll:l.length*208≤140737488355328) (ok:∀x∈l,x.Ok) (hl:(lsT l).length≤4398046511104) (rd:chkE l=0→∀x∈l,x.Rd):PC Tryz.prog T 28 [.d (.slc 12 (l.map cmdD))] (.d (.int .i64 (ruleE l))):=by
 refine⟨Tryz.call28,PCall.enterS Tryz.func28 rfl Tryz.ntmps28 rfl fun hb=>?_⟩
 simp only[go_sem,Tryz.results28]
 refine Zp 1 ?_
 refine Zs (Z1 3 (Check_c T l hll ok hl tb) ?_)
 refine Zp 11 ?_
 refine Zc (fun hc0=>?_) fun hc0=>?_
 ·
  refine Zp 2 ?_
  refine AWp.ret ?_
  simp only[go_sem]
  rw[ruleE,if_pos hc0];try simp[LeA,LeD]
 have hz:chkE l=0:=by omega
 have rd:=rd hz
 refine Zk ?_
 refine Zx (Zy ?_)
 refine DW.mkMap rfl rfl fun tk ftk=>?_
 refine Zy ?_
 intro b4
 first|intro fb4|have fb4:=True.intro
 try simp only[freshL] at fb4
 refine Zm 5 ?_
 refine Zs (AWp.block (Zy ?_))
 refine Zl 2 1 (fun n lc hc=> ∃(k t:Nat) (ks kz:List (List UInt8)),n=l.length-k∧EqS lc [(0,.d (.slc 12 ((l.drop k).map cmdD)))]∧EqS hc (⟨[(b4,⟨1,1,[[.mp t kz]]⟩)],[t]⟩)∧(k≤l.length)∧(Same kz ks)∧(reqE [] l=reqE ks (l.drop k))) ?_ ?_
 · refine ⟨_,0,tk,[],[],rfl,ZE,ZE,?_,?_,?_⟩
   all_goals(first|omega|rfl|exact Same.nil)
 rintro _ _ _ ⟨k,t,ks,kz,rfl,⟨rfl⟩,⟨rfl⟩,m1,m2,m3⟩
 refine Zy ?_
 refine Zs ?_
 rcases Nat.lt_or_ge k l.length with hkl|hkl
 ·
  have hkL:(0<l.length-k)=True:=by simp;omega
  have hdg:=fun d=>drop_get0 cmdD l k d hkl
  have htk:List.take (l.length-k) (List.drop k (List.map cmdD l))=List.drop k (List.map cmdD l):=List.take_of_length_le (by simp)
  have hr2:=(rd _ (List.getElem_mem hkl)).inv.2.1
  refine Zp 2051 ?_
  refine Zc (fun hc1=>?_) fun hc1=>?_
  ·
   have hk1:(l[k]).kind=1:=by omega
   refine Zk ?_
   refine AWp.block (Zs (Zp 451 ?_))
   refine AWp.block (Zy ?_)
   refine Zl 15 16 (fun n lc hc=> ∃(q u:Nat) (kz2:List (List UInt8)),n=(l[k]).texts.length-q∧EqS lc [(30,.d (.int .i64 (q:Nat)))]∧EqS hc (⟨[(b4,⟨1,1,[[.mp u kz2]]⟩)],[u]⟩)∧(q≤(l[k]).texts.length)∧(Same kz2 (ks++(l[k]).texts.take q))∧(AllX ((l[k]).texts.take q))) ?_ ?_
   · refine ⟨_,0,t,kz,rfl,ZE,ZE,?_,?_,?_⟩
     all_goals(first|omega|(simpa using m2)|exact fun s h9=>by simp at h9)
   rintro _ _ _ ⟨q,u,kz2,rfl,⟨rfl⟩,⟨rfl⟩,q1,q2,q3⟩
   refine Zy ?_
   refine Zp 63 ?_
   refine Zs (Zc (fun hc2=>?_) fun hc2=>?_)
   ·
    have hqt:q<(l[k]).texts.length:=by omega
    have hqi:(q:Int)<((l[k]).texts.length:Int):=by omega
    have zf1:=fun d0_=>map_getD strD (l[k]).texts q d0_ hqt
    refine Zk ?_
    refine Zs (AWp.block (Zp 63 ?_))
    refine Zs (AWp.rsG 0 fun K_ hK_=>?_)
    simp only[List.take_zero,List.drop_zero]
    refine Zy ?_
    refine LV.dw1 ?_
    refine DW.sliceG (n:=4) (e:=9) rfl rfl rfl (by first|rfl|kernel_rfl) (by first|rfl|kernel_rfl) (by rw[hE];rfl) (by decide) (by decide) ?_
    refine DW.nil ?_
    rw[hE,mapS1]
    refine LV.lvc ?_
    refine Zy ?_
    refine ZP (ContT_c T extT _ (by decide)) ?_
    refine Zy ?_
    refine hK_ _ _ ?_
    refine Zc (fun hc3=>?_) fun hc3=>?_
    ·
     have hx:¬(l[k]).texts[q]∈extT:=by simpa using hc3
     refine Zp 2 ?_
     refine AWp.ret ?_
     simp only[go_sem]
     rw[ruleE,if_neg (fun h9=>h9 hz),m3,reqE_n hkl hk1 hqt hx];try simp[LeA,LeD]
    have hx:(l[k]).texts[q]∈extT:=by simpa using hc3
    refine Zk ?_
    refine Zm 63 ?_
    refine Zq fun K_ k_=>?_
    refine Zy ?_
    refine DW.mapUpd (b:=b4) (i:=0) (j:=0) (t:=u) (ks:=kz2) (s:=(l[k]).texts[q]) (ob:=⟨1,1,[[.mp u kz2]]⟩) (r:=[.mp u kz2]) rfl rfl Tryz.underlying119 Tryz.underlying9 rfl rfl rfl (by simp) (by simp[getO]) rfl rfl fun t2 ft2=>?_
    refine Zy ?_
    refine k_ _ _ (blkQ_n (thenQ_n ?_))
    refine Zm 59 ?_
    refine Zr (thenQ_n ?_)
    refine Ze 15 16 [] [] [b4] [t2] (.e ⟨_,ZM,q+1,t2,(addK (l[k]).texts[q] kz2),rfl,ZE,ZE,?_,?_,?_⟩)
    · omega
    · exact q2.st hqt
    · exact q3.s hqt hx
   have ha:=q3.e (by omega)
   refine AWp.exit (thenQ_e (thenQ_e (blkQ_e (thenQ_n ?_))))
   refine Zm 3 ?_
   refine Zr (blkQ_n (thenQ_n ?_))
   refine Ze 2 1 [] [] [b4] [u] (.e ⟨_,ZM,k+1,u,(ks++(l[k]).texts),kz2,rfl,?_,ZE,?_,?_,?_⟩)
   · (try simp only[go_sem])<;>first|exact⟨rfl⟩|(constructor;first|(simp;done)|(simp[htk];done))
   · omega
   · exact q2.en (by omega)
   · rw [m3,reqE_s hkl hk1 ha]
  refine AWp.exit (thenQ_e (thenQ_e (blkQ_e (thenQ_n ?_))))
  refine Zx (Zy ?_)
  refine ZA [b4] [t] (jall_c T hL hF b4 t kz (l.drop k) (by simp only[List.length_drop];omega) (fun x hx=>ok x (List.mem_of_mem_drop hx)) (fun x hx=>rd x (List.mem_of_mem_drop hx)) _ _) ?_
  rintro _ _ ⟨rfl,rfl⟩
  refine Zy ?_
  refine Zm 2 ?_
  refine AWp.ret ?_
  simp only[go_sem]
  rw[ruleE,if_neg (fun h9=>h9 hz),m3,reqE_o hkl (by simp at hc1;omega),m2.cmdL];try simp[LeA,LeD]
 have hkL:(0<l.length-k)=False:=by simp;omega
 refine Zp 2051 ?_
 refine Zc (fun hc1=>?_) fun hc1=>?_
 ·
  exact absurd hc1 (by first|(simp;done)|omega|(simp[*];done))
 refine AWp.exit (thenQ_e (thenQ_e (blkQ_e (thenQ_n ?_))))
 refine Zx (Zy ?_)
 refine ZA [b4] [t] (jall_c T hL hF b4 t kz (l.drop k) (by simp only[List.length_drop];omega) (fun x hx=>ok x (List.mem_of_mem_drop hx)) (fun x hx=>rd x (List.mem_of_mem_drop hx)) _ _) ?_
 rintro _ _ ⟨rfl,rfl⟩
 refine Zy ?_
 refine Zm 2 ?_
 refine AWp.ret ?_
 simp only[go_sem]
 rw[ruleE,if_neg (fun h9=>h9 hz),m3,reqE_e hkl,m2.cmdL];try simp[LeA,LeD]
end
section
def numX (l:List Cmd):Nat:=(l.map fun c=>c.texts.length).sum
theorem numX_a (a c:List Cmd):numX (a++c)=numX a+numX c:=by simp[numX]
theorem numX_s {l:List Cmd} {k:Nat} (h:k<l.length):numX (l.take (k+1))=numX (l.take k)+(l[k]).texts.length:=by rw[List.take_succ_eq_append_getElem h,numX_a];simp[numX]
theorem numX_le (l:List Cmd) (k:Nat):numX (l.take k)≤numX l:=by
 have:=numX_a (l.take k) (l.drop k)
 rw[List.take_append_drop] at this
 omega
theorem ext_in {s:List UInt8} (h:s=fileT∨s=rejT∨s=envT∨s=imapT):s∈extT:=by
 rcases h with rfl|rfl|rfl|rfl<;>decide
theorem ext_no {s:List UInt8} (h1:¬s=fileT) (h2:¬s=rejT) (h3:¬s=envT) (h4:¬s=imapT):¬s∈extT:=by
 intro h
 simp only[extT,List.mem_cons,List.not_mem_nil,or_false] at h
 rcases h with h|h|h|h
 ·exact h1 h
 ·exact h2 h
 ·exact h3 h
 ·exact h4 h
attribute [local go_sem] cmdD icast8 strD in
theorem scriptAllowed_c (T:Tbl) (hL:LibT T) (l:List Cmd) (hll:l.length*208≤140737488355328) (ok:∀x∈l,x.Ok) (hl:(lsT l).length≤4398046511104) (rd:chkE l=0→∀x∈l,x.Rd) (hsum:numX l≤1048576):PC Tryz.prog T 30 [.d (.slc 12 (l.map cmdD))] (.d (.int .i64 (ruleE l))):=by
 refine⟨Tryz.call30,PCall.enterS Tryz.func30 rfl Tryz.ntmps30 rfl fun hb=>?_⟩
 simp only[go_sem,Tryz.results30]
 refine Zp 1 ?_
 refine Z1 3 (cmdsFault_c T l hll ok hl) ?_
 refine Zs (Zp 11 ?_)
 refine Zc (fun hc0=>?_) fun hc0=>?_
 ·
  refine Zp 2 ?_
  refine AWp.ret ?_
  simp only[go_sem]
  rw[ruleE,if_pos hc0];try simp[LeA,LeD]
 have hz:chkE l=0:=by omega
 have rd:=rd hz
 refine Zk ?_
 refine Zp 5 ?_
 refine Zp 7 ?_
 refine Zs (AWp.block (Zy ?_))
 refine AWp.ownNilS 4 1 rfl rfl (by decide) fun w0 fw0=>?_
 try simp only[freshT] at fw0
 refine Zy ?_
 refine Zl 1 6 (fun n lc hc=> ∃(k w:Nat) (ks:List (List UInt8)),n=l.length-k∧EqS lc [(4,.own w 1 (ks.map strD)),(5,.d (.int .i64 (k:Nat)))]∧EqS hc (⟨[],[w]⟩)∧(k≤l.length)∧(ks.length=numX (l.take k))∧(reqE [] l=reqE ks (l.drop k))) ?_ ?_
 · refine ⟨_,0,w0,[],rfl,ZE,ZE,?_,?_,?_⟩
   all_goals(first|omega|rfl|(simp[numX];done))
 rintro _ _ _ ⟨k,w,ks,rfl,⟨rfl⟩,⟨rfl⟩,m1,m2,m3⟩
 refine Zy ?_
 refine Zs ?_
 rcases Nat.lt_or_ge k l.length with hkl|hkl
 ·
  have htl:List.take l.length (List.map cmdD l)=List.map cmdD l:=List.take_of_length_le (by simp)
  have hdm:List.drop k (List.map cmdD l)=List.map cmdD (l.drop k):=List.map_drop.symm
  have hkn:ks.length≤1048576:=by have:=numX_le l k;omega
  have hki:((k:Int)<(l.length:Int))=True:=by simp;omega
  have hr2:=(rd _ (List.getElem_mem hkl)).inv.2.1
  have hsl:=numX_s hkl
  have hsl2:=numX_le l (k+1)
  have zf1:=fun d0_=>map_getD cmdD l k d0_ hkl
  refine Zp 16391 ?_
  refine Zc (fun hc1=>?_) fun hc1=>?_
  ·
   have hk1:(l[k]).kind=1:=by first|omega|(simp at hc1;omega)
   refine Zk ?_
   refine AWp.block (Zs (Zp 15 ?_))
   refine AWp.block (Zy ?_)
   refine Zl 5 10 (fun n lc hc=> ∃(q u:Nat),n=(l[k]).texts.length-q∧EqS lc [(4,.own u 1 ((ks++(l[k]).texts.take q).map strD)),(6,.d (.int .i64 (q:Nat)))]∧EqS hc (⟨[],[u]⟩)∧(q≤(l[k]).texts.length)∧(AllX ((l[k]).texts.take q))) ?_ ?_
   · refine ⟨_,0,w,rfl,ZE,ZE,?_,?_⟩
     all_goals(first|omega|exact fun s h9=>by simp at h9)
   rintro _ _ _ ⟨q,u,rfl,⟨rfl⟩,⟨rfl⟩,q1,q3⟩
   refine Zy ?_
   refine Zs (Zp 2063 ?_)
   refine Zc (fun hc2=>?_) fun hc2=>?_
   ·
    have hqt:q<(l[k]).texts.length:=by omega
    have hqi:(q:Int)<((l[k]).texts.length:Int):=by omega
    have zf2:=fun d0_=>map_getD strD (l[k]).texts q d0_ hqt
    refine Zk ?_
    refine Zs (AWp.block (Zp 31 ?_))
    refine Zs (Zp 262175 ?_)
    refine Zc (fun hc3=>?_) fun hc3=>?_
    ·
     have hx:¬(l[k]).texts[q]∈extT:=by obtain⟨⟨⟨h1,h2⟩,h3⟩,h4⟩:=hc3;exact ext_no h1 h2 h3 h4
     refine Zp 2 ?_
     refine AWp.ret ?_
     simp only[go_sem]
     rw[ruleE,if_neg (fun h9=>h9 hz),m3,reqE_n hkl hk1 hqt hx];try simp[LeA,LeD]
    have hx:(l[k]).texts[q]∈extT:=ext_in (by grind)
    refine Zk ?_
    refine Zq fun K_ k_=>?_
    refine Zy ?_
    refine ZW fun t1 ft1=>?_
    try simp only[freshT] at ft1
    refine Zy ?_
    refine k_ _ _ (blkQ_n (thenQ_n ?_))
    refine Zm 15 ?_
    refine Zr (thenQ_n ?_)
    refine Ze 5 10 [] [] [] [t1] (.e ⟨_,ZM,q+1,t1,rfl,?_,ZE,?_,?_⟩)
    · (try simp only[go_sem])<;>first|exact⟨rfl⟩|(constructor;simp only[List.take_succ_eq_append_getElem hqt,List.map_append,List.map_cons,List.map_nil,strD,List.append_assoc])
    · omega
    · exact q3.s hqt hx
   have ha:=q3.e (by omega)
   have htq:(l[k]).texts.take q=(l[k]).texts:=List.take_of_length_le (by omega)
   rw[htq]
   refine AWp.exit (thenQ_e (thenQ_e (blkQ_e (thenQ_n ?_))))
   refine Zr (blkQ_n (thenQ_n ?_))
   refine Ze 1 6 [] [] [] [u] (.e ⟨_,ZM,k+1,u,(ks++(l[k]).texts),rfl,ZE,ZE,?_,?_,?_⟩)
   · omega
   · rw [List.length_append,m2,numX_s hkl]
   · rw [m3,reqE_s hkl hk1 ha]
  refine AWp.exit (thenQ_e (thenQ_e (blkQ_e (thenQ_n ?_))))
  refine Z1 2 (lallow_c T hL ks hkn (l.drop k) (by simp only[List.length_drop];omega) (fun x hx=>ok x (List.mem_of_mem_drop hx)) (fun x hx=>rd x (List.mem_of_mem_drop hx))) ?_
  refine AWp.ret ?_
  simp only[go_sem]
  rw[ruleE,if_neg (fun h9=>h9 hz),m3,reqE_o hkl (by first|omega|(simp at hc1;omega))];try simp[LeA,LeD]
 have htl:List.take l.length (List.map cmdD l)=List.map cmdD l:=List.take_of_length_le (by simp)
 have hdm:List.drop k (List.map cmdD l)=List.map cmdD (l.drop k):=List.map_drop.symm
 have hkn:ks.length≤1048576:=by have:=numX_le l k;omega
 have hki:((k:Int)<(l.length:Int))=False:=by simp;omega
 refine Zp 16391 ?_
 refine Zc (fun hc1=>?_) fun hc1=>?_
 ·
  exact absurd hc1 (by first|(simp;done)|omega|(simp[*];done))
 refine AWp.exit (thenQ_e (thenQ_e (blkQ_e (thenQ_n ?_))))
 refine Z1 2 (lallow_c T hL ks hkn (l.drop k) (by simp only[List.length_drop];omega) (fun x hx=>ok x (List.mem_of_mem_drop hx)) (fun x hx=>rd x (List.mem_of_mem_drop hx))) ?_
 refine AWp.ret ?_
 simp only[go_sem]
 rw[ruleE,if_neg (fun h9=>h9 hz),m3,reqE_e hkl];try simp[LeA,LeD]
end
section
open Go.RowKit
theorem sumF_le {α:Type} (f:α→Nat) {l:List α} {x:α} (h:x∈l):f x≤(l.map f).sum:=by
 induction l with
 |nil=>simp at h
 |cons a l ih=>
  rw[List.map_cons,List.sum_cons]
  rcases List.mem_cons.1 h with rfl|h
  ·omega
  ·have:=ih h;omega
theorem okC_texts {c:Cmd} (h:okC c=true) (hk:c.kind=5∨c.kind=6):0<c.texts.length:=by
 rw[okC_eq] at h
 simp only[Bool.and_eq_true] at h
 have h:=h.2
 rw[if_neg (by omega),if_pos (by simp[inB];omega)] at h
 simp at h
 omega
theorem okC_flat {c:Cmd} (h:okC c=true):c.thn=[]∧c.els=[]:=by
 rw[okC_eq] at h
 simp only[Bool.and_eq_true,decide_eq_true_eq] at h
 exact⟨List.eq_nil_of_length_eq_zero h.1.1.2,List.eq_nil_of_length_eq_zero h.1.2⟩
theorem Cmd.rd_of (c:Cmd):csz c≤1048576→∀d:Int,cF c d=0→c.Rd:=by
 induction c using Cmd.ind with
 | h c i1 i2=>
  intro h d hc
  rw[csz_eq] at h
  have h1:=strs_len c.texts
  obtain⟨_,hif,hno⟩:=cF_ok hc
  have hs:∀s∈c.texts,s.length≤1048576:=fun s hs=>by
   have:=sumF_le (fun s:Str=>s.length+1) hs
   omega
  by_cases hk:c.kind=2
  ·obtain⟨_,ha,hb,he⟩:=hif hk
   refine⟨fun h9=>by omega,by omega,hs,fun x hx=>i1 x hx (by have:=csz_mem hx;omega) _ (ha x hx),fun x hx=>?_⟩
   cases hel:elsifC c with
   |true=>exact i2 x hx (by have:=csz_mem hx;omega) _ (hb hel x hx)
   |false=>exact i2 x hx (by have:=csz_mem hx;omega) _ (he hel x hx)
  ·have ho:=hno hk
   obtain⟨e1,e2⟩:=okC_flat ho
   exact⟨okC_texts ho,by omega,hs,fun x hx=>by rw[e1] at hx;simp at hx,fun x hx=>by rw[e2] at hx;simp at hx⟩
theorem numX_sz (l:List Cmd):numX l≤cszL l:=by
 induction l with
 |nil=>simp[numX,cszL]
 |cons c l ih=>
  have h1:=strs_len c.texts
  have h2:=csz_eq c
  rw[cszL]
  simp only[numX,List.map_cons,List.sum_cons] at ih⊢
  omega
structure Szd (l:List Cmd):Prop where
 hll:l.length*208≤140737488355328
 ok:∀x∈l,x.Ok
 hl:(lsT l).length≤4398046511104
 rd:chkE l=0→∀x∈l,x.Rd
 hx:numX l≤1048576
theorem Szd.of {l:List Cmd} (h:cszL l≤1048576):Szd l:=by
 have hn:=cmds_len l
 have hs:=lsT_len l
 have hx:=numX_sz l
 refine⟨by omega,fun x hx=>Cmd.ok_of x (by have:=csz_mem hx;omega),by omega,fun hz x hx=>?_,by omega⟩
 unfold chkE at hz
 split at hz
 ·rename_i h9
  exact Cmd.rd_of x (by have:=csz_mem hx;omega) 0 (cFL_mem _ _ h9 x hx)
 ·omega
end
section
inductive JC:Cmd→Prop where
 |mk {c:Cmd} (h5:c.kind=5∨c.kind=7→∃s,c.texts=[s]) (h6:c.kind=6→∃s p,c.texts=[s]∧(listR s).1=[p]∧adrE p.1 p.2=0∧s.length≤1048576) (h0:¬(c.kind=1∨c.kind=2∨c.kind=5∨c.kind=6∨c.kind=7∨c.kind=8∨c.kind=9)→c.texts=[]) (hn:c.texts.length≤1048576) (ht:c.kind=2→JT c.test) (ha:∀x∈c.thn,JC x) (he:∀x∈c.els,JC x):JC c
theorem JC.inv {c:Cmd} (h:JC c):(c.kind=5∨c.kind=7→∃s,c.texts=[s])∧(c.kind=6→∃s p,c.texts=[s]∧(listR s).1=[p]∧adrE p.1 p.2=0∧s.length≤1048576)∧(¬(c.kind=1∨c.kind=2∨c.kind=5∨c.kind=6∨c.kind=7∨c.kind=8∨c.kind=9)→c.texts=[])∧c.texts.length≤1048576∧(c.kind=2→JT c.test)∧(∀x∈c.thn,JC x)∧∀x∈c.els,JC x:=by
 cases h;exact⟨by assumption,by assumption,by assumption,by assumption,by assumption,by assumption,by assumption⟩
theorem cmdEL_0 {ks:List Tx} :∀{l:List Cmd},cmdEL ks l=0→∀x∈l,cmdE ks x=0
 |[],_,x,hx=>by cases hx
 | c::l,h,x,hx=>by
  rw[cmdEL] at h
  split at h
  ·contradiction
  ·rename_i h9
   rcases List.mem_cons.1 hx with rfl|hx
   ·omega
   ·exact cmdEL_0 h x hx
theorem JC.of (ks:List Tx) (c:Cmd):c.Rd→∀d:Int,cF c d=0→(c.kind=1∨cmdE ks c=0)→JC c:=by
 induction c using Cmd.ind with
 | h c i1 i2=>
  intro rd d hc hk
  obtain⟨hr1,hr2,hr3,hr4,hr5⟩:=rd.inv
  obtain⟨_,hif,hno⟩:=cF_ok hc
  by_cases h2:c.kind=2
  ·obtain⟨ht,ha,hb,he⟩:=hif h2
   have hk:cmdE ks c=0:=by rcases hk with h9|h9;omega;exact h9
   rw[cmdE_eq,if_neg (by omega),if_pos h2] at hk
   split at hk
   ·contradiction
   rename_i k1
   split at hk
   ·contradiction
   rename_i k2
   have k1:tstE ks c.test=0:=by omega
   have k2:cmdEL ks c.thn=0:=by omega
   refine⟨fun h9=>by omega,fun h9=>by omega,fun h9=>by omega,hr2,fun _=>JT.of ks _ 1 ht k1,fun x hx=>i1 x hx (hr4 x hx) _ (ha x hx) (.inr (cmdEL_0 k2 x hx)),fun x hx=>?_⟩
   cases hel:elsifC c with
   |true=>exact i2 x hx (hr5 x hx) _ (hb hel x hx) (.inr (cmdEL_0 hk x hx))
   |false=>exact i2 x hx (hr5 x hx) _ (he hel x hx) (.inr (cmdEL_0 hk x hx))
  ·have ho:=hno h2
   obtain⟨e1,e2⟩:=okC_flat ho
   rw[okC_eq] at ho
   simp only[Bool.and_eq_true] at ho
   have ho:=ho.2
   have one:c.kind=5∨c.kind=6∨c.kind=7→∃s,c.texts=[s]:=fun h9=>by
    rw[if_neg (by omega),if_pos (by simp[inB];omega)] at ho
    exact List.length_eq_one_iff.1 (of_decide_eq_true ho)
   refine⟨fun h9=>one (by omega),fun h9=>?_,fun h9=>?_,hr2,fun h9=>by omega,fun x hx=>by rw[e1] at hx;simp at hx,fun x hx=>by rw[e2] at hx;simp at hx⟩
   ·obtain⟨s,hs⟩:=one (by omega)
    have hk:cmdE ks c=0:=by rcases hk with h9|h9;omega;exact h9
    rw[cmdE_eq,if_neg (by omega),if_neg h2,if_neg (by omega),if_neg (by omega),if_neg (by omega),if_pos h9,hs,toE] at hk
    split at hk
    ·rename_i h8
     obtain⟨p,hp⟩:=List.length_eq_one_iff.1 h8.2
     exact⟨s,p,hs,hp,listR_ad s p (by rw[show(listR s).1=[p] from hp];exact List.mem_singleton.2 rfl),hr3 s (by rw[hs];exact List.mem_singleton.2 rfl)⟩
    ·omega
   ·rw[if_neg (by omega),if_neg (by simp[inB];omega)] at ho
    exact List.eq_nil_of_length_eq_zero (of_decide_eq_true ho)
def actOf (fl:Int) (x:Cmd):AcS:=
 if x.kind=5 then⟨x.kind,x.texts.headD [],fl⟩
 else if x.kind=3 then⟨x.kind,[],fl⟩
 else if x.kind=6 then⟨x.kind,prtT 1 ((listR (x.texts.headD [])).1.headD ([],[])),0⟩
 else if x.kind=7 then⟨x.kind,x.texts.headD [],0⟩
 else⟨x.kind,[],0⟩
def doC (c:Co) (x:Cmd):Co×Bool:=
 if x.kind=10 then(c,false)
 else if x.kind=8 then(⟨c.a,(flR x.texts).1,c.ak,c.ft⟩,true)
 else if x.kind=9 then(⟨c.a,orF c.fl (flR x.texts).1,c.ak,c.ft⟩,true)
 else if x.kind=1 then(c,true)
 else addC c (actOf c.fl x)
theorem doC_10 {c:Co} {x:Cmd} (h:x.kind=10):doC c x=(c,false):=if_pos h
theorem doC_8 {c:Co} {x:Cmd} (h:x.kind=8):doC c x=(⟨c.a,(flR x.texts).1,c.ak,c.ft⟩,true):=by rw[doC,if_neg (by omega),if_pos h]
theorem doC_9 {c:Co} {x:Cmd} (h:x.kind=9):doC c x=(⟨c.a,orF c.fl (flR x.texts).1,c.ak,c.ft⟩,true):=by rw[doC,if_neg (by omega),if_neg (by omega),if_pos h]
theorem doC_1 {c:Co} {x:Cmd} (h:x.kind=1):doC c x=(c,true):=by rw[doC,if_neg (by omega),if_neg (by omega),if_neg (by omega),if_pos h]
theorem doC_a {c:Co} {x:Cmd} (h1:¬x.kind=10) (h2:¬x.kind=8) (h3:¬x.kind=9) (h4:¬x.kind=1):doC c x=addC c (actOf c.fl x):=by rw[doC,if_neg h1,if_neg h2,if_neg h3,if_neg h4]
theorem actOf_5 {fl:Int} {x:Cmd} {s:Tx} (h:x.kind=5) (hs:x.texts=[s]):actOf fl x=⟨5,s,fl⟩:=by rw[actOf,if_pos h,hs,h];rfl
theorem actOf_3 {fl:Int} {x:Cmd} (h:x.kind=3):actOf fl x=⟨3,[],fl⟩:=by rw[actOf,if_neg (by omega),if_pos h,h]
theorem actOf_6 {fl:Int} {x:Cmd} {s:Tx} {p:Ad} (h:x.kind=6) (hs:x.texts=[s]) (hp:(listR s).1=[p]):actOf fl x=⟨6,prtT 1 p,0⟩:=by
 rw[actOf,if_neg (by omega),if_neg (by omega),if_pos h,hs,h,show([s]:List Tx).headD []=s from rfl,hp];rfl
theorem actOf_7 {fl:Int} {x:Cmd} {s:Tx} (h:x.kind=7) (hs:x.texts=[s]):actOf fl x=⟨7,s,0⟩:=by rw[actOf,if_neg (by omega),if_neg (by omega),if_neg (by omega),if_pos h,hs,h];rfl
theorem actOf_o {fl:Int} {x:Cmd} (h1:¬x.kind=5) (h2:¬x.kind=3) (h3:¬x.kind=6) (h4:¬x.kind=7):actOf fl x=⟨x.kind,[],0⟩:=by rw[actOf,if_neg h1,if_neg h2,if_neg h3,if_neg h4]
end
section
attribute [local go_sem] cmdA cmdD tstA tstD List.map_cons List.map_nil List.cons_append List.nil_append acA icast8 strD adsD adD adsV in
theorem do_c (T:Tbl) (hL:LibT T) (hF:T 2=flagT.map D.str) (w bb cc:Nat) (c:Co) (F:List (Nat×Ob)) (L:List Nat) (hX:cc=0→c.a=[]) (hlX:c.a.length≤1000000) (z:Cmd) (ok:z.Ok) (jc:JC z) (hif:¬z.kind=2):AC Tryz.prog T 79 [.ptr w 4 0 0,.agg (cmdA z)] (⟨crO w bb cc c F,L⟩) (fun x h=> ∃b2 c2,(c2=0→(doC c z).1.a=[])∧x= .ret (.d (.bool (doC c z).2))∧h=⟨crO w b2 c2 (doC c z).1 F,L⟩):=by
 refine⟨Tryz.call79,ACalls.enterS Tryz.func79 rfl Tryz.ntmps79 rfl fun hb=>?_⟩
 obtain⟨X,fl,ak,ft⟩:=c
 dsimp only at hX hlX
 obtain⟨s1,s2,s3,s4,s5,s6⟩:=ok.inv
 obtain⟨j5,j6,j0,jn,jt,ja,je⟩:=jc.inv
 simp only[crO]
 simp only[go_sem,Tryz.results79]
 refine Zx ?_
 try simp only[go_sem]
 (repeat(with_reducible refine And.intro ZS ?_))
 intro b3
 first|intro fb3|have fb3:=True.intro
 try simp only[freshL] at fb3
 try simp only[go_sem,fb3]
 (repeat(with_reducible refine And.intro ZS ?_))
 refine Zx ?_
 try simp only[go_sem,fb3]
 (repeat(with_reducible refine And.intro ZS ?_))
 intro b5
 first|intro fb5|have fb5:=True.intro
 try simp only[freshL] at fb5
 try simp only[go_sem,fb3,fb5]
 (repeat(with_reducible refine And.intro ZS ?_))
 refine Zm 21 ?_
 refine Zs (Zp 23 ?_)
 refine AWp.block (Zp 31 ?_)
 refine Zc (fun hc0=>?_) fun hc0=>?_
 ·
  have e:doC ⟨X,fl,ak,ft⟩ z=(⟨X,fl,ak,ft⟩,false):=doC_10 hc0
  refine Zp 4 ?_
  refine AWp.ret ?_
  try simp only[thenQ,blkQ]
  apply endW_r [b3,b5] [] [w] [] (by(try simp only[go_sem,fb3,fb5])<;>rfl)
  · exact ⟨bb,cc,by rw[e];exact hX,rfl,by rw[e];first|rfl|(simp only[go_sem,crO,fb3,fb5];done)|(simp only[go_sem,crO,fb3,fb5];rfl)⟩
  · simp [LeA,LeD,e]
 refine Zp 47 ?_
 refine Zc (fun hc1=>?_) fun hc1=>?_
 ·
  have e:doC ⟨X,fl,ak,ft⟩ z=(⟨X,(flR z.texts).1,ak,ft⟩,true):=doC_8 hc1
  refine Z1 0 (flags_v T hF z.texts jn) ?_
  refine Zp 1 ?_
  refine AWp.ret ?_
  try simp only[thenQ,blkQ]
  apply endW_r [b3,b5] [] [w] [] (by(try simp only[go_sem,fb3,fb5])<;>rfl)
  · exact ⟨bb,cc,by rw[e];exact hX,rfl,by rw[e];first|rfl|(simp only[go_sem,crO,fb3,fb5];done)|(simp only[go_sem,crO,fb3,fb5];rfl)⟩
  · simp [LeA,LeD,e]
 refine Zp 47 ?_
 refine Zc (fun hc2=>?_) fun hc2=>?_
 ·
  have e:doC ⟨X,fl,ak,ft⟩ z=(⟨X,orF fl (flR z.texts).1,ak,ft⟩,true):=doC_9 hc2
  refine Z1 9 (flags_v T hF z.texts jn) ?_
  refine Zp 0 ?_
  refine Zp 1 ?_
  refine AWp.ret ?_
  try simp only[thenQ,blkQ]
  apply endW_r [b3,b5] [] [w] [] (by(try simp only[go_sem,fb3,fb5])<;>rfl)
  · exact ⟨bb,cc,by rw[e];exact hX,rfl,by rw[e];first|rfl|(simp only[go_sem,crO,fb3,fb5];done)|(simp only[go_sem,crO,fb3,fb5];rfl)⟩
  · simp [LeA,LeD,e]
 refine Zp 47 ?_
 refine Zc (fun hc3=>?_) fun hc3=>?_
 ·
  have e:doC ⟨X,fl,ak,ft⟩ z=(⟨X,fl,ak,ft⟩,true):=doC_1 hc3
  refine Zp 4 ?_
  refine AWp.ret ?_
  try simp only[thenQ,blkQ]
  apply endW_r [b3,b5] [] [w] [] (by(try simp only[go_sem,fb3,fb5])<;>rfl)
  · exact ⟨bb,cc,by rw[e];exact hX,rfl,by rw[e];first|rfl|(simp only[go_sem,crO,fb3,fb5];done)|(simp only[go_sem,crO,fb3,fb5];rfl)⟩
  · simp [LeA,LeD,e]
 refine Zp 47 ?_
 refine Zc (fun hc4=>?_) fun hc4=>?_
 ·
  obtain⟨s,hs⟩:=j5 (by omega)
  have e:doC ⟨X,fl,ak,ft⟩ z=addC ⟨X,fl,ak,ft⟩ ⟨5,s,fl⟩:=(doC_a hc0 hc1 hc2 hc3).trans (by rw[actOf_5 hc4 hs])
  refine AWp.tree true (.seg 0 (.seg 1 (.seg 2 (.seg 3 (.seg 4 (.seg 5 (.seg 6 (.seg 7 (.seg 9 (.many (.alt 8 (.seg 10 (.seg 11 (.seg 12 (.done)))) (.alt 10 (.seg 8 (.seg 11 (.seg 12 (.done)))) (.nil))))))))))))) rfl (by kernel_rfl) fun K_ hK_=>?_
  try simp only[go_sem,fb3,fb5,hs,hc4]
  (repeat(with_reducible refine And.intro ZS ?_))
  refine hK_ _ _ ?_
  refine blkQ_n (thenQ_n ?_)
  refine Zm 5 ?_
  refine Zx ?_
  try simp only[go_sem,fb3,fb5,hs,hc4]
  (repeat(with_reducible refine And.intro ZS ?_))
  refine DW.acl rfl rfl rfl rfl (LeH.pm (cr_in [_,_] w bb cc ⟨X,fl,ak,ft⟩ F)) (by first|rfl|(simp only[go_sem,fb3,fb5,hs,hc4];done)|(simp only[go_sem,fb3,fb5,hs,hc4];rfl)) (add_c T w bb cc ⟨X,fl,ak,ft⟩ _ _ hX hlX (⟨5,s,fl⟩:AcS)) ?_
  rintro _ _ ⟨BB1,CC2,hCC2,rfl,rfl⟩
  try simp only[go_sem,fb3,fb5,hs,hc4]
  (repeat(with_reducible refine And.intro ZS ?_))
  refine Zm 2 ?_
  refine Zy ?_
  refine AWp.pm (cr_out [_,_] ..) ?_
  simp only[List.cons_append,List.nil_append]
  refine AWp.ret ?_
  try simp only[thenQ,blkQ]
  apply endW_r [b3,b5] [] [w] [] (by(try simp only[go_sem,fb3,fb5,hs,hc4])<;>rfl)
  · exact ⟨BB1,CC2,by rw[e];exact hCC2,rfl,by rw[e];first|rfl|(simp only[go_sem,crO,fb3,fb5,hs,hc4];done)|(simp only[go_sem,crO,fb3,fb5,hs,hc4];rfl)⟩
  · simp [LeA,LeD,e]
 refine Zp 47 ?_
 refine Zc (fun hc5=>?_) fun hc5=>?_
 ·
  have e:doC ⟨X,fl,ak,ft⟩ z=addC ⟨X,fl,ak,ft⟩ ⟨3,[],fl⟩:=(doC_a hc0 hc1 hc2 hc3).trans (by rw[actOf_3 hc5])
  refine Zr (blkQ_n (thenQ_n ?_))
  refine Zm 5 ?_
  refine Zx ?_
  try simp only[go_sem,fb3,fb5,hc5]
  (repeat(with_reducible refine And.intro ZS ?_))
  refine DW.acl rfl rfl rfl rfl (LeH.pm (cr_in [_,_] w bb cc ⟨X,fl,ak,ft⟩ F)) (by first|rfl|(simp only[go_sem,fb3,fb5,hc5];done)|(simp only[go_sem,fb3,fb5,hc5];rfl)) (add_c T w bb cc ⟨X,fl,ak,ft⟩ _ _ hX hlX (⟨3,[],fl⟩:AcS)) ?_
  rintro _ _ ⟨BB3,CC4,hCC4,rfl,rfl⟩
  try simp only[go_sem,fb3,fb5,hc5]
  (repeat(with_reducible refine And.intro ZS ?_))
  refine Zm 2 ?_
  refine Zy ?_
  refine AWp.pm (cr_out [_,_] ..) ?_
  simp only[List.cons_append,List.nil_append]
  refine AWp.ret ?_
  try simp only[thenQ,blkQ]
  apply endW_r [b3,b5] [] [w] [] (by(try simp only[go_sem,fb3,fb5,hc5])<;>rfl)
  · exact ⟨BB3,CC4,by rw[e];exact hCC4,rfl,by rw[e];first|rfl|(simp only[go_sem,crO,fb3,fb5,hc5];done)|(simp only[go_sem,crO,fb3,fb5,hc5];rfl)⟩
  · simp [LeA,LeD,e]
 refine Zp 47 ?_
 refine Zc (fun hc6=>?_) fun hc6=>?_
 ·
  obtain⟨s,⟨al,ad⟩,hs,hp,ha0,hsl⟩:=j6 hc6
  have e:doC ⟨X,fl,ak,ft⟩ z=addC ⟨X,fl,ak,ft⟩ ⟨6,prtT 1 (al,ad),0⟩:=(doC_a hc0 hc1 hc2 hc3).trans (by rw[actOf_6 hc6 hs hp])
  refine Z1 13 (List_c T hL s) ?_
  refine Zq fun K_ k_=>?_
  try simp only[go_sem,fb3,fb5,hs,hp,hc6]
  (repeat(with_reducible refine And.intro ZS ?_))
  refine DW.pcr rfl rfl rfl rfl (WPart_c T hL 1 al ad ha0 (by decide)) rfl rfl ?_
  try simp only[go_sem,fb3,fb5,hs,hp,hc6]
  (repeat(with_reducible refine And.intro ZS ?_))
  refine k_ _ _ (blkQ_n (thenQ_n ?_))
  refine Zm 3 ?_
  refine Zx ?_
  try simp only[go_sem,fb3,fb5,hs,hp,hc6]
  (repeat(with_reducible refine And.intro ZS ?_))
  refine DW.acl rfl rfl rfl rfl (LeH.pm (cr_in [_,_] w bb cc ⟨X,fl,ak,ft⟩ F)) (by first|rfl|(simp only[go_sem,fb3,fb5,hs,hp,hc6];done)|(simp only[go_sem,fb3,fb5,hs,hp,hc6];rfl)) (add_c T w bb cc ⟨X,fl,ak,ft⟩ _ _ hX hlX (⟨6,prtT 1 (al,ad),0⟩:AcS)) ?_
  rintro _ _ ⟨BB5,CC6,hCC6,rfl,rfl⟩
  try simp only[go_sem,fb3,fb5,hs,hp,hc6]
  (repeat(with_reducible refine And.intro ZS ?_))
  refine Zm 2 ?_
  refine Zy ?_
  refine AWp.pm (cr_out [_,_] ..) ?_
  simp only[List.cons_append,List.nil_append]
  refine AWp.ret ?_
  try simp only[thenQ,blkQ]
  apply endW_r [b3,b5] [] [w] [] (by(try simp only[go_sem,fb3,fb5,hs,hp,hc6])<;>rfl)
  · exact ⟨BB5,CC6,by rw[e];exact hCC6,rfl,by rw[e];first|rfl|(simp only[go_sem,crO,fb3,fb5,hs,hp,hc6];done)|(simp only[go_sem,crO,fb3,fb5,hs,hp,hc6];rfl)⟩
  · simp [LeA,LeD,e]
 refine Zp 39 ?_
 refine Zc (fun hc7=>?_) fun hc7=>?_
 ·
  obtain⟨s,hs⟩:=j5 (by omega)
  have e:doC ⟨X,fl,ak,ft⟩ z=addC ⟨X,fl,ak,ft⟩ ⟨7,s,0⟩:=(doC_a hc0 hc1 hc2 hc3).trans (by rw[actOf_7 hc7 hs])
  refine Zr (blkQ_n (thenQ_n ?_))
  refine Zm 5 ?_
  refine Zx ?_
  try simp only[go_sem,fb3,fb5,hs,hc7]
  (repeat(with_reducible refine And.intro ZS ?_))
  refine DW.acl rfl rfl rfl rfl (LeH.pm (cr_in [_,_] w bb cc ⟨X,fl,ak,ft⟩ F)) (by first|rfl|(simp only[go_sem,fb3,fb5,hs,hc7];done)|(simp only[go_sem,fb3,fb5,hs,hc7];rfl)) (add_c T w bb cc ⟨X,fl,ak,ft⟩ _ _ hX hlX (⟨7,s,0⟩:AcS)) ?_
  rintro _ _ ⟨BB7,CC8,hCC8,rfl,rfl⟩
  try simp only[go_sem,fb3,fb5,hs,hc7]
  (repeat(with_reducible refine And.intro ZS ?_))
  refine Zm 2 ?_
  refine Zy ?_
  refine AWp.pm (cr_out [_,_] ..) ?_
  simp only[List.cons_append,List.nil_append]
  refine AWp.ret ?_
  try simp only[thenQ,blkQ]
  apply endW_r [b3,b5] [] [w] [] (by(try simp only[go_sem,fb3,fb5,hs,hc7])<;>rfl)
  · exact ⟨BB7,CC8,by rw[e];exact hCC8,rfl,by rw[e];first|rfl|(simp only[go_sem,crO,fb3,fb5,hs,hc7];done)|(simp only[go_sem,crO,fb3,fb5,hs,hc7];rfl)⟩
  · simp [LeA,LeD,e]
 have e:doC ⟨X,fl,ak,ft⟩ z=addC ⟨X,fl,ak,ft⟩ ⟨z.kind,[],0⟩:=(doC_a hc0 hc1 hc2 hc3).trans (by rw[actOf_o hc4 hc5 hc6 hc7])
 refine AWp.skip (blkQ_n (thenQ_n ?_))
 refine Zx ?_
 try simp only[go_sem,fb3,fb5]
 (repeat(with_reducible refine And.intro ZS ?_))
 refine DW.acl rfl rfl rfl rfl (LeH.pm (cr_in [_,_] w bb cc ⟨X,fl,ak,ft⟩ F)) (by first|rfl|(simp only[go_sem,fb3,fb5];done)|(simp only[go_sem,fb3,fb5];rfl)) (add_c T w bb cc ⟨X,fl,ak,ft⟩ _ _ hX hlX (⟨z.kind,[],0⟩:AcS)) ?_
 rintro _ _ ⟨BB9,CC10,hCC10,rfl,rfl⟩
 try simp only[go_sem,fb3,fb5]
 (repeat(with_reducible refine And.intro ZS ?_))
 refine Zm 4 ?_
 refine Zy ?_
 refine AWp.pm (cr_out [_,_] ..) ?_
 simp only[List.cons_append,List.nil_append]
 refine AWp.ret ?_
 try simp only[thenQ,blkQ]
 apply endW_r [b3,b5] [] [w] [] (by(try simp only[go_sem,fb3,fb5])<;>rfl)
 · exact ⟨BB9,CC10,by rw[e];exact hCC10,rfl,by rw[e];first|rfl|(simp only[go_sem,crO,fb3,fb5];done)|(simp only[go_sem,crO,fb3,fb5];rfl)⟩
 · simp [LeA,LeD,e]
end
end Go.Proofs.YtidldcfpmehpiaaGreatDoor
