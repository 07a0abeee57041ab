/- Texts that the laws rest on, packed. -/
import Derived.Test.YthhfbolhlbgbgaaDoorGW
import Derived.Test.YthhfbolhlbgbgaaDoorGB
namespace Go.Proofs.YthhfbolhlbgbgaaDoor
set_option linter.unusedSimpArgs false
set_option linter.unusedVariables false
def btD (b : Bt) : List D := [.str b.text, .bool b.run, .bool b.quo, .bool b.apart]
def btsD (l : List Bt) : List (List D) := l.map btD
@[go_sem] theorem btsD_len (l : List Bt) : (btsD l).length = l.length := by simp [btsD]
theorem btsD_get (l : List Bt) (i : Nat) (d : List D) (h : i < l.length) : (btsD l).getD i d = btD (l[i]'h) := map_getD btD _ _ _ h
theorem btsD_none (l : List Bt) (i : Nat) (h : l.length ≤ i) : (btsD l).getD i [] = [] := by simp [btsD, List.getD, h]
def bitsV : Option (List Bt) → AV
  | some l => .tup [.d (.slc 4 (btsD l)), .d (.bool true)]
  | none => .tup [.any, .d (.bool false)]
theorem take1 {s : Tx} {i : Nat} (h : i < s.length) : (s.take (i + 1)).drop i = [s.getD i 0] := by
  have := take_step h (Nat.le_refl i) []
  simp only [List.append_nil] at this
  rw [← this]
  simp
theorem run_pos {s : Tx} {i e : Nat} (h1 : (s.take e).drop i ++ runS (s.drop e) = runS (s.drop i)) (h2 : runS (s.drop e) = []) (h3 : i < e) (h4 : e ≤ s.length) : runS (s.drop i) ≠ [] := by
  rw [h2, List.append_nil] at h1
  rw [← h1]
  intro e1
  have := congrArg List.length e1
  simp at this
  omega
theorem run_zero {s : Tx} {i e : Nat} (h1 : (s.take e).drop i ++ runS (s.drop e) = runS (s.drop i)) (h2 : runS (s.drop e) = []) (h3 : e ≤ i) (h4 : i < s.length) : runB (s.getD i 0) = false := by
  have h5 : (s.take e).drop i = [] := List.drop_eq_nil_of_le (by simp; omega)
  rw [h2, h5, List.nil_append, drop_cons h4] at h1
  cases e1 : runB (s.getD i 0) with
  | false => rfl
  | true => rw [runS_cons e1] at h1; cases h1
set_option maxRecDepth 4000 in
set_option maxHeartbeats 1000000 in
theorem blank_c (T : Tbl) (c : UInt8) : PC Tryd.prog T 78 [.d (.int .u8 c.toNat)] (.d (.bool (blkB c))) := by
  refine ⟨Tryd.call78, PCall.enterS Tryd.func78 rfl Tryd.ntmps78 rfl fun hb => ?_⟩
  simp only [go_sem, Tryd.results78]
  refine AWp.rs fun K1 hK1 => ?_
  try simp only [go_sem]
  refine hK1 _ _ ?_
  try clear hK1 K1
  refine AWp.rs fun K2 hK2 => ?_
  try simp only [go_sem]
  (repeat (with_reducible refine And.intro ?_ ?_; (exact nfB)))
  refine hK2 _ _ ?_
  try clear hK2 K2
  refine AWp.mask [false, true] rfl ?_
  simp only [go_sem]
  refine AWp.ret ?_
  try simp only [go_sem]
  have e : blkB c = (decide ((c.toNat : Int) = 32) || decide ((c.toNat : Int) = 9)) := by
    unfold blkB
    congr 1 <;> rw [Bool.eq_iff_iff, beq_iff_eq, decide_eq_true_eq]
    · exact (byte_is c 32).symm
    · exact (byte_is c 9).symm
  rw [e]
set_option maxRecDepth 4000 in
set_option maxHeartbeats 1000000 in
theorem bitsOf_c (T : Tbl) (s : Tx) (hs : s.length ≤ 4096) : PC Tryd.prog T 125 [.d (.str s)] (bitsV (bitsS false s)) := by
  refine ⟨Tryd.call125, PCall.enterS Tryd.func125 rfl Tryd.ntmps125 rfl fun hb => ?_⟩
  simp only [go_sem, Tryd.results125]
  refine AWp.rs fun K1 hK1 => ?_
  try simp only [go_sem]
  refine hK1 _ _ ?_
  try clear hK1 K1
  refine AWp.rs fun K2 hK2 => ?_
  try simp only [go_sem]
  refine hK2 _ _ ?_
  try clear hK2 K2
  refine AWp.ownNilS 4 4 rfl rfl (by decide) fun t0 ft0 => ?_
  try simp only [freshT] at ft0
  simp only [go_sem]
  refine AWp.rs fun K3 hK3 => ?_
  try simp only [go_sem]
  refine hK3 _ _ ?_
  try clear hK3 K3
  refine AWp.seq fun K4 hK4 => ?_
  refine AWp.rs fun K5 hK5 => ?_
  try simp only [go_sem]
  refine hK5 _ _ ?_
  try clear hK5 K5
  refine AWp.block ?_
  refine AWp.mask [true, false, false, true, true, true] rfl ?_
  simp only [go_sem]
  refine AWp.loopS [true] [false, true, true, true] (fun n lc hc => ∃ (i v : Nat) (ap : Bool) (Y : List Bt), n = s.length - i ∧ EqS lc [(4, .own v 4 (btsD Y)), (5, .d (.bool ap)), (6, .d (.int .i64 i))] ∧ EqS hc (⟨[], [v]⟩) ∧ (i ≤ s.length) ∧ (Y.length ≤ i) ∧ ((bitsS ap (s.drop i)).map (Y ++ ·) = bitsS false s)) rfl ?_ ?_
  · refine ⟨_, 0, t0, false, [], rfl, ?_, ?_, ?_, ?_, ?_⟩
    · (try simp only [go_sem]) <;> first | exact ⟨rfl⟩ | (constructor; simp [btsD]; done)
    · (try simp only [go_sem, icast, ft0]) <;> first | exact ⟨rfl⟩ | (constructor; simp; done)
    all_goals (first | omega | (simp; done) | (cases bitsS false s <;> rfl))
  · rintro _ _ _ ⟨i, v, ap, Y, rfl, ⟨rfl⟩, ⟨rfl⟩, h1, h2, h3⟩
    simp only [go_sem]
    refine AWp.seq fun K6 hK6 => ?_
    refine AWp.rs fun K7 hK7 => ?_
    try simp only [go_sem]
    refine hK7 _ _ ?_
    try clear hK7 K7
    refine AWp.cond _ rfl (fun hc0 => ?_) (fun hc0 => ?_)
    · skip
      try simp only [decide_eq_true_eq] at hc0
      have hlt : i < s.length := by omega
      have hd := drop_cons hlt
      refine AWp.skip ?_
      refine thenQ_n ?_
      refine hK6 _ _ ?_
      try clear hK6 K6
      refine AWp.mask [true, true, true, true] rfl ?_
      simp only [go_sem]
      refine AWp.block ?_
      refine AWp.seq fun K8 hK8 => ?_
      refine AWp.rs fun K9 hK9 => ?_
      try simp only [go_sem]
      (repeat (with_reducible refine And.intro ?_ ?_; omega))
      refine DW.pcr rfl rfl rfl rfl (blank_c T _) rfl rfl ?_
      try simp only [go_sem]
      refine hK9 _ _ ?_
      try clear hK9 K9
      refine AWp.cond _ rfl (fun hc1 => ?_) (fun hc1 => ?_)
      · skip
        have hst : bitsS ap (s.drop i) = bitsS true (s.drop (i + 1)) := by rw [hd, bits_blank hc1]
        refine AWp.rs fun K10 hK10 => ?_
        try simp only [go_sem]
        refine hK10 _ _ ?_
        try clear hK10 K10
        refine AWp.mask [true, true, true, true] rfl ?_
        simp only [go_sem]
        refine AWp.rs fun K11 hK11 => ?_
        try simp only [go_sem, icast]
        (repeat (with_reducible refine And.intro ?_ ?_; omega))
        refine hK11 _ _ ?_
        try clear hK11 K11
        refine AWp.exit ?_
        refine thenQ_e (blkQ_e (thenQ_n ?_))
        refine EndS.mk [true] [false, true, true, true] [] [] [] [v] rfl ?_ ?_
        · (try simp only [go_sem]) <;> try rfl
        refine .e ⟨_, ?_, (i + 1), v, true, Y, rfl, ?_, ?_, ?_, ?_, ?_⟩
        · first | omega | (simp; omega) | (grind)
        · (try simp only [go_sem]) <;> first | exact ⟨rfl⟩ | (constructor; first | (simp [btsD, btD, take1 hlt]; done) | (simp [btsD, btD]; done))
        · (try simp only [go_sem]) <;> first | exact ⟨rfl⟩ | (constructor; simp; done)
        · omega
        · first | omega | (simp; omega)
        · first | (rw [← h3, hst]; done) | (rw [← h3, hst]; cases bitsS true (s.drop (i + 1)) <;> simp)
      · skip
        refine AWp.skip ?_
        refine thenQ_n ?_
        refine hK8 _ _ ?_
        try clear hK8 K8
        refine AWp.mask [true, true, true, true] rfl ?_
        simp only [go_sem]
        refine AWp.rs fun K12 hK12 => ?_
        try simp only [go_sem]
        refine hK12 _ _ ?_
        try clear hK12 K12
        refine AWp.seq fun K13 hK13 => ?_
        refine AWp.block ?_
        refine AWp.mask [true, true, true, true, true] rfl ?_
        simp only [go_sem]
        refine AWp.loopS [true, true, true, true] [false, false, false, false, true] (fun n lc hc => ∃ (e : Nat), n = s.length - e ∧ EqS lc [(7, .d (.int .i64 e))] ∧ EqS hc (⟨[], [v]⟩) ∧ (i ≤ e) ∧ (e ≤ s.length) ∧ (offS (s.drop e) = offS (s.drop i)) ∧ ((s.take e).drop i ++ runS (s.drop e) = runS (s.drop i))) rfl ?_ ?_
        · refine ⟨_, i, rfl, ?_, ?_, ?_, ?_, ?_, ?_⟩
          · (try simp only [go_sem]) <;> first | exact ⟨rfl⟩ | (constructor; simp; done)
          · (try simp only [go_sem, icast, ft0]) <;> first | exact ⟨rfl⟩ | (constructor; simp; done)
          all_goals (first | omega | rfl | (simp; done))
        · rintro _ _ _ ⟨e, rfl, ⟨rfl⟩, ⟨rfl⟩, g1, g2, g3, g4⟩
          simp only [go_sem]
          refine AWp.seq fun K14 hK14 => ?_
          refine AWp.rs fun K15 hK15 => ?_
          try simp only [go_sem]
          (repeat (with_reducible refine And.intro ?_ ?_; (intro hg; simp at hg ⊢; first | omega | exact hg | grind)))
          refine DW.pcgr rfl rfl rfl rfl rfl (fun hg => atomByte_p T _) (fun hg => by (try simp only [go_sem]) <;> first | exact hg | (exfalso; simp at hg; done) | (simpa using hg) | grind) rfl rfl ?_
          try simp only [go_sem]
          (repeat (with_reducible refine And.intro ?_ ?_; (intro hg; simp at hg ⊢; first | omega | exact hg | grind)))
          refine hK15 _ _ ?_
          try clear hK15 K15
          refine AWp.mask [true, true, true, true, true, false, false, false, false, false, false, false, false, false, false, false, false, false, false, false, true] rfl ?_
          simp only [go_sem]
          refine AWp.cond _ rfl (fun hc2 => ?_) (fun hc2 => ?_)
          · skip
            try simp only [decide_eq_true_eq, Bool.and_eq_true, Bool.or_eq_true] at hc2
            have hrb : ∀ h, runB (s.getD e 0) = true := fun (h : (atomB (s.getD e 0) = true ∨ ((s.getD e 0).toNat : Int) = 46)) => by rw [runB_eq]; simpa using h
            refine AWp.skip ?_
            refine thenQ_n ?_
            refine hK14 _ _ ?_
            try clear hK14 K14
            refine AWp.block ?_
            refine AWp.rk fun K16 hK16 => ?_
            try simp only [go_sem, icast]
            (repeat (with_reducible refine And.intro ?_ ?_; omega))
            refine hK16 _ _ ?_
            try clear hK16 K16
            refine blkQ_n (thenQ_n ?_)
            refine EndS.mkr [true, true, true, true] [false, false, false, false, true] rfl ?_ ?_
            · (try simp only [go_sem]) <;> try rfl
            refine .e ⟨_, ?_, e + 1, rfl, ?_, ?_, ?_, ?_, ?_, ?_⟩
            · first | omega | (simp; omega) | (grind)
            · (try simp only [go_sem]) <;> first | exact ⟨rfl⟩ | (constructor; simp; done)
            · (try simp only [go_sem, icast, ft0]) <;> first | exact ⟨rfl⟩ | (constructor; simp; done)
            · omega
            · omega
            · rw [← (run_step (by omega) (hrb hc2.2)).2]; exact g3
            · rw [(run_step (by omega) (hrb hc2.2)).1, take_step (by omega) g1] at g4; exact g4
          · skip
            try simp only [decide_eq_false_iff_not, Bool.and_eq_false_iff, Bool.or_eq_false_iff, Int.not_lt] at hc2
            have he := run_end (s := s) (j := e) (fun hj => by
              rw [runB_eq]
              rcases hc2 with hc2 | hc2
              · omega
              · simpa using hc2)
            refine AWp.exit ?_
            refine thenQ_e (thenQ_e (blkQ_e (thenQ_n ?_)))
            refine hK13 _ _ ?_
            try clear hK13 K13
            refine AWp.seq fun K17 hK17 => ?_
            refine AWp.rs fun K18 hK18 => ?_
            try simp only [go_sem]
            refine hK18 _ _ ?_
            try clear hK18 K18
            refine AWp.cond _ rfl (fun hc3 => ?_) (fun hc3 => ?_)
            · skip
              try simp only [decide_eq_true_eq] at hc3
              have hrne := run_pos g4 he.1 (by omega) g2
              have hru : runS (s.drop i) = (s.take e).drop i := by rw [← g4, he.1, List.append_nil]
              have hst : bitsS ap (s.drop i) = (bitsS false (s.drop e)).map (⟨(s.take e).drop i, true, false, ap⟩ :: ·) := by rw [bits_runs hrne, hru, ← g3, he.2]
              refine AWp.rs fun K19 hK19 => ?_
              try simp only [go_sem]
              (repeat (with_reducible refine And.intro ?_ ?_; omega))
              refine DW.app rfl rfl rfl rfl (show slI Tryd.prog 171 = some (177, 4, 24) by simp only [go_sem]) rfl rfl (by simp only [go_sem]) (by first | exact .inl rfl | exact .inr rfl) (by (try simp only [go_sem]); omega) (by (try simp only [go_sem]); omega) fun t1 ft1 => ?_
              try simp only [freshT] at ft1
              try simp only [go_sem]
              refine hK19 _ _ ?_
              try clear hK19 K19
              refine AWp.mask [true, true, false, false, true] rfl ?_
              simp only [go_sem]
              refine AWp.rs fun K20 hK20 => ?_
              try simp only [go_sem]
              refine hK20 _ _ ?_
              try clear hK20 K20
              refine AWp.rs fun K21 hK21 => ?_
              try simp only [go_sem]
              refine hK21 _ _ ?_
              try clear hK21 K21
              refine AWp.exit ?_
              refine thenQ_e (blkQ_e (thenQ_n ?_))
              refine EndS.mk [true] [false, true, true, true] [] [] [] [t1] rfl ?_ ?_
              · (try simp only [go_sem]) <;> try rfl
              refine .e ⟨_, ?_, e, t1, false, (Y ++ [⟨(s.take e).drop i, true, false, ap⟩]), rfl, ?_, ?_, ?_, ?_, ?_⟩
              · first | omega | (simp; omega) | (grind)
              · (try simp only [go_sem]) <;> first | exact ⟨rfl⟩ | (constructor; first | (simp [btsD, btD]; done) | (simp [btsD, btD]; done))
              · (try simp only [go_sem]) <;> first | exact ⟨rfl⟩ | (constructor; simp; done)
              · omega
              · first | omega | (simp; omega)
              · first | (rw [← h3, hst]; done) | (rw [← h3, hst]; cases bitsS false (s.drop e) <;> simp)
            · skip
              try simp only [decide_eq_false_iff_not, Int.not_lt] at hc3
              have hru := run_zero g4 he.1 (by omega) hlt
              refine AWp.skip ?_
              refine thenQ_n ?_
              refine hK17 _ _ ?_
              try clear hK17 K17
              refine AWp.mask [true, true, true, true] rfl ?_
              simp only [go_sem]
              refine AWp.seq fun K22 hK22 => ?_
              refine AWp.rs fun K23 hK23 => ?_
              try simp only [go_sem]
              (repeat (with_reducible refine And.intro ?_ ?_; omega))
              refine hK23 _ _ ?_
              try clear hK23 K23
              refine AWp.cond _ rfl (fun hc4 => ?_) (fun hc4 => ?_)
              · skip
                try simp only [decide_eq_false_iff_not, Bool.not_eq_true'] at hc4
                have hne : s.getD i 0 ≠ 34 := fun h => hc4 (by rw [h]; rfl)
                have hst : bitsS ap (s.drop i) = (bitsS false (s.drop (i + 1))).map (⟨[s.getD i 0], false, false, ap⟩ :: ·) := by rw [hd, bits_one hc1 hru hne]
                refine AWp.rs fun K24 hK24 => ?_
                try simp only [go_sem, icast]
                (repeat (with_reducible refine And.intro ?_ ?_; omega))
                refine DW.app rfl rfl rfl rfl (show slI Tryd.prog 171 = some (177, 4, 24) by simp only [go_sem]) rfl rfl (by simp only [go_sem]) (by first | exact .inl rfl | exact .inr rfl) (by (try simp only [go_sem]); omega) (by (try simp only [go_sem]); omega) fun t2 ft2 => ?_
                try simp only [freshT] at ft2
                try simp only [go_sem]
                refine hK24 _ _ ?_
                try clear hK24 K24
                refine AWp.mask [true, true, false, true] rfl ?_
                simp only [go_sem]
                refine AWp.rs fun K25 hK25 => ?_
                try simp only [go_sem]
                refine hK25 _ _ ?_
                try clear hK25 K25
                refine AWp.rs fun K26 hK26 => ?_
                try simp only [go_sem, icast]
                (repeat (with_reducible refine And.intro ?_ ?_; omega))
                refine hK26 _ _ ?_
                try clear hK26 K26
                refine AWp.exit ?_
                refine thenQ_e (blkQ_e (thenQ_n ?_))
                refine EndS.mk [true] [false, true, true, true] [] [] [] [t2] rfl ?_ ?_
                · (try simp only [go_sem]) <;> try rfl
                refine .e ⟨_, ?_, (i + 1), t2, false, (Y ++ [⟨[s.getD i 0], false, false, ap⟩]), rfl, ?_, ?_, ?_, ?_, ?_⟩
                · first | omega | (simp; omega) | (grind)
                · (try simp only [go_sem]) <;> first | exact ⟨rfl⟩ | (constructor; first | (simp [btsD, btD, take1 hlt]; done) | (simp [btsD, btD]; done))
                · (try simp only [go_sem]) <;> first | exact ⟨rfl⟩ | (constructor; simp; done)
                · omega
                · first | omega | (simp; omega)
                · first | (rw [← h3, hst]; done) | (rw [← h3, hst]; cases bitsS false (s.drop (i + 1)) <;> simp)
              · skip
                try simp only [decide_eq_true_eq, Bool.not_eq_false'] at hc4
                have h34 : s.getD i 0 = 34 := (byte_is _ 34).1 hc4
                rw [h34] at hd
                refine AWp.skip ?_
                refine thenQ_n ?_
                refine hK22 _ _ ?_
                try clear hK22 K22
                refine AWp.mask [true, true, true, true] rfl ?_
                simp only [go_sem]
                refine AWp.rs fun K27 hK27 => ?_
                try simp only [go_sem, icast]
                (repeat (with_reducible refine And.intro ?_ ?_; omega))
                refine hK27 _ _ ?_
                try clear hK27 K27
                refine AWp.seq fun K28 hK28 => ?_
                refine AWp.block ?_
                refine AWp.mask [true, true, true, false, true] rfl ?_
                simp only [go_sem]
                refine AWp.loopS [true, true, true] [false, false, false, true] (fun n lc hc => ∃ (e : Nat), n = s.length + 2 - e ∧ EqS lc [(7, .d (.int .i64 e))] ∧ EqS hc (⟨[], [v]⟩) ∧ (i + 1 ≤ e) ∧ (quoS (s.drop e) = quoS (s.drop (i + 1)))) rfl ?_ ?_
                · refine ⟨_, (i + 1), rfl, ?_, ?_, ?_, ?_⟩
                  · (try simp only [go_sem]) <;> first | exact ⟨rfl⟩ | (constructor; simp; done)
                  · (try simp only [go_sem, icast, ft0]) <;> first | exact ⟨rfl⟩ | (constructor; simp; done)
                  all_goals (first | omega | rfl | (simp; done) | (simp; omega) | assumption)
                · rintro _ _ _ ⟨e, rfl, ⟨rfl⟩, ⟨rfl⟩, k1, k2⟩
                  simp only [go_sem]
                  refine AWp.seq fun K29 hK29 => ?_
                  refine AWp.rs fun K30 hK30 => ?_
                  try simp only [go_sem]
                  (repeat (with_reducible refine And.intro ?_ ?_; (intro hg; simp at hg ⊢; first | omega | exact hg | grind)))
                  refine hK30 _ _ ?_
                  try clear hK30 K30
                  refine AWp.mask [true, true, true, true, false, false, false, false, false, false, false, false, false, true] rfl ?_
                  simp only [go_sem]
                  refine AWp.cond _ rfl (fun hc5 => ?_) (fun hc5 => ?_)
                  · skip
                    try simp only [decide_eq_true_eq, decide_eq_false_iff_not, Bool.not_eq_true', Bool.and_eq_true] at hc5
                    have hel : e < s.length := by omega
                    have hed := drop_cons hel
                    have hn34 : s.getD e 0 ≠ 34 := fun h => hc5.2 (by rw [h]; rfl)
                    refine AWp.skip ?_
                    refine thenQ_n ?_
                    refine hK29 _ _ ?_
                    try clear hK29 K29
                    refine AWp.block ?_
                    refine AWp.seq fun K31 hK31 => ?_
                    refine AWp.rs fun K32 hK32 => ?_
                    try simp only [go_sem]
                    (repeat (with_reducible refine And.intro ?_ ?_; omega))
                    refine hK32 _ _ ?_
                    try clear hK32 K32
                    refine AWp.mask [true, true, true, true, false, false, false, false, true] rfl ?_
                    simp only [go_sem]
                    refine AWp.cond _ rfl (fun hc6 => ?_) (fun hc6 => ?_)
                    · skip
                      try simp only [decide_eq_true_eq] at hc6
                      have h92 : s.getD e 0 = 92 := (byte_is _ 92).1 hc6
                      have hsq : quoS (s.drop e) = quoS (s.drop (e + 1 + 1)) := by
                        rw [hed, h92]
                        rcases Nat.lt_or_ge (e + 1) s.length with h | h
                        · rw [drop_cons h, quo_esc]
                        · rw [drop_none h, drop_none (by omega)]; exact quo_esc1
                      refine AWp.rk fun K33 hK33 => ?_
                      try simp only [go_sem, icast]
                      (repeat (with_reducible refine And.intro ?_ ?_; omega))
                      refine hK33 _ _ ?_
                      try clear hK33 K33
                      refine thenQ_n ?_
                      refine hK31 _ _ ?_
                      try clear hK31 K31
                      refine AWp.rk fun K34 hK34 => ?_
                      try simp only [go_sem, icast]
                      (repeat (with_reducible refine And.intro ?_ ?_; omega))
                      refine hK34 _ _ ?_
                      try clear hK34 K34
                      refine blkQ_n (thenQ_n ?_)
                      refine EndS.mkr [true, true, true] [false, false, false, true] rfl ?_ ?_
                      · (try simp only [go_sem]) <;> try rfl
                      refine .e ⟨_, ?_, (e + 1 + 1), rfl, ?_, ?_, ?_, ?_⟩
                      · first | omega | (simp; omega) | (grind)
                      · (try simp only [go_sem]) <;> first | exact ⟨rfl⟩ | (constructor; simp; done)
                      · (try simp only [go_sem, icast, ft0]) <;> first | exact ⟨rfl⟩ | (constructor; simp; done)
                      · omega
                      · rw [← k2]; exact hsq.symm
                    · skip
                      try simp only [decide_eq_false_iff_not] at hc6
                      have hsq : quoS (s.drop e) = quoS (s.drop (e + 1)) := by rw [hed]; exact quo_step hn34 (fun h => hc6 (by rw [h]; rfl))
                      refine AWp.skip ?_
                      refine thenQ_n ?_
                      refine hK31 _ _ ?_
                      try clear hK31 K31
                      refine AWp.rk fun K35 hK35 => ?_
                      try simp only [go_sem, icast]
                      (repeat (with_reducible refine And.intro ?_ ?_; omega))
                      refine hK35 _ _ ?_
                      try clear hK35 K35
                      refine blkQ_n (thenQ_n ?_)
                      refine EndS.mkr [true, true, true] [false, false, false, true] rfl ?_ ?_
                      · (try simp only [go_sem]) <;> try rfl
                      refine .e ⟨_, ?_, (e + 1), rfl, ?_, ?_, ?_, ?_⟩
                      · first | omega | (simp; omega) | (grind)
                      · (try simp only [go_sem]) <;> first | exact ⟨rfl⟩ | (constructor; simp; done)
                      · (try simp only [go_sem, icast, ft0]) <;> first | exact ⟨rfl⟩ | (constructor; simp; done)
                      · omega
                      · rw [← k2]; exact hsq.symm
                  · skip
                    try simp only [decide_eq_true_eq, decide_eq_false_iff_not, Bool.not_eq_false', Bool.and_eq_false_iff, Int.not_lt] at hc5
                    refine AWp.exit ?_
                    refine thenQ_e (thenQ_e (blkQ_e (thenQ_n ?_)))
                    refine hK28 _ _ ?_
                    try clear hK28 K28
                    refine AWp.seq fun K36 hK36 => ?_
                    refine AWp.rs fun K37 hK37 => ?_
                    try simp only [go_sem]
                    refine hK37 _ _ ?_
                    try clear hK37 K37
                    refine AWp.mask [true, true, true, true, false, false, false, false, true] rfl ?_
                    simp only [go_sem]
                    refine AWp.cond _ rfl (fun hc7 => ?_) (fun hc7 => ?_)
                    · skip
                      try simp only [decide_eq_true_eq] at hc7
                      have hq : quoS (s.drop (i + 1)) = none := by rw [← k2, drop_none (by omega)]; rfl
                      refine AWp.rs fun K38 hK38 => ?_
                      try simp only [go_sem]
                      refine hK38 _ _ ?_
                      try clear hK38 K38
                      refine AWp.mask [false, true, true] rfl ?_
                      simp only [go_sem]
                      refine AWp.ret ?_
                      try simp only [go_sem]
                      have hn : bitsS false s = none := by rw [← h3, hd, bits_quoN hq]; rfl
                      rw [hn]; simp [bitsV, LeA, LeL, LeD]
                    · skip
                      try simp only [decide_eq_false_iff_not, Int.not_le] at hc7
                      have hel : e < s.length := by omega
                      have h34e : s.getD e 0 = 34 := (byte_is _ 34).1 (by
                        rcases hc5 with hc5 | hc5
                        · omega
                        · exact hc5)
                      have hq : quoS (s.drop (i + 1)) = some (s.drop (e + 1)) := by rw [← k2, drop_cons hel, h34e, quo_end]
                      have hst : bitsS ap (s.drop i) = (bitsS false (s.drop (e + 1))).map (⟨[], false, true, ap⟩ :: ·) := by rw [hd, bits_quoS hq]
                      refine AWp.skip ?_
                      refine thenQ_n ?_
                      refine hK36 _ _ ?_
                      try clear hK36 K36
                      refine AWp.rs fun K39 hK39 => ?_
                      try simp only [go_sem]
                      refine DW.app rfl rfl rfl rfl (show slI Tryd.prog 171 = some (177, 4, 24) by simp only [go_sem]) rfl rfl (by simp only [go_sem]) (by first | exact .inl rfl | exact .inr rfl) (by (try simp only [go_sem]); omega) (by (try simp only [go_sem]); omega) fun t3 ft3 => ?_
                      try simp only [freshT] at ft3
                      try simp only [go_sem]
                      refine hK39 _ _ ?_
                      try clear hK39 K39
                      refine AWp.mask [true, true, false, true] rfl ?_
                      simp only [go_sem]
                      refine AWp.rs fun K40 hK40 => ?_
                      try simp only [go_sem]
                      refine hK40 _ _ ?_
                      try clear hK40 K40
                      refine AWp.rk fun K41 hK41 => ?_
                      try simp only [go_sem, icast]
                      (repeat (with_reducible refine And.intro ?_ ?_; omega))
                      refine hK41 _ _ ?_
                      try clear hK41 K41
                      refine blkQ_n (thenQ_n ?_)
                      refine EndS.mk [true] [false, true, true, true] [] [] [] [t3] rfl ?_ ?_
                      · (try simp only [go_sem]) <;> try rfl
                      refine .e ⟨_, ?_, (e + 1), t3, false, (Y ++ [⟨[], false, true, ap⟩]), rfl, ?_, ?_, ?_, ?_, ?_⟩
                      · first | omega | (simp; omega) | (grind)
                      · (try simp only [go_sem]) <;> first | exact ⟨rfl⟩ | (constructor; first | (simp [btsD, btD]; done) | (simp [btsD, btD]; done))
                      · (try simp only [go_sem]) <;> first | exact ⟨rfl⟩ | (constructor; simp; done)
                      · omega
                      · first | omega | (simp; omega)
                      · first | (rw [← h3, hst]; done) | (rw [← h3, hst]; cases bitsS false (s.drop (e + 1)) <;> simp)
    · skip
      try simp only [decide_eq_false_iff_not, Int.not_lt] at hc0
      refine AWp.exit ?_
      refine thenQ_e (thenQ_e (blkQ_e (thenQ_n ?_)))
      refine hK4 _ _ ?_
      try clear hK4 K4
      refine AWp.mask [false, true] rfl ?_
      simp only [go_sem]
      refine AWp.rs fun K42 hK42 => ?_
      try simp only [go_sem]
      refine hK42 _ _ ?_
      try clear hK42 K42
      refine AWp.ret ?_
      try simp only [go_sem]
      have hn : bitsS false s = some Y := by rw [← h3, drop_none (by omega), bits_nil]; simp
      rw [hn]; simp [bitsV, LeA, LeL, LeD]
theorem icast2 (n : Nat) : (n : Int) + 2 = ((n + 2 : Nat) : Int) := rfl
theorem icast3 (n : Nat) : (n : Int) + 3 = ((n + 3 : Nat) : Int) := rfl
theorem icast4 (n : Nat) : (n : Int) + 4 = ((n + 4 : Nat) : Int) := rfl
theorem icast5 (n : Nat) : (n : Int) + 5 = ((n + 5 : Nat) : Int) := rfl
def plainV : Option (Ad × List Bt) → AV
  | some (a, _) => .tup [.agg [.d (.str a.1), .d (.str a.2)], .d (.int .i64 3)]
  | none => .tup [.agg [.d (.str []), .d (.str [])], .d (.int .i64 0)]
theorem plain_in {l : List Bt} {i : Nat} (h : i + 2 < l.length) : plainB (l.drop i) = if l[i].run = true ∧ l[i + 1].text = [64] ∧ l[i + 2].run = true ∧ l[i + 1].apart = false ∧ l[i + 2].apart = false ∧ adrE l[i].text l[i + 2].text = 0 then some ((l[i].text, l[i + 2].text), l.drop (i + 3)) else none := by
  rw [List.drop_eq_getElem_cons (by omega : i < l.length), List.drop_eq_getElem_cons (by omega : i + 1 < l.length), List.drop_eq_getElem_cons (by omega : i + 1 + 1 < l.length)]
  rfl
theorem plain_out {l : List Bt} {i : Nat} (h : l.length ≤ i + 2) : plainB (l.drop i) = none := by
  cases e : plainB (l.drop i) with
  | none => rfl
  | some x => obtain ⟨a, t⟩ := x; have := plainB_len e; simp at this; omega
def Short (l : List Bt) : Prop := ∀ x ∈ l, x.text.length ≤ 4096
theorem Short.at {l : List Bt} (h : Short l) {i : Nat} (hi : i < l.length) : (l[i]'hi).text.length ≤ 4096 := h _ (List.getElem_mem hi)
set_option maxRecDepth 4000 in
set_option maxHeartbeats 1000000 in
theorem plainAt_c (T : Tbl) (hL : LibT T) (l : List Bt) (i : Nat) (hs : Short l) (hi : i ≤ 4096) (hl : l.length ≤ 4096) : PC Tryd.prog T 143 [.d (.slc 4 (btsD l)), .d (.int .i64 i)] (plainV (plainB (l.drop i))) := by
  refine ⟨Tryd.call143, PCall.enterS Tryd.func143 rfl Tryd.ntmps143 rfl fun hb => ?_⟩
  simp only [go_sem, Tryd.results143]
  refine AWp.rs fun K1 hK1 => ?_
  try simp only [go_sem, true_and]
  intro b4
  first | intro fb4 | have fb4 := True.intro
  try simp only [freshL] at fb4
  refine hK1 _ _ ?_
  try clear hK1 K1
  refine AWp.seq fun K2 hK2 => ?_
  rcases Nat.lt_or_ge (i + 2) l.length with hlt | hlt
  · skip
    have hge : ((l.length : Int) ≤ ((i + 2 : Nat) : Int)) = False := by simp; omega
    have e0 := btsD_get l i [] (by omega)
    have e1 := btsD_get l (i + 1) [] (by omega)
    have e2 := btsD_get l (i + 2) [] (by omega)
    refine AWp.rs fun K3 hK3 => ?_
    try simp only [go_sem, icast, icast2, decide_false, Bool.false_or, Bool.false_eq_true, false_imp_iff, and_true, true_and, btsD_get l i _ (by omega), btsD_get l (i + 1) _ (by omega), btsD_get l (i + 2) _ (by omega), btD, hge]
    (repeat (with_reducible refine And.intro ?_ ?_; (first | omega | (exact nfB) | (intro hg; refine ⟨hg, ?_⟩; omega))))
    refine hK3 _ _ ?_
    try clear hK3 K3
    refine AWp.mask [true, true, true, false, false, false, false, false, false, false, false, false, false, false, false, false, false, false, false, false, false, false, false, false, false, false, false, false, false, false, false, false, false, false, false, false, false, false, false, false, false, false, false, false, false, false, false, false, false, false, true] rfl ?_
    simp only [go_sem]
    refine AWp.cond _ rfl (fun hc0 => ?_) (fun hc0 => ?_)
    · skip
      try simp only [decide_eq_false_iff_not, Bool.not_eq_true', Bool.or_eq_true] at hc0
      refine AWp.rs fun K4 hK4 => ?_
      try simp only [go_sem, and_true, true_and]
      refine hK4 _ _ ?_
      try clear hK4 K4
      refine AWp.mask [false, false, true, true] rfl ?_
      simp only [go_sem]
      refine AWp.ret ?_
      try simp only [go_sem, and_true]
      first | (rw [plain_out hlt]; simp [plainV, LeA, LeL, LeD]; done) | (rw [plain_in hlt, if_neg (fun h => by simp [h] at hc0)]; simp [plainV, LeA, LeL, LeD])
    · skip
      try simp only [decide_eq_true_eq, Bool.not_eq_false', Bool.or_eq_false_iff] at hc0
      refine AWp.skip ?_
      refine thenQ_n ?_
      refine hK2 _ _ ?_
      try clear hK2 K2
      refine AWp.trees true (.seg 0 (.seg 1 (.seg 2 (.seg 3 (.seg 5 (.seg 6 (.seg 7 (.seg 8 (.seg 9 (.many (.alt 4 (.many (.alt 10 (.seg 11 (.seg 12 (.seg 13 (.done)))) (.alt 12 (.seg 10 (.seg 11 (.seg 13 (.done)))) (.nil)))) (.alt 10 (.many (.alt 4 (.seg 11 (.seg 12 (.seg 13 (.done)))) (.alt 12 (.seg 4 (.seg 11 (.seg 13 (.done)))) (.nil)))) (.alt 12 (.seg 4 (.seg 10 (.seg 11 (.seg 13 (.done))))) (.nil)))))))))))))) rfl (by kernel_rfl) fun K5 hK5 => ?_
      try simp only [go_sem, icast2, Bool.false_eq_true, and_true, true_and, btsD_get l i _ (by omega), btsD_get l (i + 2) _ (by omega), btD]
      (repeat (with_reducible refine And.intro ?_ ?_; omega))
      intro b6
      first | intro fb6 | have fb6 := True.intro
      try simp only [freshL] at fb6
      refine hK5 _ _ ?_
      try clear hK5 K5
      refine AWp.mask [false, false, true, true] rfl ?_
      simp only [go_sem]
      refine AWp.seq fun K6 hK6 => ?_
      refine AWp.rs fun K7 hK7 => ?_
      try simp only [go_sem, Bool.false_eq_true, and_true, true_and, fb6]
      refine DW.pcr rfl rfl rfl rfl (addrFault_p T _ _ (by have := hs.at (i := i) (by omega); omega) (by have := hs.at (i := i + 2) (by omega); omega)) rfl rfl ?_
      try simp only [go_sem, true_and]
      refine hK7 _ _ ?_
      try clear hK7 K7
      refine AWp.cond _ rfl (fun hc1 => ?_) (fun hc1 => ?_)
      · skip
        try simp only [decide_eq_false_iff_not, Bool.not_eq_true'] at hc1
        refine AWp.rs fun K8 hK8 => ?_
        try simp only [go_sem, Bool.false_eq_true, and_true, true_and, fb6]
        refine hK8 _ _ ?_
        try clear hK8 K8
        refine AWp.mask [true, true] rfl ?_
        simp only [go_sem]
        refine AWp.ret ?_
        try simp only [go_sem, Bool.false_eq_true, and_true, fb6]
        rw [plain_in hlt, if_neg (fun h => hc1 h.2.2.2.2.2)]; simp [plainV, LeA, LeL, LeD]
      · skip
        try simp only [decide_eq_true_eq, Bool.not_eq_false'] at hc1
        refine AWp.skip ?_
        refine thenQ_n ?_
        refine hK6 _ _ ?_
        try clear hK6 K6
        refine AWp.rs fun K9 hK9 => ?_
        try simp only [go_sem, Bool.false_eq_true, and_true, true_and, fb6]
        refine hK9 _ _ ?_
        try clear hK9 K9
        refine AWp.mask [true, true] rfl ?_
        simp only [go_sem]
        refine AWp.ret ?_
        try simp only [go_sem, Bool.false_eq_true, and_true, fb6]
        rw [plain_in hlt, if_pos ⟨hc0.1.1.1.1, hc0.1.1.1.2, hc0.1.1.2, hc0.1.2, hc0.2, hc1⟩]; simp [plainV, LeA, LeL, LeD]
  · skip
    have hge : ((l.length : Int) ≤ ((i + 2 : Nat) : Int)) = True := by simp; omega
    refine AWp.rs fun K3 hK3 => ?_
    try simp only [go_sem, icast, icast2, decide_true, Bool.true_or, Bool.not_true, Bool.false_eq_true, Bool.true_eq_false, false_imp_iff, and_true, true_and, hge]
    (repeat (with_reducible refine And.intro ?_ ?_; omega))
    refine hK3 _ _ ?_
    try clear hK3 K3
    refine AWp.mask [true, true, true, false, false, false, false, false, false, false, false, false, false, false, false, false, false, false, false, false, false, false, false, false, false, false, false, false, false, false, false, false, false, false, false, false, false, false, false, false, false, false, false, false, false, false, false, false, false, false, true] rfl ?_
    simp only [go_sem]
    refine AWp.cond _ rfl (fun hc0 => ?_) (fun hc0 => ?_)
    · skip
      try simp only [] at hc0
      refine AWp.rs fun K10 hK10 => ?_
      try simp only [go_sem, and_true, true_and]
      refine hK10 _ _ ?_
      try clear hK10 K10
      refine AWp.mask [false, false, true, true] rfl ?_
      simp only [go_sem]
      refine AWp.ret ?_
      try simp only [go_sem, and_true]
      first | (rw [plain_out hlt]; simp [plainV, LeA, LeL, LeD]; done) | (rw [plain_in hlt, if_neg (fun h => by simp [h] at hc0)]; simp [plainV, LeA, LeL, LeD])
    · skip
      exact absurd hc0 (by simp)
end Go.Proofs.YthhfbolhlbgbgaaDoor

namespace Go.Proofs.YthhfbolhlbgbgaaDoor
set_option linter.unusedSimpArgs false
set_option linter.unusedVariables false
def addrV (n : Nat) : Option (Ad × List Bt) → AV
  | some (a, t) => .tup [.agg [.d (.str a.1), .d (.str a.2)], .d (.int .i64 (n - t.length : Int))]
  | none => .tup [.agg [.d (.str []), .d (.str [])], .d (.int .i64 (-1))]
theorem plain_t {l : List Bt} {i : Nat} {a : Ad} {t : List Bt} (h : plainB (l.drop i) = some (a, t)) : t = l.drop (i + 3) ∧ i + 3 ≤ l.length := by
  have h1 := plainB_len h
  simp at h1
  refine ⟨?_, by omega⟩
  rcases Nat.lt_or_ge (i + 2) l.length with h2 | h2
  · rw [plain_in h2] at h
    split at h
    · injection h with h; injection h with _ h; exact h.symm
    · cases h
  · rw [plain_out h2] at h; cases h
theorem plainAt_none (T : Tbl) (hL : LibT T) (l : List Bt) (i : Nat) (hs : Short l) (hi : i ≤ 4096) (hl : l.length ≤ 4096) (hp : plainB (l.drop i) = none) : PC Tryd.prog T 143 [.d (.slc 4 (btsD l)), .d (.int .i64 i)] (.tup [.agg [.d (.str []), .d (.str [])], .d (.int .i64 0)]) := by
  have := plainAt_c T hL l i hs hi hl
  rw [hp] at this; exact this
theorem plainAt_some (T : Tbl) (hL : LibT T) (l : List Bt) (i : Nat) (hs : Short l) (hi : i ≤ 4096) (hl : l.length ≤ 4096) (a : Ad) (t : List Bt) (hp : plainB (l.drop i) = some (a, t)) : PC Tryd.prog T 143 [.d (.slc 4 (btsD l)), .d (.int .i64 i)] (.tup [.agg [.d (.str a.1), .d (.str a.2)], .d (.int .i64 3)]) := by
  have := plainAt_c T hL l i hs hi hl
  rw [hp] at this; exact this
theorem dropw_step {l : List Bt} {k : Nat} (h : k < l.length) (hw : wordB l[k] = true) : (l.drop k).dropWhile wordB = (l.drop (k + 1)).dropWhile wordB := by
  rw [List.drop_eq_getElem_cons h, List.dropWhile_cons, if_pos hw]
theorem dropw_end {l : List Bt} {k : Nat} (h : ∀ hk : k < l.length, wordB l[k] = false) : (l.drop k).dropWhile wordB = l.drop k := by
  rcases Nat.lt_or_ge k l.length with hk | hk
  · rw [List.drop_eq_getElem_cons hk, List.dropWhile_cons, if_neg (by rw [h hk]; decide)]
  · rw [List.drop_eq_nil_of_le hk]; rfl
theorem ang_nil {l : List Bt} {k : Nat} (h : l.length ≤ k) : angB (l.drop k) = none := by rw [List.drop_eq_nil_of_le h]; rfl
theorem ang_ne {l : List Bt} {k : Nat} (h : k < l.length) (hx : l[k].text ≠ [60]) : angB (l.drop k) = none := by
  rw [List.drop_eq_getElem_cons h]; simp [angB, hx]
theorem ang_np {l : List Bt} {k : Nat} (h : k < l.length) (hp : plainB (l.drop (k + 1)) = none) : angB (l.drop k) = none := by
  rw [List.drop_eq_getElem_cons h]; simp [angB, hp]
theorem ang_p {l : List Bt} {k : Nat} (h : k < l.length) (hx : l[k].text = [60]) {a : Ad} {t : List Bt} (hp : plainB (l.drop (k + 1)) = some (a, t)) (h1 : k + 1 < l.length) : angB (l.drop k) = if h4 : k + 4 < l.length then (if l[k + 1].apart = false ∧ l[k + 4].text = [62] ∧ l[k + 4].apart = false then some (a, l.drop (k + 5)) else none) else none := by
  obtain ⟨ht, hle⟩ := plain_t hp
  have hh : (l.drop (k + 1)).head?.map Bt.apart = some l[k + 1].apart := by rw [List.drop_eq_getElem_cons h1]; rfl
  rw [List.drop_eq_getElem_cons h]
  simp only [angB, hx, if_true, hp, hh, Option.some.injEq]
  subst ht
  rcases Nat.lt_or_ge (k + 4) l.length with h4 | h4
  · rw [dif_pos h4, List.drop_eq_getElem_cons (show k + 1 + 3 < l.length by omega)]
  · rw [dif_neg (by omega), List.drop_eq_nil_of_le (by omega)]
theorem addrB_some {l : List Bt} {x : Ad × List Bt} (h : plainB l = some x) : addrB l = some x := by unfold addrB; rw [h]
theorem addrB_none {l : List Bt} (h : plainB l = none) : addrB l = angB (l.dropWhile wordB) := by unfold addrB; rw [h]
theorem b30 : ((3 : Int) = 0) = False := by simp
theorem b00 : ((0 : Int) = 0) = True := by simp
theorem b03 : ((0 : Int) < 3) = True := by simp
theorem b000 : ((0 : Int) < 0) = False := by simp
theorem intF {a b : Nat} (h : b ≤ a) : ((a : Int) < (b : Int)) = False := by simp; omega
theorem intT {a b : Nat} (h : a < b) : ((a : Int) < (b : Int)) = True := by simp; omega
theorem inlF {a b : Nat} (h : b < a) : ((a : Int) ≤ (b : Int)) = False := by simp; omega
theorem inlT {a b : Nat} (h : a ≤ b) : ((a : Int) ≤ (b : Int)) = True := by simp; omega
set_option maxRecDepth 4000 in
set_option maxHeartbeats 1000000 in
theorem addressAt_c (T : Tbl) (hL : LibT T) (l : List Bt) (i : Nat) (hs : Short l) (hi : i ≤ 4096) (hl : l.length ≤ 4096) : PC Tryd.prog T 126 [.d (.slc 4 (btsD l)), .d (.int .i64 i)] (addrV l.length (addrB (l.drop i))) := by
  refine ⟨Tryd.call126, PCall.enterS Tryd.func126 rfl Tryd.ntmps126 rfl fun hb => ?_⟩
  simp only [go_sem, Tryd.results126]
  refine AWp.rs fun K1 hK1 => ?_
  try simp only [go_sem, true_and]
  intro b4
  first | intro fb4 | have fb4 := True.intro
  try simp only [freshL] at fb4
  refine hK1 _ _ ?_
  try clear hK1 K1
  rcases hp : plainB (l.drop i) with _ | x
  · skip
    refine AWp.rs fun K2 hK2 => ?_
    try simp only [go_sem, true_and]
    refine DW.pcr rfl rfl rfl rfl (plainAt_none T hL l i hs hi hl hp) rfl rfl ?_
    try simp only [go_sem, Bool.true_and, and_true, true_and]
    intro b6
    first | intro fb6 | have fb6 := True.intro
    try simp only [freshL] at fb6
    refine hK2 _ _ ?_
    try clear hK2 K2
    refine AWp.mask [true, true, true, false, true, true] rfl ?_
    simp only [go_sem]
    refine AWp.seq fun K3 hK3 => ?_
    refine AWp.rs fun K4 hK4 => ?_
    try simp only [go_sem, decide_false, true_and, b000]
    refine hK4 _ _ ?_
    try clear hK4 K4
    refine AWp.cond _ rfl (fun hc0 => ?_) (fun hc0 => ?_)
    · skip
      exact absurd hc0 (by simp)
    · skip
      try simp only [] at hc0
      refine AWp.skip ?_
      refine thenQ_n ?_
      refine hK3 _ _ ?_
      try clear hK3 K3
      refine AWp.seq fun K5 hK5 => ?_
      refine AWp.block ?_
      refine AWp.mask [true, true, true, true] rfl ?_
      simp only [go_sem]
      refine AWp.loopS [true, false, true, true] [false, true] (fun n lc hc => ∃ (k : Nat), n = l.length - k ∧ EqS lc [(1, .d (.int .i64 k))] ∧ EqS hc (⟨[(b6, ⟨2, 1, [[.d (.str []), .d (.str [])]]⟩), (b4, ⟨2, 1, [[.d (.str []), .d (.str [])]]⟩)], []⟩) ∧ (i ≤ k) ∧ (k ≤ 4096) ∧ ((l.drop k).dropWhile wordB = (l.drop i).dropWhile wordB)) rfl ?_ ?_
      · refine ⟨_, i, rfl, ?_, ?_, ?_, ?_, ?_⟩
        · (try simp only [go_sem]) <;> first | exact ⟨rfl⟩ | (constructor; simp; done)
        · (try simp only [go_sem, icast, icast3, icast4, icast5, decide_false, decide_true, Bool.false_or, Bool.true_or, Bool.false_and, Bool.true_and, Bool.not_true, Bool.not_false, Bool.false_eq_true, Bool.true_eq_false, false_imp_iff, and_true, true_and, b30, b00, b03, b000, fb4, fb6]) <;> first | exact ⟨rfl⟩ | (constructor; simp; done)
        all_goals (first | omega | rfl)
      · rintro _ _ _ ⟨k, rfl, ⟨rfl⟩, ⟨rfl⟩, h1, h2, h3⟩
        simp only [go_sem]
        refine AWp.seq fun K6 hK6 => ?_
        rcases Nat.lt_or_ge k l.length with hlt | hlt
        · skip
          refine AWp.rs fun K7 hK7 => ?_
          try simp only [go_sem, decide_true, Bool.true_and, Bool.false_eq_true, Bool.true_eq_false, false_imp_iff, and_true, true_and, btsD_get l k _ hlt, btD, intT hlt]
          (repeat (with_reducible refine And.intro ?_ ?_; (intro _; exact nfB)))
          refine hK7 _ _ ?_
          try clear hK7 K7
          refine AWp.mask [true, true, true, true, false, false, false, false, false, false, false, false, false, false, false, false, false, false, false, false, false, true] rfl ?_
          simp only [go_sem]
          refine AWp.cond _ rfl (fun hc1 => ?_) (fun hc1 => ?_)
          · skip
            try simp only [Bool.or_eq_true] at hc1
            refine AWp.skip ?_
            refine thenQ_n ?_
            refine hK6 _ _ ?_
            try clear hK6 K6
            refine AWp.block ?_
            refine AWp.rk fun K8 hK8 => ?_
            try simp only [go_sem, icast, true_and]
            (repeat (with_reducible refine And.intro ?_ ?_; omega))
            refine hK8 _ _ ?_
            try clear hK8 K8
            refine blkQ_n (thenQ_n ?_)
            refine EndS.mk [true, false, true, true] [false, true] [] [] [b6, b4] [] rfl ?_ ?_
            · (try simp only [go_sem]) <;> try rfl
            refine .e ⟨_, ?_, k + 1, rfl, ?_, ?_, ?_, ?_, ?_⟩
            · first | omega | (simp; omega) | (grind)
            · (try simp only [go_sem]) <;> first | exact ⟨rfl⟩ | (constructor; simp; done)
            · (try simp only [go_sem, Bool.false_eq_true, fb6]) <;> first | exact ⟨rfl⟩ | (constructor; simp; done)
            · omega
            · omega
            · rw [← dropw_step hlt (by simpa [wordB] using hc1)]; exact h3
          · skip
            try simp only [Bool.or_eq_false_iff] at hc1
            have hdw : (l.drop i).dropWhile wordB = l.drop k := by
              rw [← h3]
              exact dropw_end (fun hk => by first | (exfalso; omega) | (unfold wordB; simpa using hc1))
            refine AWp.exit ?_
            refine thenQ_e (thenQ_e (blkQ_e (thenQ_n ?_)))
            refine hK5 _ _ ?_
            try clear hK5 K5
            refine AWp.seq fun K9 hK9 => ?_
            refine AWp.rs fun K10 hK10 => ?_
            try simp only [go_sem, decide_false, Bool.false_or, Bool.true_and, Bool.false_eq_true, false_imp_iff, and_true, true_and, btsD_get l k _ hlt, btD, intT hlt, inlF hlt]
            refine hK10 _ _ ?_
            try clear hK10 K10
            refine AWp.mask [true, true, true, true, false, false, false, false, false, false, false, false, false, false, false, false, true] rfl ?_
            simp only [go_sem]
            refine AWp.cond _ rfl (fun hc2 => ?_) (fun hc2 => ?_)
            · skip
              try simp only [decide_eq_false_iff_not, Bool.not_eq_true'] at hc2
              refine AWp.rs fun K11 hK11 => ?_
              try simp only [go_sem, Bool.true_and, Bool.false_eq_true, and_true, true_and, fb6]
              refine hK11 _ _ ?_
              try clear hK11 K11
              refine AWp.mask [false, false, true, true] rfl ?_
              simp only [go_sem]
              refine AWp.ret ?_
              try simp only [go_sem, Bool.false_eq_true, and_true, fb6]
              rw [addrB_none hp, hdw]; first | rw [ang_nil hlt] | rw [ang_ne hlt (by simpa using hc2)]
              simp [addrV, LeA, LeL, LeD]
            · skip
              try simp only [decide_eq_true_eq, Bool.not_eq_false'] at hc2
              refine AWp.skip ?_
              refine thenQ_n ?_
              refine hK9 _ _ ?_
              try clear hK9 K9
              rcases hp2 : plainB (l.drop (k + 1)) with _ | x
              · skip
                refine AWp.rs fun K12 hK12 => ?_
                try simp only [go_sem, icast, true_and]
                (repeat (with_reducible refine And.intro ?_ ?_; omega))
                refine DW.pcr rfl rfl rfl rfl (plainAt_none T hL l (k + 1) hs (by omega) hl hp2) rfl rfl ?_
                try simp only [go_sem, Bool.true_and, Bool.false_eq_true, and_true, true_and, fb6]
                refine hK12 _ _ ?_
                try clear hK12 K12
                refine AWp.mask [true, true, true, true, true] rfl ?_
                simp only [go_sem]
                refine AWp.seq fun K13 hK13 => ?_
                refine AWp.rs fun K14 hK14 => ?_
                try simp only [go_sem, icast, icast4, decide_true, Bool.true_or, Bool.false_and, Bool.true_and, Bool.not_true, Bool.false_eq_true, Bool.true_eq_false, false_imp_iff, and_true, true_and]
                refine hK14 _ _ ?_
                try clear hK14 K14
                refine AWp.mask [false, true, true, true, false, false, false, false, false, false, false, false, false, false, false, false, false, false, false, false, false, false, false, false, false, false, false, false, false, false, false, false, false, false, false, false, false, false, true] rfl ?_
                simp only [go_sem]
                refine AWp.cond _ rfl (fun hc3 => ?_) (fun hc3 => ?_)
                · skip
                  try simp only [] at hc3
                  refine AWp.rs fun K15 hK15 => ?_
                  try simp only [go_sem, Bool.true_and, Bool.false_eq_true, and_true, true_and, fb6]
                  refine hK15 _ _ ?_
                  try clear hK15 K15
                  refine AWp.mask [false, true, true] rfl ?_
                  simp only [go_sem]
                  refine AWp.ret ?_
                  try simp only [go_sem, Bool.false_eq_true, and_true, fb6]
                  have h60 : l[k].text = [60] := by simpa using hc2
                  rw [addrB_none hp, hdw]
                  first
                  | rw [ang_np hlt hp2]
                  | rw [ang_p hlt h60 hp2 (by omega), dif_neg (by omega)]
                  | rw [ang_p hlt h60 hp2 (by omega), dif_pos hlt4, if_neg (fun h => by simp [h] at hc3)]
                  simp [addrV, LeA, LeL, LeD]
                · skip
                  exact absurd hc3 (by simp)
              · skip
                obtain ⟨a, t⟩ := x
                obtain ⟨rfl, hle⟩ := plain_t hp2
                refine AWp.rs fun K12 hK12 => ?_
                try simp only [go_sem, icast, true_and]
                (repeat (with_reducible refine And.intro ?_ ?_; omega))
                refine DW.pcr rfl rfl rfl rfl (plainAt_some T hL l (k + 1) hs (by omega) hl a _ hp2) rfl rfl ?_
                try simp only [go_sem, Bool.true_and, Bool.false_eq_true, and_true, true_and, fb6]
                refine hK12 _ _ ?_
                try clear hK12 K12
                refine AWp.mask [true, true, true, true, true] rfl ?_
                simp only [go_sem]
                refine AWp.seq fun K16 hK16 => ?_
                rcases Nat.lt_or_ge (k + 4) l.length with hlt4 | hlt4
                · skip
                  refine AWp.rs fun K17 hK17 => ?_
                  try simp only [go_sem, icast, icast4, decide_false, Bool.false_or, Bool.true_and, Bool.false_eq_true, false_imp_iff, and_true, true_and, b30, btD, btsD_get l (k + 1) _ (by omega), btsD_get l (k + 4) _ hlt4, inlF hlt4]
                  (repeat (with_reducible refine And.intro ?_ ?_; (first | omega | (exact nfB) | (intro hg; refine ⟨hg, ?_⟩; omega))))
                  refine hK17 _ _ ?_
                  try clear hK17 K17
                  refine AWp.mask [false, true, true, true, false, false, false, false, false, false, false, false, false, false, false, false, false, false, false, false, false, false, false, false, false, false, false, false, false, false, false, false, false, false, false, false, false, false, true] rfl ?_
                  simp only [go_sem]
                  refine AWp.cond _ rfl (fun hc3 => ?_) (fun hc3 => ?_)
                  · skip
                    try simp only [decide_eq_false_iff_not, Bool.not_eq_true', Bool.or_eq_true] at hc3
                    refine AWp.rs fun K18 hK18 => ?_
                    try simp only [go_sem, Bool.true_and, Bool.false_eq_true, and_true, true_and, fb6]
                    refine hK18 _ _ ?_
                    try clear hK18 K18
                    refine AWp.mask [false, true, true] rfl ?_
                    simp only [go_sem]
                    refine AWp.ret ?_
                    try simp only [go_sem, Bool.false_eq_true, and_true, fb6]
                    have h60 : l[k].text = [60] := by simpa using hc2
                    rw [addrB_none hp, hdw]
                    first
                    | rw [ang_np hlt hp2]
                    | rw [ang_p hlt h60 hp2 (by omega), dif_neg (by omega)]
                    | rw [ang_p hlt h60 hp2 (by omega), dif_pos hlt4, if_neg (fun h => by simp [h] at hc3)]
                    simp [addrV, LeA, LeL, LeD]
                  · skip
                    try simp only [decide_eq_true_eq, Bool.not_eq_false', Bool.or_eq_false_iff] at hc3
                    refine AWp.skip ?_
                    refine thenQ_n ?_
                    refine hK16 _ _ ?_
                    try clear hK16 K16
                    refine AWp.rs fun K19 hK19 => ?_
                    try simp only [go_sem, icast5, Bool.true_and, Bool.false_eq_true, and_true, true_and, fb6]
                    (repeat (with_reducible refine And.intro ?_ ?_; omega))
                    refine hK19 _ _ ?_
                    try clear hK19 K19
                    refine AWp.mask [false, true, true] rfl ?_
                    simp only [go_sem]
                    refine AWp.ret ?_
                    try simp only [go_sem, Bool.false_eq_true, and_true, fb6]
                    have h60 : l[k].text = [60] := by simpa using hc2
                    rw [addrB_none hp, hdw, ang_p hlt h60 hp2 (by omega), dif_pos hlt4, if_pos ⟨hc3.1.1, hc3.1.2, hc3.2⟩]
                    simp [addrV, LeA, LeL, LeD]
                    omega
                · skip
                  refine AWp.rs fun K17 hK17 => ?_
                  try simp only [go_sem, icast, icast4, decide_false, decide_true, Bool.false_or, Bool.true_or, Bool.false_and, Bool.true_and, Bool.not_true, Bool.false_eq_true, Bool.true_eq_false, false_imp_iff, and_true, true_and, b30, btD, btsD_get l (k + 1) _ (by omega), inlT hlt4]
                  (repeat (with_reducible refine And.intro ?_ ?_; (first | omega | (exact nfB) | (intro hg; refine ⟨hg, ?_⟩; omega))))
                  refine hK17 _ _ ?_
                  try clear hK17 K17
                  refine AWp.mask [false, true, true, true, false, false, false, false, false, false, false, false, false, false, false, false, false, false, false, false, false, false, false, false, false, false, false, false, false, false, false, false, false, false, false, false, false, false, true] rfl ?_
                  simp only [go_sem]
                  refine AWp.cond _ rfl (fun hc3 => ?_) (fun hc3 => ?_)
                  · skip
                    try simp only [] at hc3
                    refine AWp.rs fun K20 hK20 => ?_
                    try simp only [go_sem, Bool.true_and, Bool.false_eq_true, and_true, true_and, fb6]
                    refine hK20 _ _ ?_
                    try clear hK20 K20
                    refine AWp.mask [false, true, true] rfl ?_
                    simp only [go_sem]
                    refine AWp.ret ?_
                    try simp only [go_sem, Bool.false_eq_true, and_true, fb6]
                    have h60 : l[k].text = [60] := by simpa using hc2
                    rw [addrB_none hp, hdw]
                    first
                    | rw [ang_np hlt hp2]
                    | rw [ang_p hlt h60 hp2 (by omega), dif_neg (by omega)]
                    | rw [ang_p hlt h60 hp2 (by omega), dif_pos hlt4, if_neg (fun h => by simp [h] at hc3)]
                    simp [addrV, LeA, LeL, LeD]
                  · skip
                    exact absurd hc3 (by simp)
        · skip
          refine AWp.rs fun K7 hK7 => ?_
          try simp only [go_sem, decide_false, Bool.false_and, Bool.true_and, Bool.false_eq_true, false_imp_iff, and_true, true_and, intF hlt, btsD_none l k hlt, List.drop_nil, List.take_nil, List.map_nil, List.headD_nil]
          refine hK7 _ _ ?_
          try clear hK7 K7
          refine AWp.mask [true, true, true, true, false, false, false, false, false, false, false, false, false, false, false, false, false, false, false, false, false, true] rfl ?_
          simp only [go_sem]
          refine AWp.cond _ rfl (fun hc1 => ?_) (fun hc1 => ?_)
          · skip
            exact absurd hc1 (by simp)
          · skip
            try simp only [] at hc1
            have hdw : (l.drop i).dropWhile wordB = l.drop k := by
              rw [← h3]
              exact dropw_end (fun hk => by first | (exfalso; omega) | (unfold wordB; simpa using hc1))
            refine AWp.exit ?_
            refine thenQ_e (thenQ_e (blkQ_e (thenQ_n ?_)))
            refine hK5 _ _ ?_
            try clear hK5 K5
            refine AWp.seq fun K21 hK21 => ?_
            refine AWp.rs fun K22 hK22 => ?_
            try simp only [go_sem, decide_true, Bool.false_and, Bool.true_and, Bool.not_true, Bool.false_eq_true, Bool.true_eq_false, false_imp_iff, and_true, true_and, intF hlt, inlT hlt, btsD_none l k hlt, List.drop_nil, List.take_nil, List.map_nil, List.headD_nil]
            refine hK22 _ _ ?_
            try clear hK22 K22
            refine AWp.mask [true, true, true, true, false, false, false, false, false, false, false, false, false, false, false, false, true] rfl ?_
            simp only [go_sem]
            refine AWp.cond _ rfl (fun hc2 => ?_) (fun hc2 => ?_)
            · skip
              try simp only [] at hc2
              refine AWp.rs fun K23 hK23 => ?_
              try simp only [go_sem, Bool.true_and, Bool.false_eq_true, and_true, true_and, fb6, List.drop_nil, List.map_nil]
              refine hK23 _ _ ?_
              try clear hK23 K23
              refine AWp.mask [false, false, true, true] rfl ?_
              simp only [go_sem]
              refine AWp.ret ?_
              try simp only [go_sem, Bool.false_eq_true, and_true, fb6, List.take_nil]
              rw [addrB_none hp, hdw]; first | rw [ang_nil hlt] | rw [ang_ne hlt (by simpa using hc2)]
              simp [addrV, LeA, LeL, LeD]
            · skip
              exact absurd hc2 (by simp)
  · skip
    obtain ⟨a, t⟩ := x
    obtain ⟨rfl, hle⟩ := plain_t hp
    refine AWp.rs fun K2 hK2 => ?_
    try simp only [go_sem, true_and]
    refine DW.pcr rfl rfl rfl rfl (plainAt_some T hL l i hs hi hl a _ hp) rfl rfl ?_
    try simp only [go_sem, Bool.true_and, and_true, true_and]
    intro b6
    first | intro fb6 | have fb6 := True.intro
    try simp only [freshL] at fb6
    refine hK2 _ _ ?_
    try clear hK2 K2
    refine AWp.mask [true, true, true, false, true, true] rfl ?_
    simp only [go_sem]
    refine AWp.seq fun K24 hK24 => ?_
    refine AWp.rs fun K25 hK25 => ?_
    try simp only [go_sem, decide_true, true_and, b03]
    refine hK25 _ _ ?_
    try clear hK25 K25
    refine AWp.cond _ rfl (fun hc0 => ?_) (fun hc0 => ?_)
    · skip
      try simp only [] at hc0
      refine AWp.rs fun K26 hK26 => ?_
      try simp only [go_sem, icast3, Bool.true_and, Bool.false_eq_true, and_true, true_and, fb6]
      (repeat (with_reducible refine And.intro ?_ ?_; omega))
      refine hK26 _ _ ?_
      try clear hK26 K26
      refine AWp.mask [false, false, true, true] rfl ?_
      simp only [go_sem]
      refine AWp.ret ?_
      try simp only [go_sem, Bool.false_eq_true, and_true, fb6]
      rw [addrB_some hp]; simp [addrV, LeA, LeL, LeD]; omega
    · skip
      exact absurd hc0 (by simp)
end Go.Proofs.YthhfbolhlbgbgaaDoor

namespace Go.Proofs.YthhfbolhlbgbgaaDoor
set_option linter.unusedSimpArgs false
set_option linter.unusedVariables false
theorem dropw_drop (l : List Bt) (i : Nat) : ∃ k, i ≤ k ∧ (l.drop i).dropWhile wordB = l.drop k := by
  obtain ⟨t, ht⟩ := List.dropWhile_suffix (l := l.drop i) wordB
  refine ⟨i + t.length, by omega, ?_⟩
  have h2 : List.drop t.length (t ++ List.dropWhile wordB (l.drop i)) = List.dropWhile wordB (l.drop i) := by simp
  rw [ht, List.drop_drop] at h2
  exact h2.symm
theorem ang_t {l : List Bt} {k : Nat} {a : Ad} {t : List Bt} (h : angB (l.drop k) = some (a, t)) : t = l.drop (k + 5) ∧ k + 5 ≤ l.length := by
  rcases Nat.lt_or_ge k l.length with hk | hk
  · by_cases hx : l[k].text = [60]
    · cases hp : plainB (l.drop (k + 1)) with
      | none => rw [ang_np hk hp] at h; cases h
      | some x =>
        obtain ⟨a', t'⟩ := x
        obtain ⟨_, hle⟩ := plain_t hp
        rw [ang_p hk hx hp (by omega)] at h
        split at h
        · split at h
          · injection h with h; injection h with _ h; exact ⟨h.symm, by omega⟩
          · cases h
        · cases h
    · rw [ang_ne hk hx] at h; cases h
  · rw [ang_nil hk] at h; cases h
theorem addr_t {l : List Bt} {i : Nat} {a : Ad} {t : List Bt} (h : addrB (l.drop i) = some (a, t)) : ∃ e, i < e ∧ e ≤ l.length ∧ t = l.drop e := by
  cases hp : plainB (l.drop i) with
  | some x =>
    rw [addrB_some hp] at h
    injection h with h; subst h
    obtain ⟨h1, h2⟩ := plain_t hp
    exact ⟨i + 3, by omega, h2, h1⟩
  | none =>
    rw [addrB_none hp] at h
    obtain ⟨k, hk, e⟩ := dropw_drop l i
    rw [e] at h
    obtain ⟨h1, h2⟩ := ang_t h
    exact ⟨k + 5, by omega, h2, h1⟩
theorem addressAt_none (T : Tbl) (hL : LibT T) (l : List Bt) (i : Nat) (hs : Short l) (hi : i ≤ 4096) (hl : l.length ≤ 4096) (hp : addrB (l.drop i) = none) : PC Tryd.prog T 126 [.d (.slc 4 (btsD l)), .d (.int .i64 i)] (.tup [.agg [.d (.str []), .d (.str [])], .d (.int .i64 (-1))]) := by
  have := addressAt_c T hL l i hs hi hl
  rw [hp] at this; exact this
theorem addressAt_some (T : Tbl) (hL : LibT T) (l : List Bt) (i e : Nat) (hs : Short l) (hi : i ≤ 4096) (hl : l.length ≤ 4096) (a : Ad) (he : e ≤ l.length) (hp : addrB (l.drop i) = some (a, l.drop e)) : PC Tryd.prog T 126 [.d (.slc 4 (btsD l)), .d (.int .i64 i)] (.tup [.agg [.d (.str a.1), .d (.str a.2)], .d (.int .i64 e)]) := by
  have := addressAt_c T hL l i hs hi hl
  rw [hp] at this
  simp only [addrV, List.length_drop] at this
  rw [show ((l.length : Int) - ((l.length - e : Nat) : Int)) = e by omega] at this
  exact this
theorem bits_ok (n : Nat) : ∀ (s : Tx) (ap : Bool) (l : List Bt), s.length ≤ n → bitsS ap s = some l → l.length ≤ s.length ∧ ∀ x ∈ l, x.text.length ≤ s.length := by
  induction n with
  | zero =>
    intro s ap l hs h
    have : s = [] := List.eq_nil_of_length_eq_zero (by omega)
    subst this
    rw [bits_nil] at h; injection h with h; subst h; simp
  | succ n ih =>
    intro s ap l hs h
    cases s with
    | nil => rw [bits_nil] at h; injection h with h; subst h; simp
    | cons c r =>
      simp only [List.length_cons] at hs ⊢
      have fin : ∀ (q : Tx) (x : Bt) (l' : List Bt), q.length ≤ r.length → x.text.length ≤ r.length + 1 → bitsS false q = some l' → x :: l' = l → l.length ≤ r.length + 1 ∧ ∀ x ∈ l, x.text.length ≤ r.length + 1 := by
        intro q x l' hq hx h1 h2
        obtain ⟨i1, i2⟩ := ih q false l' (by omega) h1
        subst h2
        refine ⟨by simp; omega, fun y hy => ?_⟩
        rcases List.mem_cons.1 hy with rfl | hy
        · exact hx
        · have := i2 y hy; omega
      cases e : blkB c with
      | true =>
        rw [bits_blank e] at h
        obtain ⟨i1, i2⟩ := ih r true l (by omega) h
        exact ⟨by omega, fun x hx => by have := i2 x hx; omega⟩
      | false =>
        cases e2 : runB c with
        | true =>
          rw [bits_run e2] at h
          obtain ⟨l', h1, h2⟩ := Option.map_eq_some_iff.1 h
          have h3 := off_lt (c :: r) (by rw [runS_cons e2]; simp)
          have h4 := (List.takeWhile_sublist (l := c :: r) runB).length_le
          simp only [List.length_cons] at h3 h4
          exact fin _ _ l' (by omega) h4 h1 h2
        | false =>
          by_cases e3 : c = 34
          · subst e3
            cases e4 : quoS r with
            | none => rw [bits_quoN e4] at h; cases h
            | some q =>
              rw [bits_quoS e4] at h
              obtain ⟨l', h1, h2⟩ := Option.map_eq_some_iff.1 h
              have := quo_lt _ _ e4
              exact fin q _ l' (by omega) (by simp) h1 h2
          · rw [bits_one e e2 e3] at h
            obtain ⟨l', h1, h2⟩ := Option.map_eq_some_iff.1 h
            exact fin r _ l' (by omega) (by simp) h1 h2
theorem bits_short {s : Tx} {l : List Bt} (h : bitsS false s = some l) (hs : s.length ≤ 4096) : l.length ≤ 4096 ∧ Short l := by
  obtain ⟨h1, h2⟩ := bits_ok s.length s false l (Nat.le_refl _) h
  exact ⟨by omega, fun x hx => by have := h2 x hx; omega⟩
theorem bitsOf_none (T : Tbl) (s : Tx) (hs : s.length ≤ 4096) (h : bitsS false s = none) : PC Tryd.prog T 125 [.d (.str s)] (.tup [.any, .d (.bool false)]) := by
  have := bitsOf_c T s hs
  rw [h] at this; exact this
theorem bitsOf_some (T : Tbl) (s : Tx) (hs : s.length ≤ 4096) (l : List Bt) (h : bitsS false s = some l) : PC Tryd.prog T 125 [.d (.str s)] (.tup [.d (.slc 4 (btsD l)), .d (.bool true)]) := by
  have := bitsOf_c T s hs
  rw [h] at this; exact this
def adD (a : Ad) : List D := [.str a.1, .str a.2]
def adsD (l : List Ad) : List (List D) := l.map adD
@[go_sem] theorem adsD_len (l : List Ad) : (adsD l).length = l.length := by simp [adsD]
def listV : Option (List Ad) → AV
  | some l => .tup [.d (.slc 2 (adsD l)), .d (.bool true)]
  | none => .tup [.d (.slc 2 []), .d (.bool false)]
theorem lessF : (((-1 : Int) < 0)) = True := by simp
set_option maxRecDepth 4000 in
set_option maxHeartbeats 1000000 in
theorem listOf_c (T : Tbl) (hL : LibT T) (s : Tx) (hs : s.length ≤ 4096) : PC Tryd.prog T 93 [.d (.str s)] (listV (listS s)) := by
  refine ⟨Tryd.call93, PCall.enterS Tryd.func93 rfl Tryd.ntmps93 rfl fun hb => ?_⟩
  simp only [go_sem, Tryd.results93]
  refine AWp.rs fun K1 hK1 => ?_
  try simp only [go_sem]
  refine hK1 _ _ ?_
  try clear hK1 K1
  rcases hb0 : bitsS false s with _ | l
  · skip
    refine AWp.rs fun K2 hK2 => ?_
    try simp only [go_sem]
    refine DW.pcr rfl rfl rfl rfl (bitsOf_none T s hs hb0) rfl rfl ?_
    try simp only [go_sem]
    refine hK2 _ _ ?_
    try clear hK2 K2
    refine AWp.mask [false, false, false, true, true] rfl ?_
    simp only [go_sem]
    refine AWp.seq fun K3 hK3 => ?_
    refine AWp.rs fun K4 hK4 => ?_
    try simp only [go_sem]
    refine hK4 _ _ ?_
    try clear hK4 K4
    refine AWp.cond _ rfl (fun hc0 => ?_) (fun hc0 => ?_)
    · skip
      try simp only [Bool.not_eq_true'] at hc0
      refine AWp.rs fun K5 hK5 => ?_
      try simp only [go_sem]
      refine hK5 _ _ ?_
      try clear hK5 K5
      refine AWp.mask [true, true] rfl ?_
      simp only [go_sem]
      refine AWp.ret ?_
      try simp only [go_sem]
      have hn : listS s = none := by have := list_bits s.length s false (Nat.le_refl _); rw [hb0] at this; exact this.symm
      rw [hn]; simp [listV, LeA, LeL, LeD]
    · skip
      exact absurd hc0 (by simp)
  · skip
    obtain ⟨hl, hsh⟩ := bits_short hb0 hs
    have hLS : listB l = listS s := by have := list_bits s.length s false (Nat.le_refl _); rw [hb0] at this; exact this
    refine AWp.rs fun K2 hK2 => ?_
    try simp only [go_sem]
    refine DW.pcr rfl rfl rfl rfl (bitsOf_some T s hs l hb0) rfl rfl ?_
    try simp only [go_sem]
    refine hK2 _ _ ?_
    try clear hK2 K2
    refine AWp.mask [false, false, false, true, true] rfl ?_
    simp only [go_sem]
    refine AWp.seq fun K6 hK6 => ?_
    refine AWp.rs fun K7 hK7 => ?_
    try simp only [go_sem]
    refine hK7 _ _ ?_
    try clear hK7 K7
    refine AWp.cond _ rfl (fun hc0 => ?_) (fun hc0 => ?_)
    · skip
      exact absurd hc0 (by simp)
    · skip
      try simp only [Bool.not_eq_false'] at hc0
      refine AWp.skip ?_
      refine thenQ_n ?_
      refine hK6 _ _ ?_
      try clear hK6 K6
      refine AWp.rs fun K8 hK8 => ?_
      try simp only [go_sem]
      refine hK8 _ _ ?_
      try clear hK8 K8
      refine AWp.ownNilS 6 2 rfl rfl (by decide) fun t0 ft0 => ?_
      try simp only [freshT] at ft0
      simp only [go_sem]
      refine AWp.rs fun K9 hK9 => ?_
      try simp only [go_sem]
      refine hK9 _ _ ?_
      try clear hK9 K9
      refine AWp.block ?_
      refine AWp.mask [true, false, true, true] rfl ?_
      simp only [go_sem]
      refine AWp.loopS [true] [false, true, true] (fun n lc hc => ∃ (k v : Nat) (Y : List Ad), n = l.length - k ∧ EqS lc [(6, .own v 2 (adsD Y)), (7, .d (.int .i64 k))] ∧ EqS hc (⟨[], [v]⟩) ∧ (k ≤ l.length) ∧ (Y.length ≤ k) ∧ ((listB (l.drop k)).map (Y ++ ·) = listB l)) rfl ?_ ?_
      · refine ⟨_, 0, t0, [], rfl, ?_, ?_, ?_, ?_, ?_⟩
        · (try simp only [go_sem]) <;> first | exact ⟨rfl⟩ | (constructor; simp [adsD]; done)
        · (try simp only [go_sem, icast, adD, ft0]) <;> first | exact ⟨rfl⟩ | (constructor; simp; done)
        all_goals (first | omega | (simp; done) | (cases listB l <;> rfl))
      · rintro _ _ _ ⟨k, v, Y, rfl, ⟨rfl⟩, ⟨rfl⟩, h1, h2, h3⟩
        simp only [go_sem]
        refine AWp.block ?_
        rcases hp : addrB (l.drop k) with _ | x
        · skip
          refine AWp.rs fun K10 hK10 => ?_
          try simp only [go_sem]
          refine DW.pcr rfl rfl rfl rfl (addressAt_none T hL l k hsh (by omega) hl hp) rfl rfl ?_
          try simp only [go_sem]
          intro b8
          first | intro fb8 | have fb8 := True.intro
          try simp only [freshL] at fb8
          refine hK10 _ _ ?_
          try clear hK10 K10
          refine AWp.mask [true, true, false, true, true] rfl ?_
          simp only [go_sem]
          refine AWp.seq fun K11 hK11 => ?_
          refine AWp.rs fun K12 hK12 => ?_
          try simp only [go_sem, lessF]
          refine hK12 _ _ ?_
          try clear hK12 K12
          refine AWp.cond _ rfl (fun hc1 => ?_) (fun hc1 => ?_)
          · skip
            try simp only [decide_eq_true_eq] at hc1
            refine AWp.rs fun K13 hK13 => ?_
            try simp only [go_sem]
            refine hK13 _ _ ?_
            try clear hK13 K13
            refine AWp.mask [true, true] rfl ?_
            simp only [go_sem]
            refine AWp.ret ?_
            try simp only [go_sem]
            first | (exfalso; omega) | (rw [(by rw [← hLS, ← h3, listB_none hp]; rfl : listS s = none)]; simp [listV, LeA, LeL, LeD])
          · skip
            exact absurd hc1 (by simp)
        · skip
          obtain ⟨a, t⟩ := x
          obtain ⟨e, he1, he2, rfl⟩ := addr_t hp
          refine AWp.rs fun K10 hK10 => ?_
          try simp only [go_sem]
          refine DW.pcr rfl rfl rfl rfl (addressAt_some T hL l k e hsh (by omega) hl a he2 hp) rfl rfl ?_
          try simp only [go_sem]
          intro b8
          first | intro fb8 | have fb8 := True.intro
          try simp only [freshL] at fb8
          refine hK10 _ _ ?_
          try clear hK10 K10
          refine AWp.mask [true, true, false, true, true] rfl ?_
          simp only [go_sem]
          refine AWp.seq fun K14 hK14 => ?_
          refine AWp.rs fun K15 hK15 => ?_
          try simp only [go_sem]
          refine hK15 _ _ ?_
          try clear hK15 K15
          refine AWp.cond _ rfl (fun hc1 => ?_) (fun hc1 => ?_)
          · skip
            try simp only [decide_eq_true_eq] at hc1
            refine AWp.rs fun K16 hK16 => ?_
            try simp only [go_sem]
            refine hK16 _ _ ?_
            try clear hK16 K16
            refine AWp.mask [true, true] rfl ?_
            simp only [go_sem]
            refine AWp.ret ?_
            try simp only [go_sem]
            first | (exfalso; omega) | (rw [(by rw [← hLS, ← h3, listB_none hp]; rfl : listS s = none)]; simp [listV, LeA, LeL, LeD])
          · skip
            try simp only [decide_eq_false_iff_not, Int.not_lt] at hc1
            refine AWp.skip ?_
            refine thenQ_n ?_
            refine hK14 _ _ ?_
            try clear hK14 K14
            refine AWp.rs fun K17 hK17 => ?_
            try simp only [go_sem]
            refine DW.app rfl rfl rfl rfl (show slI Tryd.prog 134 = some (80, 2, 32) by simp only [go_sem]) rfl rfl (by simp only [go_sem]) (by first | exact .inl rfl | exact .inr rfl) (by (try simp only [go_sem]); omega) (by (try simp only [go_sem]); omega) fun t1 ft1 => ?_
            try simp only [freshT] at ft1
            try simp only [go_sem]
            refine hK17 _ _ ?_
            try clear hK17 K17
            refine AWp.mask [true, true, false, true] rfl ?_
            simp only [go_sem]
            refine AWp.seq fun K18 hK18 => ?_
            refine AWp.rs fun K19 hK19 => ?_
            try simp only [go_sem]
            refine hK19 _ _ ?_
            try clear hK19 K19
            refine AWp.cond _ rfl (fun hc2 => ?_) (fun hc2 => ?_)
            · skip
              try simp only [decide_eq_true_eq] at hc2
              have hst : listB (l.drop k) = some [a] := by
                have h0 : l.drop e = [] := List.drop_eq_nil_of_le (by omega)
                rw [h0] at hp
                exact listB_one hp
              refine AWp.rs fun K20 hK20 => ?_
              try simp only [go_sem]
              refine hK20 _ _ ?_
              try clear hK20 K20
              refine AWp.mask [true, true] rfl ?_
              simp only [go_sem]
              refine AWp.ret ?_
              try simp only [go_sem]
              have hn : listS s = some (Y ++ [a]) := by rw [← hLS, ← h3, hst]; rfl
              rw [hn]; simp [listV, adsD, adD, LeA, LeL, LeD]
            · skip
              try simp only [decide_eq_false_iff_not] at hc2
              have hel : e < l.length := by omega
              rw [List.drop_eq_getElem_cons hel] at hp
              refine AWp.skip ?_
              refine thenQ_n ?_
              refine hK18 _ _ ?_
              try clear hK18 K18
              refine AWp.mask [true, true, true] rfl ?_
              simp only [go_sem]
              refine AWp.seq fun K21 hK21 => ?_
              refine AWp.rs fun K22 hK22 => ?_
              try simp only [go_sem, btsD_get l e _ hel, btD]
              (repeat (with_reducible refine And.intro ?_ ?_; omega))
              refine hK22 _ _ ?_
              try clear hK22 K22
              refine AWp.mask [true, true, true, false, false, false, false, false, true] rfl ?_
              simp only [go_sem]
              refine AWp.cond _ rfl (fun hc3 => ?_) (fun hc3 => ?_)
              · skip
                try simp only [decide_eq_false_iff_not, Bool.not_eq_true'] at hc3
                have hst : listB (l.drop k) = none := by rw [listB_more hp, if_neg (by simpa using hc3)]
                refine AWp.rs fun K23 hK23 => ?_
                try simp only [go_sem]
                refine hK23 _ _ ?_
                try clear hK23 K23
                refine AWp.mask [true, true] rfl ?_
                simp only [go_sem]
                refine AWp.ret ?_
                try simp only [go_sem]
                have hn : listS s = none := by rw [← hLS, ← h3, hst]; rfl
                rw [hn]; simp [listV, LeA, LeL, LeD]
              · skip
                try simp only [decide_eq_true_eq, Bool.not_eq_false'] at hc3
                have hst : listB (l.drop k) = (listB (l.drop (e + 1))).map (a :: ·) := by rw [listB_more hp, if_pos (by simpa using hc3)]
                refine AWp.skip ?_
                refine thenQ_n ?_
                refine hK21 _ _ ?_
                try clear hK21 K21
                refine AWp.rk fun K24 hK24 => ?_
                try simp only [go_sem, icast]
                (repeat (with_reducible refine And.intro ?_ ?_; omega))
                refine hK24 _ _ ?_
                try clear hK24 K24
                refine blkQ_n (thenQ_n ?_)
                refine EndS.mk [true] [false, true, true] [b8] [] [] [t1] rfl ?_ ?_
                · (try simp only [go_sem]) <;> try rfl
                refine .e ⟨_, ?_, (e + 1), t1, (Y ++ [a]), rfl, ?_, ?_, ?_, ?_, ?_⟩
                · first | omega | (simp; omega) | (grind)
                · (try simp only [go_sem]) <;> first | exact ⟨rfl⟩ | (constructor; simp [adsD, adD]; done)
                · (try simp only [go_sem]) <;> first | exact ⟨rfl⟩ | (constructor; simp; done)
                · omega
                · simp; omega
                · rw [← h3, hst]; cases listB (l.drop (e + 1)) <;> simp
end Go.Proofs.YthhfbolhlbgbgaaDoor

namespace Go.Proofs.YthhfbolhlbgbgaaDoor
set_option linter.unusedSimpArgs false
set_option linter.unusedVariables false
def adsV (r : List Ad × Int) : AV := .tup [.d (.slc 2 (adsD r.1)), .d (.int .i64 r.2)]
theorem list1_none (T : Tbl) (b2 b3 : Nat) (h : AH) : ADefer Tryd.prog T 127 [.ptr b2 1 0 0, .ptr b3 1 0 0] h none (fun h' => h' = h) := by
  refine ADefer.enter (t0 := 3) (t1 := 2) Tryd.call127 Tryd.func127 rfl Tryd.ntmps127 Tryd.results127 rfl rfl rfl rfl rfl rfl rfl rfl trivial ?_
  simp only [go_sem, Option.getD]
  refine AWp.rs fun K1 hK1 => ?_
  try simp only [go_sem]
  refine hK1 _ _ ?_
  refine AWp.cond _ rfl (fun hc => ?_) (fun hc => ?_)
  · exact absurd hc (by simp)
  · exact AWp.skip rfl
theorem list1_some (T : Tbl) (b2 b3 : Nat) (x : AV) (y e : Int) (F : List (Nat × Ob)) (L : List Nat) (h23 : (b2 == b3) = false) : ADefer Tryd.prog T 127 [.ptr b2 1 0 0, .ptr b3 1 0 0] ⟨(b2, ⟨1, 1, [[x]]⟩) :: (b3, ⟨1, 1, [[.d (.int .i64 y)]]⟩) :: F, L⟩ (some (.ifc 26 (.d (.int .i64 e)))) (fun h' => h' = ⟨(b2, ⟨1, 1, [[.nils]]⟩) :: (b3, ⟨1, 1, [[.d (.int .i64 e)]]⟩) :: F, L⟩) := by
  refine ADefer.enter (t0 := 3) (t1 := 2) Tryd.call127 Tryd.func127 rfl Tryd.ntmps127 Tryd.results127 rfl rfl rfl rfl rfl rfl rfl rfl trivial ?_
  simp only [go_sem, Option.getD]
  refine AWp.rs fun K1 hK1 => ?_
  try simp only [go_sem]
  refine hK1 _ _ ?_
  refine AWp.cond _ rfl (fun hc => ?_) (fun hc => ?_)
  · refine AWp.dk true [0, 1, 2, 3] rfl (by kernel_rfl) fun K2 hK2 => ?_
    try simp only [go_sem, assertP, h23]
    refine hK2 _ _ ?_
    rfl
  · exact absurd hc (by simp)
theorem list_step {s : Tx} {j j1 j2 : Nat} {a : Ad} (hq : addrS true (s.drop j) = some (a, s.drop j1)) (hsk : s.drop j2 = skipS (s.drop j1)) : listS (s.drop j) = match s.drop j2 with | [] => some [a] | c :: q => if c = 44 then (listS q).map (a :: ·) else none := by
  rw [listS_some hq, ← hsk]
  rfl
theorem list_no {s : Tx} {j j1 j2 : Nat} {a : Ad} (hq : addrS true (s.drop j) = some (a, s.drop j1)) (hsk : s.drop j2 = skipS (s.drop j1)) (h1 : j2 < s.length) (h : (s.drop j2).head? ≠ some 44) : listS (s.drop j) = none := by
  rw [list_step hq hsk, drop_cons h1]
  rw [drop_cons h1] at h
  simp at h
  simp [h]
theorem list_more {s : Tx} {j j1 j2 : Nat} {a : Ad} (hq : addrS true (s.drop j) = some (a, s.drop j1)) (hsk : s.drop j2 = skipS (s.drop j1)) (hd : s.drop j2 = 44 :: s.drop (j2 + 1)) : listS (s.drop j) = (listS (s.drop (j2 + 1))).map (a :: ·) := by
  rw [list_step hq hsk, hd]; simp
theorem list_end {s : Tx} {j j1 j2 : Nat} {a : Ad} (hq : addrS true (s.drop j) = some (a, s.drop j1)) (hsk : s.drop j2 = skipS (s.drop j1)) (h1 : s.length ≤ j2) : listS (s.drop j) = some [a] := by
  rw [list_step hq hsk, drop_none h1]
theorem listR_no {s : Tx} (h : ¬ 2000 < s.length) (hn : listS s = none) : listR s = ([], 3) := by rw [listR, if_neg h, hn]
theorem listR_full {s : Tx} {l : List Ad} (h : ¬ 2000 < s.length) (hn : listS s = some l) (hl : 20 < l.length) : listR s = ([], 5) := by rw [listR, if_neg h, hn]; exact if_pos hl
theorem listR_ok {s : Tx} {l : List Ad} (h : ¬ 2000 < s.length) (hn : listS s = some l) (hl : ¬ 20 < l.length) : listR s = (l, 0) := by rw [listR, if_neg h, hn]; exact if_neg hl
set_option maxRecDepth 4000 in
set_option maxHeartbeats 1000000 in
theorem List_a (T : Tbl) (hL : LibT T) (s : Tx) : AC Tryd.prog T 98 [.d (.str s)] (⟨[], []⟩) (fun x _ => x = .ret (adsV (listR s))) := by
  refine ⟨Tryd.call98, ACalls.enterD Tryd.func98 rfl Tryd.ntmps98 rfl fun hb => ?_⟩
  simp only [go_sem, Tryd.results98]
  refine AWpD.seq fun K1 hK1 => ?_
  refine AWp.rk fun K2 hK2 => ?_
  try simp only [go_sem]
  intro b2
  first | intro fb2 | have fb2 := True.intro
  try simp only [freshL, wob] at fb2
  intro b3
  first | intro fb3 | have fb3 := True.intro
  try simp only [freshL, wob] at fb3
  refine hK2 _ _ ?_
  try clear hK2 K2
  refine thenQ_n ?_
  refine hK1 _ _ ?_
  try clear hK1 K1
  refine AWpD.seq fun K3 hK3 => ?_
  refine AWp.rs fun K4 hK4 => ?_
  try simp only [go_sem]
  refine hK4 _ _ ?_
  try clear hK4 K4
  refine AWp.cond _ rfl (fun hc0 => ?_) (fun hc0 => ?_)
  · skip
    try simp only [decide_eq_true_eq] at hc0
    refine AWp.rs fun K5 hK5 => ?_
    try simp only [go_sem, fb3]
    refine hK5 _ _ ?_
    try clear hK5 K5
    refine AWp.mask [false, true, true] rfl ?_
    simp only [go_sem]
    refine AWp.ret ?_
    try simp only [thenQ]
    simp only [endD]
    apply endW_r [b2, b3] [] [] [] (by (try simp only [go_sem, fb3]); rfl)
    · rfl
    · rw [listR, if_pos (by omega)]; simp [adsV, adsD, LeA, LeL, LeD]
  · skip
    try simp only [decide_eq_false_iff_not, Int.not_lt] at hc0
    have hs : s.length ≤ 4096 := by omega
    refine AWp.skip ?_
    refine thenQ_n ?_
    refine hK3 _ _ ?_
    try clear hK3 K3
    refine AWpD.defer rfl rfl rfl (by rw [mkS_len]; decide) rfl rfl ?_
    try simp only [go_sem]
    refine AWp.mask [true, true, true] rfl ?_
    simp only [go_sem]
    refine AWp.rs fun K6 hK6 => ?_
    try simp only [go_sem]
    intro b4
    first | intro fb4 | have fb4 := True.intro
    try simp only [freshL, wob] at fb4
    refine hK6 _ _ ?_
    try clear hK6 K6
    refine AWp.mask [false, true, true, true] rfl ?_
    simp only [go_sem]
    refine AWp.ownNilH b2 0 0 2 (by (try simp only [go_sem, fb3, fb4]); rfl) rfl rfl (by decide) fun t0 ft0 => ?_
    try simp only [freshT] at ft0
    simp only [go_sem, fb3, fb4]
    refine AWp.seq fun K7 hK7 => ?_
    refine AWp.block ?_
    refine AWp.loopS [true, true, true] [] (fun n lc hc => ∃ (j v : Nat) (Y : List Ad), n = s.length - j ∧ EqS lc [] ∧ EqS hc (⟨[wob b4 s j, (b3, ⟨1, 1, [[.d (.int .i64 0)]]⟩), (b2, ⟨1, 1, [[.own v 2 (adsD Y)]]⟩)], [v]⟩) ∧ (j ≤ s.length) ∧ (Y.length ≤ j) ∧ ((listS (s.drop j)).map (Y ++ ·) = listS s)) rfl ?_ ?_
    · refine ⟨_, 0, t0, [], rfl, ?_, ?_, ?_, ?_, ?_⟩
      · (try simp only [go_sem]) <;> first | exact ⟨rfl⟩ | (constructor; simp; done)
      · (try simp only [go_sem, wob]) <;> first | exact ⟨rfl⟩ | (constructor; simp [wob, adsD]; done)
      all_goals (first | omega | (simp; done) | (cases listS s <;> rfl))
    · rintro _ _ _ ⟨j, v, Y, rfl, ⟨rfl⟩, ⟨rfl⟩, h1, h2, h3⟩
      simp only [go_sem]
      refine AWp.block ?_
      refine AWp.dsC [(2, .ptr b2 1 0 0), (3, .ptr b3 1 0 0)] (AgK.mk2 rfl rfl rfl rfl) rfl [1] 0 [2, 3] [4, 5] rfl (by kernel_rfl) rfl fun K8 hK8 => ?_
      try simp only [go_sem, fb3, fb4]
      try with_reducible refine Exists.intro _ (And.intro (by first | rfl | (simp only [go_sem, wob, icast, fb2, fb3, fb4, ft0]; first | rfl | exact ⟨by omega, rfl⟩)) ?_)
      refine DW.acp [b4] [] rfl rfl rfl rfl (by (try simp only [go_sem, wob, fb4]); rfl) rfl (address_c T hL b4 s j _ _ (by omega) hs) ?_
      rintro _ _ (⟨hI9q, rfl, yI9, rfl⟩ | ⟨I9, a10, hI9a, hI9b, hq, rfl, rfl⟩)
      · skip
        intro _ hag
        refine endD_p [b4] [] [b2, b3] [] ?_
        simp only [go_sem, wob, fb3, fb4]
        refine (list1_some T b2 b3 _ _ _ _ _ (by simp only [fb3])).mono ?_
        rintro _ rfl
        refine dEnd_mk [] [] [] [] (by (try simp only [go_sem, fb3, hag.one, hag.tl.one]); rfl) rfl ?_
        rw [listR_no (by omega) (by rw [← h3, listS_none hI9q]; rfl)]
        simp [adsV, adsD, LeA, LeL, LeD]
      try simp only [go_sem, wob, fb3, fb4]
      try with_reducible refine And.intro (by first | rfl | (simp only [go_sem, wob, icast, fb2, fb3, fb4, ft0]; first | done | rfl | exact ⟨by omega, rfl⟩)) ?_
      refine lvc_ok _ _ _ ?_
      try simp only [go_sem, fb3, fb4]
      try with_reducible refine And.intro (by first | rfl | (simp only [go_sem, wob, icast, fb2, fb3, fb4, ft0]; first | done | rfl | exact ⟨by omega, rfl⟩)) ?_
      refine DW.app rfl rfl rfl rfl (show slI Tryd.prog 134 = some (80, 2, 32) by simp only [go_sem]) rfl rfl (by simp only [go_sem]) (by first | exact .inl rfl | exact .inr rfl) (by (try simp only [go_sem]); omega) (by (try simp only [go_sem]); omega) fun t1 ft1 => ?_
      try simp only [freshT] at ft1
      try simp only [go_sem, fb3, fb4]
      refine hK8 _ _ ?_
      try clear hK8 K8
      refine AWp.mask [true, true, true] rfl ?_
      simp only [go_sem]
      refine AWp.rsA [(2, .ptr b2 1 0 0), (3, .ptr b3 1 0 0)] (AgK.mk2 rfl rfl rfl rfl) rfl fun K11 hK11 => ?_
      try simp only [go_sem]
      refine DW.acp [b4] [] rfl rfl rfl rfl (by (try simp only [go_sem, wob, fb4]); rfl) rfl (skip_c T b4 s I9 _ _ (by omega) hs) ?_
      rintro _ _ ⟨I12, hI12a, hI12b, hI12c, rfl, rfl⟩
      try simp only [go_sem, wob]
      have hsk := hI12c
      refine hK11 _ _ ?_
      try clear hK11 K11
      refine AWp.seq fun K13 hK13 => ?_
      refine AWp.ds true [0, 1, 2, 3, 4, 5, 6, 7, 8, 9] rfl (by kernel_rfl) fun K14 hK14 => ?_
      try simp only [go_sem, fb4]
      refine hK14 _ _ ?_
      try clear hK14 K14
      refine AWp.mask [true, true, true, false, false, false, false, false, false, false, false, false, false, false, true] rfl ?_
      simp only [go_sem]
      refine AWp.cond _ rfl (fun hc1 => ?_) (fun hc1 => ?_)
      · skip
        try simp only [decide_eq_true_eq] at hc1
        have hS : listS s = some (Y ++ [a10]) := by rw [← h3, list_end hq hsk (by omega)]; rfl
        refine AWp.exit ?_
        refine thenQ_e (blkQ_d (by decide) (thenQ_e (blkQ_e (thenQ_n ?_))))
        refine hK7 _ _ ?_
        try clear hK7 K7
        refine AWp.seq fun K15 hK15 => ?_
        refine AWp.rs fun K16 hK16 => ?_
        try simp only [go_sem, fb3, fb4]
        refine hK16 _ _ ?_
        try clear hK16 K16
        refine AWp.mask [true, true, false, false, false, false, true] rfl ?_
        simp only [go_sem]
        refine AWp.cond _ rfl (fun hc2 => ?_) (fun hc2 => ?_)
        · skip
          try simp only [decide_eq_true_eq] at hc2
          refine AWp.rs fun K17 hK17 => ?_
          try simp only [go_sem, fb3, fb4]
          refine hK17 _ _ ?_
          try clear hK17 K17
          refine AWp.ret ?_
          try simp only [thenQ]
          refine endD_r [b4] [] [b2, b3] [] ?_
          try simp only [go_sem, fb3, fb4]
          refine (list1_none T b2 b3 _).mono ?_
          rintro _ rfl
          refine dEnd_mk [] [] [] [] (by (try simp only [go_sem, fb3]); rfl) rfl ?_
          rw [listR_full (by omega) hS (by simp [adsD] at hc2 ⊢; omega)]
          simp [adsV, adsD, LeA, LeL, LeD]
        · skip
          try simp only [decide_eq_false_iff_not, Int.not_lt] at hc2
          refine AWp.skip ?_
          refine thenQ_n ?_
          refine hK15 _ _ ?_
          try clear hK15 K15
          refine AWp.rs fun K18 hK18 => ?_
          try simp only [go_sem, fb3, fb4]
          refine hK18 _ _ ?_
          try clear hK18 K18
          refine AWp.ret ?_
          refine endD_r [b4] [] [b2, b3] [] ?_
          try simp only [go_sem, fb3, fb4]
          refine (list1_none T b2 b3 _).mono ?_
          rintro _ rfl
          refine dEnd_mk [] [] [] [] (by (try simp only [go_sem, fb3]); rfl) rfl ?_
          rw [listR_ok (by omega) hS (by simp [adsD] at hc2 ⊢; omega)]
          simp [adsV, adsD, adD, LeA, LeL, LeD]
      · skip
        try simp only [decide_eq_false_iff_not] at hc1
        have hne : I12 < s.length := by omega
        refine AWp.skip ?_
        refine thenQ_n ?_
        refine hK13 _ _ ?_
        try clear hK13 K13
        refine AWp.rsA [(2, .ptr b2 1 0 0), (3, .ptr b3 1 0 0)] (AgK.mk2 rfl rfl rfl rfl) rfl fun K19 hK19 => ?_
        try simp only [go_sem]
        refine DW.acp [b4] [] rfl rfl rfl rfl (by (try simp only [go_sem, wob, fb4]); rfl) rfl (next_c T b4 s I12 _ _ (by omega) hs) ?_
        rintro _ _ ⟨rfl, rfl⟩
        try simp only [go_sem, wob]
        refine DW.acp [] [] rfl rfl rfl rfl (by (try simp only [go_sem]); rfl) rfl (must_c T _ _) ?_
        rintro _ _ (⟨hm20, rfl, rfl⟩ | ⟨hm20, rfl, rfl⟩)
        · skip
          intro _ hag
          refine endD_p [b4] [] [b2, b3] [] ?_
          simp only [decide_eq_false_iff_not] at hm20
          simp only [go_sem, fb3, fb4]
          refine (list1_some T b2 b3 _ _ _ _ _ (by simp only [fb3])).mono ?_
          rintro _ rfl
          refine dEnd_mk [] [] [] [] (by (try simp only [go_sem, fb3, hag.one, hag.tl.one]); rfl) rfl ?_
          rw [listR_no (by omega) (by rw [← h3, list_no hq hsk hne (head_no (c := 44) rfl hm20)]; rfl)]
          simp [adsV, adsD, LeA, LeL, LeD]
        simp only [decide_eq_true_eq] at hm20
        obtain ⟨_, hd⟩ := head_is 44 rfl (by decide) hm20
        try simp only [go_sem]
        refine hK19 _ _ ?_
        try clear hK19 K19
        refine AWp.mask [true, true, true] rfl ?_
        simp only [go_sem]
        refine AWp.rk fun K21 hK21 => ?_
        try simp only [go_sem, icast, fb4]
        (repeat (with_reducible refine And.intro ?_ ?_; omega))
        refine hK21 _ _ ?_
        try clear hK21 K21
        refine blkQ_n (thenQ_n ?_)
        refine EndS.mk [true, true, true] [] [] [] [b4, b3, b2] [t1] rfl ?_ ?_
        · (try simp only [go_sem]) <;> try rfl
        refine .e ⟨_, ?_, (I12 + 1), t1, (Y ++ [a10]), rfl, ?_, ?_, ?_, ?_, ?_⟩
        · first | omega | (simp; omega) | (grind)
        · (try simp only [go_sem]) <;> first | exact ⟨rfl⟩ | (constructor; simp; done)
        · (try simp only [go_sem, fb3, fb4]) <;> first | exact ⟨rfl⟩ | (constructor; simp [adsD, adD]; done)
        · omega
        · simp; omega
        · rw [← h3, list_more hq hsk hd]; cases listS (s.drop (I12 + 1)) <;> simp
end Go.Proofs.YthhfbolhlbgbgaaDoor

namespace Go.Proofs.YthhfbolhlbgbgaaDoor
set_option linter.unusedSimpArgs false
set_option linter.unusedVariables false
theorem listOf_none (T : Tbl) (hL : LibT T) (s : Tx) (hs : s.length ≤ 4096) (h : listS s = none) : PC Tryd.prog T 93 [.d (.str s)] (.tup [.d (.slc 2 []), .d (.bool false)]) := by
  have := listOf_c T hL s hs
  rw [h] at this; exact this
theorem listOf_some (T : Tbl) (hL : LibT T) (s : Tx) (hs : s.length ≤ 4096) (l : List Ad) (h : listS s = some l) : PC Tryd.prog T 93 [.d (.str s)] (.tup [.d (.slc 2 (adsD l)), .d (.bool true)]) := by
  have := listOf_c T hL s hs
  rw [h] at this; exact this
theorem List_c (T : Tbl) (hL : LibT T) (s : Tx) : PC Tryd.prog T 98 [.d (.str s)] (adsV (listR s)) := PC.of_ac (List_a T hL s) (by simp [adsV, LeA, LeL, LeD])
end Go.Proofs.YthhfbolhlbgbgaaDoor
