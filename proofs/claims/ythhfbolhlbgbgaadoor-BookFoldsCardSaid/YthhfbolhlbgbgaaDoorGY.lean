/- Texts that the laws rest on, packed. -/
import Derived.Test.YthhfbolhlbgbgaaDoorGX
import Derived.Test.YthhfbolhlbgbgaaDoorGV
import Derived.Test.YthhfbolhlbgbgaaDoorGW
namespace Go.Proofs.YthhfbolhlbgbgaaDoor
set_option linter.unusedSimpArgs false
set_option linter.unusedVariables false
def onD (p : Prop) [Decidable p] (t : Tx) : Tx := if p then t else []
def onI (p : Prop) [Decidable p] (n : Int) : Int := if p then n else 0
/-- what its kind has -/
def Ent.cl (x : Ent) : Ent := ⟨x.kind, onD (x.kind ≠ 6) x.box, onI (x.kind = 3 ∨ x.kind = 5) x.uid, onI (x.kind = 2 ∨ x.kind = 3) x.flags, onD (x.kind = 5 ∨ x.kind = 6) x.dest, onD (x.kind = 2 ∨ x.kind = 6) x.text⟩
/-- has it what its kind has not? -/
def formB (x : Ent) : Bool := ((((decide (x.kind = 6) && !decide (x.box = [])) || ((!decide (x.kind = 6) && !decide (x.kind = 5)) && !decide (x.dest = []))) || ((!decide (x.kind = 6) && !decide (x.kind = 2)) && !decide (x.text = []))) || ((!decide (x.kind = 5) && !decide (x.kind = 3)) && !decide (x.uid = 0))) || ((!decide (x.kind = 2) && !decide (x.kind = 3)) && !decide (x.flags = 0))
def eqE (x y : Ent) : Bool := decide (x.kind = y.kind) && (decide (x.box = y.box) && (decide (x.uid = y.uid) && (decide (x.flags = y.flags) && (decide (x.dest = y.dest) && decide (x.text = y.text)))))
theorem onD_eq {p : Prop} [Decidable p] {t : Tx} : (t = onD p t) ↔ (p ∨ t = []) := by
  unfold onD; split <;> simp [*]
theorem onI_eq {p : Prop} [Decidable p] {t : Int} : (t = onI p t) ↔ (p ∨ t = 0) := by
  unfold onI; split <;> simp [*]
theorem form_eq (x : Ent) (h : 1 ≤ x.kind ∧ x.kind ≤ 6) : eqE x x.cl = !formB x := by
  rw [Bool.eq_iff_iff]
  simp only [eqE, Ent.cl, Bool.and_eq_true, decide_eq_true_eq, onD_eq, onI_eq, Bool.not_eq_true', formB, Bool.or_eq_false_iff, Bool.and_eq_false_iff, decide_eq_false_iff_not, Bool.not_eq_false']
  have hk : x.kind = 1 ∨ x.kind = 2 ∨ x.kind = 3 ∨ x.kind = 4 ∨ x.kind = 5 ∨ x.kind = 6 := by omega
  rcases hk with e | e | e | e | e | e <;> simp [e] <;> grind
def destE (t : Tx) : Int := if 100 < t.length then 3 else match listS t with | some [_] => 0 | _ => 3
/-- what is wrong with an entry -/
def entE (x : Ent) : Int :=
  if ¬ (1 ≤ x.kind ∧ x.kind ≤ 6) then 2
  else if formB x = true then 3
  else if x.flags < 0 ∨ 31 < x.flags ∨ x.uid < 0 ∨ 1048576 < x.uid then 6
  else if 2000 < x.text.length then 1
  else if x.kind = 6 then destE x.dest
  else if nameE x.box ≠ 0 then nameE x.box
  else if x.kind = 5 then nameE x.dest else 0
theorem entE_2 {x : Ent} (h : ¬ (1 ≤ x.kind ∧ x.kind ≤ 6)) : entE x = 2 := if_pos h
theorem entE_3 {x : Ent} (h : 1 ≤ x.kind ∧ x.kind ≤ 6) (h2 : formB x = true) : entE x = 3 := by unfold entE; rw [if_neg (by omega), if_pos h2]
theorem entE_6 {x : Ent} (h : 1 ≤ x.kind ∧ x.kind ≤ 6) (h2 : formB x = false) (h3 : x.flags < 0 ∨ 31 < x.flags ∨ x.uid < 0 ∨ 1048576 < x.uid) : entE x = 6 := by unfold entE; rw [if_neg (by omega), if_neg (by simp [h2]), if_pos h3]
theorem entE_t {x : Ent} (h : 1 ≤ x.kind ∧ x.kind ≤ 6) (h2 : formB x = false) (h3 : ¬ (x.flags < 0 ∨ 31 < x.flags ∨ x.uid < 0 ∨ 1048576 < x.uid)) : entE x = if 2000 < x.text.length then 1 else if x.kind = 6 then destE x.dest else if nameE x.box ≠ 0 then nameE x.box else if x.kind = 5 then nameE x.dest else 0 := by unfold entE; rw [if_neg (by omega), if_neg (by simp [h2]), if_neg h3]
theorem destE_big {t : Tx} (h : 100 < t.length) : destE t = 3 := if_pos h
theorem destE_some {t : Tx} {l : List Ad} (h : ¬ 100 < t.length) (h2 : listS t = some l) : destE t = if l.length = 1 then 0 else 3 := by
  unfold destE
  rw [if_neg h, h2]
  match l with
  | [] => rfl
  | [a] => rfl
  | a :: c :: l => simp
theorem destE_none {t : Tx} (h : ¬ 100 < t.length) (h2 : listS t = none) : destE t = 3 := by
  unfold destE
  rw [if_neg h, h2]
theorem destE_R {t : Tx} (h : ¬ 100 < t.length) : destE t = if (listR t).2 = 0 ∧ (listR t).1.length = 1 then 0 else 3 := by
  cases h2 : listS t with
  | none => rw [destE_none h h2, listR_no (by omega) h2]; simp
  | some l =>
    rw [destE_some h h2]
    by_cases hl : 20 < l.length
    · rw [listR_full (by omega) h2 hl, if_neg (by omega)]; simp
    · rw [listR_ok (by omega) h2 hl]; simp
theorem destE_t {t : Tx} (h : (¬ (listR t).2 = 0 ∨ ¬ ((listR t).1.length : Int) = 1) ∨ 100 < (t.length : Int)) : destE t = 3 := by
  by_cases hb : 100 < t.length
  · exact destE_big hb
  · rw [destE_R hb, if_neg]
    rintro ⟨h1, h2⟩
    rcases h with (h | h) | h
    · exact h h1
    · exact h (by omega)
    · exact hb (by omega)
theorem destE_f {t : Tx} (h : ((listR t).2 = 0 ∧ ((listR t).1.length : Int) = 1) ∧ (t.length : Int) ≤ 100) : destE t = 0 := by
  rw [destE_R (by omega), if_pos ⟨h.1.1, by omega⟩]
theorem form_t {x : Ent} (hk : 1 ≤ x.kind ∧ x.kind ≤ 6) (h : ¬ (x.kind = x.cl.kind ∧ x.box = x.cl.box ∧ x.uid = x.cl.uid ∧ x.flags = x.cl.flags ∧ x.dest = x.cl.dest ∧ x.text = x.cl.text)) : formB x = true := by
  have := form_eq x hk
  cases e : formB x with
  | true => rfl
  | false =>
    rw [e] at this
    simp only [eqE, Bool.and_eq_true, decide_eq_true_eq, Bool.not_false] at this
    exact absurd this h
theorem form_f {x : Ent} (hk : 1 ≤ x.kind ∧ x.kind ≤ 6) (h : x.kind = x.cl.kind ∧ x.box = x.cl.box ∧ x.uid = x.cl.uid ∧ x.flags = x.cl.flags ∧ x.dest = x.cl.dest ∧ x.text = x.cl.text) : formB x = false := by
  have := form_eq x hk
  cases e : formB x with
  | false => rfl
  | true =>
    rw [e] at this
    obtain ⟨h1, h2, h3, h4, h5, h6⟩ := h
    simp [eqE, ← h1, ← h2, ← h3, ← h4, ← h5, ← h6] at this
set_option maxRecDepth 4000 in
set_option maxHeartbeats 1000000 in
theorem Form_c (T : Tbl) (hL : LibT T) (x : Ent) (sb : x.box.length ≤ 9223372036854775807) (sd : x.dest.length ≤ 9223372036854775807) (st : x.text.length ≤ 9223372036854775807) : PC Tryd.prog T 67 [.agg (entA x)] (.d (.int .i64 (entE x))) := by
  refine ⟨Tryd.call67, PCall.enterS Tryd.func67 rfl Tryd.ntmps67 rfl fun hb => ?_⟩
  simp only [go_sem, Tryd.results67]
  refine AWp.rs fun K1 hK1 => ?_
  try simp only [go_sem]
  intro b1
  first | intro fb1 | have fb1 := True.intro
  try simp only [freshL] at fb1
  refine hK1 _ _ ?_
  try clear hK1 K1
  refine AWp.rs fun K2 hK2 => ?_
  try simp only [go_sem]
  intro b3
  first | intro fb3 | have fb3 := True.intro
  try simp only [freshL] at fb3
  refine hK2 _ _ ?_
  try clear hK2 K2
  refine AWp.mask [false, true, false, true] rfl ?_
  simp only [go_sem]
  refine AWp.seq fun K3 hK3 => ?_
  refine AWp.rs fun K4 hK4 => ?_
  try simp only [go_sem, fb3]
  refine hK4 _ _ ?_
  try clear hK4 K4
  refine AWp.mask [true, true, false, true] rfl ?_
  simp only [go_sem]
  refine AWp.joinK hK3 [true, true] (fun lc hc => EqS lc [] ∧ EqS hc (⟨[(b3, ⟨6, 1, [entA x.cl]⟩), (b1, ⟨6, 1, [entA x]⟩)], []⟩) ∧ (1 ≤ x.kind ∧ x.kind ≤ 6)) ?_ ?_
  · skip
    refine AWp.block ?_
    refine AWp.seq fun K5 hK5 => ?_
    refine AWp.rs fun K6 hK6 => ?_
    try simp only [go_sem]
    refine hK6 _ _ ?_
    try clear hK6 K6
    refine AWp.mask [true, true, true, true] rfl ?_
    simp only [go_sem]
    apply AWp.boK (z := (_ || _)) hK5 [true, true, true] 12
    · skip
      refine AWp.cond _ rfl (fun hc0 => ?_) (fun hc0 => ?_)
      rotate_left
      · skip
        refine AWp.rk fun K7 hK7 => ?_
        try simp only [go_sem]
        refine hK7 _ _ ?_
        try clear hK7 K7
        refine thenQ_n ?_
        refine EndS.mkr [true, true, true] [false, false, false, true] rfl ?_ ?_
        · (try simp only [go_sem]) <;> try rfl
        exact .e ⟨EqS.bo (or_f hc0 rfl), ⟨rfl⟩⟩
      · skip
        refine AWp.skip ?_
        refine thenQ_n ?_
        refine EndS.mkr [true, true, true] [false, false, false, true] rfl ?_ ?_
        · (try simp only [go_sem]) <;> try rfl
        exact .e ⟨EqS.bo (or_t hc0), ⟨rfl⟩⟩
    · skip
      simp only [go_sem]
      refine AWp.cond _ rfl (fun hc1 => ?_) (fun hc1 => ?_)
      · skip
        try simp only [decide_eq_true_eq, Bool.or_eq_true] at hc1
        have e3 : ¬ x.kind = 6 ∧ ¬ x.kind = 5 ∧ ¬ x.kind = 3 ∧ ¬ x.kind = 2 := by omega
        refine AWp.rk fun K8 hK8 => ?_
        try simp only [go_sem, fb3]
        refine hK8 _ _ ?_
        try clear hK8 K8
        refine blkQ_n (thenQ_n ?_)
        refine EndS.mk [true, true] [] [] [] [b3, b1] [] rfl ?_ ?_
        · (try simp only [go_sem]) <;> try rfl
        refine .e ⟨?_, ?_, ?_⟩
        · (try simp only [go_sem]) <;> first | exact ⟨rfl⟩ | (constructor; grind)
        · (try simp only [go_sem, fb3]) <;> first | exact ⟨rfl⟩ | (constructor; simp [Ent.cl, onD, onI, *]; done)
        all_goals (first | omega | grind)
      · skip
        try simp only [decide_eq_false_iff_not, Bool.or_eq_false_iff] at hc1
        refine AWp.rs fun K9 hK9 => ?_
        try simp only [go_sem]
        refine hK9 _ _ ?_
        try clear hK9 K9
        refine AWp.cond _ rfl (fun hc2 => ?_) (fun hc2 => ?_)
        · skip
          try simp only [decide_eq_true_eq] at hc2
          refine AWp.tree true (.seg 0 (.seg 1 (.seg 2 (.seg 4 (.seg 6 (.many (.alt 3 (.many (.alt 5 (.seg 7 (.seg 8 (.seg 9 (.seg 10 (.seg 11 (.done)))))) (.alt 7 (.seg 8 (.many (.alt 5 (.seg 9 (.seg 10 (.seg 11 (.done)))) (.alt 9 (.seg 5 (.seg 10 (.seg 11 (.done)))) (.nil))))) (.nil)))) (.alt 5 (.many (.alt 3 (.seg 7 (.seg 8 (.seg 9 (.seg 10 (.seg 11 (.done)))))) (.alt 7 (.seg 3 (.seg 8 (.seg 9 (.seg 10 (.seg 11 (.done)))))) (.nil)))) (.alt 7 (.seg 3 (.seg 8 (.many (.alt 5 (.seg 9 (.seg 10 (.seg 11 (.done)))) (.alt 9 (.seg 5 (.seg 10 (.seg 11 (.done)))) (.nil)))))) (.nil)))))))))) rfl (by kernel_rfl) fun K10 hK10 => ?_
          try simp only [go_sem, fb3]
          refine hK10 _ _ ?_
          try clear hK10 K10
          refine blkQ_n (thenQ_n ?_)
          refine EndS.mk [true, true] [] [] [] [b3, b1] [] rfl ?_ ?_
          · (try simp only [go_sem]) <;> try rfl
          refine .e ⟨?_, ?_, ?_⟩
          · (try simp only [go_sem]) <;> first | exact ⟨rfl⟩ | (constructor; grind)
          · (try simp only [go_sem, fb3]) <;> first | exact ⟨rfl⟩ | (constructor; simp [Ent.cl, onD, onI, *]; done)
          all_goals (first | omega | grind)
        · skip
          try simp only [decide_eq_false_iff_not] at hc2
          refine AWp.rs fun K11 hK11 => ?_
          try simp only [go_sem]
          refine hK11 _ _ ?_
          try clear hK11 K11
          refine AWp.mask [true, true, true, false, false, false, true] rfl ?_
          simp only [go_sem]
          refine AWp.cond _ rfl (fun hc3 => ?_) (fun hc3 => ?_)
          · skip
            try simp only [decide_eq_true_eq] at hc3
            refine AWp.tree true (.seg 0 (.seg 1 (.seg 2 (.seg 4 (.seg 6 (.many (.alt 3 (.many (.alt 5 (.seg 7 (.seg 8 (.seg 9 (.seg 10 (.seg 11 (.done)))))) (.alt 7 (.seg 8 (.many (.alt 5 (.seg 9 (.seg 10 (.seg 11 (.done)))) (.alt 9 (.seg 5 (.seg 10 (.seg 11 (.done)))) (.nil))))) (.nil)))) (.alt 5 (.many (.alt 3 (.seg 7 (.seg 8 (.seg 9 (.seg 10 (.seg 11 (.done)))))) (.alt 7 (.seg 3 (.seg 8 (.seg 9 (.seg 10 (.seg 11 (.done)))))) (.nil)))) (.alt 7 (.seg 3 (.seg 8 (.many (.alt 5 (.seg 9 (.seg 10 (.seg 11 (.done)))) (.alt 9 (.seg 5 (.seg 10 (.seg 11 (.done)))) (.nil)))))) (.nil)))))))))) rfl (by kernel_rfl) fun K12 hK12 => ?_
            try simp only [go_sem, fb3]
            refine hK12 _ _ ?_
            try clear hK12 K12
            refine blkQ_n (thenQ_n ?_)
            refine EndS.mk [true, true] [] [] [] [b3, b1] [] rfl ?_ ?_
            · (try simp only [go_sem]) <;> try rfl
            refine .e ⟨?_, ?_, ?_⟩
            · (try simp only [go_sem]) <;> first | exact ⟨rfl⟩ | (constructor; grind)
            · (try simp only [go_sem, fb3]) <;> first | exact ⟨rfl⟩ | (constructor; simp [Ent.cl, onD, onI, *]; done)
            all_goals (first | omega | grind)
          · skip
            try simp only [decide_eq_false_iff_not] at hc3
            refine AWp.rs fun K13 hK13 => ?_
            try simp only [go_sem]
            refine hK13 _ _ ?_
            try clear hK13 K13
            refine AWp.cond _ rfl (fun hc4 => ?_) (fun hc4 => ?_)
            · skip
              try simp only [decide_eq_true_eq] at hc4
              refine AWp.tree true (.seg 0 (.seg 1 (.seg 2 (.seg 4 (.seg 6 (.many (.alt 3 (.many (.alt 5 (.seg 7 (.seg 8 (.seg 9 (.seg 10 (.seg 11 (.done)))))) (.alt 7 (.seg 8 (.many (.alt 5 (.seg 9 (.seg 10 (.seg 11 (.done)))) (.alt 9 (.seg 5 (.seg 10 (.seg 11 (.done)))) (.nil))))) (.nil)))) (.alt 5 (.many (.alt 3 (.seg 7 (.seg 8 (.seg 9 (.seg 10 (.seg 11 (.done)))))) (.alt 7 (.seg 3 (.seg 8 (.seg 9 (.seg 10 (.seg 11 (.done)))))) (.nil)))) (.alt 7 (.seg 3 (.seg 8 (.many (.alt 5 (.seg 9 (.seg 10 (.seg 11 (.done)))) (.alt 9 (.seg 5 (.seg 10 (.seg 11 (.done)))) (.nil)))))) (.nil)))))))))) rfl (by kernel_rfl) fun K14 hK14 => ?_
              try simp only [go_sem, fb3]
              refine hK14 _ _ ?_
              try clear hK14 K14
              refine blkQ_n (thenQ_n ?_)
              refine EndS.mk [true, true] [] [] [] [b3, b1] [] rfl ?_ ?_
              · (try simp only [go_sem]) <;> try rfl
              refine .e ⟨?_, ?_, ?_⟩
              · (try simp only [go_sem]) <;> first | exact ⟨rfl⟩ | (constructor; grind)
              · (try simp only [go_sem, fb3]) <;> first | exact ⟨rfl⟩ | (constructor; simp [Ent.cl, onD, onI, *]; done)
              all_goals (first | omega | grind)
            · skip
              try simp only [decide_eq_false_iff_not] at hc4
              refine AWp.rs fun K15 hK15 => ?_
              try simp only [go_sem]
              refine hK15 _ _ ?_
              try clear hK15 K15
              refine AWp.mask [true, true, false, false, false, false, true] rfl ?_
              simp only [go_sem]
              refine AWp.cond _ rfl (fun hc5 => ?_) (fun hc5 => ?_)
              · skip
                try simp only [decide_eq_true_eq] at hc5
                refine AWp.tree true (.seg 0 (.seg 1 (.seg 2 (.seg 4 (.many (.alt 3 (.seg 5 (.seg 6 (.seg 7 (.done)))) (.alt 5 (.seg 3 (.seg 6 (.seg 7 (.done)))) (.nil)))))))) rfl (by kernel_rfl) fun K16 hK16 => ?_
                try simp only [go_sem, fb3]
                refine hK16 _ _ ?_
                try clear hK16 K16
                refine blkQ_n (thenQ_n ?_)
                refine EndS.mk [true, true] [] [] [] [b3, b1] [] rfl ?_ ?_
                · (try simp only [go_sem]) <;> try rfl
                refine .e ⟨?_, ?_, ?_⟩
                · (try simp only [go_sem]) <;> first | exact ⟨rfl⟩ | (constructor; grind)
                · (try simp only [go_sem, fb3]) <;> first | exact ⟨rfl⟩ | (constructor; simp [Ent.cl, onD, onI, *]; done)
                all_goals (first | omega | grind)
              · skip
                try simp only [decide_eq_false_iff_not] at hc5
                refine AWp.rs fun K17 hK17 => ?_
                try simp only [go_sem]
                refine hK17 _ _ ?_
                try clear hK17 K17
                refine AWp.ret ?_
                try simp only [go_sem]
                rw [entE_2 (by omega)]
  · rintro _ _ ⟨⟨rfl⟩, ⟨rfl⟩, hk⟩
    simp only [go_sem]
    refine AWp.seq fun K18 hK18 => ?_
    refine AWp.rs fun K19 hK19 => ?_
    try simp only [go_sem, fb3]
    refine hK19 _ _ ?_
    try clear hK19 K19
    refine AWp.cond _ rfl (fun hc6 => ?_) (fun hc6 => ?_)
    · skip
      try simp only [decide_eq_false_iff_not, Bool.not_eq_true', Bool.and_eq_false_iff] at hc6
      have hf := form_t hk (fun hh => by simp [hh] at hc6)
      refine AWp.rs fun K20 hK20 => ?_
      try simp only [go_sem]
      refine hK20 _ _ ?_
      try clear hK20 K20
      refine AWp.mask [false, true] rfl ?_
      simp only [go_sem]
      refine AWp.ret ?_
      try simp only [go_sem]
      rw [entE_3 hk hf]
    · skip
      try simp only [decide_eq_true_eq, Bool.not_eq_false', Bool.and_eq_true] at hc6
      have hf := form_f hk (by simpa [and_assoc] using hc6)
      refine AWp.skip ?_
      refine thenQ_n ?_
      refine hK18 _ _ ?_
      try clear hK18 K18
      refine AWp.mask [true] rfl ?_
      simp only [go_sem]
      refine AWp.seq fun K21 hK21 => ?_
      refine AWp.rs fun K22 hK22 => ?_
      try simp only [go_sem, fb3]
      (repeat (with_reducible refine And.intro ?_ ?_; (exact nfB)))
      refine hK22 _ _ ?_
      try clear hK22 K22
      refine AWp.mask [true, false, false, false, false, false, false, false, false, false, false, false, false, false, false, false, false, false, true] rfl ?_
      simp only [go_sem]
      refine AWp.cond _ rfl (fun hc7 => ?_) (fun hc7 => ?_)
      · skip
        try simp only [decide_eq_true_eq, Bool.or_eq_true] at hc7
        refine AWp.rs fun K23 hK23 => ?_
        try simp only [go_sem]
        refine hK23 _ _ ?_
        try clear hK23 K23
        refine AWp.ret ?_
        try simp only [go_sem]
        rw [entE_6 hk hf (by omega)]
      · skip
        try simp only [decide_eq_false_iff_not, Bool.or_eq_false_iff, Int.not_lt] at hc7
        refine AWp.skip ?_
        refine thenQ_n ?_
        refine hK21 _ _ ?_
        try clear hK21 K21
        refine AWp.seq fun K24 hK24 => ?_
        refine AWp.rs fun K25 hK25 => ?_
        try simp only [go_sem, fb3]
        refine hK25 _ _ ?_
        try clear hK25 K25
        refine AWp.mask [true, false, false, false, false, true] rfl ?_
        simp only [go_sem]
        refine AWp.cond _ rfl (fun hc8 => ?_) (fun hc8 => ?_)
        · skip
          try simp only [decide_eq_true_eq] at hc8
          refine AWp.rs fun K26 hK26 => ?_
          try simp only [go_sem]
          refine hK26 _ _ ?_
          try clear hK26 K26
          refine AWp.ret ?_
          try simp only [go_sem]
          rw [entE_t hk hf (by omega), if_pos (by omega)]
        · skip
          try simp only [decide_eq_false_iff_not, Int.not_lt] at hc8
          refine AWp.skip ?_
          refine thenQ_n ?_
          refine hK24 _ _ ?_
          try clear hK24 K24
          refine AWp.seq fun K27 hK27 => ?_
          refine AWp.rs fun K28 hK28 => ?_
          try simp only [go_sem, fb3]
          refine hK28 _ _ ?_
          try clear hK28 K28
          refine AWp.cond _ rfl (fun hc9 => ?_) (fun hc9 => ?_)
          · skip
            try simp only [decide_eq_true_eq] at hc9
            refine AWp.rs fun K29 hK29 => ?_
            try simp only [go_sem, fb3]
            refine DW.pcr rfl rfl rfl rfl (List_c T hL _) rfl rfl ?_
            try simp only [go_sem, adsV]
            refine hK29 _ _ ?_
            try clear hK29 K29
            refine AWp.mask [true, true, true] rfl ?_
            simp only [go_sem]
            refine AWp.seq fun K30 hK30 => ?_
            refine AWp.rs fun K31 hK31 => ?_
            try simp only [go_sem, fb3]
            (repeat (with_reducible refine And.intro ?_ ?_; (exact nfB)))
            refine hK31 _ _ ?_
            try clear hK31 K31
            refine AWp.mask [false, false, false, false, false, false, false, false, false, false, false, false, false, false, false, true] rfl ?_
            simp only [go_sem]
            refine AWp.cond _ rfl (fun hc10 => ?_) (fun hc10 => ?_)
            · skip
              try simp only [decide_eq_true_eq, decide_eq_false_iff_not, Bool.not_eq_true', Bool.or_eq_true] at hc10
              refine AWp.rs fun K32 hK32 => ?_
              try simp only [go_sem]
              refine hK32 _ _ ?_
              try clear hK32 K32
              refine AWp.ret ?_
              try simp only [go_sem]
              rw [entE_t hk hf (by omega), if_neg (by omega), if_pos hc9, destE_t hc10]
            · skip
              try simp only [decide_eq_true_eq, decide_eq_false_iff_not, Bool.not_eq_false', Bool.or_eq_false_iff, Int.not_lt] at hc10
              refine AWp.skip ?_
              refine thenQ_n ?_
              refine hK30 _ _ ?_
              try clear hK30 K30
              refine AWp.rs fun K33 hK33 => ?_
              try simp only [go_sem]
              refine hK33 _ _ ?_
              try clear hK33 K33
              refine AWp.ret ?_
              try simp only [go_sem]
              rw [entE_t hk hf (by omega), if_neg (by omega), if_pos hc9, destE_f hc10]
          · skip
            try simp only [decide_eq_false_iff_not] at hc9
            refine AWp.skip ?_
            refine thenQ_n ?_
            refine hK27 _ _ ?_
            try clear hK27 K27
            refine AWp.mask [true] rfl ?_
            simp only [go_sem]
            refine AWp.seq fun K34 hK34 => ?_
            refine AWp.rs fun K35 hK35 => ?_
            try simp only [go_sem, fb3]
            refine DW.pcr rfl rfl rfl rfl (Name_c T _ (by first | exact sb | exact sd)) rfl rfl ?_
            try simp only [go_sem]
            refine hK35 _ _ ?_
            try clear hK35 K35
            refine AWp.rs fun K36 hK36 => ?_
            try simp only [go_sem]
            refine hK36 _ _ ?_
            try clear hK36 K36
            refine AWp.mask [true, true, false, false, false, false, true] rfl ?_
            simp only [go_sem]
            refine AWp.cond _ rfl (fun hc11 => ?_) (fun hc11 => ?_)
            · skip
              try simp only [decide_eq_false_iff_not, Bool.not_eq_true'] at hc11
              refine AWp.rs fun K37 hK37 => ?_
              try simp only [go_sem]
              refine hK37 _ _ ?_
              try clear hK37 K37
              refine AWp.mask [false, true] rfl ?_
              simp only [go_sem]
              refine AWp.ret ?_
              try simp only [go_sem]
              rw [entE_t hk hf (by omega), if_neg (by omega), if_neg hc9, if_pos hc11]
            · skip
              try simp only [decide_eq_true_eq, Bool.not_eq_false'] at hc11
              refine AWp.skip ?_
              refine thenQ_n ?_
              refine hK34 _ _ ?_
              try clear hK34 K34
              refine AWp.seq fun K38 hK38 => ?_
              refine AWp.rs fun K39 hK39 => ?_
              try simp only [go_sem, fb3]
              refine hK39 _ _ ?_
              try clear hK39 K39
              refine AWp.mask [true, false, false, false, false, true] rfl ?_
              simp only [go_sem]
              refine AWp.cond _ rfl (fun hc12 => ?_) (fun hc12 => ?_)
              · skip
                try simp only [decide_eq_true_eq] at hc12
                refine AWp.rs fun K40 hK40 => ?_
                try simp only [go_sem, fb3]
                refine DW.pcr rfl rfl rfl rfl (Name_c T _ (by first | exact sb | exact sd)) rfl rfl ?_
                try simp only [go_sem]
                refine hK40 _ _ ?_
                try clear hK40 K40
                refine AWp.mask [false, true] rfl ?_
                simp only [go_sem]
                refine AWp.ret ?_
                try simp only [go_sem]
                rw [entE_t hk hf (by omega), if_neg (by omega), if_neg hc9, if_neg (by simpa using hc11), if_pos hc12]
              · skip
                try simp only [decide_eq_false_iff_not] at hc12
                refine AWp.skip ?_
                refine thenQ_n ?_
                refine hK38 _ _ ?_
                try clear hK38 K38
                refine AWp.rs fun K41 hK41 => ?_
                try simp only [go_sem]
                refine hK41 _ _ ?_
                try clear hK41 K41
                refine AWp.ret ?_
                try simp only [go_sem]
                rw [entE_t hk hf (by omega), if_neg (by omega), if_neg hc9, if_neg (by simpa using hc11), if_neg hc12]
set_option maxRecDepth 4000 in
set_option maxHeartbeats 1000000 in
theorem EntryFault_c (T : Tbl) (hL : LibT T) (x : Ent) (sb : x.box.length ≤ 9223372036854775807) (sd : x.dest.length ≤ 9223372036854775807) (st : x.text.length ≤ 9223372036854775807) : PC Tryd.prog T 57 [.agg (entA x)] (.d (.int .i64 (entE x))) := by
  refine ⟨Tryd.call57, PCall.enterS Tryd.func57 rfl Tryd.ntmps57 rfl fun hb => ?_⟩
  simp only [go_sem, Tryd.results57]
  refine AWp.rs fun K1 hK1 => ?_
  try simp only [go_sem]
  intro b1
  first | intro fb1 | have fb1 := True.intro
  try simp only [freshL] at fb1
  refine hK1 _ _ ?_
  try clear hK1 K1
  refine AWp.seq fun K2 hK2 => ?_
  refine AWp.rs fun K3 hK3 => ?_
  try simp only [go_sem]
  refine DW.pcr rfl rfl rfl rfl (In_c T _ _ _) rfl rfl ?_
  try simp only [go_sem]
  refine hK3 _ _ ?_
  try clear hK3 K3
  refine AWp.mask [false, true, false, false, false, false, true] rfl ?_
  simp only [go_sem]
  refine AWp.cond _ rfl (fun hc0 => ?_) (fun hc0 => ?_)
  · skip
    try simp only [decide_eq_false_iff_not, Bool.not_eq_true', Bool.and_eq_false_iff, Int.not_le] at hc0
    refine AWp.rs fun K4 hK4 => ?_
    try simp only [go_sem]
    refine hK4 _ _ ?_
    try clear hK4 K4
    refine AWp.ret ?_
    try simp only [go_sem]
    rw [entE_2 (by omega)]
  · skip
    try simp only [decide_eq_true_eq, Bool.not_eq_false', Bool.and_eq_true] at hc0
    have hk : 1 ≤ x.kind ∧ x.kind ≤ 6 := by omega
    refine AWp.skip ?_
    refine thenQ_n ?_
    refine hK2 _ _ ?_
    try clear hK2 K2
    refine AWp.rs fun K5 hK5 => ?_
    try simp only [go_sem]
    refine hK5 _ _ ?_
    try clear hK5 K5
    refine AWp.mask [true, true] rfl ?_
    simp only [go_sem]
    refine AWp.rs fun K6 hK6 => ?_
    try simp only [go_sem]
    refine hK6 _ _ ?_
    try clear hK6 K6
    refine AWp.rs fun K7 hK7 => ?_
    try simp only [go_sem]
    refine hK7 _ _ ?_
    try clear hK7 K7
    refine AWp.mask [true, true, true, true] rfl ?_
    simp only [go_sem]
    refine AWp.rs fun K8 hK8 => ?_
    try simp only [go_sem]
    refine hK8 _ _ ?_
    try clear hK8 K8
    refine AWp.seq fun K9 hK9 => ?_
    refine AWp.rs fun K10 hK10 => ?_
    try simp only [go_sem]
    (repeat (with_reducible refine And.intro ?_ ?_; (first | (exact nfB) | (intro hg; simp at hg ⊢; first | omega | exact hg | grind))))
    refine hK10 _ _ ?_
    try clear hK10 K10
    refine AWp.mask [true, true, true, false, false, false, false, false, false, false, false, false, false, false, false, false, false, false, false, false, false, false, false, false, false, false, false, false, false, false, false, false, false, false, false, false, false, false, false, false, false, false, false, false, false, false, false, false, false, false, false, false, false, false, false, false, false, false, false, false, false, false, false, false, false, true] rfl ?_
    simp only [go_sem]
    refine AWp.cond _ rfl (fun hc1 => ?_) (fun hc1 => ?_)
    · skip
      try simp only [decide_eq_true_eq, decide_eq_false_iff_not, Bool.not_eq_true', Bool.and_eq_true, Bool.or_eq_true] at hc1
      have hf : formB x = true := by unfold formB; simpa using hc1
      refine AWp.rs fun K11 hK11 => ?_
      try simp only [go_sem]
      refine hK11 _ _ ?_
      try clear hK11 K11
      refine AWp.mask [false, true] rfl ?_
      simp only [go_sem]
      refine AWp.ret ?_
      try simp only [go_sem]
      rw [entE_3 hk hf]
    · skip
      try simp only [decide_eq_true_eq, decide_eq_false_iff_not, Bool.not_eq_false', Bool.and_eq_false_iff, Bool.or_eq_false_iff] at hc1
      have hf : formB x = false := by
        simp only [formB, decide_eq_true_eq, decide_eq_false_iff_not, Bool.not_eq_false', Bool.and_eq_false_iff, Bool.or_eq_false_iff]
        exact hc1
      refine AWp.skip ?_
      refine thenQ_n ?_
      refine hK9 _ _ ?_
      try clear hK9 K9
      refine AWp.seq fun K12 hK12 => ?_
      refine AWp.rs fun K13 hK13 => ?_
      try simp only [go_sem]
      refine DW.pcr rfl rfl rfl rfl (In_c T _ _ _) rfl rfl ?_
      try simp only [go_sem]
      refine DW.pcgr rfl rfl rfl rfl rfl (fun hg => In_c T _ _ _) (fun hg => by (try simp only [go_sem]) <;> first | exact hg | (exfalso; simp at hg; done) | (simpa using hg) | grind) rfl rfl ?_
      try simp only [go_sem]
      (repeat (with_reducible refine And.intro ?_ ?_; (exact nfB)))
      refine hK13 _ _ ?_
      try clear hK13 K13
      refine AWp.mask [true, true, true, false, false, false, false, false, false, false, false, false, false, true] rfl ?_
      simp only [go_sem]
      refine AWp.cond _ rfl (fun hc2 => ?_) (fun hc2 => ?_)
      · skip
        try simp only [decide_eq_false_iff_not, Bool.not_eq_true', Bool.or_eq_true, Bool.and_eq_false_iff, Int.not_le] at hc2
        refine AWp.rs fun K14 hK14 => ?_
        try simp only [go_sem]
        refine hK14 _ _ ?_
        try clear hK14 K14
        refine AWp.mask [false, true] rfl ?_
        simp only [go_sem]
        refine AWp.ret ?_
        try simp only [go_sem]
        rw [entE_6 hk hf (by omega)]
      · skip
        try simp only [decide_eq_true_eq, Bool.not_eq_false', Bool.and_eq_true, Bool.or_eq_false_iff] at hc2
        refine AWp.skip ?_
        refine thenQ_n ?_
        refine hK12 _ _ ?_
        try clear hK12 K12
        refine AWp.seq fun K15 hK15 => ?_
        refine AWp.rs fun K16 hK16 => ?_
        try simp only [go_sem]
        refine hK16 _ _ ?_
        try clear hK16 K16
        refine AWp.mask [true, true, true, false, false, false, false, true] rfl ?_
        simp only [go_sem]
        refine AWp.cond _ rfl (fun hc3 => ?_) (fun hc3 => ?_)
        · skip
          try simp only [decide_eq_true_eq] at hc3
          refine AWp.rs fun K17 hK17 => ?_
          try simp only [go_sem]
          refine hK17 _ _ ?_
          try clear hK17 K17
          refine AWp.mask [false, true] rfl ?_
          simp only [go_sem]
          refine AWp.ret ?_
          try simp only [go_sem]
          rw [entE_t hk hf (by omega), if_pos (by omega)]
        · skip
          try simp only [decide_eq_false_iff_not, Int.not_lt] at hc3
          refine AWp.skip ?_
          refine thenQ_n ?_
          refine hK15 _ _ ?_
          try clear hK15 K15
          refine AWp.seq fun K18 hK18 => ?_
          refine AWp.rs fun K19 hK19 => ?_
          try simp only [go_sem]
          refine hK19 _ _ ?_
          try clear hK19 K19
          refine AWp.cond _ rfl (fun hc4 => ?_) (fun hc4 => ?_)
          · skip
            try simp only [decide_eq_true_eq] at hc4
            refine AWp.seq fun K20 hK20 => ?_
            refine AWp.rs fun K21 hK21 => ?_
            try simp only [go_sem]
            refine hK21 _ _ ?_
            try clear hK21 K21
            refine AWp.mask [true, false, false, false, false, false, false, false, true] rfl ?_
            simp only [go_sem]
            refine AWp.cond _ rfl (fun hc5 => ?_) (fun hc5 => ?_)
            · skip
              try simp only [decide_eq_true_eq] at hc5
              refine AWp.rs fun K22 hK22 => ?_
              try simp only [go_sem]
              refine hK22 _ _ ?_
              try clear hK22 K22
              refine AWp.ret ?_
              try simp only [go_sem]
              rw [entE_t hk hf (by omega), if_neg (by omega), if_pos hc4, destE_big (by omega)]
            · skip
              try simp only [decide_eq_false_iff_not, Int.not_lt] at hc5
              refine AWp.skip ?_
              refine thenQ_n ?_
              refine hK20 _ _ ?_
              try clear hK20 K20
              rcases hp : listS x.dest with _ | l
              · skip
                refine AWp.rs fun K23 hK23 => ?_
                try simp only [go_sem]
                refine DW.pcr rfl rfl rfl rfl (listOf_none T hL _ (by omega) hp) rfl rfl ?_
                try simp only [go_sem]
                refine hK23 _ _ ?_
                try clear hK23 K23
                refine AWp.mask [false, true, true] rfl ?_
                simp only [go_sem]
                refine AWp.seq fun K24 hK24 => ?_
                refine AWp.rs fun K25 hK25 => ?_
                try simp only [go_sem]
                (repeat (with_reducible refine And.intro ?_ ?_; decide))
                refine hK25 _ _ ?_
                try clear hK25 K25
                refine AWp.mask [false, false, false, false, false, false, false, false, true] rfl ?_
                simp only [go_sem]
                refine AWp.cond _ rfl (fun hc6 => ?_) (fun hc6 => ?_)
                · skip
                  try simp only [decide_eq_false_iff_not, Bool.not_eq_true', Bool.or_eq_true] at hc6
                  refine AWp.rs fun K26 hK26 => ?_
                  try simp only [go_sem]
                  refine hK26 _ _ ?_
                  try clear hK26 K26
                  refine AWp.ret ?_
                  try simp only [go_sem]
                  first | rw [entE_t hk hf (by omega), if_neg (by omega), if_pos hc4, destE_none (by omega) hp] | rw [entE_t hk hf (by omega), if_neg (by omega), if_pos hc4, destE_some (by omega) hp, if_neg (by simp at hc6; omega)]
                · skip
                  exact absurd hc6 (by simp)
              · skip
                refine AWp.rs fun K23 hK23 => ?_
                try simp only [go_sem]
                refine DW.pcr rfl rfl rfl rfl (listOf_some T hL _ (by omega) l hp) rfl rfl ?_
                try simp only [go_sem]
                refine hK23 _ _ ?_
                try clear hK23 K23
                refine AWp.mask [false, true, true] rfl ?_
                simp only [go_sem]
                refine AWp.seq fun K27 hK27 => ?_
                refine AWp.rs fun K28 hK28 => ?_
                try simp only [go_sem]
                (repeat (with_reducible refine And.intro ?_ ?_; decide))
                refine hK28 _ _ ?_
                try clear hK28 K28
                refine AWp.mask [false, false, false, false, false, false, false, false, true] rfl ?_
                simp only [go_sem]
                refine AWp.cond _ rfl (fun hc6 => ?_) (fun hc6 => ?_)
                · skip
                  try simp only [decide_eq_false_iff_not, Bool.not_eq_true', Bool.or_eq_true] at hc6
                  refine AWp.rs fun K29 hK29 => ?_
                  try simp only [go_sem]
                  refine hK29 _ _ ?_
                  try clear hK29 K29
                  refine AWp.ret ?_
                  try simp only [go_sem]
                  first | rw [entE_t hk hf (by omega), if_neg (by omega), if_pos hc4, destE_none (by omega) hp] | rw [entE_t hk hf (by omega), if_neg (by omega), if_pos hc4, destE_some (by omega) hp, if_neg (by simp at hc6; omega)]
                · skip
                  try simp only [decide_eq_true_eq, Bool.not_eq_false', Bool.or_eq_false_iff] at hc6
                  refine AWp.skip ?_
                  refine thenQ_n ?_
                  refine hK27 _ _ ?_
                  try clear hK27 K27
                  refine AWp.rs fun K30 hK30 => ?_
                  try simp only [go_sem]
                  refine hK30 _ _ ?_
                  try clear hK30 K30
                  refine AWp.ret ?_
                  try simp only [go_sem]
                  rw [entE_t hk hf (by omega), if_neg (by omega), if_pos hc4, destE_some (by omega) hp, if_pos (by simp at hc6; omega)]
          · skip
            try simp only [decide_eq_false_iff_not] at hc4
            refine AWp.skip ?_
            refine thenQ_n ?_
            refine hK18 _ _ ?_
            try clear hK18 K18
            refine AWp.rs fun K31 hK31 => ?_
            try simp only [go_sem]
            refine DW.pcr rfl rfl rfl rfl (BoxName_c T _ (by first | exact sb | exact sd)) rfl rfl ?_
            try simp only [go_sem]
            refine hK31 _ _ ?_
            try clear hK31 K31
            refine AWp.mask [true, false, true, true] rfl ?_
            simp only [go_sem]
            refine AWp.seq fun K32 hK32 => ?_
            refine AWp.rs fun K33 hK33 => ?_
            try simp only [go_sem]
            refine hK33 _ _ ?_
            try clear hK33 K33
            refine AWp.mask [true, false, true, false, false, false, false, true] rfl ?_
            simp only [go_sem]
            refine AWp.cond _ rfl (fun hc7 => ?_) (fun hc7 => ?_)
            · skip
              try simp only [decide_eq_true_eq, Bool.and_eq_true] at hc7
              refine AWp.rk fun K34 hK34 => ?_
              try simp only [go_sem]
              refine DW.pcr rfl rfl rfl rfl (BoxName_c T _ (by first | exact sb | exact sd)) rfl rfl ?_
              try simp only [go_sem]
              refine hK34 _ _ ?_
              try clear hK34 K34
              refine thenQ_n ?_
              refine hK32 _ _ ?_
              try clear hK32 K32
              refine AWp.mask [false, true] rfl ?_
              simp only [go_sem]
              refine AWp.rs fun K35 hK35 => ?_
              try simp only [go_sem]
              refine hK35 _ _ ?_
              try clear hK35 K35
              refine AWp.ret ?_
              try simp only [go_sem]
              first
              | rw [entE_t hk hf (by omega), if_neg (by omega), if_neg hc4, if_neg (by simp [hc7.1]), if_pos hc7.2]
              | (by_cases hn : nameE x.box = 0
                 · rw [entE_t hk hf (by omega), if_neg (by omega), if_neg hc4, if_neg (by simp [hn]), if_neg (by omega), hn]
                 · rw [entE_t hk hf (by omega), if_neg (by omega), if_neg hc4, if_pos hn])
            · skip
              try simp only [decide_eq_false_iff_not, Bool.and_eq_false_iff] at hc7
              refine AWp.skip ?_
              refine thenQ_n ?_
              refine hK32 _ _ ?_
              try clear hK32 K32
              refine AWp.rs fun K36 hK36 => ?_
              try simp only [go_sem]
              refine hK36 _ _ ?_
              try clear hK36 K36
              refine AWp.mask [false, true] rfl ?_
              simp only [go_sem]
              refine AWp.ret ?_
              try simp only [go_sem]
              first
              | rw [entE_t hk hf (by omega), if_neg (by omega), if_neg hc4, if_neg (by simp [hc7.1]), if_pos hc7.2]
              | (by_cases hn : nameE x.box = 0
                 · rw [entE_t hk hf (by omega), if_neg (by omega), if_neg hc4, if_neg (by simp [hn]), if_neg (by omega), hn]
                 · rw [entE_t hk hf (by omega), if_neg (by omega), if_neg hc4, if_pos hn])
end Go.Proofs.YthhfbolhlbgbgaaDoor

namespace Go.Proofs.YthhfbolhlbgbgaaDoor
open Go.RowKit
set_option linter.unusedSimpArgs false
set_option linter.unusedVariables false
open Go.ChangeShapes Go.WideShapes Go.ChangeAt
open Go.ChangeMaps (open_string)
set_option maxRecDepth 20000
section
variable {H : Type} {enc : TypeId × Value → H} {W : World}
def entSz (x : Ent) : Nat := x.box.length + x.dest.length + x.text.length
theorem dec_ent (f : Nat) : Dec enc Tryd.prog W entD entSz 56 f := by
  cases f with
  | zero => exact .zero
  | succ f =>
    have hi : Dec enc Tryd.prog W (fun n : Int => [.int .i64 n]) (fun _ => 1) 3 f := Dec.int Tryd.underlying3
    have hs : Dec enc Tryd.prog W (fun s : List UInt8 => [.str s]) (fun s => s.length + 1) 9 f := Dec.str Tryd.underlying9
    exact (Dec.struct Tryd.underlying56 (by kernel_rfl) (.cons (k := 1) hi (by kernel_rfl) rfl (.cons (k := 1) hs (by kernel_rfl) rfl (.cons (k := 1) hi (by kernel_rfl) rfl (.cons (k := 1) hi (by kernel_rfl) rfl (.cons (k := 1) hs (by kernel_rfl) rfl (.cons (k := 1) hs (by kernel_rfl) rfl .nil))))))).map
        (fun (p : Int × (Tx × (Int × (Int × (Tx × (Tx × Unit)))))) => Ent.mk p.1 p.2.1 p.2.2.1 p.2.2.2.1 p.2.2.2.2.1 p.2.2.2.2.2.1) (fun p => rfl) (fun p => by simp only [entSz]; omega)
end
end Go.Proofs.YthhfbolhlbgbgaaDoor
