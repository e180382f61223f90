/- Plain: what operations do to what keys have. No program in sight. -/
import Derived.Test.YtiipelccmkidbaaK0
namespace Go.Proofs.Ytiipelccmkidbaa

theorem rises_lo {l : List Pr} (h : Rises l) (k : Tx) : Rises (lo l k) := List.Pairwise.filter _ h
theorem rises_hi {l : List Pr} (h : Rises l) (k : Tx) : Rises (hi l k) := List.Pairwise.filter _ h
theorem mem_lo {l : List Pr} {k : Tx} {p : Pr} (h : p ∈ lo l k) : p ∈ l ∧ kl p.1 k = true := by
  unfold lo at h; rw [List.mem_filter] at h; exact h
theorem mem_hi {l : List Pr} {k : Tx} {p : Pr} (h : p ∈ hi l k) : p ∈ l ∧ kl k p.1 = true := by
  unfold hi at h; rw [List.mem_filter] at h; exact h

theorem rises_put {l : List Pr} (h : Rises l) (k v : Tx) : Rises (putL l k v) := by
  unfold putL Rises
  rw [List.pairwise_append, List.pairwise_cons]
  refine ⟨rises_lo h k, ⟨fun q hq => (mem_hi hq).2, rises_hi h k⟩, fun p hp q hq => ?_⟩
  rw [List.mem_cons] at hq
  rcases hq with rfl | hq
  · exact (mem_lo hp).2
  · exact kl_trans (mem_lo hp).2 (mem_hi hq).2
theorem rises_del {l : List Pr} (h : Rises l) (k : Tx) : Rises (delL l k) := by
  unfold delL Rises
  rw [List.pairwise_append]
  exact ⟨rises_lo h k, rises_hi h k, fun p hp q hq => kl_trans (mem_lo hp).2 (mem_hi hq).2⟩

theorem mid_app (l m : List Pr) (k : Tx) : mid (l ++ m) k = mid l k ++ mid m k := by simp [mid]
theorem mid_lo (l : List Pr) (k : Tx) : mid (lo l k) k = [] := filter_none fun _ hq => decide_eq_false (kl_ne (mem_lo hq).2)
theorem mid_hi (l : List Pr) (k : Tx) : mid (hi l k) k = [] := filter_none fun _ hq => decide_eq_false (fun e => kl_ne (mem_hi hq).2 e.symm)
theorem mid_mid {l : List Pr} {k k' : Tx} (h : k' ≠ k) : mid (mid l k) k' = [] := filter_none fun q hq => by
  unfold mid at hq
  rw [List.mem_filter, decide_eq_true_eq] at hq
  exact decide_eq_false fun e => h (e.symm.trans hq.2)

theorem look_put (l : List Pr) (k v : Tx) : look (putL l k v) k = some v := by
  have : mid (putL l k v) k = [(k, v)] := by
    unfold putL
    rw [mid_app, mid_lo, List.nil_append]
    have e : mid ((k, v) :: hi l k) k = (k, v) :: mid (hi l k) k := by simp [mid]
    rw [e, mid_hi]
  simp [look, this]
theorem look_put_ne {l : List Pr} (hr : Rises l) {k k' : Tx} (h : k' ≠ k) (v : Tx) : look (putL l k v) k' = look l k' := by
  have h1 : mid (putL l k v) k' = mid l k' := by
    conv => rhs; rw [split3 k hr, mid_app, mid_app, mid_mid h, List.append_nil]
    unfold putL
    rw [mid_app]
    have e : mid ((k, v) :: hi l k) k' = mid (hi l k) k' := by simp [mid, Ne.symm h]
    rw [e]
  unfold look
  rw [h1]
theorem look_del (l : List Pr) (k : Tx) : look (delL l k) k = none := by
  have : mid (delL l k) k = [] := by
    unfold delL
    rw [mid_app, mid_lo, mid_hi]
    rfl
  simp [look, this]
theorem look_del_ne {l : List Pr} (hr : Rises l) {k k' : Tx} (h : k' ≠ k) : look (delL l k) k' = look l k' := by
  have h1 : mid (delL l k) k' = mid l k' := by
    conv => rhs; rw [split3 k hr, mid_app, mid_app, mid_mid h, List.append_nil]
    unfold delL
    rw [mid_app]
  unfold look
  rw [h1]

theorem look_mem {l : List Pr} (hr : Rises l) {p : Pr} (h : p ∈ l) : look l p.1 = some p.2 := by
  have hm : p ∈ mid l p.1 := by
    unfold mid
    rw [List.mem_filter]
    exact ⟨h, by simp⟩
  rcases mid_spec p.1 hr with h1 | ⟨v, h1⟩
  · rw [h1] at hm
    cases hm
  · rw [h1, List.mem_singleton] at hm
    have : v = p.2 := by rw [hm]
    simp [look, h1, this]
theorem mem_look {l : List Pr} {k v : Tx} (h : look l k = some v) : (k, v) ∈ l := by
  unfold look at h
  cases hm : mid l k with
  | nil => rw [hm] at h; cases h
  | cons p m =>
    rw [hm] at h
    have hp : p ∈ mid l k := by rw [hm]; simp
    unfold mid at hp
    rw [List.mem_filter, decide_eq_true_eq] at hp
    simp at h
    have : p = (k, v) := by rw [← hp.2, ← h]
    rw [← this]
    exact hp.1

theorem rises_ext : ∀ {l m : List Pr}, Rises l → Rises m → (∀ p, p ∈ l ↔ p ∈ m) → l = m
  | [], [], _, _, _ => rfl
  | [], q :: m, _, _, h => by have := (h q).2 (by simp); cases this
  | p :: l, [], _, _, h => by have := (h p).1 (by simp); cases this
  | p :: l, q :: m, hl, hm, h => by
    have h1 := List.pairwise_cons.1 hl
    have h2 := List.pairwise_cons.1 hm
    have hpq : p = q := by
      have a1 := (h p).1 (by simp)
      have a2 := (h q).2 (by simp)
      rw [List.mem_cons] at a1 a2
      rcases a1 with a1 | a1
      · exact a1
      · rcases a2 with a2 | a2
        · exact a2.symm
        · have b1 := h2.1 p a1
          have b2 := h1.1 q a2
          rw [kl_asymm b1] at b2
          cases b2
    subst hpq
    congr 1
    refine rises_ext h1.2 h2.2 fun r => ⟨fun hr => ?_, fun hr => ?_⟩
    · have := (h r).1 (by simp [hr])
      rw [List.mem_cons] at this
      rcases this with rfl | this
      · have := h1.1 r hr
        rw [kl_irrefl] at this
        cases this
      · exact this
    · have := (h r).2 (by simp [hr])
      rw [List.mem_cons] at this
      rcases this with rfl | this
      · have := h2.1 r hr
        rw [kl_irrefl] at this
        cases this
      · exact this
theorem look_ext {l m : List Pr} (hl : Rises l) (hm : Rises m) (h : ∀ k, look l k = look m k) : l = m :=
  rises_ext hl hm fun p => ⟨fun hp => by
    have := look_mem hl hp
    rw [h] at this
    exact mem_look this, fun hp => by
    have := look_mem hm hp
    rw [← h] at this
    exact mem_look this⟩

theorem len_put {l : List Pr} (hr : Rises l) (k v : Tx) : (putL l k v).length = (if look l k = none then l.length + 1 else l.length) := by
  have e := congrArg List.length (split3 k hr)
  simp only [List.length_append] at e
  unfold putL
  rw [List.length_append, List.length_cons]
  rcases mid_spec k hr with h1 | ⟨u, h1⟩
  · have : look l k = none := by simp [look, h1]
    rw [if_pos this]
    rw [h1] at e
    simp at e
    omega
  · have : look l k ≠ none := by simp [look, h1]
    rw [if_neg this]
    rw [h1] at e
    simp at e
    omega
theorem len_del (l : List Pr) (hr : Rises l) (k : Tx) : (delL l k).length ≤ l.length := by
  have e := congrArg List.length (split3 k hr)
  simp only [List.length_append] at e
  unfold delL
  rw [List.length_append]
  omega

theorem ok_put {l : List Pr} (h : ∀ p ∈ l, keyOk p.1 = true ∧ valOk p.2 = true) {k v : Tx} (hk : keyOk k = true) (hv : valOk v = true) : ∀ p ∈ putL l k v, keyOk p.1 = true ∧ valOk p.2 = true := by
  intro p hp
  unfold putL at hp
  rw [List.mem_append, List.mem_cons] at hp
  rcases hp with hp | rfl | hp
  · exact h p (mem_lo hp).1
  · exact ⟨hk, hv⟩
  · exact h p (mem_hi hp).1
theorem ok_del {l : List Pr} (h : ∀ p ∈ l, keyOk p.1 = true ∧ valOk p.2 = true) (k : Tx) : ∀ p ∈ delL l k, keyOk p.1 = true ∧ valOk p.2 = true := by
  intro p hp
  unfold delL at hp
  rw [List.mem_append] at hp
  rcases hp with hp | hp
  · exact h p (mem_lo hp).1
  · exact h p (mem_hi hp).1

theorem may_put {l : List Pr} (h : mayS l = true) {k v : Tx} (hk : keyOk k = true) (hv : valOk v = true) (hn : ¬(look l k = none ∧ l.length = 8)) : mayS (putL l k v) = true := by
  obtain ⟨h8, hr, ho⟩ := may_spec h
  refine may_mk ?_ (rises_put hr k v) (ok_put ho hk hv)
  rw [len_put hr]
  split
  · rename_i h1
    have : l.length ≠ 8 := fun e => hn ⟨h1, e⟩
    omega
  · exact h8
theorem may_del {l : List Pr} (h : mayS l = true) (k : Tx) : mayS (delL l k) = true := by
  obtain ⟨h8, hr, ho⟩ := may_spec h
  exact may_mk (Nat.le_trans (len_del l hr k) h8) (rises_del hr k) (ok_del ho k)

theorem mayO_spec {o : Opn} (h : mayO o = true) : keyOk o.key = true ∧ valOk o.old = true ∧ valOk o.val = true ∧ (o.kind = 1 ∨ o.kind = 2 ∨ o.kind = 3 ∨ o.kind = 4) := by
  unfold mayO at h
  simp only [Bool.and_eq_true] at h
  obtain ⟨⟨⟨h1, h2⟩, h3⟩, h4⟩ := h
  refine ⟨h1, h2, h3, ?_⟩
  split at h4
  · rename_i h5; rcases h5 with h5 | h5 <;> simp [h5]
  · split at h4
    · rename_i h5; simp [h5]
    · simp at h4; simp [h4]

/-- One operation that may be, on a state that may be. -/
theorem doP_ok {l : List Pr} {o : Opn} (h : mayS l = true) (ho : mayO o = true) :
    doP l o = if o.kind = 1 then (l, wasR l o.key)
      else if o.kind = 2 then (if look l o.key = none ∧ l.length = 8 then (l, ⟨211, false, ⟨#[]⟩⟩) else (putL l o.key o.val, wasR l o.key))
      else if o.kind = 3 then (delL l o.key, wasR l o.key)
      else if look l o.key = some o.old then (putL l o.key o.val, wasR l o.key) else (l, { wasR l o.key with found := false }) := by
  unfold doP
  rw [if_neg (by simp [h]), if_neg (by simp [ho])]
theorem doP_bad {l : List Pr} {o : Opn} (h : mayS l = true) (ho : mayO o = false) : doP l o = (l, ⟨210, false, ⟨#[]⟩⟩) := by
  unfold doP
  rw [if_neg (by simp [h]), if_pos ho]

theorem doP_may {l : List Pr} (o : Opn) (h : mayS l = true) : mayS (doP l o).1 = true := by
  cases ho : mayO o with
  | false => rw [doP_bad h ho]; exact h
  | true =>
    obtain ⟨h1, h2, h3, h4⟩ := mayO_spec ho
    rw [doP_ok h ho]
    split
    · exact h
    · split
      · split
        · exact h
        · rename_i hn; exact may_put h h1 h3 hn
      · split
        · exact may_del h _
        · split
          · rename_i hl; exact may_put h h1 h3 (by rw [hl]; simp)
          · exact h
end Go.Proofs.Ytiipelccmkidbaa
