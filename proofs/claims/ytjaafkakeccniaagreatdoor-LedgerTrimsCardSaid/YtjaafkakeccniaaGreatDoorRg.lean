/- A region whose order is drawn: operations that only give a value may stand anywhere; the others come in one order. Nothing of the program stands here. -/
import Derived.Test.YtjaafkakeccniaaGreatDoorMem
namespace Go.Sl
open Go

/-- The operations behind which one stands. -/
def deps (o : Oper) : List Nat := (o.after.toList.filter (Region.binds .any)).map (·.on)
/-- The slots at which an operation looks. -/
def looks (ops : List Oper) (o : Oper) : List Nat :=
  o.op.operands.toList.filterMap (fun | .tmp t => some t | _ => none) ++ (match o.guard with | none => [] | some (j, _) => ((ops[j]?).bind (·.dst)).toList)
def dstAt (ops : List Oper) (k : Nat) : Option Nat := (ops[k]?).bind (·.dst)
def notSel : Op → Bool
  | .select .. => false
  | _ => true
/-- Every operation stands behind earlier ones alone; none is a select. -/
def tidy (ops : List Oper) : Bool := (List.range ops.length).all fun i => match ops[i]? with | some o => (deps o).all (Nat.blt · i) && notSel o.op | none => true
def memb (k : Nat) (l : List Nat) : Bool := l.any (Nat.beq k)
/-- The operations, not done, all behind which they stand is done. -/
def avail (ops : List Oper) (D : List Nat) : List Nat := (List.range ops.length).filter fun i => !memb i D && (match ops[i]? with | some o => (deps o).all (memb · D) | none => false)
/-- 'o', whose value goes into d, fits behind pending operations: it looks at no slot of one that it doesn't stand behind; d is none of theirs, and none at which they look. -/
def fits (ops : List Oper) (pend : List Nat) (o : Oper) : Bool :=
  (match o.dst with | none => true | some d => !memb d (looks ops o)) && pend.all fun m => match ops[m]? with
    | none => false
    | some p =>
      (match p.dst with | none => true | some d' => (!memb d' (looks ops o) || memb m (deps o)) && (match o.dst with | none => true | some d => !Nat.beq d d')) &&
      (match o.dst with | none => true | some d => !memb d (looks ops p))

theorem memb_iff {k : Nat} {l : List Nat} : memb k l = true ↔ k ∈ l := by
  unfold memb; rw [List.any_eq_true]
  constructor
  · rintro ⟨x, hx, h⟩; rw [Nat.eq_of_beq_eq_true h]; exact hx
  · intro h; exact ⟨k, h, by simp⟩

section
variable {P : Program} {n : Nat} {w0 : World} {ops : List Oper} {Q : Exit → Act → World → Prop}

/-- Frame a holds what 'env' says of the slots at which o looks. -/
def On (ops : List Oper) (o : Oper) (env : Env) (a : Act) : Prop := ∀ t ∈ looks ops o, ∀ u, lk env t = some u → a.tmps.getD t undef = u
/-- Operation k gives the value that 'env' has for it, in a world of class C. -/
def Val (P : Program) (ops : List Oper) (C : World → Prop) (k : Nat) (env : Env) : Prop :=
  ∃ o d v, ops[k]? = some o ∧ o.dst = some d ∧ lk env d = some v ∧ ∀ a w (Q : Exit → Act → World → Prop) (K : Act → World → Prop), On ops o env a → C w → K (a.put (some d) v) w → wpOp P ops.toArray Q k K a w
def Missing (ops : List Oper) (pend : List Nat) (listed : Array Bool) (t : Nat) : Prop := ∃ k ∈ pend, listed.getD k false = false ∧ dstAt ops k = some t
/-- What is done stands on what is done. -/
def Clo (ops : List Oper) (listed : Array Bool) : Prop := ∀ (i : Nat) (o : Oper), ops[i]? = some o → listed.getD i false = true → ∀ k ∈ deps o, listed.getD k false = true
def RgS (P : Program) (n : Nat) (w0 : World) (ops : List Oper) (Q : Exit → Act → World → Prop) (D pend : List Nat) (env : Env) (H : List HProp) : Prop :=
  ∀ (fuel : Nat) (listed : Array Bool) (a : Act) (w : World), listed.size = ops.length ∧ Clo ops listed → (∀ i, listed.getD i false = true → i ∈ D) → (∀ i ∈ D, i ∉ pend → listed.getD i false = true) →
    a.tmps.size = n → a.defers = [] → (∀ t v, lk env t = some v → ¬ Missing ops pend listed t → a.tmps.getD t undef = v) → Sat w0 w H →
    listed.toList.count false ≤ fuel → wpAny P .any ops.toArray Q fuel listed a w
structure Good (n : Nat) (ops : List Oper) (pend : List Nat) : Prop where
  look : ∀ k ∈ pend, ∀ m ∈ pend, ∀ o, ops[k]? = some o → ∀ d, dstAt ops m = some d → d ∈ looks ops o → m ∈ deps o
  slot : ∀ k ∈ pend, ∀ d, dstAt ops k = some d → d < n
/-- The goal in a region: D: what is done, or may be done; pp: of that, what hangs on no world, and may still be open; rp: what reads, and may still be open. -/
def Rg (P : Program) (n : Nat) (w0 : World) (ops : List Oper) (Q : Exit → Act → World → Prop) (D pp rp : List Nat) (env : Env) (H : List HProp) : Prop :=
  tidy ops = true → Good n ops (pp ++ rp) → (∀ k ∈ pp, Val P ops (fun _ => True) k env) → (∀ k ∈ rp, Val P ops (fun w => Sat w0 w H) k env) → RgS P n w0 ops Q D (pp ++ rp) env H

theorem Val.ext {C : World → Prop} {k : Nat} {env : Env} (h : Val P ops C k env) {d' : Nat} {u : Value} (h1 : ∀ o, ops[k]? = some o → d' ∉ looks ops o) (h2 : dstAt ops k ≠ some d') : Val P ops C k ((d', u) :: env) := by
  obtain ⟨o, d, v, ho, hd, hv, hw⟩ := h
  have hne : ¬ d' = d := fun e => h2 (by simp [dstAt, ho, hd, e])
  refine ⟨o, d, v, ho, hd, by simp only [lk, beq_ne hne]; exact hv, fun a w Q K hOn hC hK => hw a w Q K (fun t ht x hx => hOn t ht x ?_) hC hK⟩
  have : ¬ d' = t := fun e => h1 o ho (by rw [e]; exact ht)
  simp only [lk, beq_ne this]; exact hx

theorem ready_spec {listed : Array Bool} {i : Nat} (h : i ∈ Region.ready .any ops.toArray listed) : i < ops.length ∧ listed.getD i true = false ∧ ∃ o, ops[i]? = some o ∧ ∀ k ∈ deps o, listed.getD k false = true := by
  unfold Region.ready at h
  simp only [List.mem_filter, List.mem_range, List.size_toArray, Bool.and_eq_true, Bool.not_eq_true', List.getElem?_toArray] at h
  obtain ⟨h1, h2, h3⟩ := h
  refine ⟨h1, h2, ops[i], by simp [h1], fun k hk => ?_⟩
  simp only [h1, List.getElem?_eq_getElem, Option.map_some, Option.getD_some] at h3
  simp only [deps, List.mem_map, List.mem_filter, Array.mem_toList_iff] at hk
  obtain ⟨e, ⟨he, hb⟩, rfl⟩ := hk
  rw [Array.all_eq_true'] at h3
  have := h3 e he
  simpa [hb] using this
theorem getD_tf {listed : Array Bool} {i : Nat} (h : i < listed.size) : listed.getD i true = listed.getD i false := by simp [Array.getD_eq_getD_getElem?, h]
theorem some_ready (ht : tidy ops = true) {listed : Array Bool} (hs : listed.size = ops.length) : ∀ (i : Nat), i < ops.length → listed.getD i false = false → Region.ready .any ops.toArray listed ≠ [] := by
  intro i
  induction i using Nat.strongRecOn with
  | _ i ih =>
    intro hi hf hnil
    by_cases hall : ∀ k ∈ deps (ops[i]), listed.getD k false = true
    · have : i ∈ Region.ready .any ops.toArray listed := by
        unfold Region.ready
        simp only [List.mem_filter, List.mem_range, List.size_toArray, Bool.and_eq_true, Bool.not_eq_true', List.getElem?_toArray]
        refine ⟨hi, by rw [getD_tf (by omega)]; exact hf, ?_⟩
        simp only [hi, List.getElem?_eq_getElem, Option.map_some, Option.getD_some]
        rw [Array.all_eq_true']
        intro e he
        by_cases hb : Region.binds .any e = true
        · have := hall e.on (by simp only [deps, List.mem_map, List.mem_filter, Array.mem_toList_iff]; exact ⟨e, ⟨he, hb⟩, rfl⟩)
          simp [this]
        · simp [hb]
      rw [hnil] at this; cases this
    · have ⟨k, hk, hf'⟩ : ∃ k, k ∈ deps (ops[i]) ∧ listed.getD k false = false := by
        apply Classical.byContradiction
        intro hno
        exact hall fun k hk => by
          cases hx : listed.getD k false with
          | true => rfl
          | false => exact (hno ⟨k, hk, hx⟩).elim
      unfold tidy at ht
      rw [List.all_eq_true] at ht
      have := ht i (by simpa using hi)
      simp only [hi, List.getElem?_eq_getElem, Bool.and_eq_true, List.all_eq_true] at this
      have hlt : k < i := by simpa [Nat.blt_eq] using this.1 k hk
      exact ih k hlt (by omega) hf' hnil
theorem count_set : ∀ (l : List Bool) (i : Nat), l[i]? = some false → (l.set i true).count false + 1 = l.count false
  | [], i, h => by cases h
  | b :: l, 0, h => by simp at h; subst h; simp
  | b :: l, i + 1, h => by
    have := count_set l i (by simpa using h)
    simp only [List.set_cons_succ, List.count_cons]; omega
theorem count_set' {listed : Array Bool} {i : Nat} (h : i < listed.size) (hf : listed.getD i false = false) : (listed.setIfInBounds i true).toList.count false + 1 = listed.toList.count false := by
  rw [Array.toList_setIfInBounds]
  exact count_set _ _ (by
    simp only [Array.getD_eq_getD_getElem?, h, Array.getElem?_eq_getElem, Option.getD_some] at hf
    simp [h, hf])
theorem getD_set {listed : Array Bool} {i k : Nat} (hi : i < listed.size) : (listed.setIfInBounds i true).getD k false = (if i = k then true else listed.getD k false) := by
  simp only [Array.getD_eq_getD_getElem?, Array.getElem?_setIfInBounds]
  by_cases h : i = k
  · subst h; simp [hi]
  · simp [h]

theorem Clo.set {listed : Array Bool} (h : Clo ops listed) {i : Nat} (hi : i < listed.size) {o : Oper} (ho : ops[i]? = some o) (hd : ∀ k ∈ deps o, listed.getD k false = true) : Clo ops (listed.setIfInBounds i true) := fun m p hp hm k hk => by
  rw [getD_set hi] at hm ⊢
  split
  · rfl
  · split at hm
    · rename_i e; subst e
      rw [ho] at hp; cases hp
      exact hd k hk
    · exact h m p hp hm k hk
/-- All on which these stand. -/
def clo (ops : List Oper) : Nat → List Nat → List Nat
  | 0, acc => acc
  | n + 1, acc => clo ops n (match memb n acc with
    | true => match ops[n]? with
      | some o => acc ++ (deps o).filter fun k => !memb k acc
      | none => acc
    | false => acc)
theorem clo_spec {listed : Array Bool} (h : Clo ops listed) : ∀ (n : Nat) (acc : List Nat), (∀ k ∈ acc, listed.getD k false = true) → ∀ k ∈ clo ops n acc, listed.getD k false = true
  | 0, acc, ha => ha
  | n + 1, acc, ha => clo_spec h n _ (by
    intro k hk
    split at hk
    · rename_i hm
      split at hk
      · rename_i o ho
        rcases List.mem_append.1 hk with hk | hk
        · exact ha k hk
        · exact h n o ho (ha n (memb_iff.1 hm)) k (List.mem_filter.1 hk).1
      · exact ha k hk
    · exact ha k hk)
/-- A pending operation, carried out late. -/
theorem RgS.late (ht : tidy ops = true) {D pend : List Nat} {env : Env} {H : List HProp} (hv : ∀ k ∈ pend, Val P ops (fun w => Sat w0 w H) k env)
    (hlook : ∀ k ∈ pend, ∀ m ∈ pend, ∀ o, ops[k]? = some o → ∀ d, dstAt ops m = some d → d ∈ looks ops o → m ∈ deps o)
    (hsl : ∀ k ∈ pend, ∀ d, dstAt ops k = some d → d < n)
    (next : ∀ (fuel : Nat) (listed : Array Bool) (a : Act) (w : World), listed.size = ops.length ∧ Clo ops listed → (∀ i, listed.getD i false = true → i ∈ D) → (∀ i ∈ D, i ∉ pend → listed.getD i false = true) →
      a.tmps.size = n → a.defers = [] → (∀ t v, lk env t = some v → ¬ Missing ops pend listed t → a.tmps.getD t undef = v) → Sat w0 w H → listed.toList.count false ≤ fuel + 1 →
      ∀ i ∈ Region.ready .any ops.toArray listed, i ∉ D → wpOp P ops.toArray Q i (wpAny P .any ops.toArray Q fuel (listed.setIfInBounds i true)) a w)
    (fin : ∀ (listed : Array Bool) (a : Act) (w : World), listed.size = ops.length ∧ Clo ops listed → (∀ i, i < ops.length → listed.getD i false = true) → (∀ i, listed.getD i false = true → i ∈ D) →
      a.tmps.size = n → a.defers = [] → (∀ t v, lk env t = some v → a.tmps.getD t undef = v) → Sat w0 w H → Q .normal a w) :
    RgS P n w0 ops Q D pend env H := by
  have done : ∀ (listed : Array Bool) (a : Act) (w : World), listed.size = ops.length ∧ Clo ops listed → (∀ i, listed.getD i false = true → i ∈ D) →
      a.tmps.size = n → a.defers = [] → (∀ t v, lk env t = some v → ¬ Missing ops pend listed t → a.tmps.getD t undef = v) → Sat w0 w H → Region.ready .any ops.toArray listed = [] → Q .normal a w := by
    intro listed a w h1 h2 h4 h5 h6 h7 hr
    have hall : ∀ i, i < ops.length → listed.getD i false = true := fun i hi => by
      cases hx : listed.getD i false with
      | true => rfl
      | false => exact (some_ready ht h1.1 i hi hx hr).elim
    refine fin listed a w h1 hall h2 h4 h5 (fun t v hv => h6 t v hv ?_) h7
    rintro ⟨k, hk, hf, hdk⟩
    have : k < ops.length := by
      cases hk : ops[k]? with
      | none => simp [dstAt, hk] at hdk
      | some o => exact (List.getElem?_eq_some_iff.1 hk).1
    rw [hall k this] at hf; cases hf
  intro fuel
  induction fuel with
  | zero =>
    intro listed a w h1 h2 h3 h4 h5 h6 h7 h8
    have hall : ∀ i, i < ops.length → listed.getD i false = true := fun i hi => by
      have hc : listed.toList.count false = 0 := by omega
      rw [List.count_eq_zero] at hc
      have hi' : i < listed.size := by have := h1.1; omega
      cases hx : listed[i] with
      | true => simp [Array.getD_eq_getD_getElem?, hi', hx]
      | false => exact (hc (by rw [← hx]; simp)).elim
    have hr : Region.ready .any ops.toArray listed = [] := by
      apply List.eq_nil_iff_forall_not_mem.2
      intro i hi
      obtain ⟨hi1, hi2, -⟩ := ready_spec hi
      rw [getD_tf (by have := h1.1; omega), hall i hi1] at hi2; cases hi2
    exact ⟨hr, done listed a w h1 h2 h4 h5 h6 h7 hr⟩
  | succ fuel ih =>
    intro listed a w h1 h2 h3 h4 h5 h6 h7 h8
    refine ⟨fun hr => done listed a w h1 h2 h4 h5 h6 h7 hr, fun i hi => ?_⟩
    by_cases hD : i ∈ D
    · obtain ⟨hi1, hi2, o, ho, hdep⟩ := ready_spec hi
      rw [getD_tf (by have := h1.1; omega)] at hi2
      have hp : i ∈ pend := Classical.byContradiction fun hn => by have := h3 i hD hn; rw [hi2] at this; cases this
      obtain ⟨o', d, v, ho', hd', hlv, hw⟩ := hv i hp
      have : o' = o := by rw [ho] at ho'; exact (Option.some.inj ho').symm
      subst this
      have hdi : dstAt ops i = some d := by simp [dstAt, ho, hd']
      refine hw a w _ _ (fun t ht u hu => h6 t u hu ?_) h7 ?_
      · rintro ⟨m, hm, hmf, hmd⟩
        have := hdep m (hlook i hp m hm o' ho t hmd ht)
        rw [hmf] at this; cases this
      · have hsz : i < listed.size := by have := h1.1; omega
        refine ih _ _ w ⟨by simp [h1.1], h1.2.set hsz ho' hdep⟩ (fun k hk => ?_) (fun k hk hn => ?_) (by simp [Act.put, h4]) h5 (fun t u hu hm => ?_) h7 ?_
        · rw [getD_set hsz] at hk
          by_cases he : i = k
          · exact he ▸ hD
          · rw [if_neg he] at hk; exact h2 k hk
        · rw [getD_set hsz]; split
          · rfl
          · exact h3 k hk hn
        · by_cases hdt : d = t
          · subst hdt
            rw [hlv] at hu; cases hu
            have hdn : d < a.tmps.size := by rw [h4]; exact hsl i hp d hdi
            simp [Act.put, Array.getD_eq_getD_getElem?, hdn]
          · have := h6 t u hu (by
              rintro ⟨m, hmp, hmf, hmd⟩
              refine hm ⟨m, hmp, ?_, hmd⟩
              rw [getD_set hsz, if_neg]
              · exact hmf
              · rintro rfl; rw [hdi] at hmd; exact hdt (Option.some.inj hmd))
            rw [← this]
            simp [Act.put, Array.getD_eq_getD_getElem?, hdt]
        · have := count_set' hsz hi2; omega
    · exact next fuel listed a w h1 h2 h3 h4 h5 h6 h7 h8 i hi hD

theorem fits_self {pend : List Nat} {o : Oper} (h : fits ops pend o = true) {d : Nat} (hd : o.dst = some d) : d ∉ looks ops o := by
  unfold fits at h
  rw [Bool.and_eq_true] at h
  have := h.1
  rw [hd] at this
  intro hm
  replace this : (!memb d (looks ops o)) = true := this
  rw [memb_iff.2 hm] at this; cases this
theorem fits_at {pend : List Nat} {o : Oper} (h : fits ops pend o = true) {m : Nat} (hm : m ∈ pend) {p : Oper} (hp : ops[m]? = some p) :
    (∀ d', p.dst = some d' → (d' ∈ looks ops o → m ∈ deps o) ∧ (∀ d, o.dst = some d → d ≠ d')) ∧ (∀ d, o.dst = some d → d ∉ looks ops p) := by
  unfold fits at h
  rw [Bool.and_eq_true, List.all_eq_true] at h
  have := h.2 m hm
  rw [hp] at this
  simp only [Bool.and_eq_true] at this
  obtain ⟨h1, h2⟩ := this
  constructor
  · intro d' hd'
    rw [hd'] at h1
    simp only [Bool.and_eq_true, Bool.or_eq_true, Bool.not_eq_true'] at h1
    refine ⟨fun hl => ?_, fun d hd e => ?_⟩
    · rcases h1.1 with h | h
      · rw [memb_iff.2 hl] at h; cases h
      · exact memb_iff.1 h
    · have := h1.2
      rw [hd] at this
      subst e; simp at this
  · intro d hd hl
    rw [hd] at h2
    replace h2 : (!memb d (looks ops p)) = true := h2
    rw [memb_iff.2 hl] at h2; cases h2
theorem mem_mid {x k : Nat} {pp rp : List Nat} : x ∈ pp ++ k :: rp ↔ x ∈ k :: (pp ++ rp) := by
  simp only [List.mem_append, List.mem_cons]; exact or_left_comm
theorem dstAt_some {k : Nat} {o : Oper} (h : ops[k]? = some o) : dstAt ops k = o.dst := by simp [dstAt, h]
/-- The guard lets the operation be carried out. -/
def GuardOn (ops : List Oper) (o : Oper) (env : Env) : Prop := match o.guard with
  | none => True
  | some (j, b) => ∃ d, dstAt ops j = some d ∧ lk env d = some (.bool b)
theorem GuardOn.wanted {o : Oper} {env : Env} (h : GuardOn ops o env) {a : Act} (hOn : On ops o env a) : Region.wanted o (yielded ops.toArray a.tmps) = true := by
  unfold GuardOn at h
  cases hg : o.guard with
  | none => simp [Region.wanted, hg]
  | some p =>
    obtain ⟨j, b⟩ := p
    rw [hg] at h
    obtain ⟨d, hd, hb⟩ := h
    have hm : d ∈ looks ops o := by
      unfold looks; rw [hg]; refine List.mem_append.2 (.inr ?_)
      show d ∈ ((ops[j]?).bind (·.dst)).toList
      rw [show (ops[j]?).bind (·.dst) = some d from hd]; simp
    have h1 := hOn d hm _ hb
    have h2 : a.tmps[d]? = some (.bool b) := by
      rw [Array.getD_eq_getD_getElem?] at h1
      cases hx : a.tmps[d]? with
      | some x => rw [hx] at h1; simpa using h1
      | none => rw [hx] at h1; simp [undef] at h1
    have hd' : (ops.toArray[j]?).bind (·.dst) = some d := by rw [List.getElem?_toArray]; exact hd
    simp only [Region.wanted, hg, yielded, hd', Option.bind_some, h2]
    simp
/-- What stands for an operand, by 'env' where it knows, else by the frame. -/
noncomputable def full (env : Env) (a : Act) : Operand → Value := fun x => (ev env x).getD (a.eval x)
theorem full_rho (env : Env) (a : Act) : Rho env (full env a) := ⟨fun h => by simp [full, h]⟩
theorem full_eval {o : Oper} {env : Env} {a : Act} (hOn : On ops o env a) {x : Operand} (hx : x ∈ o.op.operands) : a.eval x = full env a x := by
  unfold full
  cases x with
  | tmp t =>
    simp only [ev]
    cases hl : lk env t with
    | none => rfl
    | some u =>
      have hm : t ∈ looks ops o := by
        unfold looks; refine List.mem_append.2 (.inl ?_)
        rw [List.mem_filterMap]; exact ⟨.tmp t, Array.mem_toList_iff.2 hx, rfl⟩
      simpa [Act.eval] using hOn t hm u hl
  | const v => rfl
  | global g => rfl
  | func f => rfl
theorem exec_full {o : Oper} {env : Env} {a : Act} (hOn : On ops o env a) (hs : notSel o.op = true) : execOp a.eval o = execOp (full env a) o :=
  execOp_congr o (fun cs b e => by rw [e] at hs; cases hs) fun _ hx => full_eval hOn hx
theorem On.of_cons {o : Oper} {env : Env} {a : Act} {d : Nat} {v : Value} (h : On ops o ((d, v) :: env) a) (hd : d ∉ looks ops o) : On ops o env a := fun t ht u hu => h t ht u (by
  have : ¬ d = t := fun e => hd (e ▸ ht)
  simp only [lk, beq_ne this]; exact hu)
theorem wpOp_of {k : Nat} {o : Oper} (ho : ops[k]? = some o) {a : Act} {w : World} {K : Act → World → Prop} (hw : Region.wanted o (yielded ops.toArray a.tmps) = true) (h : o.wp P a w K Q) : wpOp P ops.toArray Q k K a w := by
  unfold wpOp
  rw [List.getElem?_toArray, ho]
  simp only [hw, if_true]
  exact .inl h
theorem Val.of_rd {C : World → Prop} {k : Nat} {o : Oper} {env : Env} {d : Nat} {v : Value} (ho : ops[k]? = some o) (hd : o.dst = some d) (hs : notSel o.op = true) (hself : d ∉ looks ops o) (hg : GuardOn ops o env)
    (s : ∀ ρ w, Rho env ρ → C w → (execOp ρ o).run P w = .ok (.value v) w) : Val P ops C k ((d, v) :: env) :=
  ⟨o, d, v, ho, hd, by simp [lk], fun a w Q K hOn hC hK => by
    have hOn' := hOn.of_cons hself
    refine wpOp_of ho (hg.wanted hOn') ?_
    unfold Oper.wp
    rw [exec_full hOn' hs, s _ w (full_rho env a) hC]
    show K (a.put o.dst v) w
    rw [hd]; exact hK⟩
theorem Good.more {pend : List Nat} (h : Good n ops pend) {k : Nat} {o : Oper} {d : Nat} (ho : ops[k]? = some o) (hd : o.dst = some d) (hn : d < n) (hf : fits ops pend o = true) : Good n ops (k :: pend) := by
  constructor
  · intro i hi m hm p hp d' hd' hl
    rcases List.mem_cons.1 hi with hi | hi
    · rw [hi, ho] at hp; cases hp
      rcases List.mem_cons.1 hm with rfl | hm
      · rw [dstAt_some ho, hd] at hd'; cases hd'; exact (fits_self hf hd hl).elim
      · cases hq : ops[m]? with
        | none => simp [dstAt, hq] at hd'
        | some q => rw [dstAt_some hq] at hd'; exact ((fits_at hf hm hq).1 d' hd').1 hl
    · rcases List.mem_cons.1 hm with hm | hm
      · rw [hm, dstAt_some ho] at hd'; exact ((fits_at hf hi hp).2 d' hd' hl).elim
      · exact h.look i hi m hm p hp d' hd' hl
  · intro i hi d' hd'
    rcases List.mem_cons.1 hi with rfl | hi
    · rw [dstAt_some ho, hd] at hd'; cases hd'; exact hn
    · exact h.slot i hi d' hd'
theorem Good.perm {pend pend' : List Nat} (h : Good n ops pend) (i : ∀ k ∈ pend', k ∈ pend) : Good n ops pend' :=
  ⟨fun k hk m hm => h.look k (i k hk) m (i m hm), fun k hk => h.slot k (i k hk)⟩
theorem RgS.perm {D pend pend' : List Nat} {env : Env} {H : List HProp} (h : RgS P n w0 ops Q D pend env H) (i : ∀ k, k ∈ pend' ↔ k ∈ pend) : RgS P n w0 ops Q D pend' env H :=
  fun fuel listed a w h1 h2 h3 h4 h5 h6 h7 h8 => h fuel listed a w h1 h2 (fun j hj hn => h3 j hj (fun hm => hn ((i j).1 hm))) h4 h5
    (fun t v hv hm => h6 t v hv (fun ⟨k, hk, x⟩ => hm ⟨k, (i k).1 hk, x⟩)) h7 h8
/-- One more is pending. -/
theorem RgS.more {D pend : List Nat} {env : Env} {H : List HProp} {k d : Nat} {v : Value} (hk : dstAt ops k = some d) (hD : k ∉ D) (h : RgS P n w0 ops Q (k :: D) (k :: pend) ((d, v) :: env) H) : RgS P n w0 ops Q D pend env H :=
  fun fuel listed a w h1 h2 h3 h4 h5 h6 h7 h8 => by
    have hl : listed.getD k false = false := by
      cases hx : listed.getD k false with
      | false => rfl
      | true => exact (hD (h2 k hx)).elim
    refine h fuel listed a w h1 (fun i hi => List.mem_cons_of_mem _ (h2 i hi)) (fun i hi hn => ?_) h4 h5 (fun t u hu hm => ?_) h7 h8
    · rcases List.mem_cons.1 hi with rfl | hi
      · exact (hn (List.mem_cons_self ..)).elim
      · exact h3 i hi fun hm => hn (List.mem_cons_of_mem _ hm)
    · by_cases hdt : d = t
      · subst hdt; exact (hm ⟨k, List.mem_cons_self .., hl, hk⟩).elim
      · simp only [lk, beq_ne hdt] at hu
        exact h6 t u hu fun ⟨m, hm', x⟩ => hm ⟨m, List.mem_cons_of_mem _ hm', x⟩
theorem not_memb {k : Nat} {l : List Nat} (h : memb k l = false) : k ∉ l := fun hm => by rw [memb_iff.2 hm] at h; cases h

section rules
variable {D pp rp : List Nat} {env : Env} {H : List HProp}
theorem Rg.pu {d : Nat} {v : Value} {o : Oper} (k : Nat) (ho : ops[k]? = some o) (hd : o.dst = some d) (hc : (fits ops (pp ++ rp) o && notSel o.op && Nat.blt d n && !memb k D) = true) (hg : GuardOn ops o env) (s : Pu P o env v)
    (g : Rg P n w0 ops Q (k :: D) (k :: pp) rp ((d, v) :: env) H) : Rg P n w0 ops Q D pp rp env H := fun ht hgood hv hr => by
  simp only [Bool.and_eq_true, Bool.not_eq_true'] at hc
  obtain ⟨⟨⟨hf, hs⟩, hn⟩, hD⟩ := hc
  have hn : d < n := by simpa [Nat.blt_eq] using hn
  refine RgS.more (by rw [dstAt_some ho, hd]) (not_memb hD) (g ht (hgood.more ho hd hn hf) (fun m hm => ?_) fun m hm => ?_)
  · rcases List.mem_cons.1 hm with rfl | hm
    · exact Val.of_rd ho hd hs (fits_self hf hd) hg fun ρ w e _ => s ρ w e
    · exact (hv m hm).ext (fun p hp => (fits_at hf (List.mem_append_left _ hm) hp).2 d hd) (fun he => by
        obtain ⟨p, d', _, hp, hd', _⟩ := hv m hm
        rw [dstAt_some hp, hd'] at he; cases he
        exact ((fits_at hf (List.mem_append_left _ hm) hp).1 d hd').2 d hd rfl)
  · exact (hr m hm).ext (fun p hp => (fits_at hf (List.mem_append_right _ hm) hp).2 d hd) (fun he => by
        obtain ⟨p, d', _, hp, hd', _⟩ := hr m hm
        rw [dstAt_some hp, hd'] at he; cases he
        exact ((fits_at hf (List.mem_append_right _ hm) hp).1 d hd').2 d hd rfl)
theorem Rg.rd {d : Nat} {v : Value} {o : Oper} (k : Nat) (ho : ops[k]? = some o) (hd : o.dst = some d) (hc : (fits ops (pp ++ rp) o && notSel o.op && Nat.blt d n && !memb k D) = true) (hg : GuardOn ops o env) (s : Rd P o w0 env H v)
    (g : Rg P n w0 ops Q (k :: D) pp (k :: rp) ((d, v) :: env) H) : Rg P n w0 ops Q D pp rp env H := fun ht hgood hv hr => by
  simp only [Bool.and_eq_true, Bool.not_eq_true'] at hc
  obtain ⟨⟨⟨hf, hs⟩, hn⟩, hD⟩ := hc
  have hn : d < n := by simpa [Nat.blt_eq] using hn
  refine RgS.more (by rw [dstAt_some ho, hd]) (not_memb hD) (RgS.perm (g ht ((hgood.more ho hd hn hf).perm (fun _ h => mem_mid.1 h)) (fun m hm => ?_) fun m hm => ?_) (fun _ => mem_mid.symm))
  · exact (hv m hm).ext (fun p hp => (fits_at hf (List.mem_append_left _ hm) hp).2 d hd) (fun he => by
        obtain ⟨p, d', _, hp, hd', _⟩ := hv m hm
        rw [dstAt_some hp, hd'] at he; cases he
        exact ((fits_at hf (List.mem_append_left _ hm) hp).1 d hd').2 d hd rfl)
  · rcases List.mem_cons.1 hm with rfl | hm
    · exact Val.of_rd ho hd hs (fits_self hf hd) hg fun ρ w e c => s ρ w e c
    · exact (hr m hm).ext (fun p hp => (fits_at hf (List.mem_append_right _ hm) hp).2 d hd) (fun he => by
        obtain ⟨p, d', _, hp, hd', _⟩ := hr m hm
        rw [dstAt_some hp, hd'] at he; cases he
        exact ((fits_at hf (List.mem_append_right _ hm) hp).1 d hd').2 d hd rfl)
/-- A guarded operation that is not carried out. -/
theorem Rg.off {d j dg : Nat} {b c : Bool} {o : Oper} (k : Nat) (ho : ops[k]? = some o) (hd : o.dst = some d) (hc : (fits ops (pp ++ rp) o && Nat.blt d n && !memb k D) = true) (hg : o.guard = some (j, b)) (hj : dstAt ops j = some dg) (hb : lk env dg = some (.bool c)) (hne : (c == b) = false)
    (g : Rg P n w0 ops Q (k :: D) (k :: pp) rp ((d, undef) :: env) H) : Rg P n w0 ops Q D pp rp env H := fun ht hgood hv hr => by
  simp only [Bool.and_eq_true, Bool.not_eq_true'] at hc
  obtain ⟨⟨hf, hn⟩, hD⟩ := hc
  have hn : d < n := by simpa [Nat.blt_eq] using hn
  refine RgS.more (by rw [dstAt_some ho, hd]) (not_memb hD) (g ht (hgood.more ho hd hn hf) (fun m hm => ?_) fun m hm => ?_)
  · rcases List.mem_cons.1 hm with rfl | hm
    · refine ⟨o, d, undef, ho, hd, by simp [lk], fun a w Q K hOn hC hK => ?_⟩
      have hOn' := hOn.of_cons (fits_self hf hd)
      have hm : dg ∈ looks ops o := by
        unfold looks; rw [hg]; refine List.mem_append.2 (.inr ?_)
        show dg ∈ ((ops[j]?).bind (·.dst)).toList
        rw [show (ops[j]?).bind (·.dst) = some dg from hj]; simp
      have h1 := hOn' dg hm _ hb
      have h2 : a.tmps[dg]? = some (.bool c) := by
        rw [Array.getD_eq_getD_getElem?] at h1
        cases hx : a.tmps[dg]? with
        | some x => rw [hx] at h1; simpa using h1
        | none => rw [hx] at h1; simp [undef] at h1
      have hd' : (ops.toArray[j]?).bind (·.dst) = some dg := by rw [List.getElem?_toArray]; exact hj
      unfold wpOp
      rw [List.getElem?_toArray, ho]
      have hw : Region.wanted o (yielded ops.toArray a.tmps) = false := by
        simp only [Region.wanted, hg, yielded, hd', Option.bind_some, h2]
        cases c <;> cases b <;> first | rfl | (simp at hne)
      simp only [hw, Bool.false_eq_true, if_false]
      rw [hd]; exact hK
    · exact (hv m hm).ext (fun p hp => (fits_at hf (List.mem_append_left _ hm) hp).2 d hd) (fun he => by
        obtain ⟨p, d', _, hp, hd', _⟩ := hv m hm
        rw [dstAt_some hp, hd'] at he; cases he
        exact ((fits_at hf (List.mem_append_left _ hm) hp).1 d hd').2 d hd rfl)
  · exact (hr m hm).ext (fun p hp => (fits_at hf (List.mem_append_right _ hm) hp).2 d hd) (fun he => by
        obtain ⟨p, d', _, hp, hd', _⟩ := hr m hm
        rw [dstAt_some hp, hd'] at he; cases he
        exact ((fits_at hf (List.mem_append_right _ hm) hp).1 d hd').2 d hd rfl)

theorem avail_of {i : Nat} {listed : Array Bool} (h : i ∈ Region.ready .any ops.toArray listed) (h2 : ∀ i, listed.getD i false = true → i ∈ D) (hi : i ∉ D) : i ∈ avail ops D := by
  obtain ⟨hi1, _, o, ho, hdep⟩ := ready_spec h
  unfold avail
  rw [List.mem_filter]
  refine ⟨by simpa using hi1, ?_⟩
  rw [ho]
  simp only [Bool.and_eq_true, Bool.not_eq_true', List.all_eq_true]
  refine ⟨?_, fun k hk => memb_iff.2 (h2 k (hdep k hk))⟩
  cases hx : memb i D with
  | false => rfl
  | true => exact (hi (memb_iff.1 hx)).elim
/-- Operation j is carried out, as the next that acts. -/
def Stp (P : Program) (n : Nat) (w0 : World) (ops : List Oper) (Q : Exit → Act → World → Prop) (D pp rp : List Nat) (env : Env) (H : List HProp) (j : Nat) : Prop :=
  j < ops.length ∧ j ∉ D ∧ (tidy ops = true → Good n ops (pp ++ rp) → (∀ k ∈ pp, Val P ops (fun _ => True) k env) → (∀ k ∈ rp, Val P ops (fun w => Sat w0 w H) k env) →
  ∀ (fuel : Nat) (listed : Array Bool) (a : Act) (w : World), listed.size = ops.length ∧ Clo ops listed → (∀ i, listed.getD i false = true → i ∈ D) → (∀ i ∈ D, i ∉ pp ++ rp → listed.getD i false = true) →
    a.tmps.size = n → a.defers = [] → (∀ t v, lk env t = some v → ¬ Missing ops (pp ++ rp) listed t → a.tmps.getD t undef = v) → Sat w0 w H → listed.toList.count false ≤ fuel + 1 →
    j ∈ Region.ready .any ops.toArray listed → wpOp P ops.toArray Q j (wpAny P .any ops.toArray Q fuel (listed.setIfInBounds j true)) a w)
theorem Stp.gen {o : Oper} {post : Value → List HProp → Prop} {env' : Value → Env} (pp' rp' : List Nat) (j : Nat) (ho : ops[j]? = some o)
    (hd : (∃ d, o.dst = some d ∧ d < n ∧ ∀ v, env' v = (d, v) :: env) ∨ (o.dst = none ∧ ∀ v, env' v = env))
    (hf : fits ops (pp' ++ rp') o = true) (hs : notSel o.op = true) (hD : j ∉ D) (h1' : ∀ k ∈ rp, k ∉ rp' → k ∈ clo ops ops.length (deps o)) (h2' : ∀ k ∈ rp', k ∈ rp) (h1p : ∀ k ∈ pp, k ∉ pp' → k ∈ clo ops ops.length (deps o)) (h2p : ∀ k ∈ pp', k ∈ pp) (hg : GuardOn ops o env) (s : Ac P o w0 env H post)
    (hm : ∀ v H', post v H' → ∀ k ∈ rp', Val P ops (fun w => Sat w0 w H) k env → Val P ops (fun w => Sat w0 w H') k env)
    (g : ∀ v H', post v H' → Rg P n w0 ops Q (j :: D) pp' rp' (env' v) H') : Stp P n w0 ops Q D pp rp env H j := by
  refine ⟨(List.getElem?_eq_some_iff.1 ho).1, hD, fun ht hgood hv hr fuel listed a w h1 h2 h3 h4 h5 h6 h7 h8 hi => ?_⟩
  obtain ⟨hi1, hi2, o', ho', hdep⟩ := ready_spec hi
  rw [ho] at ho'; cases ho'
  have hclo := clo_spec h1.2 ops.length (deps o) hdep
  have hOn : On ops o env a := fun t ht u hu => h6 t u hu (by
    rintro ⟨m, hm, hmf, hmd⟩
    cases hq : ops[m]? with
    | none => simp [dstAt, hq] at hmd
    | some q =>
      rw [dstAt_some hq] at hmd
      by_cases hmi : m ∈ pp' ++ rp'
      · have := hdep m (((fits_at hf hmi hq).1 t hmd).1 ht)
        rw [hmf] at this; cases this
      · rcases List.mem_append.1 hm with h | h
        · have := hclo m (h1p m h (fun h' => hmi (List.mem_append_left _ h'))); rw [hmf] at this; cases this
        · have := hclo m (h1' m h (fun h' => hmi (List.mem_append_right _ h'))); rw [hmf] at this; cases this)
  refine wpOp_of ho (hg.wanted hOn) (Outc.wp (R := fun v w' => ∃ H', post v H' ∧ Sat w0 w' H') (by rw [exec_full hOn hs]; exact s _ w (full_rho env a) h7) ?_)
  rintro v w' ⟨H', hp, hsat⟩
  have hsz : j < listed.size := by have := h1.1; omega
  have hsub : ∀ k, k ∈ pp' ++ rp' → k ∈ pp ++ rp := fun k hk => (List.mem_append.1 hk).elim (fun h => List.mem_append_left _ (h2p k h)) (fun h => List.mem_append_right _ (h2' k h))
  have hext : ∀ (C : World → Prop) (m : Nat), m ∈ pp' ++ rp' → Val P ops C m env → Val P ops C m (env' v) := fun C m hm hval => by
    rcases hd with ⟨d, hd, hdn, he⟩ | ⟨hd, he⟩
    · rw [he]
      refine hval.ext (fun p hp => (fits_at hf hm hp).2 d hd) (fun he => ?_)
      obtain ⟨p, d', _, hp, hd', _⟩ := hval
      rw [dstAt_some hp, hd'] at he; cases he
      exact ((fits_at hf hm hp).1 d hd').2 d hd rfl
    · rw [he]; exact hval
  refine g v H' hp ht (hgood.perm hsub) (fun m hm => hext _ m (List.mem_append_left _ hm) (hv m (h2p m hm))) (fun m hmr => ?_) fuel _ _ w' ⟨by simp [h1.1], h1.2.set hsz ho hdep⟩ (fun k hk => ?_) (fun k hk hnk => ?_) ?_ ?_ (fun t u hu hm => ?_) hsat ?_
  · refine hext _ m (List.mem_append_right _ hmr) ?_
    exact hm v H' hp m hmr (hr m (h2' m hmr))
  · rw [getD_set hsz] at hk
    by_cases he : j = k
    · exact he ▸ List.mem_cons_self ..
    · rw [if_neg he] at hk; exact List.mem_cons_of_mem _ (h2 k hk)
  · rw [getD_set hsz]
    by_cases he : j = k
    · simp [he]
    · rw [if_neg he]
      rcases List.mem_cons.1 hk with rfl | hk
      · exact (he rfl).elim
      · by_cases hkr : k ∈ rp
        · exact hclo k (h1' k hkr (fun h => hnk (List.mem_append_right _ h)))
        · by_cases hkp : k ∈ pp
          · exact hclo k (h1p k hkp (fun h => hnk (List.mem_append_left _ h)))
          exact h3 k hk (by
            intro hm; rcases List.mem_append.1 hm with h | h
            · exact hkp h
            · exact hkr h)
  · rcases hd with ⟨d, hd, hdn, he⟩ | ⟨hd, he⟩ <;> simp [Act.put, hd, h4]
  · rcases hd with ⟨d, hd, hdn, he⟩ | ⟨hd, he⟩ <;> rw [hd] <;> exact h5
  · have hmiss : (∀ d, o.dst = some d → d ≠ t) → ¬ Missing ops (pp ++ rp) listed t := fun hne ⟨m, hmp, hmf, hmd⟩ => by
      by_cases hmi : m ∈ pp' ++ rp'
      · refine hm ⟨m, hmi, ?_, hmd⟩
        rw [getD_set hsz, if_neg]
        · exact hmf
        · rintro rfl
          rw [dstAt_some ho] at hmd; exact hne t hmd rfl
      · rcases List.mem_append.1 hmp with h | h
        · have := hclo m (h1p m h (fun h' => hmi (List.mem_append_left _ h'))); rw [hmf] at this; cases this
        · have := hclo m (h1' m h (fun h' => hmi (List.mem_append_right _ h'))); rw [hmf] at this; cases this
    rcases hd with ⟨d, hd, hdn, he⟩ | ⟨hd, he⟩
    · rw [hd]; rw [he] at hu
      by_cases hdt : d = t
      · subst hdt
        simp only [lk, show Nat.beq d d = true by simp] at hu
        simp at hu; subst hu
        simp [Act.put, Array.getD_eq_getD_getElem?, h4, hdn]
      · simp only [lk, beq_ne hdt] at hu
        have := h6 t u hu (hmiss fun d' hd' => by rw [hd] at hd'; cases hd'; exact hdt)
        rw [← this]
        simp [Act.put, Array.getD_eq_getD_getElem?, hdt]
    · rw [hd]; rw [he] at hu
      exact h6 t u hu (hmiss fun d' hd' => by rw [hd] at hd'; cases hd')
  · rw [getD_tf (by have := h1.1; omega)] at hi2
    have := count_set' hsz hi2; omega
theorem Stp.ac {d : Nat} {o : Oper} {post : Value → List HProp → Prop} (j : Nat) (ho : ops[j]? = some o) (hd : o.dst = some d)
    (hc : (fits ops ((pp.filter fun k => !memb k (clo ops ops.length (deps o))) ++ []) o && notSel o.op && Nat.blt d n && !memb j D && rp.all (memb · (clo ops ops.length (deps o)))) = true) (hg : GuardOn ops o env) (s : Ac P o w0 env H post)
    (g : ∀ v H', post v H' → Rg P n w0 ops Q (j :: D) (pp.filter fun k => !memb k (clo ops ops.length (deps o))) [] ((d, v) :: env) H') : Stp P n w0 ops Q D pp rp env H j := by
  simp only [Bool.and_eq_true, Bool.not_eq_true', List.all_eq_true] at hc
  obtain ⟨⟨⟨⟨hf, hs⟩, hn⟩, hD⟩, hrp⟩ := hc
  exact Stp.gen (env' := fun v => (d, v) :: env) _ [] j ho (.inl ⟨d, hd, by simpa [Nat.blt_eq] using hn, fun _ => rfl⟩) hf hs (not_memb hD) (fun k hk _ => memb_iff.1 (hrp k hk)) (fun k hk => by cases hk) (fun k hk h => Classical.byContradiction fun hn => h (List.mem_filter.2 ⟨hk, by simpa using fun e => hn (memb_iff.1 e)⟩)) (fun k hk => (List.mem_filter.1 hk).1) hg s (fun _ _ _ k hk => by cases hk) g
theorem Stp.ac0 {o : Oper} {post : Value → List HProp → Prop} (j : Nat) (ho : ops[j]? = some o) (hd : o.dst = none)
    (hc : (fits ops ((pp.filter fun k => !memb k (clo ops ops.length (deps o))) ++ []) o && notSel o.op && !memb j D && rp.all (memb · (clo ops ops.length (deps o)))) = true) (hg : GuardOn ops o env) (s : Ac P o w0 env H post)
    (g : ∀ v H', post v H' → Rg P n w0 ops Q (j :: D) (pp.filter fun k => !memb k (clo ops ops.length (deps o))) [] env H') : Stp P n w0 ops Q D pp rp env H j := by
  simp only [Bool.and_eq_true, Bool.not_eq_true', List.all_eq_true] at hc
  obtain ⟨⟨⟨hf, hs⟩, hD⟩, hrp⟩ := hc
  exact Stp.gen (env' := fun _ => env) _ [] j ho (.inr ⟨hd, fun _ => rfl⟩) hf hs (not_memb hD) (fun k hk _ => memb_iff.1 (hrp k hk)) (fun k hk => by cases hk) (fun k hk h => Classical.byContradiction fun hn => h (List.mem_filter.2 ⟨hk, by simpa using fun e => hn (memb_iff.1 e)⟩)) (fun k hk => (List.mem_filter.1 hk).1) hg s (fun _ _ _ k hk => by cases hk) g
/-- What reads, and is still open, reads the same behind it. -/
theorem Stp.acK {d : Nat} {o : Oper} {post : Value → List HProp → Prop} (j : Nat) (ho : ops[j]? = some o) (hd : o.dst = some d)
    (hc : (fits ops ((pp.filter fun k => !memb k (clo ops ops.length (deps o))) ++ (rp.filter fun k => !memb k (clo ops ops.length (deps o)))) o && notSel o.op && Nat.blt d n && !memb j D) = true) (hg : GuardOn ops o env) (s : Ac P o w0 env H post) (hm : ∀ v H', post v H' → ∀ w, Sat w0 w H' → Sat w0 w H)
    (g : ∀ v H', post v H' → Rg P n w0 ops Q (j :: D) (pp.filter fun k => !memb k (clo ops ops.length (deps o))) (rp.filter fun k => !memb k (clo ops ops.length (deps o))) ((d, v) :: env) H') : Stp P n w0 ops Q D pp rp env H j := by
  simp only [Bool.and_eq_true, Bool.not_eq_true', List.all_eq_true] at hc
  obtain ⟨⟨⟨hf, hs⟩, hn⟩, hD⟩ := hc
  exact Stp.gen (env' := fun v => (d, v) :: env) _ _ j ho (.inl ⟨d, hd, by simpa [Nat.blt_eq] using hn, fun _ => rfl⟩) hf hs (not_memb hD) (fun k hk h => Classical.byContradiction fun hn => h (List.mem_filter.2 ⟨hk, by simpa using fun e => hn (memb_iff.1 e)⟩)) (fun k hk => (List.mem_filter.1 hk).1) (fun k hk h => Classical.byContradiction fun hn => h (List.mem_filter.2 ⟨hk, by simpa using fun e => hn (memb_iff.1 e)⟩)) (fun k hk => (List.mem_filter.1 hk).1) hg s (fun v H' hp k _ ⟨p, d', u, x1, x2, x3, x4⟩ => ⟨p, d', u, x1, x2, x3, fun a w Q K y1 y2 y3 => x4 a w Q K y1 (hm v H' hp w y2) y3⟩) g
theorem Stp.acK0 {o : Oper} {post : Value → List HProp → Prop} (j : Nat) (ho : ops[j]? = some o) (hd : o.dst = none)
    (hc : (fits ops ((pp.filter fun k => !memb k (clo ops ops.length (deps o))) ++ (rp.filter fun k => !memb k (clo ops ops.length (deps o)))) o && notSel o.op && !memb j D) = true) (hg : GuardOn ops o env) (s : Ac P o w0 env H post) (hm : ∀ v H', post v H' → ∀ w, Sat w0 w H' → Sat w0 w H)
    (g : ∀ v H', post v H' → Rg P n w0 ops Q (j :: D) (pp.filter fun k => !memb k (clo ops ops.length (deps o))) (rp.filter fun k => !memb k (clo ops ops.length (deps o))) env H') : Stp P n w0 ops Q D pp rp env H j := by
  simp only [Bool.and_eq_true, Bool.not_eq_true', List.all_eq_true] at hc
  obtain ⟨⟨hf, hs⟩, hD⟩ := hc
  exact Stp.gen (env' := fun _ => env) _ _ j ho (.inr ⟨hd, fun _ => rfl⟩) hf hs (not_memb hD) (fun k hk h => Classical.byContradiction fun hn => h (List.mem_filter.2 ⟨hk, by simpa using fun e => hn (memb_iff.1 e)⟩)) (fun k hk => (List.mem_filter.1 hk).1) (fun k hk h => Classical.byContradiction fun hn => h (List.mem_filter.2 ⟨hk, by simpa using fun e => hn (memb_iff.1 e)⟩)) (fun k hk => (List.mem_filter.1 hk).1) hg s (fun v H' hp k _ ⟨p, d', u, x1, x2, x3, x4⟩ => ⟨p, d', u, x1, x2, x3, fun a w Q K y1 y2 y3 => x4 a w Q K y1 (hm v H' hp w y2) y3⟩) g
/-- Operations that read, and read so. -/
inductive Reads (P : Program) (ops : List Oper) (w0 : World) (env : Env) (H : List HProp) : List Nat → Prop
  | nil : Reads P ops w0 env H []
  | cons {k : Nat} {ks : List Nat} {o : Oper} {d : Nat} {v : Value} (ho : ops[k]? = some o) (hd : o.dst = some d) (hs : notSel o.op = true) (hg : GuardOn ops o env) (hv : lk env d = some v) (s : Rd P o w0 env H v) : Reads P ops w0 env H ks → Reads P ops w0 env H (k :: ks)
theorem Reads.val {H' : List HProp} {rs : List Nat} (h : Reads P ops w0 env H' rs) : ∀ k ∈ rs, Val P ops (fun w => Sat w0 w H') k env := by
  induction h with
  | nil => intro k hk; cases hk
  | @cons k ks o d v ho hd hs hg hv s _ ih =>
    intro m hm
    rcases List.mem_cons.1 hm with rfl | hm
    · refine ⟨o, d, v, ho, hd, hv, fun a w Q K hOn hC hK => ?_⟩
      refine wpOp_of ho (hg.wanted hOn) ?_
      unfold Oper.wp
      rw [exec_full hOn hs, s _ w (full_rho env a) hC]
      show K (a.put o.dst v) w
      rw [hd]; exact hK
    · exact ih m hm
/-- What reads, and is still open (rs), reads the same behind it, by its own proof. -/
theorem Stp.acR {d : Nat} {o : Oper} {post : Value → List HProp → Prop} (j : Nat) (rs : List Nat) (ho : ops[j]? = some o) (hd : o.dst = some d)
    (hc : (fits ops ((pp.filter fun k => !memb k (clo ops ops.length (deps o))) ++ (rp.filter fun k => !memb k (clo ops ops.length (deps o)))) o && notSel o.op && Nat.blt d n && !memb j D && rp.all fun k => memb k (clo ops ops.length (deps o)) || memb k rs) = true) (hg : GuardOn ops o env) (s : Ac P o w0 env H post)
    (hm : ∀ v H', post v H' → Reads P ops w0 env H' rs)
    (g : ∀ v H', post v H' → Rg P n w0 ops Q (j :: D) (pp.filter fun k => !memb k (clo ops ops.length (deps o))) (rp.filter fun k => !memb k (clo ops ops.length (deps o))) ((d, v) :: env) H') : Stp P n w0 ops Q D pp rp env H j := by
  simp only [Bool.and_eq_true, Bool.not_eq_true', List.all_eq_true] at hc
  obtain ⟨⟨⟨⟨hf, hs⟩, hn⟩, hD⟩, hrs⟩ := hc
  refine Stp.gen (env' := fun v => (d, v) :: env) _ _ j ho (.inl ⟨d, hd, by simpa [Nat.blt_eq] using hn, fun _ => rfl⟩) hf hs (not_memb hD) (fun k hk h => Classical.byContradiction fun hn => h (List.mem_filter.2 ⟨hk, by simpa using fun e => hn (memb_iff.1 e)⟩)) (fun k hk => (List.mem_filter.1 hk).1) (fun k hk h => Classical.byContradiction fun hn => h (List.mem_filter.2 ⟨hk, by simpa using fun e => hn (memb_iff.1 e)⟩)) (fun k hk => (List.mem_filter.1 hk).1) hg s (fun v H' hp k hk _ => (hm v H' hp).val k ?_) g
  obtain ⟨h1, h2⟩ := List.mem_filter.1 hk
  have := hrs k h1
  rw [Bool.or_eq_true] at this
  rcases this with h | h
  · rw [h] at h2; cases h2
  · exact memb_iff.1 h
theorem Stp.acR0 {o : Oper} {post : Value → List HProp → Prop} (j : Nat) (rs : List Nat) (ho : ops[j]? = some o) (hd : o.dst = none)
    (hc : (fits ops ((pp.filter fun k => !memb k (clo ops ops.length (deps o))) ++ (rp.filter fun k => !memb k (clo ops ops.length (deps o)))) o && notSel o.op && !memb j D && rp.all fun k => memb k (clo ops ops.length (deps o)) || memb k rs) = true) (hg : GuardOn ops o env) (s : Ac P o w0 env H post)
    (hm : ∀ v H', post v H' → Reads P ops w0 env H' rs)
    (g : ∀ v H', post v H' → Rg P n w0 ops Q (j :: D) (pp.filter fun k => !memb k (clo ops ops.length (deps o))) (rp.filter fun k => !memb k (clo ops ops.length (deps o))) env H') : Stp P n w0 ops Q D pp rp env H j := by
  simp only [Bool.and_eq_true, Bool.not_eq_true', List.all_eq_true] at hc
  obtain ⟨⟨⟨hf, hs⟩, hD⟩, hrs⟩ := hc
  refine Stp.gen (env' := fun _ => env) _ _ j ho (.inr ⟨hd, fun _ => rfl⟩) hf hs (not_memb hD) (fun k hk h => Classical.byContradiction fun hn => h (List.mem_filter.2 ⟨hk, by simpa using fun e => hn (memb_iff.1 e)⟩)) (fun k hk => (List.mem_filter.1 hk).1) (fun k hk h => Classical.byContradiction fun hn => h (List.mem_filter.2 ⟨hk, by simpa using fun e => hn (memb_iff.1 e)⟩)) (fun k hk => (List.mem_filter.1 hk).1) hg s (fun v H' hp k hk _ => (hm v H' hp).val k ?_) g
  obtain ⟨h1, h2⟩ := List.mem_filter.1 hk
  have := hrs k h1
  rw [Bool.or_eq_true] at this
  rcases this with h | h
  · rw [h] at h2; cases h2
  · exact memb_iff.1 h
theorem Rg.of {js : List Nat} (hne : js ≠ []) (hav : avail ops D = js) (s : ∀ j ∈ js, Stp P n w0 ops Q D pp rp env H j) : Rg P n w0 ops Q D pp rp env H := fun ht hgood hv hr => by
  have hall : ∀ k ∈ pp ++ rp, Val P ops (fun w => Sat w0 w H) k env := fun k hk => by
    rcases List.mem_append.1 hk with h | h
    · obtain ⟨p, d', v, x1, x2, x3, x4⟩ := hv k h
      exact ⟨p, d', v, x1, x2, x3, fun a w Q K y1 _ y3 => x4 a w Q K y1 trivial y3⟩
    · exact hr k h
  refine RgS.late ht hall hgood.look hgood.slot ?_ ?_
  · intro fuel listed a w h1 h2 h3 h4 h5 h6 h7 h8 i hi hiD
    have hij : i ∈ js := by have := avail_of hi h2 hiD; rwa [hav] at this
    exact (s i hij).2.2 ht hgood hv hr fuel listed a w h1 h2 h3 h4 h5 h6 h7 h8 hi
  · intro listed a w h1 hl h2 h4 h5 h6 h7
    cases js with
    | nil => exact (hne rfl).elim
    | cons j js =>
      obtain ⟨x1, x2, -⟩ := s j (List.mem_cons_self ..)
      exact (x2 (h2 j (hl j x1))).elim
/-- The only one that may stand next. -/
theorem Rg.one {j : Nat} (hav : avail ops D = [j]) (s : Stp P n w0 ops Q D pp rp env H j) : Rg P n w0 ops Q D pp rp env H :=
  Rg.of (by simp) hav fun i hi => by simp only [List.mem_cons, List.not_mem_nil, or_false] at hi; rw [hi]; exact s
/-- Two that may stand next. -/
theorem Rg.two {i j : Nat} (hav : avail ops D = [i, j]) (s : Stp P n w0 ops Q D pp rp env H i) (t : Stp P n w0 ops Q D pp rp env H j) : Rg P n w0 ops Q D pp rp env H :=
  Rg.of (by simp) hav fun k hk => by
    simp only [List.mem_cons, List.not_mem_nil, or_false] at hk
    rcases hk with rfl | rfl
    · exact s
    · exact t
theorem Rg.end (hav : ((List.range ops.length).all (memb · D)) = true) (g : Gs w0 n env H (Q .normal)) : Rg P n w0 ops Q D pp rp env H := fun ht hgood hv hr => by
  have hall : ∀ k ∈ pp ++ rp, Val P ops (fun w => Sat w0 w H) k env := fun k hk => by
    rcases List.mem_append.1 hk with h | h
    · obtain ⟨p, d', v, x1, x2, x3, x4⟩ := hv k h
      exact ⟨p, d', v, x1, x2, x3, fun a w Q K y1 _ y3 => x4 a w Q K y1 trivial y3⟩
    · exact hr k h
  refine RgS.late ht hall hgood.look hgood.slot ?_ ?_
  · intro fuel listed a w h1 h2 h3 h4 h5 h6 h7 h8 i hi hiD
    obtain ⟨hi1, _⟩ := ready_spec hi
    rw [List.all_eq_true] at hav
    exact (hiD (memb_iff.1 (hav i (by simpa using hi1)))).elim
  · intro listed a w h1 hl h2 h4 h5 h6 h7
    exact g a w ⟨h4, h5, h6⟩ h7
theorem Gs.regD {id : Nat} {l : List Oper} (hm : P.follows .mixedOrders = true) (ht : tidy l = true) (g : Rg P n w0 l Q [] [] [] env H) : Gs w0 n env H ((Code.region id l.toArray true).wp P Q) := fun a w e s => by
  refine wp_region_any hm ?_
  have h0 : Good n l ([] ++ []) := ⟨fun k hk => (List.not_mem_nil hk).elim, fun k hk => (List.not_mem_nil hk).elim⟩
  refine g ht h0 (fun k hk => (List.not_mem_nil hk).elim) (fun k hk => (List.not_mem_nil hk).elim) _ _ a _ ⟨by simp, fun i o _ hi => ?_⟩ (fun i hi => ?_) (fun i hi => (List.not_mem_nil hi).elim) e.size e.defers (fun t v hv _ => e.slots t v hv) s.drew ?_
  · exfalso
    simp only [Array.getD_eq_getD_getElem?, Array.getElem?_replicate] at hi
    split at hi <;> simp at hi
  · exfalso
    simp only [Array.getD_eq_getD_getElem?, Array.getElem?_replicate] at hi
    split at hi <;> simp at hi
  · simp

theorem GuardOn.wanted' {o : Oper} (h : GuardOn ops o env) {a : Act} (e : EnvOk n env a) : Region.wanted o (yielded ops.toArray a.tmps) = true :=
  h.wanted fun t _ u hu => e.slots t u hu
theorem L.ac {rest : List Oper} {o : Oper} {d : Nat} {post : Value → List HProp → Prop} (ho : o.dst = some d) (hd : Nat.blt d n = true) (hg : GuardOn ops o env)
    (s : Ac P o w0 env H post) (g : ∀ v H', post v H' → Gs w0 n ((d, v) :: env) H' (wpList P ops.toArray Q rest)) : Gs w0 n env H (wpList P ops.toArray Q (o :: rest)) := fun a w e t => by
  refine wpList_step fun K hK => ?_
  rw [if_pos (hg.wanted' e)]
  refine (s a.eval w e.rho t).wp fun v w' ⟨H', p, t'⟩ => hK _ _ ?_
  rw [ho]; exact g v H' p _ _ (e.put (by simpa [Nat.blt_eq] using hd) v) t'
theorem L.ac0 {rest : List Oper} {o : Oper} {post : Value → List HProp → Prop} (ho : o.dst = none) (hg : GuardOn ops o env)
    (s : Ac P o w0 env H post) (g : ∀ v H', post v H' → Gs w0 n env H' (wpList P ops.toArray Q rest)) : Gs w0 n env H (wpList P ops.toArray Q (o :: rest)) := fun a w e t => by
  refine wpList_step fun K hK => ?_
  rw [if_pos (hg.wanted' e)]
  refine (s a.eval w e.rho t).wp fun v w' ⟨H', p, t'⟩ => hK _ _ ?_
  rw [ho]; exact g v H' p _ _ e t'
theorem L.rd {rest : List Oper} {o : Oper} {d : Nat} {v : Value} (ho : o.dst = some d) (hd : Nat.blt d n = true) (hg : GuardOn ops o env)
    (s : Rd P o w0 env H v) (g : Gs w0 n ((d, v) :: env) H (wpList P ops.toArray Q rest)) : Gs w0 n env H (wpList P ops.toArray Q (o :: rest)) :=
  L.ac ho hd hg s.ac fun _ _ ⟨h1, h2⟩ => by subst h1; subst h2; exact g
theorem L.pu {rest : List Oper} {o : Oper} {d : Nat} {v : Value} (ho : o.dst = some d) (hd : Nat.blt d n = true) (hg : GuardOn ops o env)
    (s : Pu P o env v) (g : Gs w0 n ((d, v) :: env) H (wpList P ops.toArray Q rest)) : Gs w0 n env H (wpList P ops.toArray Q (o :: rest)) := L.rd ho hd hg s.rd g
theorem L.off {rest : List Oper} {d j dg : Nat} {b c : Bool} {o : Oper} (ho : o.dst = some d) (hd : Nat.blt d n = true) (hg : o.guard = some (j, b)) (hj : dstAt ops j = some dg) (hb : lk env dg = some (.bool c)) (hne : (c == b) = false)
    (g : Gs w0 n ((d, undef) :: env) H (wpList P ops.toArray Q rest)) : Gs w0 n env H (wpList P ops.toArray Q (o :: rest)) := fun a w e t => by
  refine wpList_step fun K hK => ?_
  have h1 := e.slots dg _ hb
  have h2 : a.tmps[dg]? = some (.bool c) := by
    rw [Array.getD_eq_getD_getElem?] at h1
    cases hx : a.tmps[dg]? with
    | some x => rw [hx] at h1; simpa using h1
    | none => rw [hx] at h1; simp [undef] at h1
  have hd' : (ops.toArray[j]?).bind (·.dst) = some dg := by rw [List.getElem?_toArray]; exact hj
  have hw : Region.wanted o (yielded ops.toArray a.tmps) = false := by
    simp only [Region.wanted, hg, yielded, hd', Option.bind_some, h2]
    cases c <;> cases b <;> first | rfl | (simp at hne)
  rw [if_neg (by rw [hw]; simp), ho]
  exact hK _ _ (g _ _ (e.put (by simpa [Nat.blt_eq] using hd) undef) t)
theorem L.nil (g : Gs w0 n env H (Q .normal)) : Gs w0 n env H (wpList P ops.toArray Q []) := g

/-! ### Values that are known, values that part the ways -/
theorem Rg.puBt {d : Nat} {c : Bool} {o : Oper} (k : Nat) (ho : ops[k]? = some o) (hd : o.dst = some d) (hc : (fits ops (pp ++ rp) o && notSel o.op && Nat.blt d n && !memb k D) = true) (hg : GuardOn ops o env) (s : Pu P o env (.bool c)) (h : c = true)
    (g : Rg P n w0 ops Q (k :: D) (k :: pp) rp ((d, .bool true) :: env) H) : Rg P n w0 ops Q D pp rp env H := by subst h; exact Rg.pu k ho hd hc hg s g
theorem Rg.puBf {d : Nat} {c : Bool} {o : Oper} (k : Nat) (ho : ops[k]? = some o) (hd : o.dst = some d) (hc : (fits ops (pp ++ rp) o && notSel o.op && Nat.blt d n && !memb k D) = true) (hg : GuardOn ops o env) (s : Pu P o env (.bool c)) (h : c = false)
    (g : Rg P n w0 ops Q (k :: D) (k :: pp) rp ((d, .bool false) :: env) H) : Rg P n w0 ops Q D pp rp env H := by subst h; exact Rg.pu k ho hd hc hg s g
theorem Rg.puB {d : Nat} {c : Bool} {o : Oper} (k : Nat) (ho : ops[k]? = some o) (hd : o.dst = some d) (hc : (fits ops (pp ++ rp) o && notSel o.op && Nat.blt d n && !memb k D) = true) (hg : GuardOn ops o env) (s : Pu P o env (.bool c))
    (g : c = true → Rg P n w0 ops Q (k :: D) (k :: pp) rp ((d, .bool true) :: env) H) (g' : c = false → Rg P n w0 ops Q (k :: D) (k :: pp) rp ((d, .bool false) :: env) H) : Rg P n w0 ops Q D pp rp env H := by
  cases c with
  | true => exact Rg.pu k ho hd hc hg s (g rfl)
  | false => exact Rg.pu k ho hd hc hg s (g' rfl)
theorem L.puBt {rest : List Oper} {o : Oper} {d : Nat} {c : Bool} (ho : o.dst = some d) (hd : Nat.blt d n = true) (hg : GuardOn ops o env) (s : Pu P o env (.bool c)) (h : c = true)
    (g : Gs w0 n ((d, .bool true) :: env) H (wpList P ops.toArray Q rest)) : Gs w0 n env H (wpList P ops.toArray Q (o :: rest)) := by subst h; exact L.pu ho hd hg s g
theorem L.puBf {rest : List Oper} {o : Oper} {d : Nat} {c : Bool} (ho : o.dst = some d) (hd : Nat.blt d n = true) (hg : GuardOn ops o env) (s : Pu P o env (.bool c)) (h : c = false)
    (g : Gs w0 n ((d, .bool false) :: env) H (wpList P ops.toArray Q rest)) : Gs w0 n env H (wpList P ops.toArray Q (o :: rest)) := by subst h; exact L.pu ho hd hg s g
theorem L.puB {rest : List Oper} {o : Oper} {d : Nat} {c : Bool} (ho : o.dst = some d) (hd : Nat.blt d n = true) (hg : GuardOn ops o env) (s : Pu P o env (.bool c))
    (g : c = true → Gs w0 n ((d, .bool true) :: env) H (wpList P ops.toArray Q rest)) (g' : c = false → Gs w0 n ((d, .bool false) :: env) H (wpList P ops.toArray Q rest)) : Gs w0 n env H (wpList P ops.toArray Q (o :: rest)) := by
  cases c with
  | true => exact L.pu ho hd hg s (g rfl)
  | false => exact L.pu ho hd hg s (g' rfl)
theorem unwanted_U {j dg : Nat} {b : Bool} {o : Oper} {a : Act} (hg : o.guard = some (j, b)) (hj : dstAt ops j = some dg) (h1 : a.tmps.getD dg undef = undef) : Region.wanted o (yielded ops.toArray a.tmps) = false := by
  have hd' : (ops.toArray[j]?).bind (·.dst) = some dg := by rw [List.getElem?_toArray]; exact hj
  simp only [Region.wanted, hg, yielded, hd', Option.bind_some]
  rw [Array.getD_eq_getD_getElem?] at h1
  cases hx : a.tmps[dg]? with
  | none => rfl
  | some x => rw [hx] at h1; simp only [Option.getD_some, undef] at h1; subst h1; rfl
theorem L.offU {rest : List Oper} {d j dg : Nat} {b : Bool} {o : Oper} (ho : o.dst = some d) (hd : Nat.blt d n = true) (hg : o.guard = some (j, b)) (hj : dstAt ops j = some dg) (hb : lk env dg = some undef)
    (g : Gs w0 n ((d, undef) :: env) H (wpList P ops.toArray Q rest)) : Gs w0 n env H (wpList P ops.toArray Q (o :: rest)) := fun a w e t => by
  refine wpList_step fun K hK => ?_
  rw [if_neg (by rw [unwanted_U hg hj (e.slots dg _ hb)]; simp), ho]
  exact hK _ _ (g _ _ (e.put (by simpa [Nat.blt_eq] using hd) undef) t)
theorem Rg.offU {d j dg : Nat} {b : Bool} {o : Oper} (k : Nat) (ho : ops[k]? = some o) (hd : o.dst = some d) (hc : (fits ops (pp ++ rp) o && Nat.blt d n && !memb k D) = true) (hg : o.guard = some (j, b)) (hj : dstAt ops j = some dg) (hb : lk env dg = some undef)
    (g : Rg P n w0 ops Q (k :: D) (k :: pp) rp ((d, undef) :: env) H) : Rg P n w0 ops Q D pp rp env H := fun ht hgood hv hr => by
  simp only [Bool.and_eq_true, Bool.not_eq_true'] at hc
  obtain ⟨⟨hf, hn⟩, hD⟩ := hc
  have hn : d < n := by simpa [Nat.blt_eq] using hn
  refine RgS.more (by rw [dstAt_some ho, hd]) (not_memb hD) (g ht (hgood.more ho hd hn hf) (fun m hm => ?_) fun m hm => ?_)
  · rcases List.mem_cons.1 hm with rfl | hm
    · refine ⟨o, d, undef, ho, hd, by simp [lk], fun a w Q K hOn hC hK => ?_⟩
      have hOn' := hOn.of_cons (fits_self hf hd)
      have hm : dg ∈ looks ops o := by
        unfold looks; rw [hg]; refine List.mem_append.2 (.inr ?_)
        show dg ∈ ((ops[j]?).bind (·.dst)).toList
        rw [show (ops[j]?).bind (·.dst) = some dg from hj]; simp
      unfold wpOp
      rw [List.getElem?_toArray, ho]
      simp only [unwanted_U hg hj (hOn' dg hm _ hb), Bool.false_eq_true, if_false]
      rw [hd]; exact hK
    · exact (hv m hm).ext (fun p hp => (fits_at hf (List.mem_append_left _ hm) hp).2 d hd) (fun he => by
        obtain ⟨p, d', _, hp, hd', _⟩ := hv m hm
        rw [dstAt_some hp, hd'] at he; cases he
        exact ((fits_at hf (List.mem_append_left _ hm) hp).1 d hd').2 d hd rfl)
  · exact (hr m hm).ext (fun p hp => (fits_at hf (List.mem_append_right _ hm) hp).2 d hd) (fun he => by
        obtain ⟨p, d', _, hp, hd', _⟩ := hr m hm
        rw [dstAt_some hp, hd'] at he; cases he
        exact ((fits_at hf (List.mem_append_right _ hm) hp).1 d hd').2 d hd rfl)
end rules
end
end Go.Sl
