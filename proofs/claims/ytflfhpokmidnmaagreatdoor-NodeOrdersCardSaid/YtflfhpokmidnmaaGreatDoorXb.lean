/- What the closing leans on: part 2. -/
import Derived.Test.YtflfhpokmidnmaaGreatDoorXa
import Derived.Deep.AppendSrc
import Derived.Laws.MakeOwn
namespace Go.Sl
open Go
def deps (o : Oper) : List Nat := (o.after.toList.filter (Region.binds .any)).map (·.on)
def looks (ops : List Oper) (o : Oper) : List Nat :=
 o.op.operands.toList.filterMap (fun | .tmp t => some t | _ => none) ++ (match o.guard with | none => [] | some (j, _) => ((ops[j]?).bind (·.dst)).toList)
def dstAt (ops : List Oper) (k : Nat) : Option Nat := (ops[k]?).bind (·.dst)
def notSel : Op → Bool
 | .select .. => false
 | _ => true
def tidy (ops : List Oper) : Bool := (List.range ops.length).all fun i => match ops[i]? with | some o => (deps o).all (Nat.blt · i) && notSel o.op | none => true
def memb (k : Nat) (l : List Nat) : Bool := l.any (Nat.beq k)
def avail (ops : List Oper) (D : List Nat) : List Nat := (List.range ops.length).filter fun i => !memb i D && (match ops[i]? with | some o => (deps o).all (memb · D) | none => false)
def fits (ops : List Oper) (pend : List Nat) (o : Oper) : Bool :=
 (match o.dst with | none => true | some d => !memb d (looks ops o)) && pend.all fun m => match ops[m]? with
   | none => false
   | some p =>
     (match p.dst with | none => true | some d' => (!memb d' (looks ops o) || memb m (deps o)) && (match o.dst with | none => true | some d => !Nat.beq d d')) &&
     (match o.dst with | none => true | some d => !memb d (looks ops p))
theorem memb_iff {k : Nat} {l : List Nat} : memb k l = true ↔ k ∈ l := by
 unfold memb; rw [List.any_eq_true]
 constructor
 · rintro ⟨x, hx, h⟩; rw [Nat.eq_of_beq_eq_true h]; exact hx
 · intro h; exact ⟨k, h, by simp⟩
section
variable {P : Program} {n : Nat} {w0 : World} {ops : List Oper} {Q : Exit → Act → World → Prop}
def On (ops : List Oper) (o : Oper) (env : Env) (a : Act) : Prop := ∀ t ∈ looks ops o, ∀ u, lk env t = some u → a.tmps.getD t undef = u
def Val (P : Program) (ops : List Oper) (C : World → Prop) (k : Nat) (env : Env) : Prop :=
 ∃ o d v, ops[k]? = some o ∧ o.dst = some d ∧ lk env d = some v ∧ ∀ a w (Q : Exit → Act → World → Prop) (K : Act → World → Prop), On ops o env a → C w → K (a.put (some d) v) w → wpOp P ops.toArray Q k K a w
def Missing (ops : List Oper) (pend : List Nat) (listed : Array Bool) (t : Nat) : Prop := ∃ k ∈ pend, listed.getD k false = false ∧ dstAt ops k = some t
def Clo (ops : List Oper) (listed : Array Bool) : Prop := ∀ (i : Nat) (o : Oper), ops[i]? = some o → listed.getD i false = true → ∀ k ∈ deps o, listed.getD k false = true
def RgS (P : Program) (n : Nat) (w0 : World) (ops : List Oper) (Q : Exit → Act → World → Prop) (D pend : List Nat) (env : Env) (H : List HProp) : Prop :=
 ∀ (fuel : Nat) (listed : Array Bool) (a : Act) (w : World), listed.size = ops.length ∧ Clo ops listed → (∀ i, listed.getD i false = true → i ∈ D) → (∀ i ∈ D, i ∉ pend → listed.getD i false = true) →
   a.tmps.size = n → a.defers = [] → (∀ t v, lk env t = some v → ¬ Missing ops pend listed t → a.tmps.getD t undef = v) → Sat w0 w H →
   listed.toList.count false ≤ fuel → wpAny P .any ops.toArray Q fuel listed a w
structure Good (n : Nat) (ops : List Oper) (pend : List Nat) : Prop where
 look : ∀ k ∈ pend, ∀ m ∈ pend, ∀ o, ops[k]? = some o → ∀ d, dstAt ops m = some d → d ∈ looks ops o → m ∈ deps o
 slot : ∀ k ∈ pend, ∀ d, dstAt ops k = some d → d < n
def Rg (P : Program) (n : Nat) (w0 : World) (ops : List Oper) (Q : Exit → Act → World → Prop) (D pp rp : List Nat) (env : Env) (H : List HProp) : Prop :=
 tidy ops = true → Good n ops (pp ++ rp) → (∀ k ∈ pp, Val P ops (fun _ => True) k env) → (∀ k ∈ rp, Val P ops (fun w => Sat w0 w H) k env) → RgS P n w0 ops Q D (pp ++ rp) env H
theorem Val.ext {C : World → Prop} {k : Nat} {env : Env} (h : Val P ops C k env) {d' : Nat} {u : Value} (h1 : ∀ o, ops[k]? = some o → d' ∉ looks ops o) (h2 : dstAt ops k ≠ some d') : Val P ops C k ((d', u) :: env) := by
 obtain ⟨o, d, v, ho, hd, hv, hw⟩ := h
 have hne : ¬ d' = d := fun e => h2 (by simp [dstAt, ho, hd, e])
 refine ⟨o, d, v, ho, hd, by simp only [lk, beq_ne hne]; exact hv, fun a w Q K hOn hC hK => hw a w Q K (fun t ht x hx => hOn t ht x ?_) hC hK⟩
 have : ¬ d' = t := fun e => h1 o ho (by rw [e]; exact ht)
 simp only [lk, beq_ne this]; exact hx
theorem ready_spec {listed : Array Bool} {i : Nat} (h : i ∈ Region.ready .any ops.toArray listed) : i < ops.length ∧ listed.getD i true = false ∧ ∃ o, ops[i]? = some o ∧ ∀ k ∈ deps o, listed.getD k false = true := by
 unfold Region.ready at h
 simp only [List.mem_filter, List.mem_range, List.size_toArray, Bool.and_eq_true, Bool.not_eq_true', List.getElem?_toArray] at h
 obtain ⟨h1, h2, h3⟩ := h
 refine ⟨h1, h2, ops[i], by simp [h1], fun k hk => ?_⟩
 simp only [h1, List.getElem?_eq_getElem, Option.map_some, Option.getD_some] at h3
 simp only [deps, List.mem_map, List.mem_filter, Array.mem_toList_iff] at hk
 obtain ⟨e, ⟨he, hb⟩, rfl⟩ := hk
 rw [Array.all_eq_true'] at h3
 have := h3 e he
 simpa [hb] using this
theorem getD_tf {listed : Array Bool} {i : Nat} (h : i < listed.size) : listed.getD i true = listed.getD i false := by simp [Array.getD_eq_getD_getElem?, h]
theorem some_ready (ht : tidy ops = true) {listed : Array Bool} (hs : listed.size = ops.length) : ∀ (i : Nat), i < ops.length → listed.getD i false = false → Region.ready .any ops.toArray listed ≠ [] := by
 intro i
 induction i using Nat.strongRecOn with
 | _ i ih =>
   intro hi hf hnil
   by_cases hall : ∀ k ∈ deps (ops[i]), listed.getD k false = true
   · have : i ∈ Region.ready .any ops.toArray listed := by
       unfold Region.ready
       simp only [List.mem_filter, List.mem_range, List.size_toArray, Bool.and_eq_true, Bool.not_eq_true', List.getElem?_toArray]
       refine ⟨hi, by rw [getD_tf (by omega)]; exact hf, ?_⟩
       simp only [hi, List.getElem?_eq_getElem, Option.map_some, Option.getD_some]
       rw [Array.all_eq_true']
       intro e he
       by_cases hb : Region.binds .any e = true
       · have := hall e.on (by simp only [deps, List.mem_map, List.mem_filter, Array.mem_toList_iff]; exact ⟨e, ⟨he, hb⟩, rfl⟩)
         simp [this]
       · simp [hb]
     rw [hnil] at this; cases this
   · have ⟨k, hk, hf'⟩ : ∃ k, k ∈ deps (ops[i]) ∧ listed.getD k false = false := by
       apply Classical.byContradiction
       intro hno
       exact hall fun k hk => by
         cases hx : listed.getD k false with
         | true => rfl
         | false => exact (hno ⟨k, hk, hx⟩).elim
     unfold tidy at ht
     rw [List.all_eq_true] at ht
     have := ht i (by simpa using hi)
     simp only [hi, List.getElem?_eq_getElem, Bool.and_eq_true, List.all_eq_true] at this
     have hlt : k < i := by simpa [Nat.blt_eq] using this.1 k hk
     exact ih k hlt (by omega) hf' hnil
theorem count_set : ∀ (l : List Bool) (i : Nat), l[i]? = some false → (l.set i true).count false + 1 = l.count false
 | [], i, h => by cases h
 | b :: l, 0, h => by simp at h; subst h; simp
 | b :: l, i + 1, h => by
   have := count_set l i (by simpa using h)
   simp only [List.set_cons_succ, List.count_cons]; omega
theorem count_set' {listed : Array Bool} {i : Nat} (h : i < listed.size) (hf : listed.getD i false = false) : (listed.setIfInBounds i true).toList.count false + 1 = listed.toList.count false := by
 rw [Array.toList_setIfInBounds]
 exact count_set _ _ (by
   simp only [Array.getD_eq_getD_getElem?, h, Array.getElem?_eq_getElem, Option.getD_some] at hf
   simp [h, hf])
theorem getD_set {listed : Array Bool} {i k : Nat} (hi : i < listed.size) : (listed.setIfInBounds i true).getD k false = (if i = k then true else listed.getD k false) := by
 simp only [Array.getD_eq_getD_getElem?, Array.getElem?_setIfInBounds]
 by_cases h : i = k
 · subst h; simp [hi]
 · simp [h]
theorem Clo.set {listed : Array Bool} (h : Clo ops listed) {i : Nat} (hi : i < listed.size) {o : Oper} (ho : ops[i]? = some o) (hd : ∀ k ∈ deps o, listed.getD k false = true) : Clo ops (listed.setIfInBounds i true) := fun m p hp hm k hk => by
 rw [getD_set hi] at hm ⊢
 split
 · rfl
 · split at hm
   · rename_i e; subst e
     rw [ho] at hp; cases hp
     exact hd k hk
   · exact h m p hp hm k hk
def clo (ops : List Oper) : Nat → List Nat → List Nat
 | 0, acc => acc
 | n + 1, acc => clo ops n (match memb n acc with
   | true => match ops[n]? with
     | some o => acc ++ (deps o).filter fun k => !memb k acc
     | none => acc
   | false => acc)
theorem clo_spec {listed : Array Bool} (h : Clo ops listed) : ∀ (n : Nat) (acc : List Nat), (∀ k ∈ acc, listed.getD k false = true) → ∀ k ∈ clo ops n acc, listed.getD k false = true
 | 0, acc, ha => ha
 | n + 1, acc, ha => clo_spec h n _ (by
   intro k hk
   split at hk
   · rename_i hm
     split at hk
     · rename_i o ho
       rcases List.mem_append.1 hk with hk | hk
       · exact ha k hk
       · exact h n o ho (ha n (memb_iff.1 hm)) k (List.mem_filter.1 hk).1
     · exact ha k hk
   · exact ha k hk)
theorem RgS.late (ht : tidy ops = true) {D pend : List Nat} {env : Env} {H : List HProp} (hv : ∀ k ∈ pend, Val P ops (fun w => Sat w0 w H) k env)
   (hlook : ∀ k ∈ pend, ∀ m ∈ pend, ∀ o, ops[k]? = some o → ∀ d, dstAt ops m = some d → d ∈ looks ops o → m ∈ deps o)
   (hsl : ∀ k ∈ pend, ∀ d, dstAt ops k = some d → d < n)
   (next : ∀ (fuel : Nat) (listed : Array Bool) (a : Act) (w : World), listed.size = ops.length ∧ Clo ops listed → (∀ i, listed.getD i false = true → i ∈ D) → (∀ i ∈ D, i ∉ pend → listed.getD i false = true) →
     a.tmps.size = n → a.defers = [] → (∀ t v, lk env t = some v → ¬ Missing ops pend listed t → a.tmps.getD t undef = v) → Sat w0 w H → listed.toList.count false ≤ fuel + 1 →
     ∀ i ∈ Region.ready .any ops.toArray listed, i ∉ D → wpOp P ops.toArray Q i (wpAny P .any ops.toArray Q fuel (listed.setIfInBounds i true)) a w)
   (fin : ∀ (listed : Array Bool) (a : Act) (w : World), listed.size = ops.length ∧ Clo ops listed → (∀ i, i < ops.length → listed.getD i false = true) → (∀ i, listed.getD i false = true → i ∈ D) →
     a.tmps.size = n → a.defers = [] → (∀ t v, lk env t = some v → a.tmps.getD t undef = v) → Sat w0 w H → Q .normal a w) :
   RgS P n w0 ops Q D pend env H := by
 have done : ∀ (listed : Array Bool) (a : Act) (w : World), listed.size = ops.length ∧ Clo ops listed → (∀ i, listed.getD i false = true → i ∈ D) →
     a.tmps.size = n → a.defers = [] → (∀ t v, lk env t = some v → ¬ Missing ops pend listed t → a.tmps.getD t undef = v) → Sat w0 w H → Region.ready .any ops.toArray listed = [] → Q .normal a w := by
   intro listed a w h1 h2 h4 h5 h6 h7 hr
   have hall : ∀ i, i < ops.length → listed.getD i false = true := fun i hi => by
     cases hx : listed.getD i false with
     | true => rfl
     | false => exact (some_ready ht h1.1 i hi hx hr).elim
   refine fin listed a w h1 hall h2 h4 h5 (fun t v hv => h6 t v hv ?_) h7
   rintro ⟨k, hk, hf, hdk⟩
   have : k < ops.length := by
     cases hk : ops[k]? with
     | none => simp [dstAt, hk] at hdk
     | some o => exact (List.getElem?_eq_some_iff.1 hk).1
   rw [hall k this] at hf; cases hf
 intro fuel
 induction fuel with
 | zero =>
   intro listed a w h1 h2 h3 h4 h5 h6 h7 h8
   have hall : ∀ i, i < ops.length → listed.getD i false = true := fun i hi => by
     have hc : listed.toList.count false = 0 := by omega
     rw [List.count_eq_zero] at hc
     have hi' : i < listed.size := by have := h1.1; omega
     cases hx : listed[i] with
     | true => simp [Array.getD_eq_getD_getElem?, hi', hx]
     | false => exact (hc (by rw [← hx]; simp)).elim
   have hr : Region.ready .any ops.toArray listed = [] := by
     apply List.eq_nil_iff_forall_not_mem.2
     intro i hi
     obtain ⟨hi1, hi2, -⟩ := ready_spec hi
     rw [getD_tf (by have := h1.1; omega), hall i hi1] at hi2; cases hi2
   exact ⟨hr, done listed a w h1 h2 h4 h5 h6 h7 hr⟩
 | succ fuel ih =>
   intro listed a w h1 h2 h3 h4 h5 h6 h7 h8
   refine ⟨fun hr => done listed a w h1 h2 h4 h5 h6 h7 hr, fun i hi => ?_⟩
   by_cases hD : i ∈ D
   · obtain ⟨hi1, hi2, o, ho, hdep⟩ := ready_spec hi
     rw [getD_tf (by have := h1.1; omega)] at hi2
     have hp : i ∈ pend := Classical.byContradiction fun hn => by have := h3 i hD hn; rw [hi2] at this; cases this
     obtain ⟨o', d, v, ho', hd', hlv, hw⟩ := hv i hp
     have : o' = o := by rw [ho] at ho'; exact (Option.some.inj ho').symm
     subst this
     have hdi : dstAt ops i = some d := by simp [dstAt, ho, hd']
     refine hw a w _ _ (fun t ht u hu => h6 t u hu ?_) h7 ?_
     · rintro ⟨m, hm, hmf, hmd⟩
       have := hdep m (hlook i hp m hm o' ho t hmd ht)
       rw [hmf] at this; cases this
     · have hsz : i < listed.size := by have := h1.1; omega
       refine ih _ _ w ⟨by simp [h1.1], h1.2.set hsz ho' hdep⟩ (fun k hk => ?_) (fun k hk hn => ?_) (by simp [Act.put, h4]) h5 (fun t u hu hm => ?_) h7 ?_
       · rw [getD_set hsz] at hk
         by_cases he : i = k
         · exact he ▸ hD
         · rw [if_neg he] at hk; exact h2 k hk
       · rw [getD_set hsz]; split
         · rfl
         · exact h3 k hk hn
       · by_cases hdt : d = t
         · subst hdt
           rw [hlv] at hu; cases hu
           have hdn : d < a.tmps.size := by rw [h4]; exact hsl i hp d hdi
           simp [Act.put, Array.getD_eq_getD_getElem?, hdn]
         · have := h6 t u hu (by
             rintro ⟨m, hmp, hmf, hmd⟩
             refine hm ⟨m, hmp, ?_, hmd⟩
             rw [getD_set hsz, if_neg]
             · exact hmf
             · rintro rfl; rw [hdi] at hmd; exact hdt (Option.some.inj hmd))
           rw [← this]
           simp [Act.put, Array.getD_eq_getD_getElem?, hdt]
       · have := count_set' hsz hi2; omega
   · exact next fuel listed a w h1 h2 h3 h4 h5 h6 h7 h8 i hi hD
theorem fits_self {pend : List Nat} {o : Oper} (h : fits ops pend o = true) {d : Nat} (hd : o.dst = some d) : d ∉ looks ops o := by
 unfold fits at h
 rw [Bool.and_eq_true] at h
 have := h.1
 rw [hd] at this
 intro hm
 replace this : (!memb d (looks ops o)) = true := this
 rw [memb_iff.2 hm] at this; cases this
theorem fits_at {pend : List Nat} {o : Oper} (h : fits ops pend o = true) {m : Nat} (hm : m ∈ pend) {p : Oper} (hp : ops[m]? = some p) :
   (∀ d', p.dst = some d' → (d' ∈ looks ops o → m ∈ deps o) ∧ (∀ d, o.dst = some d → d ≠ d')) ∧ (∀ d, o.dst = some d → d ∉ looks ops p) := by
 unfold fits at h
 rw [Bool.and_eq_true, List.all_eq_true] at h
 have := h.2 m hm
 rw [hp] at this
 simp only [Bool.and_eq_true] at this
 obtain ⟨h1, h2⟩ := this
 constructor
 · intro d' hd'
   rw [hd'] at h1
   simp only [Bool.and_eq_true, Bool.or_eq_true, Bool.not_eq_true'] at h1
   refine ⟨fun hl => ?_, fun d hd e => ?_⟩
   · rcases h1.1 with h | h
     · rw [memb_iff.2 hl] at h; cases h
     · exact memb_iff.1 h
   · have := h1.2
     rw [hd] at this
     subst e; simp at this
 · intro d hd hl
   rw [hd] at h2
   replace h2 : (!memb d (looks ops p)) = true := h2
   rw [memb_iff.2 hl] at h2; cases h2
theorem mem_mid {x k : Nat} {pp rp : List Nat} : x ∈ pp ++ k :: rp ↔ x ∈ k :: (pp ++ rp) := by
 simp only [List.mem_append, List.mem_cons]; exact or_left_comm
theorem dstAt_some {k : Nat} {o : Oper} (h : ops[k]? = some o) : dstAt ops k = o.dst := by simp [dstAt, h]
def GuardOn (ops : List Oper) (o : Oper) (env : Env) : Prop := match o.guard with
 | none => True
 | some (j, b) => ∃ d, dstAt ops j = some d ∧ lk env d = some (.bool b)
theorem GuardOn.wanted {o : Oper} {env : Env} (h : GuardOn ops o env) {a : Act} (hOn : On ops o env a) : Region.wanted o (yielded ops.toArray a.tmps) = true := by
 unfold GuardOn at h
 cases hg : o.guard with
 | none => simp [Region.wanted, hg]
 | some p =>
   obtain ⟨j, b⟩ := p
   rw [hg] at h
   obtain ⟨d, hd, hb⟩ := h
   have hm : d ∈ looks ops o := by
     unfold looks; rw [hg]; refine List.mem_append.2 (.inr ?_)
     show d ∈ ((ops[j]?).bind (·.dst)).toList
     rw [show (ops[j]?).bind (·.dst) = some d from hd]; simp
   have h1 := hOn d hm _ hb
   have h2 : a.tmps[d]? = some (.bool b) := by
     rw [Array.getD_eq_getD_getElem?] at h1
     cases hx : a.tmps[d]? with
     | some x => rw [hx] at h1; simpa using h1
     | none => rw [hx] at h1; simp [undef] at h1
   have hd' : (ops.toArray[j]?).bind (·.dst) = some d := by rw [List.getElem?_toArray]; exact hd
   simp only [Region.wanted, hg, yielded, hd', Option.bind_some, h2]
   simp
noncomputable def full (env : Env) (a : Act) : Operand → Value := fun x => (ev env x).getD (a.eval x)
theorem full_rho (env : Env) (a : Act) : Rho env (full env a) := ⟨fun h => by simp [full, h]⟩
theorem full_eval {o : Oper} {env : Env} {a : Act} (hOn : On ops o env a) {x : Operand} (hx : x ∈ o.op.operands) : a.eval x = full env a x := by
 unfold full
 cases x with
 | tmp t =>
   simp only [ev]
   cases hl : lk env t with
   | none => rfl
   | some u =>
     have hm : t ∈ looks ops o := by
       unfold looks; refine List.mem_append.2 (.inl ?_)
       rw [List.mem_filterMap]; exact ⟨.tmp t, Array.mem_toList_iff.2 hx, rfl⟩
     simpa [Act.eval] using hOn t hm u hl
 | const v => rfl
 | global g => rfl
 | func f => rfl
theorem exec_full {o : Oper} {env : Env} {a : Act} (hOn : On ops o env a) (hs : notSel o.op = true) : execOp a.eval o = execOp (full env a) o :=
 execOp_congr o (fun cs b e => by rw [e] at hs; cases hs) fun _ hx => full_eval hOn hx
theorem On.of_cons {o : Oper} {env : Env} {a : Act} {d : Nat} {v : Value} (h : On ops o ((d, v) :: env) a) (hd : d ∉ looks ops o) : On ops o env a := fun t ht u hu => h t ht u (by
 have : ¬ d = t := fun e => hd (e ▸ ht)
 simp only [lk, beq_ne this]; exact hu)
theorem wpOp_of {k : Nat} {o : Oper} (ho : ops[k]? = some o) {a : Act} {w : World} {K : Act → World → Prop} (hw : Region.wanted o (yielded ops.toArray a.tmps) = true) (h : o.wp P a w K Q) : wpOp P ops.toArray Q k K a w := by
 unfold wpOp
 rw [List.getElem?_toArray, ho]
 simp only [hw, if_true]
 exact .inl h
theorem Val.of_rd {C : World → Prop} {k : Nat} {o : Oper} {env : Env} {d : Nat} {v : Value} (ho : ops[k]? = some o) (hd : o.dst = some d) (hs : notSel o.op = true) (hself : d ∉ looks ops o) (hg : GuardOn ops o env)
   (s : ∀ ρ w, Rho env ρ → C w → (execOp ρ o).run P w = .ok (.value v) w) : Val P ops C k ((d, v) :: env) :=
 ⟨o, d, v, ho, hd, by simp [lk], fun a w Q K hOn hC hK => by
   have hOn' := hOn.of_cons hself
   refine wpOp_of ho (hg.wanted hOn') ?_
   unfold Oper.wp
   rw [exec_full hOn' hs, s _ w (full_rho env a) hC]
   show K (a.put o.dst v) w
   rw [hd]; exact hK⟩
theorem Good.more {pend : List Nat} (h : Good n ops pend) {k : Nat} {o : Oper} {d : Nat} (ho : ops[k]? = some o) (hd : o.dst = some d) (hn : d < n) (hf : fits ops pend o = true) : Good n ops (k :: pend) := by
 constructor
 · intro i hi m hm p hp d' hd' hl
   rcases List.mem_cons.1 hi with hi | hi
   · rw [hi, ho] at hp; cases hp
     rcases List.mem_cons.1 hm with rfl | hm
     · rw [dstAt_some ho, hd] at hd'; cases hd'; exact (fits_self hf hd hl).elim
     · cases hq : ops[m]? with
       | none => simp [dstAt, hq] at hd'
       | some q => rw [dstAt_some hq] at hd'; exact ((fits_at hf hm hq).1 d' hd').1 hl
   · rcases List.mem_cons.1 hm with hm | hm
     · rw [hm, dstAt_some ho] at hd'; exact ((fits_at hf hi hp).2 d' hd' hl).elim
     · exact h.look i hi m hm p hp d' hd' hl
 · intro i hi d' hd'
   rcases List.mem_cons.1 hi with rfl | hi
   · rw [dstAt_some ho, hd] at hd'; cases hd'; exact hn
   · exact h.slot i hi d' hd'
theorem Good.perm {pend pend' : List Nat} (h : Good n ops pend) (i : ∀ k ∈ pend', k ∈ pend) : Good n ops pend' :=
 ⟨fun k hk m hm => h.look k (i k hk) m (i m hm), fun k hk => h.slot k (i k hk)⟩
theorem RgS.perm {D pend pend' : List Nat} {env : Env} {H : List HProp} (h : RgS P n w0 ops Q D pend env H) (i : ∀ k, k ∈ pend' ↔ k ∈ pend) : RgS P n w0 ops Q D pend' env H :=
 fun fuel listed a w h1 h2 h3 h4 h5 h6 h7 h8 => h fuel listed a w h1 h2 (fun j hj hn => h3 j hj (fun hm => hn ((i j).1 hm))) h4 h5
   (fun t v hv hm => h6 t v hv (fun ⟨k, hk, x⟩ => hm ⟨k, (i k).1 hk, x⟩)) h7 h8
theorem RgS.more {D pend : List Nat} {env : Env} {H : List HProp} {k d : Nat} {v : Value} (hk : dstAt ops k = some d) (hD : k ∉ D) (h : RgS P n w0 ops Q (k :: D) (k :: pend) ((d, v) :: env) H) : RgS P n w0 ops Q D pend env H :=
 fun fuel listed a w h1 h2 h3 h4 h5 h6 h7 h8 => by
   have hl : listed.getD k false = false := by
     cases hx : listed.getD k false with
     | false => rfl
     | true => exact (hD (h2 k hx)).elim
   refine h fuel listed a w h1 (fun i hi => List.mem_cons_of_mem _ (h2 i hi)) (fun i hi hn => ?_) h4 h5 (fun t u hu hm => ?_) h7 h8
   · rcases List.mem_cons.1 hi with rfl | hi
     · exact (hn (List.mem_cons_self ..)).elim
     · exact h3 i hi fun hm => hn (List.mem_cons_of_mem _ hm)
   · by_cases hdt : d = t
     · subst hdt; exact (hm ⟨k, List.mem_cons_self .., hl, hk⟩).elim
     · simp only [lk, beq_ne hdt] at hu
       exact h6 t u hu fun ⟨m, hm', x⟩ => hm ⟨m, List.mem_cons_of_mem _ hm', x⟩
theorem not_memb {k : Nat} {l : List Nat} (h : memb k l = false) : k ∉ l := fun hm => by rw [memb_iff.2 hm] at h; cases h
section rules
variable {D pp rp : List Nat} {env : Env} {H : List HProp}
theorem Rg.pu {d : Nat} {v : Value} {o : Oper} (k : Nat) (ho : ops[k]? = some o) (hd : o.dst = some d) (hc : (fits ops (pp ++ rp) o && notSel o.op && Nat.blt d n && !memb k D) = true) (hg : GuardOn ops o env) (s : Pu P o env v)
   (g : Rg P n w0 ops Q (k :: D) (k :: pp) rp ((d, v) :: env) H) : Rg P n w0 ops Q D pp rp env H := fun ht hgood hv hr => by
 simp only [Bool.and_eq_true, Bool.not_eq_true'] at hc
 obtain ⟨⟨⟨hf, hs⟩, hn⟩, hD⟩ := hc
 have hn : d < n := by simpa [Nat.blt_eq] using hn
 refine RgS.more (by rw [dstAt_some ho, hd]) (not_memb hD) (g ht (hgood.more ho hd hn hf) (fun m hm => ?_) fun m hm => ?_)
 · rcases List.mem_cons.1 hm with rfl | hm
   · exact Val.of_rd ho hd hs (fits_self hf hd) hg fun ρ w e _ => s ρ w e
   · exact (hv m hm).ext (fun p hp => (fits_at hf (List.mem_append_left _ hm) hp).2 d hd) (fun he => by
       obtain ⟨p, d', _, hp, hd', _⟩ := hv m hm
       rw [dstAt_some hp, hd'] at he; cases he
       exact ((fits_at hf (List.mem_append_left _ hm) hp).1 d hd').2 d hd rfl)
 · exact (hr m hm).ext (fun p hp => (fits_at hf (List.mem_append_right _ hm) hp).2 d hd) (fun he => by
       obtain ⟨p, d', _, hp, hd', _⟩ := hr m hm
       rw [dstAt_some hp, hd'] at he; cases he
       exact ((fits_at hf (List.mem_append_right _ hm) hp).1 d hd').2 d hd rfl)
theorem Rg.rd {d : Nat} {v : Value} {o : Oper} (k : Nat) (ho : ops[k]? = some o) (hd : o.dst = some d) (hc : (fits ops (pp ++ rp) o && notSel o.op && Nat.blt d n && !memb k D) = true) (hg : GuardOn ops o env) (s : Rd P o w0 env H v)
   (g : Rg P n w0 ops Q (k :: D) pp (k :: rp) ((d, v) :: env) H) : Rg P n w0 ops Q D pp rp env H := fun ht hgood hv hr => by
 simp only [Bool.and_eq_true, Bool.not_eq_true'] at hc
 obtain ⟨⟨⟨hf, hs⟩, hn⟩, hD⟩ := hc
 have hn : d < n := by simpa [Nat.blt_eq] using hn
 refine RgS.more (by rw [dstAt_some ho, hd]) (not_memb hD) (RgS.perm (g ht ((hgood.more ho hd hn hf).perm (fun _ h => mem_mid.1 h)) (fun m hm => ?_) fun m hm => ?_) (fun _ => mem_mid.symm))
 · exact (hv m hm).ext (fun p hp => (fits_at hf (List.mem_append_left _ hm) hp).2 d hd) (fun he => by
       obtain ⟨p, d', _, hp, hd', _⟩ := hv m hm
       rw [dstAt_some hp, hd'] at he; cases he
       exact ((fits_at hf (List.mem_append_left _ hm) hp).1 d hd').2 d hd rfl)
 · rcases List.mem_cons.1 hm with rfl | hm
   · exact Val.of_rd ho hd hs (fits_self hf hd) hg fun ρ w e c => s ρ w e c
   · exact (hr m hm).ext (fun p hp => (fits_at hf (List.mem_append_right _ hm) hp).2 d hd) (fun he => by
       obtain ⟨p, d', _, hp, hd', _⟩ := hr m hm
       rw [dstAt_some hp, hd'] at he; cases he
       exact ((fits_at hf (List.mem_append_right _ hm) hp).1 d hd').2 d hd rfl)
theorem Rg.off {d j dg : Nat} {b c : Bool} {o : Oper} (k : Nat) (ho : ops[k]? = some o) (hd : o.dst = some d) (hc : (fits ops (pp ++ rp) o && Nat.blt d n && !memb k D) = true) (hg : o.guard = some (j, b)) (hj : dstAt ops j = some dg) (hb : lk env dg = some (.bool c)) (hne : (c == b) = false)
   (g : Rg P n w0 ops Q (k :: D) (k :: pp) rp ((d, undef) :: env) H) : Rg P n w0 ops Q D pp rp env H := fun ht hgood hv hr => by
 simp only [Bool.and_eq_true, Bool.not_eq_true'] at hc
 obtain ⟨⟨hf, hn⟩, hD⟩ := hc
 have hn : d < n := by simpa [Nat.blt_eq] using hn
 refine RgS.more (by rw [dstAt_some ho, hd]) (not_memb hD) (g ht (hgood.more ho hd hn hf) (fun m hm => ?_) fun m hm => ?_)
 · rcases List.mem_cons.1 hm with rfl | hm
   · refine ⟨o, d, undef, ho, hd, by simp [lk], fun a w Q K hOn hC hK => ?_⟩
     have hOn' := hOn.of_cons (fits_self hf hd)
     have hm : dg ∈ looks ops o := by
       unfold looks; rw [hg]; refine List.mem_append.2 (.inr ?_)
       show dg ∈ ((ops[j]?).bind (·.dst)).toList
       rw [show (ops[j]?).bind (·.dst) = some dg from hj]; simp
     have h1 := hOn' dg hm _ hb
     have h2 : a.tmps[dg]? = some (.bool c) := by
       rw [Array.getD_eq_getD_getElem?] at h1
       cases hx : a.tmps[dg]? with
       | some x => rw [hx] at h1; simpa using h1
       | none => rw [hx] at h1; simp [undef] at h1
     have hd' : (ops.toArray[j]?).bind (·.dst) = some dg := by rw [List.getElem?_toArray]; exact hj
     unfold wpOp
     rw [List.getElem?_toArray, ho]
     have hw : Region.wanted o (yielded ops.toArray a.tmps) = false := by
       simp only [Region.wanted, hg, yielded, hd', Option.bind_some, h2]
       cases c <;> cases b <;> first | rfl | (simp at hne)
     simp only [hw, Bool.false_eq_true, if_false]
     rw [hd]; exact hK
   · exact (hv m hm).ext (fun p hp => (fits_at hf (List.mem_append_left _ hm) hp).2 d hd) (fun he => by
       obtain ⟨p, d', _, hp, hd', _⟩ := hv m hm
       rw [dstAt_some hp, hd'] at he; cases he
       exact ((fits_at hf (List.mem_append_left _ hm) hp).1 d hd').2 d hd rfl)
 · exact (hr m hm).ext (fun p hp => (fits_at hf (List.mem_append_right _ hm) hp).2 d hd) (fun he => by
       obtain ⟨p, d', _, hp, hd', _⟩ := hr m hm
       rw [dstAt_some hp, hd'] at he; cases he
       exact ((fits_at hf (List.mem_append_right _ hm) hp).1 d hd').2 d hd rfl)
theorem avail_of {i : Nat} {listed : Array Bool} (h : i ∈ Region.ready .any ops.toArray listed) (h2 : ∀ i, listed.getD i false = true → i ∈ D) (hi : i ∉ D) : i ∈ avail ops D := by
 obtain ⟨hi1, _, o, ho, hdep⟩ := ready_spec h
 unfold avail
 rw [List.mem_filter]
 refine ⟨by simpa using hi1, ?_⟩
 rw [ho]
 simp only [Bool.and_eq_true, Bool.not_eq_true', List.all_eq_true]
 refine ⟨?_, fun k hk => memb_iff.2 (h2 k (hdep k hk))⟩
 cases hx : memb i D with
 | false => rfl
 | true => exact (hi (memb_iff.1 hx)).elim
def Stp (P : Program) (n : Nat) (w0 : World) (ops : List Oper) (Q : Exit → Act → World → Prop) (D pp rp : List Nat) (env : Env) (H : List HProp) (j : Nat) : Prop :=
 j < ops.length ∧ j ∉ D ∧ (tidy ops = true → Good n ops (pp ++ rp) → (∀ k ∈ pp, Val P ops (fun _ => True) k env) → (∀ k ∈ rp, Val P ops (fun w => Sat w0 w H) k env) →
 ∀ (fuel : Nat) (listed : Array Bool) (a : Act) (w : World), listed.size = ops.length ∧ Clo ops listed → (∀ i, listed.getD i false = true → i ∈ D) → (∀ i ∈ D, i ∉ pp ++ rp → listed.getD i false = true) →
   a.tmps.size = n → a.defers = [] → (∀ t v, lk env t = some v → ¬ Missing ops (pp ++ rp) listed t → a.tmps.getD t undef = v) → Sat w0 w H → listed.toList.count false ≤ fuel + 1 →
   j ∈ Region.ready .any ops.toArray listed → wpOp P ops.toArray Q j (wpAny P .any ops.toArray Q fuel (listed.setIfInBounds j true)) a w)
theorem Stp.gen {o : Oper} {post : Value → List HProp → Prop} {env' : Value → Env} (pp' rp' : List Nat) (j : Nat) (ho : ops[j]? = some o)
   (hd : (∃ d, o.dst = some d ∧ d < n ∧ ∀ v, env' v = (d, v) :: env) ∨ (o.dst = none ∧ ∀ v, env' v = env))
   (hf : fits ops (pp' ++ rp') o = true) (hs : notSel o.op = true) (hD : j ∉ D) (h1' : ∀ k ∈ rp, k ∉ rp' → k ∈ clo ops ops.length (deps o)) (h2' : ∀ k ∈ rp', k ∈ rp) (h1p : ∀ k ∈ pp, k ∉ pp' → k ∈ clo ops ops.length (deps o)) (h2p : ∀ k ∈ pp', k ∈ pp) (hg : GuardOn ops o env) (s : Ac P o w0 env H post)
   (hm : ∀ v H', post v H' → ∀ k ∈ rp', Val P ops (fun w => Sat w0 w H) k env → Val P ops (fun w => Sat w0 w H') k env)
   (g : ∀ v H', post v H' → Rg P n w0 ops Q (j :: D) pp' rp' (env' v) H') : Stp P n w0 ops Q D pp rp env H j := by
 refine ⟨(List.getElem?_eq_some_iff.1 ho).1, hD, fun ht hgood hv hr fuel listed a w h1 h2 h3 h4 h5 h6 h7 h8 hi => ?_⟩
 obtain ⟨hi1, hi2, o', ho', hdep⟩ := ready_spec hi
 rw [ho] at ho'; cases ho'
 have hclo := clo_spec h1.2 ops.length (deps o) hdep
 have hOn : On ops o env a := fun t ht u hu => h6 t u hu (by
   rintro ⟨m, hm, hmf, hmd⟩
   cases hq : ops[m]? with
   | none => simp [dstAt, hq] at hmd
   | some q =>
     rw [dstAt_some hq] at hmd
     by_cases hmi : m ∈ pp' ++ rp'
     · have := hdep m (((fits_at hf hmi hq).1 t hmd).1 ht)
       rw [hmf] at this; cases this
     · rcases List.mem_append.1 hm with h | h
       · have := hclo m (h1p m h (fun h' => hmi (List.mem_append_left _ h'))); rw [hmf] at this; cases this
       · have := hclo m (h1' m h (fun h' => hmi (List.mem_append_right _ h'))); rw [hmf] at this; cases this)
 refine wpOp_of ho (hg.wanted hOn) (Outc.wp (R := fun v w' => ∃ H', post v H' ∧ Sat w0 w' H') (by rw [exec_full hOn hs]; exact s _ w (full_rho env a) h7) ?_)
 rintro v w' ⟨H', hp, hsat⟩
 have hsz : j < listed.size := by have := h1.1; omega
 have hsub : ∀ k, k ∈ pp' ++ rp' → k ∈ pp ++ rp := fun k hk => (List.mem_append.1 hk).elim (fun h => List.mem_append_left _ (h2p k h)) (fun h => List.mem_append_right _ (h2' k h))
 have hext : ∀ (C : World → Prop) (m : Nat), m ∈ pp' ++ rp' → Val P ops C m env → Val P ops C m (env' v) := fun C m hm hval => by
   rcases hd with ⟨d, hd, hdn, he⟩ | ⟨hd, he⟩
   · rw [he]
     refine hval.ext (fun p hp => (fits_at hf hm hp).2 d hd) (fun he => ?_)
     obtain ⟨p, d', _, hp, hd', _⟩ := hval
     rw [dstAt_some hp, hd'] at he; cases he
     exact ((fits_at hf hm hp).1 d hd').2 d hd rfl
   · rw [he]; exact hval
 refine g v H' hp ht (hgood.perm hsub) (fun m hm => hext _ m (List.mem_append_left _ hm) (hv m (h2p m hm))) (fun m hmr => ?_) fuel _ _ w' ⟨by simp [h1.1], h1.2.set hsz ho hdep⟩ (fun k hk => ?_) (fun k hk hnk => ?_) ?_ ?_ (fun t u hu hm => ?_) hsat ?_
 · refine hext _ m (List.mem_append_right _ hmr) ?_
   exact hm v H' hp m hmr (hr m (h2' m hmr))
 · rw [getD_set hsz] at hk
   by_cases he : j = k
   · exact he ▸ List.mem_cons_self ..
   · rw [if_neg he] at hk; exact List.mem_cons_of_mem _ (h2 k hk)
 · rw [getD_set hsz]
   by_cases he : j = k
   · simp [he]
   · rw [if_neg he]
     rcases List.mem_cons.1 hk with rfl | hk
     · exact (he rfl).elim
     · by_cases hkr : k ∈ rp
       · exact hclo k (h1' k hkr (fun h => hnk (List.mem_append_right _ h)))
       · by_cases hkp : k ∈ pp
         · exact hclo k (h1p k hkp (fun h => hnk (List.mem_append_left _ h)))
         exact h3 k hk (by
           intro hm; rcases List.mem_append.1 hm with h | h
           · exact hkp h
           · exact hkr h)
 · rcases hd with ⟨d, hd, hdn, he⟩ | ⟨hd, he⟩ <;> simp [Act.put, hd, h4]
 · rcases hd with ⟨d, hd, hdn, he⟩ | ⟨hd, he⟩ <;> rw [hd] <;> exact h5
 · have hmiss : (∀ d, o.dst = some d → d ≠ t) → ¬ Missing ops (pp ++ rp) listed t := fun hne ⟨m, hmp, hmf, hmd⟩ => by
     by_cases hmi : m ∈ pp' ++ rp'
     · refine hm ⟨m, hmi, ?_, hmd⟩
       rw [getD_set hsz, if_neg]
       · exact hmf
       · rintro rfl
         rw [dstAt_some ho] at hmd; exact hne t hmd rfl
     · rcases List.mem_append.1 hmp with h | h
       · have := hclo m (h1p m h (fun h' => hmi (List.mem_append_left _ h'))); rw [hmf] at this; cases this
       · have := hclo m (h1' m h (fun h' => hmi (List.mem_append_right _ h'))); rw [hmf] at this; cases this
   rcases hd with ⟨d, hd, hdn, he⟩ | ⟨hd, he⟩
   · rw [hd]; rw [he] at hu
     by_cases hdt : d = t
     · subst hdt
       simp only [lk, show Nat.beq d d = true by simp] at hu
       simp at hu; subst hu
       simp [Act.put, Array.getD_eq_getD_getElem?, h4, hdn]
     · simp only [lk, beq_ne hdt] at hu
       have := h6 t u hu (hmiss fun d' hd' => by rw [hd] at hd'; cases hd'; exact hdt)
       rw [← this]
       simp [Act.put, Array.getD_eq_getD_getElem?, hdt]
   · rw [hd]; rw [he] at hu
     exact h6 t u hu (hmiss fun d' hd' => by rw [hd] at hd'; cases hd')
 · rw [getD_tf (by have := h1.1; omega)] at hi2
   have := count_set' hsz hi2; omega
theorem Stp.ac {d : Nat} {o : Oper} {post : Value → List HProp → Prop} (j : Nat) (ho : ops[j]? = some o) (hd : o.dst = some d)
   (hc : (fits ops ((pp.filter fun k => !memb k (clo ops ops.length (deps o))) ++ []) o && notSel o.op && Nat.blt d n && !memb j D && rp.all (memb · (clo ops ops.length (deps o)))) = true) (hg : GuardOn ops o env) (s : Ac P o w0 env H post)
   (g : ∀ v H', post v H' → Rg P n w0 ops Q (j :: D) (pp.filter fun k => !memb k (clo ops ops.length (deps o))) [] ((d, v) :: env) H') : Stp P n w0 ops Q D pp rp env H j := by
 simp only [Bool.and_eq_true, Bool.not_eq_true', List.all_eq_true] at hc
 obtain ⟨⟨⟨⟨hf, hs⟩, hn⟩, hD⟩, hrp⟩ := hc
 exact Stp.gen (env' := fun v => (d, v) :: env) _ [] j ho (.inl ⟨d, hd, by simpa [Nat.blt_eq] using hn, fun _ => rfl⟩) hf hs (not_memb hD) (fun k hk _ => memb_iff.1 (hrp k hk)) (fun k hk => by cases hk) (fun k hk h => Classical.byContradiction fun hn => h (List.mem_filter.2 ⟨hk, by simpa using fun e => hn (memb_iff.1 e)⟩)) (fun k hk => (List.mem_filter.1 hk).1) hg s (fun _ _ _ k hk => by cases hk) g
theorem Stp.ac0 {o : Oper} {post : Value → List HProp → Prop} (j : Nat) (ho : ops[j]? = some o) (hd : o.dst = none)
   (hc : (fits ops ((pp.filter fun k => !memb k (clo ops ops.length (deps o))) ++ []) o && notSel o.op && !memb j D && rp.all (memb · (clo ops ops.length (deps o)))) = true) (hg : GuardOn ops o env) (s : Ac P o w0 env H post)
   (g : ∀ v H', post v H' → Rg P n w0 ops Q (j :: D) (pp.filter fun k => !memb k (clo ops ops.length (deps o))) [] env H') : Stp P n w0 ops Q D pp rp env H j := by
 simp only [Bool.and_eq_true, Bool.not_eq_true', List.all_eq_true] at hc
 obtain ⟨⟨⟨hf, hs⟩, hD⟩, hrp⟩ := hc
 exact Stp.gen (env' := fun _ => env) _ [] j ho (.inr ⟨hd, fun _ => rfl⟩) hf hs (not_memb hD) (fun k hk _ => memb_iff.1 (hrp k hk)) (fun k hk => by cases hk) (fun k hk h => Classical.byContradiction fun hn => h (List.mem_filter.2 ⟨hk, by simpa using fun e => hn (memb_iff.1 e)⟩)) (fun k hk => (List.mem_filter.1 hk).1) hg s (fun _ _ _ k hk => by cases hk) g
theorem Stp.acK {d : Nat} {o : Oper} {post : Value → List HProp → Prop} (j : Nat) (ho : ops[j]? = some o) (hd : o.dst = some d)
   (hc : (fits ops ((pp.filter fun k => !memb k (clo ops ops.length (deps o))) ++ (rp.filter fun k => !memb k (clo ops ops.length (deps o)))) o && notSel o.op && Nat.blt d n && !memb j D) = true) (hg : GuardOn ops o env) (s : Ac P o w0 env H post) (hm : ∀ v H', post v H' → ∀ w, Sat w0 w H' → Sat w0 w H)
   (g : ∀ v H', post v H' → Rg P n w0 ops Q (j :: D) (pp.filter fun k => !memb k (clo ops ops.length (deps o))) (rp.filter fun k => !memb k (clo ops ops.length (deps o))) ((d, v) :: env) H') : Stp P n w0 ops Q D pp rp env H j := by
 simp only [Bool.and_eq_true, Bool.not_eq_true', List.all_eq_true] at hc
 obtain ⟨⟨⟨hf, hs⟩, hn⟩, hD⟩ := hc
 exact Stp.gen (env' := fun v => (d, v) :: env) _ _ j ho (.inl ⟨d, hd, by simpa [Nat.blt_eq] using hn, fun _ => rfl⟩) hf hs (not_memb hD) (fun k hk h => Classical.byContradiction fun hn => h (List.mem_filter.2 ⟨hk, by simpa using fun e => hn (memb_iff.1 e)⟩)) (fun k hk => (List.mem_filter.1 hk).1) (fun k hk h => Classical.byContradiction fun hn => h (List.mem_filter.2 ⟨hk, by simpa using fun e => hn (memb_iff.1 e)⟩)) (fun k hk => (List.mem_filter.1 hk).1) hg s (fun v H' hp k _ ⟨p, d', u, x1, x2, x3, x4⟩ => ⟨p, d', u, x1, x2, x3, fun a w Q K y1 y2 y3 => x4 a w Q K y1 (hm v H' hp w y2) y3⟩) g
inductive Reads (P : Program) (ops : List Oper) (w0 : World) (env : Env) (H : List HProp) : List Nat → Prop
 | nil : Reads P ops w0 env H []
 | cons {k : Nat} {ks : List Nat} {o : Oper} {d : Nat} {v : Value} (ho : ops[k]? = some o) (hd : o.dst = some d) (hs : notSel o.op = true) (hg : GuardOn ops o env) (hv : lk env d = some v) (s : Rd P o w0 env H v) : Reads P ops w0 env H ks → Reads P ops w0 env H (k :: ks)
theorem Reads.val {H' : List HProp} {rs : List Nat} (h : Reads P ops w0 env H' rs) : ∀ k ∈ rs, Val P ops (fun w => Sat w0 w H') k env := by
 induction h with
 | nil => intro k hk; cases hk
 | @cons k ks o d v ho hd hs hg hv s _ ih =>
   intro m hm
   rcases List.mem_cons.1 hm with rfl | hm
   · refine ⟨o, d, v, ho, hd, hv, fun a w Q K hOn hC hK => ?_⟩
     refine wpOp_of ho (hg.wanted hOn) ?_
     unfold Oper.wp
     rw [exec_full hOn hs, s _ w (full_rho env a) hC]
     show K (a.put o.dst v) w
     rw [hd]; exact hK
   · exact ih m hm
theorem Stp.acR {d : Nat} {o : Oper} {post : Value → List HProp → Prop} (j : Nat) (rs : List Nat) (ho : ops[j]? = some o) (hd : o.dst = some d)
   (hc : (fits ops ((pp.filter fun k => !memb k (clo ops ops.length (deps o))) ++ (rp.filter fun k => !memb k (clo ops ops.length (deps o)))) o && notSel o.op && Nat.blt d n && !memb j D && rp.all fun k => memb k (clo ops ops.length (deps o)) || memb k rs) = true) (hg : GuardOn ops o env) (s : Ac P o w0 env H post)
   (hm : ∀ v H', post v H' → Reads P ops w0 env H' rs)
   (g : ∀ v H', post v H' → Rg P n w0 ops Q (j :: D) (pp.filter fun k => !memb k (clo ops ops.length (deps o))) (rp.filter fun k => !memb k (clo ops ops.length (deps o))) ((d, v) :: env) H') : Stp P n w0 ops Q D pp rp env H j := by
 simp only [Bool.and_eq_true, Bool.not_eq_true', List.all_eq_true] at hc
 obtain ⟨⟨⟨⟨hf, hs⟩, hn⟩, hD⟩, hrs⟩ := hc
 refine Stp.gen (env' := fun v => (d, v) :: env) _ _ j ho (.inl ⟨d, hd, by simpa [Nat.blt_eq] using hn, fun _ => rfl⟩) hf hs (not_memb hD) (fun k hk h => Classical.byContradiction fun hn => h (List.mem_filter.2 ⟨hk, by simpa using fun e => hn (memb_iff.1 e)⟩)) (fun k hk => (List.mem_filter.1 hk).1) (fun k hk h => Classical.byContradiction fun hn => h (List.mem_filter.2 ⟨hk, by simpa using fun e => hn (memb_iff.1 e)⟩)) (fun k hk => (List.mem_filter.1 hk).1) hg s (fun v H' hp k hk _ => (hm v H' hp).val k ?_) g
 obtain ⟨h1, h2⟩ := List.mem_filter.1 hk
 have := hrs k h1
 rw [Bool.or_eq_true] at this
 rcases this with h | h
 · rw [h] at h2; cases h2
 · exact memb_iff.1 h
theorem Rg.of {js : List Nat} (hne : js ≠ []) (hav : avail ops D = js) (s : ∀ j ∈ js, Stp P n w0 ops Q D pp rp env H j) : Rg P n w0 ops Q D pp rp env H := fun ht hgood hv hr => by
 have hall : ∀ k ∈ pp ++ rp, Val P ops (fun w => Sat w0 w H) k env := fun k hk => by
   rcases List.mem_append.1 hk with h | h
   · obtain ⟨p, d', v, x1, x2, x3, x4⟩ := hv k h
     exact ⟨p, d', v, x1, x2, x3, fun a w Q K y1 _ y3 => x4 a w Q K y1 trivial y3⟩
   · exact hr k h
 refine RgS.late ht hall hgood.look hgood.slot ?_ ?_
 · intro fuel listed a w h1 h2 h3 h4 h5 h6 h7 h8 i hi hiD
   have hij : i ∈ js := by have := avail_of hi h2 hiD; rwa [hav] at this
   exact (s i hij).2.2 ht hgood hv hr fuel listed a w h1 h2 h3 h4 h5 h6 h7 h8 hi
 · intro listed a w h1 hl h2 h4 h5 h6 h7
   cases js with
   | nil => exact (hne rfl).elim
   | cons j js =>
     obtain ⟨x1, x2, -⟩ := s j (List.mem_cons_self ..)
     exact (x2 (h2 j (hl j x1))).elim
theorem Rg.one {j : Nat} (hav : avail ops D = [j]) (s : Stp P n w0 ops Q D pp rp env H j) : Rg P n w0 ops Q D pp rp env H :=
 Rg.of (by simp) hav fun i hi => by simp only [List.mem_cons, List.not_mem_nil, or_false] at hi; rw [hi]; exact s
theorem Rg.two {i j : Nat} (hav : avail ops D = [i, j]) (s : Stp P n w0 ops Q D pp rp env H i) (t : Stp P n w0 ops Q D pp rp env H j) : Rg P n w0 ops Q D pp rp env H :=
 Rg.of (by simp) hav fun k hk => by
   simp only [List.mem_cons, List.not_mem_nil, or_false] at hk
   rcases hk with rfl | rfl
   · exact s
   · exact t
theorem Rg.end (hav : ((List.range ops.length).all (memb · D)) = true) (g : Gs w0 n env H (Q .normal)) : Rg P n w0 ops Q D pp rp env H := fun ht hgood hv hr => by
 have hall : ∀ k ∈ pp ++ rp, Val P ops (fun w => Sat w0 w H) k env := fun k hk => by
   rcases List.mem_append.1 hk with h | h
   · obtain ⟨p, d', v, x1, x2, x3, x4⟩ := hv k h
     exact ⟨p, d', v, x1, x2, x3, fun a w Q K y1 _ y3 => x4 a w Q K y1 trivial y3⟩
   · exact hr k h
 refine RgS.late ht hall hgood.look hgood.slot ?_ ?_
 · intro fuel listed a w h1 h2 h3 h4 h5 h6 h7 h8 i hi hiD
   obtain ⟨hi1, _⟩ := ready_spec hi
   rw [List.all_eq_true] at hav
   exact (hiD (memb_iff.1 (hav i (by simpa using hi1)))).elim
 · intro listed a w h1 hl h2 h4 h5 h6 h7
   exact g a w ⟨h4, h5, h6⟩ h7
theorem Gs.regD {id : Nat} {l : List Oper} (hm : P.follows .mixedOrders = true) (ht : tidy l = true) (g : Rg P n w0 l Q [] [] [] env H) : Gs w0 n env H ((Code.region id l.toArray true).wp P Q) := fun a w e s => by
 refine wp_region_any hm ?_
 have h0 : Good n l ([] ++ []) := ⟨fun k hk => (List.not_mem_nil hk).elim, fun k hk => (List.not_mem_nil hk).elim⟩
 refine g ht h0 (fun k hk => (List.not_mem_nil hk).elim) (fun k hk => (List.not_mem_nil hk).elim) _ _ a _ ⟨by simp, fun i o _ hi => ?_⟩ (fun i hi => ?_) (fun i hi => (List.not_mem_nil hi).elim) e.size e.defers (fun t v hv _ => e.slots t v hv) s.drew ?_
 · exfalso
   simp only [Array.getD_eq_getD_getElem?, Array.getElem?_replicate] at hi
   split at hi <;> simp at hi
 · exfalso
   simp only [Array.getD_eq_getD_getElem?, Array.getElem?_replicate] at hi
   split at hi <;> simp at hi
 · simp
theorem GuardOn.wanted' {o : Oper} (h : GuardOn ops o env) {a : Act} (e : EnvOk n env a) : Region.wanted o (yielded ops.toArray a.tmps) = true :=
 h.wanted fun t _ u hu => e.slots t u hu
theorem Lac {rest : List Oper} {o : Oper} {d : Nat} {post : Value → List HProp → Prop} (ho : o.dst = some d) (hd : Nat.blt d n = true) (hg : GuardOn ops o env)
   (s : Ac P o w0 env H post) (g : ∀ v H', post v H' → Gs w0 n ((d, v) :: env) H' (wpList P ops.toArray Q rest)) : Gs w0 n env H (wpList P ops.toArray Q (o :: rest)) := fun a w e t => by
 refine wpList_step fun K hK => ?_
 rw [if_pos (hg.wanted' e)]
 refine (s a.eval w e.rho t).wp fun v w' ⟨H', p, t'⟩ => hK _ _ ?_
 rw [ho]; exact g v H' p _ _ (e.put (by simpa [Nat.blt_eq] using hd) v) t'
theorem Lac0 {rest : List Oper} {o : Oper} {post : Value → List HProp → Prop} (ho : o.dst = none) (hg : GuardOn ops o env)
   (s : Ac P o w0 env H post) (g : ∀ v H', post v H' → Gs w0 n env H' (wpList P ops.toArray Q rest)) : Gs w0 n env H (wpList P ops.toArray Q (o :: rest)) := fun a w e t => by
 refine wpList_step fun K hK => ?_
 rw [if_pos (hg.wanted' e)]
 refine (s a.eval w e.rho t).wp fun v w' ⟨H', p, t'⟩ => hK _ _ ?_
 rw [ho]; exact g v H' p _ _ e t'
theorem Lrd {rest : List Oper} {o : Oper} {d : Nat} {v : Value} (ho : o.dst = some d) (hd : Nat.blt d n = true) (hg : GuardOn ops o env)
   (s : Rd P o w0 env H v) (g : Gs w0 n ((d, v) :: env) H (wpList P ops.toArray Q rest)) : Gs w0 n env H (wpList P ops.toArray Q (o :: rest)) :=
 Lac ho hd hg s.ac fun _ _ ⟨h1, h2⟩ => by subst h1; subst h2; exact g
theorem Lpu {rest : List Oper} {o : Oper} {d : Nat} {v : Value} (ho : o.dst = some d) (hd : Nat.blt d n = true) (hg : GuardOn ops o env)
   (s : Pu P o env v) (g : Gs w0 n ((d, v) :: env) H (wpList P ops.toArray Q rest)) : Gs w0 n env H (wpList P ops.toArray Q (o :: rest)) := Lrd ho hd hg s.rd g
theorem Loff {rest : List Oper} {d j dg : Nat} {b c : Bool} {o : Oper} (ho : o.dst = some d) (hd : Nat.blt d n = true) (hg : o.guard = some (j, b)) (hj : dstAt ops j = some dg) (hb : lk env dg = some (.bool c)) (hne : (c == b) = false)
   (g : Gs w0 n ((d, undef) :: env) H (wpList P ops.toArray Q rest)) : Gs w0 n env H (wpList P ops.toArray Q (o :: rest)) := fun a w e t => by
 refine wpList_step fun K hK => ?_
 have h1 := e.slots dg _ hb
 have h2 : a.tmps[dg]? = some (.bool c) := by
   rw [Array.getD_eq_getD_getElem?] at h1
   cases hx : a.tmps[dg]? with
   | some x => rw [hx] at h1; simpa using h1
   | none => rw [hx] at h1; simp [undef] at h1
 have hd' : (ops.toArray[j]?).bind (·.dst) = some dg := by rw [List.getElem?_toArray]; exact hj
 have hw : Region.wanted o (yielded ops.toArray a.tmps) = false := by
   simp only [Region.wanted, hg, yielded, hd', Option.bind_some, h2]
   cases c <;> cases b <;> first | rfl | (simp at hne)
 rw [if_neg (by rw [hw]; simp), ho]
 exact hK _ _ (g _ _ (e.put (by simpa [Nat.blt_eq] using hd) undef) t)
theorem Lnil (g : Gs w0 n env H (Q .normal)) : Gs w0 n env H (wpList P ops.toArray Q []) := g
theorem Lmv {rest : List Oper} {d : Nat} {x : Operand} {ty : TypeId} {pos : String} {af : Array Edge} {v : Value} (hd : Nat.blt d n = true) (h : ev env x = some v) (g : Gs w0 n ((d, v) :: env) H (wpList P ops.toArray Q rest)) : Gs w0 n env H (wpList P ops.toArray Q (⟨some d, .move x, ty, pos, af, none⟩ :: rest)) := Lpu rfl hd trivial (pu_move h) g
theorem Las {rest : List Oper} {d : Nat} {x : Operand} {ty : TypeId} {pos : String} {af : Array Edge} {v : Value} (hd : Nat.blt d n = true) (h : ev env x = some v) (g : Gs w0 n ((d, v) :: env) H (wpList P ops.toArray Q rest)) : Gs w0 n env H (wpList P ops.toArray Q (⟨some d, .assign x, ty, pos, af, none⟩ :: rest)) := Lpu rfl hd trivial (pu_assign h) g
theorem Lpk {rest : List Oper} {d : Nat} {b : Bool} {c x y : Operand} {ty : TypeId} {pos : String} {af : Array Edge} {v : Value} (hd : Nat.blt d n = true) (hc : ev env c = some (.bool b)) (h : (bif b then ev env x else ev env y) = some v) (g : Gs w0 n ((d, v) :: env) H (wpList P ops.toArray Q rest)) : Gs w0 n env H (wpList P ops.toArray Q (⟨some d, .pick c x y, ty, pos, af, none⟩ :: rest)) := by
  cases b
  · exact Lpu rfl hd trivial (pu_pick_f hc h) g
  · exact Lpu rfl hd trivial (pu_pick_t hc h) g
theorem Lnt {K : Act → World → Prop} (g : Gs w0 n env H K) : Gs w0 n env H (wpList P ops.toArray (Exit.then K Q) []) := g
theorem Lq {rest : List Oper} {d : Nat} {op : Op} {ty : TypeId} {pos : String} {af : Array Edge} {v : Value} (hd : Nat.blt d n = true) (s : Pu P ⟨some d, op, ty, pos, af, none⟩ env v) (g : Gs w0 n ((d, v) :: env) H (wpList P ops.toArray Q rest)) : Gs w0 n env H (wpList P ops.toArray Q (⟨some d, op, ty, pos, af, none⟩ :: rest)) := Lpu rfl hd trivial s g
theorem Lr {rest : List Oper} {d : Nat} {op : Op} {ty : TypeId} {pos : String} {af : Array Edge} {v : Value} (hd : Nat.blt d n = true) (s : Rd P ⟨some d, op, ty, pos, af, none⟩ w0 env H v) (g : Gs w0 n ((d, v) :: env) H (wpList P ops.toArray Q rest)) : Gs w0 n env H (wpList P ops.toArray Q (⟨some d, op, ty, pos, af, none⟩ :: rest)) := Lrd rfl hd trivial s g
theorem La {rest : List Oper} {d : Nat} {op : Op} {ty : TypeId} {pos : String} {af : Array Edge} {post : Value → List HProp → Prop} (hd : Nat.blt d n = true) (s : Ac P ⟨some d, op, ty, pos, af, none⟩ w0 env H post) (g : ∀ v H', post v H' → Gs w0 n ((d, v) :: env) H' (wpList P ops.toArray Q rest)) : Gs w0 n env H (wpList P ops.toArray Q (⟨some d, op, ty, pos, af, none⟩ :: rest)) := Lac rfl hd trivial s g
def offAt (n : Nat) (ops : List Oper) (env : Env) (j : Nat) (b : Bool) : Bool := match dstAt ops j with
  | some dg => match lk env dg with
    | some (.bool c) => !(c == b)
    | _ => false
  | none => false
theorem offAt_at {n : Nat} {ops : List Oper} {env : Env} {j : Nat} {b : Bool} (h : offAt n ops env j b = true) : ∃ dg c, dstAt ops j = some dg ∧ lk env dg = some (.bool c) ∧ (c == b) = false := by
  unfold offAt at h
  split at h
  · rename_i dg hd
    split at h
    · rename_i c hc; exact ⟨dg, c, hd, hc, by simpa using h⟩
    · cases h
  · cases h
theorem Lof {rest : List Oper} {d j : Nat} {b : Bool} {op : Op} {ty : TypeId} {pos : String} {af : Array Edge} (h : (Nat.blt d n && offAt n ops env j b) = true)
    (g : Gs w0 n ((d, undef) :: env) H (wpList P ops.toArray Q rest)) : Gs w0 n env H (wpList P ops.toArray Q (⟨some d, op, ty, pos, af, some (j, b)⟩ :: rest)) := by
  rw [Bool.and_eq_true] at h
  obtain ⟨dg, c, h1, h2, h3⟩ := offAt_at h.2
  exact Loff rfl h.1 rfl h1 h2 h3 g
theorem Rq {d : Nat} {op : Op} {ty : TypeId} {pos : String} {af : Array Edge} {v : Value} (k : Nat) (ho : ops[k]? = some ⟨some d, op, ty, pos, af, none⟩) (hc : (fits ops (pp ++ rp) ⟨some d, op, ty, pos, af, none⟩ && notSel op && Nat.blt d n && !memb k D) = true) (s : Pu P ⟨some d, op, ty, pos, af, none⟩ env v)
    (g : Rg P n w0 ops Q (k :: D) (k :: pp) rp ((d, v) :: env) H) : Rg P n w0 ops Q D pp rp env H := Rg.pu k ho rfl hc trivial s g
theorem Rr {d : Nat} {op : Op} {ty : TypeId} {pos : String} {af : Array Edge} {v : Value} (k : Nat) (ho : ops[k]? = some ⟨some d, op, ty, pos, af, none⟩) (hc : (fits ops (pp ++ rp) ⟨some d, op, ty, pos, af, none⟩ && notSel op && Nat.blt d n && !memb k D) = true) (s : Rd P ⟨some d, op, ty, pos, af, none⟩ w0 env H v)
    (g : Rg P n w0 ops Q (k :: D) pp (k :: rp) ((d, v) :: env) H) : Rg P n w0 ops Q D pp rp env H := Rg.rd k ho rfl hc trivial s g
theorem Rof {d j : Nat} {b : Bool} {op : Op} {ty : TypeId} {pos : String} {af : Array Edge} (k : Nat) (ho : ops[k]? = some ⟨some d, op, ty, pos, af, some (j, b)⟩) (hc : (fits ops (pp ++ rp) ⟨some d, op, ty, pos, af, some (j, b)⟩ && Nat.blt d n && !memb k D) = true) (h : offAt n ops env j b = true)
    (g : Rg P n w0 ops Q (k :: D) (k :: pp) rp ((d, undef) :: env) H) : Rg P n w0 ops Q D pp rp env H := by
  obtain ⟨dg, c, h1, h2, h3⟩ := offAt_at h
  exact Rg.off k ho rfl hc rfl h1 h2 h3 g
theorem Rmv {d : Nat} {x : Operand} {ty : TypeId} {pos : String} {af : Array Edge} {v : Value} (k : Nat) (ho : ops[k]? = some ⟨some d, .move x, ty, pos, af, none⟩) (hc : (fits ops (pp ++ rp) ⟨some d, .move x, ty, pos, af, none⟩ && notSel (.move x) && Nat.blt d n && !memb k D) = true) (h : ev env x = some v)
    (g : Rg P n w0 ops Q (k :: D) (k :: pp) rp ((d, v) :: env) H) : Rg P n w0 ops Q D pp rp env H := Rg.pu k ho rfl hc trivial (pu_move h) g
theorem Rpk {d : Nat} {b : Bool} {c x y : Operand} {ty : TypeId} {pos : String} {af : Array Edge} {v : Value} (k : Nat) (ho : ops[k]? = some ⟨some d, .pick c x y, ty, pos, af, none⟩) (hq : (fits ops (pp ++ rp) ⟨some d, .pick c x y, ty, pos, af, none⟩ && notSel (.pick c x y) && Nat.blt d n && !memb k D) = true) (hc : ev env c = some (.bool b)) (h : (bif b then ev env x else ev env y) = some v)
    (g : Rg P n w0 ops Q (k :: D) (k :: pp) rp ((d, v) :: env) H) : Rg P n w0 ops Q D pp rp env H := by
  cases b
  · exact Rg.pu k ho rfl hq trivial (pu_pick_f hc h) g
  · exact Rg.pu k ho rfl hq trivial (pu_pick_t hc h) g
theorem Rg.puBf {d : Nat} {c : Bool} {o : Oper} (k : Nat) (ho : ops[k]? = some o) (hd : o.dst = some d) (hc : (fits ops (pp ++ rp) o && notSel o.op && Nat.blt d n && !memb k D) = true) (hg : GuardOn ops o env) (s : Pu P o env (.bool c)) (h : c = false)
   (g : Rg P n w0 ops Q (k :: D) (k :: pp) rp ((d, .bool false) :: env) H) : Rg P n w0 ops Q D pp rp env H := by subst h; exact Rg.pu k ho hd hc hg s g
theorem Rg.puB {d : Nat} {c : Bool} {o : Oper} (k : Nat) (ho : ops[k]? = some o) (hd : o.dst = some d) (hc : (fits ops (pp ++ rp) o && notSel o.op && Nat.blt d n && !memb k D) = true) (hg : GuardOn ops o env) (s : Pu P o env (.bool c))
   (g : c = true → Rg P n w0 ops Q (k :: D) (k :: pp) rp ((d, .bool true) :: env) H) (g' : c = false → Rg P n w0 ops Q (k :: D) (k :: pp) rp ((d, .bool false) :: env) H) : Rg P n w0 ops Q D pp rp env H := by
 cases c with
 | true => exact Rg.pu k ho hd hc hg s (g rfl)
 | false => exact Rg.pu k ho hd hc hg s (g' rfl)
theorem LpuBt {rest : List Oper} {o : Oper} {d : Nat} {c : Bool} (ho : o.dst = some d) (hd : Nat.blt d n = true) (hg : GuardOn ops o env) (s : Pu P o env (.bool c)) (h : c = true)
   (g : Gs w0 n ((d, .bool true) :: env) H (wpList P ops.toArray Q rest)) : Gs w0 n env H (wpList P ops.toArray Q (o :: rest)) := by subst h; exact Lpu ho hd hg s g
theorem LpuBf {rest : List Oper} {o : Oper} {d : Nat} {c : Bool} (ho : o.dst = some d) (hd : Nat.blt d n = true) (hg : GuardOn ops o env) (s : Pu P o env (.bool c)) (h : c = false)
   (g : Gs w0 n ((d, .bool false) :: env) H (wpList P ops.toArray Q rest)) : Gs w0 n env H (wpList P ops.toArray Q (o :: rest)) := by subst h; exact Lpu ho hd hg s g
theorem LpuB {rest : List Oper} {o : Oper} {d : Nat} {c : Bool} (ho : o.dst = some d) (hd : Nat.blt d n = true) (hg : GuardOn ops o env) (s : Pu P o env (.bool c))
   (g : c = true → Gs w0 n ((d, .bool true) :: env) H (wpList P ops.toArray Q rest)) (g' : c = false → Gs w0 n ((d, .bool false) :: env) H (wpList P ops.toArray Q rest)) : Gs w0 n env H (wpList P ops.toArray Q (o :: rest)) := by
 cases c with
 | true => exact Lpu ho hd hg s (g rfl)
 | false => exact Lpu ho hd hg s (g' rfl)
theorem unwanted_U {j dg : Nat} {b : Bool} {o : Oper} {a : Act} (hg : o.guard = some (j, b)) (hj : dstAt ops j = some dg) (h1 : a.tmps.getD dg undef = undef) : Region.wanted o (yielded ops.toArray a.tmps) = false := by
 have hd' : (ops.toArray[j]?).bind (·.dst) = some dg := by rw [List.getElem?_toArray]; exact hj
 simp only [Region.wanted, hg, yielded, hd', Option.bind_some]
 rw [Array.getD_eq_getD_getElem?] at h1
 cases hx : a.tmps[dg]? with
 | none => rfl
 | some x => rw [hx] at h1; simp only [Option.getD_some, undef] at h1; subst h1; rfl
theorem LoffU {rest : List Oper} {d j dg : Nat} {b : Bool} {o : Oper} (ho : o.dst = some d) (hd : Nat.blt d n = true) (hg : o.guard = some (j, b)) (hj : dstAt ops j = some dg) (hb : lk env dg = some undef)
   (g : Gs w0 n ((d, undef) :: env) H (wpList P ops.toArray Q rest)) : Gs w0 n env H (wpList P ops.toArray Q (o :: rest)) := fun a w e t => by
 refine wpList_step fun K hK => ?_
 rw [if_neg (by rw [unwanted_U hg hj (e.slots dg _ hb)]; simp), ho]
 exact hK _ _ (g _ _ (e.put (by simpa [Nat.blt_eq] using hd) undef) t)
theorem Rg.offU {d j dg : Nat} {b : Bool} {o : Oper} (k : Nat) (ho : ops[k]? = some o) (hd : o.dst = some d) (hc : (fits ops (pp ++ rp) o && Nat.blt d n && !memb k D) = true) (hg : o.guard = some (j, b)) (hj : dstAt ops j = some dg) (hb : lk env dg = some undef)
   (g : Rg P n w0 ops Q (k :: D) (k :: pp) rp ((d, undef) :: env) H) : Rg P n w0 ops Q D pp rp env H := fun ht hgood hv hr => by
 simp only [Bool.and_eq_true, Bool.not_eq_true'] at hc
 obtain ⟨⟨hf, hn⟩, hD⟩ := hc
 have hn : d < n := by simpa [Nat.blt_eq] using hn
 refine RgS.more (by rw [dstAt_some ho, hd]) (not_memb hD) (g ht (hgood.more ho hd hn hf) (fun m hm => ?_) fun m hm => ?_)
 · rcases List.mem_cons.1 hm with rfl | hm
   · refine ⟨o, d, undef, ho, hd, by simp [lk], fun a w Q K hOn hC hK => ?_⟩
     have hOn' := hOn.of_cons (fits_self hf hd)
     have hm : dg ∈ looks ops o := by
       unfold looks; rw [hg]; refine List.mem_append.2 (.inr ?_)
       show dg ∈ ((ops[j]?).bind (·.dst)).toList
       rw [show (ops[j]?).bind (·.dst) = some dg from hj]; simp
     unfold wpOp
     rw [List.getElem?_toArray, ho]
     simp only [unwanted_U hg hj (hOn' dg hm _ hb), Bool.false_eq_true, if_false]
     rw [hd]; exact hK
   · exact (hv m hm).ext (fun p hp => (fits_at hf (List.mem_append_left _ hm) hp).2 d hd) (fun he => by
       obtain ⟨p, d', _, hp, hd', _⟩ := hv m hm
       rw [dstAt_some hp, hd'] at he; cases he
       exact ((fits_at hf (List.mem_append_left _ hm) hp).1 d hd').2 d hd rfl)
 · exact (hr m hm).ext (fun p hp => (fits_at hf (List.mem_append_right _ hm) hp).2 d hd) (fun he => by
       obtain ⟨p, d', _, hp, hd', _⟩ := hr m hm
       rw [dstAt_some hp, hd'] at he; cases he
       exact ((fits_at hf (List.mem_append_right _ hm) hp).1 d hd').2 d hd rfl)
end rules
end
end Go.Sl
namespace Go.Sl
open Go
structure EncOk {α : Type} (sz : Nat) (enc : α → List Value) : Prop where
 len : ∀ x, (enc x).length = sz
 one : ∀ x, ∀ v ∈ enc x, v.oneCell' = true
theorem EncOk.flat {α : Type} {sz : Nat} {enc : α → List Value} (e : EncOk sz enc) (xs : List α) : (xs.flatMap enc).length = xs.length * sz := by
 induction xs with
 | nil => simp
 | cons x xs ih => rw [List.flatMap_cons, List.length_append, ih, e.len, List.length_cons, Nat.add_mul]; omega
theorem EncOk.at {α : Type} {sz : Nat} {enc : α → List Value} (e : EncOk sz enc) : ∀ (xs : List α) (i j : Nat) (x : α) (v : Value), xs[i]? = some x → (enc x)[j]? = some v → (xs.flatMap enc)[i * sz + j]? = some v
 | [], i, j, x, v, h, _ => by cases h
 | y :: xs, 0, j, x, v, h, hv => by
   simp only [List.getElem?_cons_zero, Option.some.injEq] at h; subst h
   have hj : j < (enc y).length := (List.getElem?_eq_some_iff.1 hv).1
   rw [List.flatMap_cons, Nat.zero_mul, Nat.zero_add, List.getElem?_append_left hj]; exact hv
 | y :: xs, i + 1, j, x, v, h, hv => by
   have := EncOk.at e xs i j x v (by simpa using h) hv
   rw [List.flatMap_cons, List.getElem?_append_right (by rw [e.len, Nat.add_mul]; omega), e.len]
   rw [show (i + 1) * sz + j - sz = i * sz + j by rw [Nat.add_mul]; omega]; exact this
theorem EncOk.inv {α : Type} {sz : Nat} {enc : α → List Value} (e : EncOk sz enc) : ∀ (xs : List α) (k : Nat) (v : Value), (xs.flatMap enc)[k]? = some v → ∃ i j x, k = i * sz + j ∧ j < sz ∧ xs[i]? = some x ∧ (enc x)[j]? = some v
 | [], k, v, h => by simp at h
 | y :: xs, k, v, h => by
   rw [List.flatMap_cons] at h
   by_cases hk : k < sz
   · rw [List.getElem?_append_left (by rw [e.len]; exact hk)] at h
     exact ⟨0, k, y, by simp, hk, by simp, h⟩
   · rw [List.getElem?_append_right (by rw [e.len]; omega), e.len] at h
     obtain ⟨i, j, x, h1, h2, h3, h4⟩ := EncOk.inv e xs (k - sz) v h
     exact ⟨i + 1, j, x, by rw [Nat.add_mul]; omega, h2, by simpa using h3, h4⟩
theorem EncOk.ones {α : Type} {sz : Nat} {enc : α → List Value} (e : EncOk sz enc) (xs : List α) : ∀ u ∈ xs.flatMap enc, u.oneCell' = true := fun u hu => by
 obtain ⟨x, _, hx⟩ := List.mem_flatMap.1 hu; exact e.one x u hx
section
variable {P : Program} {n : Nat} {w0 : World} {env : Env} {H : List HProp} {α : Type}
structure ET (P : Program) (T E sz by_ : Nat) : Prop where
 ex : ∃ i z, P.underlying T = some (.slice E) ∧ P.info? E = some i ∧ i.zero = some z ∧ i.size = sz ∧ i.bytes = by_ ∧ z.cells.size = sz
def SrcH (P : Program) (w0 : World) (H : List HProp) (sz tx : Nat) (x : Value) (k : Nat) (news : List Value) : Prop := ∀ w, Sat w0 w H → Src P sz tx x k news w
theorem SrcH.sl {sz tx e' : Nat} {enc : α → List Value} {a : Option Addr} {c : Nat} {ys : List α} (hk : P.underlying tx = some (.slice e')) (e : EncOk sz enc) (S : SlH w0 H sz enc a ys) : SrcH P w0 H sz tx (.slice a ys.length c) ys.length (ys.flatMap enc) := fun w s => by
 cases a with
 | none =>
   have : ys = [] := Classical.byContradiction fun h => by obtain ⟨b, off, h, _⟩ := S w s h; cases h
   subst this; exact Src.ofNil w hk c
 | some A =>
   refine Src.ofSlice w hk A _ c _ (e.flat ys) (fun j u hu => ?_) (e.ones ys)
   obtain ⟨i, j', x, rfl, hj, hx, hv⟩ := e.inv ys j u hu
   obtain ⟨b, off, h, hc⟩ := S w s (by rintro rfl; cases hx)
   cases h
   have := hc i x hx j' u hv
   unfold Addr.add; split
   · rename_i h0; rw [h0] at this; simpa using this
   · exact this
theorem SrcH.str {tx : Nat} (hk : P.underlying tx = some .string) (s : ByteArray) : SrcH P w0 H 1 tx (.string s) s.size (byteCells s) := fun w _ => Src.ofString w hk s
theorem heap_setCells {b : Nat} {E : TypeId} : ∀ (vs : List Value) (o : Nat) (w : World) (cells : Array Value), w.heap[b]? = some (.cells cells E (0, 0)) →
   ∃ cells', (w.setCells b o vs).heap[b]? = some (.cells cells' E (0, 0)) ∧ cells'.size = cells.size ∧ (∀ k v, vs[k]? = some v → o + k < cells.size → cells'[o + k]? = some v) ∧ (∀ k, k < o → cells'[k]? = cells[k]?) ∧ (w.setCells b o vs).os = w.os ∧ (w.setCells b o vs).tape = w.tape ∧
     (w.setCells b o vs).output = w.output ∧ (w.setCells b o vs).drawn = w.drawn ∧ (w.setCells b o vs).heap.size = w.heap.size ∧ ∀ c, c ≠ b → (w.setCells b o vs).heap[c]? = w.heap[c]?
 | [], o, w, cells, h => ⟨cells, h, rfl, by simp, fun _ _ => rfl, rfl, rfl, rfl, rfl, rfl, fun _ _ => rfl⟩
 | v :: vs, o, w, cells, h => by
   have h1 : (w.setCell ⟨b, o, none⟩ v).heap[b]? = some (.cells (cells.setIfInBounds o v) E (0, 0)) := by simp [World.setCell, Array.getElem?_modify, h]
   obtain ⟨cells', e1, e2, e3, e4, e5, e6, e7, e8, e9, e10⟩ := heap_setCells vs (o + 1) _ _ h1
   refine ⟨cells', e1, by rw [e2]; simp, fun k u hu hk => ?_, fun k hk => ?_, e5, e6, e7, e8, by rw [World.setCells, e9]; simp [World.setCell], fun c hc => ?_⟩
   · cases k with
     | zero =>
       simp only [List.getElem?_cons_zero, Option.some.injEq] at hu; subst hu
       rw [Nat.add_zero, e4 o (by omega), Array.getElem?_setIfInBounds, if_pos rfl, if_pos (by omega)]
     | succ k => rw [show o + (k + 1) = o + 1 + k by omega]; exact e3 k u (by simpa using hu) (by simp; omega)
   · rw [e4 k (by omega)]; simp [Array.getElem?_setIfInBounds]; intro h; omega
   · rw [World.setCells, e10 c hc]
     simp only [World.setCell, Array.getElem?_modify]; rw [if_neg (by simpa using fun e => hc e.symm)]
theorem sl_new {E sz : Nat} {enc : α → List Value} {b c : Nat} {cells : Array Value} {xs : List α} (h1 : xs.length ≤ c) (h2 : c * sz ≤ cells.size)
   (h3 : ∀ i x, xs[i]? = some x → ∀ j v, (enc x)[j]? = some v → cells[i * sz + j]? = some v) : ∀ h, pt b (.cells cells E (0, 0)) h → sl E sz enc (some ⟨b, 0, none⟩) c xs h :=
 fun h hp => .inr ⟨b, 0, cells, rfl, hp, h1, by omega, fun i x hi j v hv => by rw [Nat.zero_add]; exact h3 i x hi j v hv⟩
theorem append_getElem? {xs ys : List α} {i : Nat} {x : α} (h : (xs ++ ys)[i]? = some x) : xs[i]? = some x ∨ ∃ k, i = xs.length + k ∧ ys[k]? = some x := by
 by_cases hi : i < xs.length
 · rw [List.getElem?_append_left hi] at h; exact .inl h
 · rw [List.getElem?_append_right (by omega)] at h; exact .inr ⟨i - xs.length, by omega, h⟩
theorem sl_pre {E sz : Nat} {enc : α → List Value} {a : Option Addr} {c : Nat} {xs ys : List α} : ∀ h, sl E sz enc a c (xs ++ ys) h → sl E sz enc a c xs h := fun h x => by
 rcases x with ⟨h1, h2, h3⟩ | ⟨b, off, cells, h1, h2, h3, h4, h5⟩
 · exact .inl ⟨h1, (List.append_eq_nil_iff.1 h2).1, h3⟩
 · exact .inr ⟨b, off, cells, h1, h2, by rw [List.length_append] at h3; omega, h4, fun i y hi => h5 i y (by
     rw [List.getElem?_append_left (List.getElem?_eq_some_iff.1 hi).1]; exact hi)⟩
theorem run_append {T E sz by_ tx ty : Nat} {enc : α → List Value} {a : Option Addr} {c : Nat} {xs ys zs : List α} {x : Value} {H' : List HProp} (et : ET P T E sz by_) (e : EncOk sz enc) (t : Take (sl E sz enc a c (xs ++ zs)) H H')
   (S : SrcH P w0 H sz tx x ys.length (ys.flatMap enc)) (hb : (xs.length + ys.length) * by_ ≤ 140737488355328) (hm : xs.length + ys.length ≤ 9223372036854775807) {w : World} (s : Sat w0 w H) :
   ∃ a' c' w', (Builtin.append_ #[T, tx] ty #[.slice a xs.length c, x]).run P w = .ok (.slice a' (xs ++ ys).length c') w' ∧ Sat w0 w' (sl E sz enc a' c' (xs ++ ys) :: H') := by
 obtain ⟨i, z, ht, hi, hz, rfl, rfl, hzs⟩ := et.ex
 have hsrc := S w s
 have st := (s.take t).ent sl_pre
 obtain ⟨h, le, h1, h2, d, rfl, hsl, hl⟩ := st.heap
 have grow : c < xs.length + ys.length → (Builtin.firstCells i.size xs.length (.slice a xs.length c)).run P w.drew = .ok (xs.flatMap enc).toArray w.drew →
     ∃ a' c' w', (Builtin.append_ #[T, tx] ty #[.slice a xs.length c, x]).run P w = .ok (.slice a' (xs ++ ys).length c') w' ∧ Sat w0 w' (sl E i.size enc a' c' (xs ++ ys) :: H') := by
   intro hc hold
   have hrun := run_append_grow_src w T tx ty E i z ht hi hz a xs.length c (xs.flatMap enc) hold x ys.length (ys.flatMap enc) hsrc hc (by omega) (growslice_fits hc hb)
   refine ⟨_, _, _, by rw [hrun, List.length_append], ?_⟩
   have sat1 : Sat w0 w.drew H' := (Sat.drop st).drew
   refine (sat1.alloc _).ent (sl_new (grownCap_ge w _ c E |> fun h => by rw [List.length_append]; exact h) ?_ ?_)
   · simp only [Array.size_append, List.size_toArray, List.length_append, e.flat, Builtin.zeroCells, Array.size_map, Array.size_range, hzs]
     have := grownCap_ge w (xs.length + ys.length) c E
     rw [← Nat.add_mul, ← Nat.add_mul]; exact Nat.mul_le_mul_right _ (by omega)
   · intro k y hk j v hv
     have hlt : k * i.size + j < ((xs ++ ys).flatMap enc).length := (List.getElem?_eq_some_iff.1 (e.at _ k j y v hk hv)).1
     rw [Array.getElem?_append_left (by simpa using by simpa using hlt)]
     have := e.at _ k j y v hk hv
     simpa using this
 rcases hsl with ⟨rfl, rfl, rfl⟩ | ⟨b, off, cells, rfl, hp, hlen, hsz, hx⟩
 · by_cases h0 : ys = []
   · subst h0
     refine ⟨none, 0, w, ?_, ?_⟩
     · have hcells : (Builtin.firstCells i.size 0 x).run P w = .ok #[] w := by simpa using hsrc.cells
       rcases hsrc.kind with ⟨e', hk⟩ | hk <;> simp [Builtin.append_, run_underlying ht, run_underlying hk, sizeOf, typeInfo, hi, hsrc.len, hcells]
     · exact st.ent fun _ hh => by simpa using hh
   · have hpos : 0 < ys.length := List.length_pos_iff.2 h0
     exact grow (by simpa using hpos) (by simp [Builtin.firstCells])
 · have hcell : w.heap[b]? = some (.cells cells E (0, 0)) := le b _ (Hp.un_left hp.1)
   by_cases hroom : xs.length + ys.length ≤ c
   · have hfit : off + xs.length * i.size + (ys.flatMap enc).length ≤ cells.size := by
       rw [e.flat, Nat.add_assoc, ← Nat.add_mul]
       exact Nat.le_trans (Nat.add_le_add_left (Nat.mul_le_mul_right _ hroom) _) hsz
     have hrun := run_append_room_src w T tx ty E i ht hi b off xs.length c x ys.length (ys.flatMap enc) hsrc hroom
       (fun j hj => by simp [World.cell?, hcell]; omega) (fun j hj => by simp [World.frozen?, hcell])
     obtain ⟨cells', e1, e2, e3, e4, e5, e6, e7, e8, e9, e10⟩ := heap_setCells (ys.flatMap enc) (off + xs.length * i.size) w cells hcell
     refine ⟨_, _, _, by rw [hrun, List.length_append], ?_⟩
     have sat0 : Sat w0 w (pt b (.cells cells E (0, 0)) :: H') := by
       refine ⟨st.os, st.tape, st.output, st.size, _, le, h1, h2, d, rfl, hp, hl⟩
     refine (sat0.write (o' := .cells cells' E (0, 0)) e5 e6 e7 (Nat.le_of_eq e9.symm) e1 fun c hc _ => e10 c hc).ent fun hh hpp => ?_
     refine .inr ⟨b, off, cells', rfl, hpp, by rw [List.length_append]; exact hroom, by rw [e2]; exact hsz, fun k y hk j v hv => ?_⟩
     have hj : j < i.size := by rw [← e.len y]; exact (List.getElem?_eq_some_iff.1 hv).1
     rcases append_getElem? hk with hk1 | ⟨m, rfl, hk2⟩
     · have hkl : k < xs.length := (List.getElem?_eq_some_iff.1 hk1).1
       have hmul : k * i.size + i.size ≤ xs.length * i.size := by rw [← Nat.succ_mul]; exact Nat.mul_le_mul_right _ hkl
       rw [e4 _ (by omega)]; exact hx k y hk1 j v hv
     · have hat := e.at ys m j y v hk2 hv
       have hlt := (List.getElem?_eq_some_iff.1 hat).1
       rw [show off + ((xs.length + m) * i.size + j) = off + xs.length * i.size + (m * i.size + j) by rw [Nat.add_mul]; omega]
       exact e3 _ v hat (by omega)
   · refine grow (by omega) (run_firstCells_some w.drew i.size xs.length ⟨b, off, none⟩ xs.length c _ (e.flat xs) fun j u hu => ?_)
     obtain ⟨k, j', y, rfl, hj, hy, hv⟩ := e.inv xs j u hu
     have := hx k y hy j' u hv
     have hc : w.cell? ⟨b, off + (k * i.size + j'), none⟩ = some u := by simp only [World.cell?, hcell]; exact this
     show w.cell? _ = _
     unfold Addr.add; split
     · rename_i h0; rw [h0] at hc; simpa using hc
     · exact hc
theorem ac_appendO {d : Option Tmp} {x y : Operand} {T E sz by_ tx ty : Nat} {pos : String} {af : Array Edge} {g : Option (Nat × Bool)} {enc : α → List Value} {a : Option Addr} {c : Nat} {xs ys zs : List α} {u : Value} {H' : List HProp} (et : ET P T E sz by_) (e : EncOk sz enc)
   (hx : ev env x = some (.slice a xs.length c)) (hy : ev env y = some u) (t : Take (sl E sz enc a c (xs ++ zs)) H H') (S : SrcH P w0 H sz tx u ys.length (ys.flatMap enc)) (hb : (xs.length + ys.length) * by_ ≤ 140737488355328) (hm : xs.length + ys.length ≤ 9223372036854775807) :
   Ac P ⟨d, .call ⟨.builtin .append, #[x, y], #[T, tx]⟩, ty, pos, af, g⟩ w0 env H (fun v H'' => ∃ a' c', v = .slice a' (xs ++ ys).length c' ∧ H'' = sl E sz enc a' c' (xs ++ ys) :: H') := Ac.of_run fun ρ w r s => by
 obtain ⟨a', c', w', hr, hs⟩ := run_append (ty := ty) (zs := zs) et e t S hb hm s
 refine ⟨_, _, w', ?_, ⟨a', c', rfl, rfl⟩, hs⟩
 show (do pure (Next.value (← Builtin.append_ #[T, tx] ty (#[x, y].map ρ))) : Sem Next).run P w = _
 rw [show #[x, y].map ρ = #[ρ x, ρ y] by simp, r.eval hx, r.eval hy]
 exact run_v hr
theorem ac_append {d : Option Tmp} {x y : Operand} {T E sz by_ tx ty : Nat} {pos : String} {af : Array Edge} {g : Option (Nat × Bool)} {enc : α → List Value} {a : Option Addr} {c : Nat} {xs ys : List α} {u : Value} {H' : List HProp} (et : ET P T E sz by_) (e : EncOk sz enc)
   (hx : ev env x = some (.slice a xs.length c)) (hy : ev env y = some u) (t : Take (sl E sz enc a c xs) H H') (S : SrcH P w0 H sz tx u ys.length (ys.flatMap enc)) (hb : (xs.length + ys.length) * by_ ≤ 140737488355328) (hm : xs.length + ys.length ≤ 9223372036854775807) :
   Ac P ⟨d, .call ⟨.builtin .append, #[x, y], #[T, tx]⟩, ty, pos, af, g⟩ w0 env H (fun v H'' => ∃ a' c', v = .slice a' (xs ++ ys).length c' ∧ H'' = sl E sz enc a' c' (xs ++ ys) :: H') :=
 ac_appendO (zs := []) et e hx hy (by rw [List.append_nil]; exact t) S hb hm
theorem sl_nil {E sz : Nat} {enc : α → List Value} {w : World} {L : List HProp} (s : Sat w0 w L) : Sat w0 w (sl E sz enc none 0 ([] : List α) :: L) := by
 obtain ⟨h, le, l⟩ := s.heap
 exact ⟨s.os, s.tape, s.output, s.size, h, le, fun _ => none, h, fun _ => .inl rfl, by funext b; rfl, .inl ⟨rfl, rfl, rfl⟩, l⟩
theorem Gs.slNil {X : Act → World → Prop} (E sz : Nat) (enc : α → List Value) (g : Gs w0 n env (sl E sz enc none 0 ([] : List α) :: H) X) : Gs w0 n env H X := fun a w e s => g a w e (sl_nil s)
theorem ac_copy {d : Option Tmp} {x y : Operand} {T E sz by_ tx ty : Nat} {pos : String} {af : Array Edge} {g : Option (Nat × Bool)} {enc : α → List Value} {ys : List α} {u : Value} (et : ET P T E sz by_) (e : EncOk sz enc)
   (hx : ev env x = some (.slice none 0 0)) (hy : ev env y = some u) (S : SrcH P w0 H sz tx u ys.length (ys.flatMap enc)) (hb : ys.length * by_ ≤ 140737488355328) (hm : ys.length ≤ 9223372036854775807) :
   Ac P ⟨d, .call ⟨.builtin .append, #[x, y], #[T, tx]⟩, ty, pos, af, g⟩ w0 env H (fun v H'' => ∃ a' c', v = .slice a' ys.length c' ∧ H'' = sl E sz enc a' c' ys :: H) :=
 Ac.take (H' := sl E sz enc none 0 ([] : List α) :: H) (fun _ s => sl_nil s) (ac_append (xs := ([] : List α)) et e hx hy .hd (fun w s => S w s.drop) (by simpa using hb) (by simpa using hm))
theorem fill_spec {sz : Nat} : ∀ (vs : List Value) (k : Nat) (cells : Array Value), (∀ v ∈ vs, v.cells.size = sz) → (k + vs.length) * sz ≤ cells.size →
   ∃ cells', Instr.fill (fun i => some (i * sz, sz)) cells (vs.zipIdx k |>.map fun (v, i) => (i, v)) = some cells' ∧ cells'.size = cells.size ∧ (∀ j, j < k * sz → cells'[j]? = cells[j]?) ∧
     ∀ m v, vs[m]? = some v → ∀ j u, v.cells[j]? = some u → cells'[(k + m) * sz + j]? = some u
 | [], k, cells, _, _ => ⟨cells, rfl, rfl, fun _ _ => rfl, by simp⟩
 | v :: vs, k, cells, hv, hs => by
   have h1 : v.cells.size = sz := hv v (by simp)
   have hk : k * sz + sz ≤ cells.size := by
     rw [← Nat.succ_mul]; exact Nat.le_trans (Nat.mul_le_mul_right _ (by rw [List.length_cons]; omega)) hs
   -- the fold that lays one part
   have fold : ∀ (l : List Value) (o : Nat) (cs : Array Value), (l.zipIdx o).foldl (fun cs (c, j) => cs.setIfInBounds (k * sz + j) c) cs = (l.zipIdx o).foldl (fun cs (c, j) => cs.setIfInBounds (k * sz + j) c) cs := fun _ _ _ => rfl
   have lay1 : ∀ (l : List Value) (o : Nat) (cs : Array Value), k * sz + o + l.length ≤ cs.size → ∃ cs', (l.zipIdx o).foldl (fun cs (c, j) => cs.setIfInBounds (k * sz + j) c) cs = cs' ∧ cs'.size = cs.size ∧ (∀ j, j < k * sz + o → cs'[j]? = cs[j]?) ∧ (∀ m u, l[m]? = some u → cs'[k * sz + o + m]? = some u) := by
     intro l
     induction l with
     | nil => intro o cs _; exact ⟨cs, rfl, rfl, fun _ _ => rfl, by simp⟩
     | cons u l ih =>
       intro o cs hle
       simp only [List.length_cons] at hle
       obtain ⟨cs', e1, e2, e3, e4⟩ := ih (o + 1) (cs.setIfInBounds (k * sz + o) u) (by simp; omega)
       refine ⟨cs', by rw [List.zipIdx_cons, List.foldl_cons]; exact e1, by rw [e2]; simp, fun j hj => ?_, fun m x hx => ?_⟩
       · rw [e3 j (by omega), Array.getElem?_setIfInBounds, if_neg (by omega)]
       · cases m with
         | zero =>
           simp only [List.getElem?_cons_zero, Option.some.injEq] at hx; subst hx
           rw [Nat.add_zero, e3 _ (by omega), Array.getElem?_setIfInBounds, if_pos rfl, if_pos (by omega)]
         | succ m => rw [show k * sz + o + (m + 1) = k * sz + (o + 1) + m by omega]; exact e4 m x (by simpa using hx)
   obtain ⟨cs', e1, e2, e3, e4⟩ := lay1 v.cells.toList 0 cells (by simp [h1]; try omega)
   obtain ⟨cells', f1, f2, f3, f4⟩ := fill_spec vs (k + 1) cs' (fun u hu => hv u (by simp [hu])) (by rw [e2]; rw [show k + 1 + vs.length = k + (v :: vs).length by simp; omega]; exact hs)
   refine ⟨cells', ?_, by rw [f2, e2], fun j hj => ?_, fun m u hu j x hx => ?_⟩
   · rw [List.zipIdx_cons, List.map_cons]
     simp only [Instr.fill, h1]
     rw [if_neg (by simp; omega)]
     rw [← f1]
     congr 1
     rw [← e1, ← Array.foldl_toList, Array.toList_zipIdx]
   · rw [f3 j (by rw [Nat.succ_mul]; omega), e3 j (by omega)]
   · cases m with
     | zero =>
       simp only [List.getElem?_cons_zero, Option.some.injEq] at hu; subst hu
       have hj : j < sz := by rw [← h1]; exact (Array.getElem?_eq_some_iff.1 hx).1
       rw [Nat.add_zero, f3 _ (by rw [Nat.succ_mul]; omega)]
       have := e4 j x (by simpa using hx)
       simpa using this
     | succ m => rw [show k + (m + 1) = k + 1 + m by omega]; exact f4 m u (by simpa using hu) j x hx
def inOrder {β : Type} : List (Nat × β) → Nat → Bool
 | [], _ => true
 | (i, _) :: r, k => Nat.beq i k && inOrder r (k + 1)
theorem zip_of_inOrder {β γ : Type} (f : β → γ) : ∀ (l : List (Nat × β)) (k : Nat), inOrder l k = true → l.map (fun (i, x) => (i, f x)) = ((l.map fun p => f p.2).zipIdx k).map fun (v, i) => (i, v)
 | [], _, _ => rfl
 | (i, x) :: r, k, h => by
   simp only [inOrder, Bool.and_eq_true] at h
   obtain ⟨h1, h2⟩ := h
   have h1 := Nat.eq_of_beq_eq_true h1; subst h1
   simp only [List.map_cons, List.zipIdx_cons]
   rw [zip_of_inOrder f r (i + 1) h2]
theorem run_lit {T E len : Nat} {i : TypeInfo} {z : Value} (ht : P.underlying T = some (.slice E)) (hi : P.info? E = some i) (hz : i.zero = some z) (hs : len * i.size ≤ 16777216) {parts : Array (Nat × Value)} {vs : List Value} (hpl : parts.toList = (vs.zipIdx 0).map fun (v, i) => (i, v)) {cells' : Array Value}
   (f1 : Instr.fill (fun k => some (k * i.size, i.size)) ((Array.range (len * i.size)).map (z.cells[· % z.cells.size]!)) ((vs.zipIdx 0).map fun (v, i) => (i, v)) = some cells') {w : World} :
   (Instr.buildSlice T len parts).run P w = .ok (.slice (some ⟨w.heap.size, 0, none⟩) len len) { w with heap := w.heap.push (.cells cells' E) } := by
 have hu : (underlying T).run P w = .ok (.slice E) w := by simp [underlying, ht, go_sem]
 have hq : (sizeOf E).run P w = .ok i.size w := by simp [sizeOf, typeInfo, hi, go_sem]
 have hzv : (zeroValue E).run P w = .ok z w := by simp [zeroValue, typeInfo, hi, hz, go_sem]
 have hbig : ¬ (len * i.size > 2 ^ 24) := Nat.not_lt.2 (Nat.le_trans hs (by simp))
 unfold Instr.buildSlice
 simp only [Sem.run_bind, hu, hq, Result.andThen_ok, hpl]
 rw [if_neg hbig]
 by_cases h0 : len * i.size = 0
 · rw [if_pos h0]
   have hm : Array.map (fun x => (#[] : Array Value)[x % (#[] : Array Value).size]!) (Array.range (len * i.size)) = (Array.range (len * i.size)).map (z.cells[· % z.cells.size]!) := by rw [h0]; simp
   simp only [Sem.run_bind, Sem.run_pure, Result.andThen_ok, hm, f1, newRow, run_new]
 · rw [if_neg h0]
   simp only [Sem.run_bind, hzv, Sem.run_pure, Result.andThen_ok, f1, newRow, run_new]
theorem ac_lit {d : Option Tmp} {T E sz by_ len ty : Nat} {parts : List (Nat × Operand)} {pos : String} {af : Array Edge} {g : Option (Nat × Bool)} (enc : α → List Value) (xs : List α) {vs : List Value} (et : ET P T E sz by_) (e : EncOk sz enc)
   (hp : inOrder parts 0 = true) (hv : Evs env (parts.map (·.2)) vs) (hvs : vs.map (fun v => v.cells.toList) = xs.map enc) (hl : parts.length = len) (hs : len * sz ≤ 16777216) :
   Ac P ⟨d, .buildSlice T len parts.toArray, ty, pos, af, g⟩ w0 env H (fun v H' => ∃ b, v = .slice (some ⟨b, 0, none⟩) xs.length xs.length ∧ H' = sl E sz enc (some ⟨b, 0, none⟩) xs.length xs :: H) := Ac.of_run fun ρ w r s => by
 obtain ⟨i, z, ht, hi, hz, rfl, rfl, hzs⟩ := et.ex
 have hlen : vs.length = xs.length := by have := congrArg List.length hvs; simpa using this
 have hlv : vs.length = len := by rw [← hl, ← hv.rho r]; simp
 have hsz : ∀ v ∈ vs, v.cells.size = i.size := by
   intro v hm
   have : v.cells.toList ∈ vs.map (fun v => v.cells.toList) := List.mem_map_of_mem hm
   rw [hvs] at this
   obtain ⟨x, _, hx⟩ := List.mem_map.1 this
   rw [← e.len x, hx]; simp
 obtain ⟨cells', f1, f2, -, f4⟩ := fill_spec vs 0 ((Array.range (len * i.size)).map (z.cells[· % z.cells.size]!)) hsz (by simp [hlv])
 have sat := s.alloc (.cells cells' E)
 have hpl : (parts.toArray.map fun (i, x) => (i, ρ x)).toList = (vs.zipIdx 0).map fun (v, i) => (i, v) := by
   rw [Array.toList_map, zip_of_inOrder ρ parts 0 hp]
   congr 2
   have := hv.rho r
   rw [← this]; simp
 have hrun := run_v (run_lit (w := w) ht hi hz hs hpl f1)
 refine ⟨.slice (some ⟨w.heap.size, 0, none⟩) len len, _, _, hrun, ⟨w.heap.size, by rw [← hlen, hlv], rfl⟩, sat.ent (sl_new (Nat.le_refl _) ?_ ?_)⟩
 · rw [f2]; simp [← hlen, hlv]
 · intro k x hk j v hj
   have hkv : (vs.map (fun v => v.cells.toList))[k]? = some (enc x) := by rw [hvs]; simp [hk]
   rw [List.getElem?_map] at hkv
   cases hvk : vs[k]? with
   | none => rw [hvk] at hkv; cases hkv
   | some u =>
     rw [hvk] at hkv
     have hue : u.cells.toList = enc x := by simpa using hkv
     have := f4 k u hvk j v (by rw [← hue] at hj; simpa using hj)
     rwa [Nat.zero_add] at this
theorem ac_make {d : Option Tmp} {x y : Operand} {T E sz by_ ty : Nat} {pos : String} {af : Array Edge} {g : Option (Nat × Bool)} (enc : α → List Value) (z0 : α) {zz : Value} {k k' : IntKind} {l c : Int} (et : ET P T E sz by_) (e : EncOk sz enc) (zv : ZV P E zz) (hz0 : zz.cells.toList = enc z0)
   (hx : ev env x = some (.int k l)) (hy : ev env y = some (.int k' c)) (h0 : 0 ≤ l) (hlc : l ≤ c) (hb : (by_ : Int) * c ≤ 281474976710656) (hm : c ≤ 9223372036854775807) :
   Ac P ⟨d, .makeSlice T x y, ty, pos, af, g⟩ w0 env H (fun v H' => ∃ b, v = .slice (some ⟨b, 0, none⟩) (List.replicate l.toNat z0).length c.toNat ∧ H' = sl E sz enc (some ⟨b, 0, none⟩) c.toNat (List.replicate l.toNat z0) :: H) := Ac.of_run fun ρ w r s => by
 obtain ⟨i, z, ht, hi, hz, rfl, rfl, hzs⟩ := et.ex
 have hzz : zz = z := by have := zv.run w; simp [zeroValue, typeInfo, hi, hz, go_sem] at this; exact this.symm
 subst hzz
 have hrun := run_make (P := P) w T E i zz ht hi hz k k' l c h0 hlc hb hm
 refine ⟨_, _, _, run_v (s := Instr.makeSlice T (ρ x) (ρ y)) (by rw [r.eval hx, r.eval hy]; exact hrun), ⟨w.heap.size, by simp, rfl⟩, (s.alloc _).ent (sl_new (by simp; omega) (by simp [madeCells]) ?_)⟩
 intro m y hm' j v hj
 have hlt : m < l.toNat := by have := (List.getElem?_eq_some_iff.1 hm').1; simpa using this
 have hy : y = z0 := by rw [List.getElem?_replicate, if_pos hlt] at hm'; exact (Option.some.inj hm').symm
 subst hy
 have hjs : j < i.size := by rw [← e.len y]; exact (List.getElem?_eq_some_iff.1 hj).1
 have hlt2 : m * i.size + j < c.toNat * i.size := by
   have : (m + 1) * i.size ≤ c.toNat * i.size := Nat.mul_le_mul_right _ (by omega)
   rw [Nat.succ_mul] at this; omega
 simp only [madeCells, Array.getElem?_map, Array.getElem?_range]
 rw [if_pos hlt2]
 simp only [Option.map_some, hzs]
 rw [Nat.mul_comm, Nat.mul_add_mod, Nat.mod_eq_of_lt hjs]
 rw [← hz0] at hj
 have : zz.cells[j]? = some v := by simpa using hj
 rw [getElem!_pos zz.cells j (by omega)]
 rw [Array.getElem?_eq_getElem (by omega)] at this
 exact this
def suba (a : Option Addr) (lo c sz : Nat) : Option Addr := if c = lo then a else a.map (·.add (lo * sz))
theorem SlH.cut {sz : Nat} {enc : α → List Value} {a : Option Addr} {xs : List α} (S : SlH w0 H sz enc a xs) (lo hi c : Nat) (hc : xs.length ≤ c ∨ hi ≤ c) : SlH w0 H sz enc (suba a lo c sz) ((xs.take hi).drop lo) := fun w s hne => by
 have hx : xs ≠ [] := by rintro rfl; simp at hne
 obtain ⟨b, off, rfl, h⟩ := S w s hx
 have hlo : lo < hi ∧ lo < xs.length := by
   have : 0 < ((xs.take hi).drop lo).length := List.length_pos_iff.2 hne
   simp at this; omega
 have hcl : ¬ c = lo := by omega
 refine ⟨b, off + lo * sz, ?_, fun i x hi' j v hv => ?_⟩
 · simp only [suba, hcl, if_false, Option.map_some]
   congr 1; unfold Addr.add; split <;> simp_all
 · rw [List.getElem?_drop, List.getElem?_take] at hi'
   split at hi'
   · have := h (lo + i) x hi' j v hv
     rw [show off + lo * sz + (i * sz + j) = off + ((lo + i) * sz + j) by rw [Nat.add_mul]; omega]; exact this
   · cases hi'
theorem SlH.cutH {sz : Nat} {enc : α → List Value} {a : Option Addr} {xs : List α} (S : SlH w0 H sz enc a xs) (hi c : Nat) (hc : xs.length ≤ c) : SlH w0 H sz enc (suba a 0 c sz) (xs.take hi) := by
 have := S.cut 0 hi c (.inl hc); rwa [List.drop_zero] at this
theorem SlH.cutL {sz : Nat} {enc : α → List Value} {a : Option Addr} {xs : List α} (S : SlH w0 H sz enc a xs) (lo c : Nat) (hc : xs.length ≤ c) : SlH w0 H sz enc (suba a lo c sz) (xs.drop lo) := by
 have := S.cut lo xs.length c (.inl hc); rwa [List.take_length] at this
theorem SrcH.sl' {sz tx e' n : Nat} {enc : α → List Value} {a : Option Addr} {c : Nat} {ys : List α} (hk : P.underlying tx = some (.slice e')) (e : EncOk sz enc) (hn : n = ys.length) (S : SlH w0 H sz enc a ys) : SrcH P w0 H sz tx (.slice a n c) ys.length (ys.flatMap enc) := by
 subst hn; exact SrcH.sl hk e S
theorem Gs.slLen {E sz : Nat} {enc : α → List Value} {a : Option Addr} {c : Nat} {xs : List α} {H' : List HProp} {X : Act → World → Prop} (t : Take (sl E sz enc a c xs) H H') (g : xs.length ≤ c → Gs w0 n env H X) : Gs w0 n env H X := fun ac w e s => by
 refine g ?_ ac w e s
 obtain ⟨h0, x, -⟩ := (s.take t).toRo
 rcases x with ⟨-, rfl, rfl⟩ | ⟨_, _, _, _, _, h, _⟩
 · exact Nat.le_refl _
 · exact h
theorem run_bound {w : World} {k : IntKind} {i : Int} {y : Nat} {code : BoundsCode} (h0 : 0 ≤ i) (h1 : i ≤ y) : (Instr.sliceBound (.int k i) y code).run P w = .ok i.toNat w := by
 simp [Instr.sliceBound, asIntOf, h0, h1, go_sem]
theorem run_cut {T E : Nat} {inf : TypeInfo} (ht : P.underlying T = some (.slice E)) (hi : P.info? E = some inf) {a : Option Addr} {l c x y : Nat} {lo hi' : Option Value} {w : World}
   (hb : (Instr.sliceBounds true l c lo hi' none).run P w = .ok (x, y, c) w) : (Instr.sliceAt T (.slice a l c) lo hi' none).run P w = .ok (.slice (suba a x c inf.size) (y - x) (c - x)) w := by
 have hu : (underlying T).run P w = .ok (.slice E) w := by simp [underlying, ht, go_sem]
 have hq : (sizeOf E).run P w = .ok inf.size w := by simp [sizeOf, typeInfo, hi, go_sem]
 unfold Instr.sliceAt Instr.slice
 simp only [Sem.run_bind, hu, hb, hq, Result.andThen_ok]
 rfl
theorem pu_slice {d : Option Tmp} {x y z : Operand} {T E sz by_ ty : Nat} {pos : String} {af : Array Edge} {g : Option (Nat × Bool)} {a : Option Addr} {l c : Nat} {k k' : IntKind} {i j : Int} (et : ET P T E sz by_) (hx : ev env x = some (.slice a l c)) (hy : ev env y = some (.int k i)) (hz : ev env z = some (.int k' j))
   (h0 : 0 ≤ i) (h1 : i ≤ j) (h2 : j ≤ c) : Pu P ⟨d, .slice T x (some y) (some z) none, ty, pos, af, g⟩ env (.slice (suba a i.toNat c sz) (j.toNat - i.toNat) (c - i.toNat)) := fun ρ w e => by
 obtain ⟨inf, zz, ht, hi, -, rfl, rfl, -⟩ := et.ex
 refine run_v (s := Instr.sliceAt T (ρ x) (some (ρ y)) (some (ρ z)) none) ?_
 rw [e.eval hx, e.eval hy, e.eval hz]
 exact run_cut ht hi (by simp only [Instr.sliceBounds, Sem.run_bind, Sem.run_pure, Result.andThen_ok, run_bound (P := P) (w := w) (k := k') (code := .sliceAcap) (show 0 ≤ j by omega) h2, run_bound (P := P) (w := w) (k := k) h0 (show i ≤ (j.toNat : Int) by omega), if_true])
theorem pu_sliceL {d : Option Tmp} {x y : Operand} {T E sz by_ ty : Nat} {pos : String} {af : Array Edge} {g : Option (Nat × Bool)} {a : Option Addr} {l c : Nat} {k : IntKind} {i : Int} (et : ET P T E sz by_) (hx : ev env x = some (.slice a l c)) (hy : ev env y = some (.int k i))
   (h0 : 0 ≤ i) (h1 : i ≤ l) : Pu P ⟨d, .slice T x (some y) none none, ty, pos, af, g⟩ env (.slice (suba a i.toNat c sz) (l - i.toNat) (c - i.toNat)) := fun ρ w e => by
 obtain ⟨inf, zz, ht, hi, -, rfl, rfl, -⟩ := et.ex
 refine run_v (s := Instr.sliceAt T (ρ x) (some (ρ y)) none none) ?_
 rw [e.eval hx, e.eval hy]
 exact run_cut ht hi (by simp only [Instr.sliceBounds, Sem.run_bind, Sem.run_pure, Result.andThen_ok, run_bound (P := P) (w := w) (k := k) h0 h1])
theorem pu_sliceH {d : Option Tmp} {x z : Operand} {T E sz by_ ty : Nat} {pos : String} {af : Array Edge} {g : Option (Nat × Bool)} {a : Option Addr} {l c : Nat} {k : IntKind} {j : Int} (et : ET P T E sz by_) (hx : ev env x = some (.slice a l c)) (hz : ev env z = some (.int k j))
   (h0 : 0 ≤ j) (h1 : j ≤ c) : Pu P ⟨d, .slice T x none (some z) none, ty, pos, af, g⟩ env (.slice (suba a 0 c sz) j.toNat c) := fun ρ w e => by
 obtain ⟨inf, zz, ht, hi, -, rfl, rfl, -⟩ := et.ex
 refine run_v (s := Instr.sliceAt T (ρ x) none (some (ρ z)) none) ?_
 rw [e.eval hx, e.eval hz]
 have h := run_cut (P := P) (a := a) (l := l) (c := c) (x := 0) (y := j.toNat) (lo := none) (hi' := some (.int k j)) (w := w) ht hi (by simp only [Instr.sliceBounds, Sem.run_bind, Sem.run_pure, Result.andThen_ok, run_bound (P := P) (w := w) (k := k) h0 h1])
 simpa only [Nat.sub_zero] using h
theorem suba_some {b o lo c sz : Nat} (h : ¬ c = lo) : suba (some ⟨b, o, none⟩) lo c sz = some ⟨b, o + lo * sz, none⟩ := by
 simp only [suba, h, if_false, Option.map_some]
 congr 1; unfold Addr.add; split <;> simp_all
theorem suba_zero {a : Option Addr} {c sz : Nat} : suba a 0 c sz = a := by
 unfold suba; split
 · rfl
 · cases a <;> simp [Addr.add]
end
end Go.Sl
namespace Go.Kv
section
variable {κ ν : Type} [DecidableEq κ]
def mget : List (κ × ν) → κ → Option ν
 | [], _ => none
 | (k', v) :: r, k => if k = k' then some v else mget r k
def mput : List (κ × ν) → κ → ν → List (κ × ν)
 | [], k, v => [(k, v)]
 | (k', v') :: r, k, v => if k = k' then (k', v) :: r else (k', v') :: mput r k v
def mdel : List (κ × ν) → κ → List (κ × ν)
 | [], _ => []
 | (k', v') :: r, k => if k = k' then r else (k', v') :: mdel r k
abbrev mkeys (m : List (κ × ν)) : List κ := m.map (·.1)
theorem mget_none {m : List (κ × ν)} {k : κ} : mget m k = none ↔ k ∉ mkeys m := by
 induction m with
 | nil => simp [mget]
 | cons p m ih =>
   obtain ⟨k', v⟩ := p
   simp only [mget, mkeys, List.map_cons, List.mem_cons]
   by_cases h : k = k'
   · simp [h]
   · simp only [h, if_false, false_or]; exact ih
theorem mget_mem {m : List (κ × ν)} {k : κ} {v : ν} (h : mget m k = some v) : (k, v) ∈ m := by
 induction m with
 | nil => cases h
 | cons p m ih =>
   obtain ⟨k', v'⟩ := p
   simp only [mget] at h
   by_cases hk : k = k'
   · simp [hk] at h; subst h; subst hk; simp
   · simp [hk] at h; exact List.mem_cons_of_mem _ (ih h)
theorem mget_of_mem {m : List (κ × ν)} (hn : (mkeys m).Nodup) {k : κ} {v : ν} (h : (k, v) ∈ m) : mget m k = some v := by
 induction m with
 | nil => cases h
 | cons p m ih =>
   obtain ⟨k', v'⟩ := p
   simp only [mkeys, List.map_cons, List.nodup_cons] at hn
   simp only [mget]
   rcases List.mem_cons.1 h with e | e
   · cases e; simp
   · have : k ≠ k' := by rintro rfl; exact hn.1 (List.mem_map.2 ⟨_, e, rfl⟩)
     simp only [this, if_false]; exact ih hn.2 e
theorem mkeys_put (m : List (κ × ν)) (k : κ) (v : ν) : mkeys (mput m k v) = if k ∈ mkeys m then mkeys m else mkeys m ++ [k] := by
 induction m with
 | nil => simp [mput]
 | cons p m ih =>
   obtain ⟨k', v'⟩ := p
   simp only [mput, mkeys, List.map_cons, List.mem_cons] at ih ⊢
   by_cases h : k = k'
   · simp [h]
   · simp only [h, if_false, List.map_cons, ih, false_or]; split <;> simp
theorem nodup_put {m : List (κ × ν)} (h : (mkeys m).Nodup) (k : κ) (v : ν) : (mkeys (mput m k v)).Nodup := by
 rw [mkeys_put]; split
 · exact h
 · rename_i hk
   rw [List.nodup_append]
   exact ⟨h, by simp, fun a ha b hb e => by simp at hb; subst hb; subst e; exact hk ha⟩
theorem del_sub (m : List (κ × ν)) (k : κ) : List.Sublist (mdel m k) m := by
 induction m with
 | nil => exact List.Sublist.refl _
 | cons q m ih =>
   obtain ⟨k', v'⟩ := q
   simp only [mdel]; split
   · exact List.sublist_cons_self ..
   · exact ih.cons_cons _
theorem nodup_del {m : List (κ × ν)} (h : (mkeys m).Nodup) (k : κ) : (mkeys (mdel m k)).Nodup := List.Nodup.sublist ((del_sub m k).map _) h
theorem mget_put (m : List (κ × ν)) (k : κ) (v : ν) (j : κ) : mget (mput m k v) j = if j = k then some v else mget m j := by
 induction m with
 | nil => simp [mput, mget]
 | cons p m ih =>
   obtain ⟨k', v'⟩ := p
   simp only [mput]
   by_cases h : k = k'
   · subst h; simp only [if_true, mget]; by_cases hj : j = k <;> simp [hj]
   · simp only [h, if_false, mget, ih]
     by_cases hj : j = k'
     · subst hj; simp [Ne.symm h]
     · simp [hj]
theorem mget_del {m : List (κ × ν)} (hn : (mkeys m).Nodup) (k j : κ) : mget (mdel m k) j = if j = k then none else mget m j := by
 induction m with
 | nil => simp [mdel, mget]
 | cons p m ih =>
   obtain ⟨k', v'⟩ := p
   simp only [mkeys, List.map_cons, List.nodup_cons] at hn
   simp only [mdel]
   by_cases h : k = k'
   · subst h; simp only [if_true, mget]
     by_cases hj : j = k
     · subst hj; simp only [if_true]; exact mget_none.2 hn.1
     · simp [hj]
   · simp only [h, if_false, mget, ih hn.2]
     by_cases hj : j = k'
     · subst hj; simp [Ne.symm h]
     · simp [hj]
end
end Go.Kv
