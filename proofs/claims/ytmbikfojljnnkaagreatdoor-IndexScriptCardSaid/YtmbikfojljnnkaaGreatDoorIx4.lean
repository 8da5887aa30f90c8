/- Walk: IndexPrefixes (grapevinelaw11); what stands under a prefix. -/
import Derived.Test.YtmbikfojljnnkaaGreatDoorIx3
namespace Go.Sl
open Go
section
variable {P : Program} {env : Env} {d : Option Tmp} {x z : Operand} {T ty : TypeId} {pos : String} {af : Array Edge} {g : Option (Nat × Bool)}
theorem pu_sliceHS {s : ByteArray} {k : IntKind} {j : Int} (ht : P.underlying T = some .string) (hx : ev env x = some (.string s)) (hz : ev env z = some (.int k j)) (h0 : 0 ≤ j) (h1 : j ≤ s.size) :
    Pu P ⟨d, .slice T x none (some z) none, ty, pos, af, g⟩ env (.string (s.extract 0 j.toNat)) := fun ρ w e => by
  refine run_v (s := Instr.sliceAt T (ρ x) none (some (ρ z)) none) ?_
  rw [e.eval hx, e.eval hz]
  have hu : (underlying T).run P w = .ok .string w := by simp [underlying, ht, go_sem]
  unfold Instr.sliceAt
  simp only [Sem.run_bind, hu, Result.andThen_ok]
  unfold Instr.slice
  simp only [Sem.run_bind, hu, Result.andThen_ok]
  simp [go_sem, Instr.sliceBounds, Instr.sliceBound, asIntOf, h0, h1]
end
end Go.Sl
namespace Go.Ix
open Go Go.Sl Go.Gv Go.Kv Go.Po Go.Bst
theorem preB_short {s w : ByteArray} (h : s.size < w.size) : preB s w = false := by
  unfold preB
  rw [← Lib.hasPrefix_of_take, decide_eq_false (by simpa using h), Bool.false_and]
theorem preB_long {s w : ByteArray} (h : w.size ≤ s.size) : preB s w = decide (s.extract 0 w.size = w) := by
  unfold preB
  rw [← Lib.hasPrefix_of_take, decide_eq_true (by simpa using h), Bool.true_and]
  have e : (s.extract 0 w.size).data.toList = s.data.toList.take w.size := by rw [Lib.extract_data]; simp
  have hl : w.data.toList.length = w.size := by simp
  rw [hl, ← e]
  by_cases he : s.extract 0 w.size = w
  · rw [he, decide_eq_true rfl]; exact beq_self_eq_true _
  · rw [decide_eq_false he, beq_eq_false_iff_ne]
    intro x; apply he
    generalize s.extract 0 w.size = t at x
    cases t; cases w; exact congrArg _ (Array.toList_inj.1 x)
theorem fold_catP (k : Key) : ∀ (l : List PostP) (M : PM), (mkeys l).Nodup → mget (l.foldl catP M) k = match mget l k with
    | none => mget M k
    | some at' => some ((mget M k).getD [] ++ at')
  | [], _, _ => rfl
  | e :: l, M, hn => by
    have hn' := List.nodup_cons.1 hn
    rw [List.foldl_cons, fold_catP k l _ hn'.2]
    have he : mget (e :: l) k = if k = e.1 then some e.2 else mget l k := by obtain ⟨a, b⟩ := e; rfl
    have hc : mget (catP M e) k = if k = e.1 then some ((mget M e.1).getD [] ++ e.2) else mget M k := mget_put _ _ _ _
    rw [he, hc]
    by_cases h : k = e.1
    · subst h
      rw [if_pos rfl, if_pos rfl, mget_none.2 hn'.1]
    · rw [if_neg h, if_neg h]
theorem catP_nodup : ∀ (l : List PostP) (M : PM), (mkeys M).Nodup → (mkeys (l.foldl catP M)).Nodup
  | [], _, h => h
  | _ :: l, _, h => catP_nodup l _ (nodup_put h _ _)
theorem catP_sum : ∀ (l : List PostP) (M : PM), placesL (l.foldl catP M) = placesL M + placesL l
  | [], _ => rfl
  | e :: l, M => by
    rw [List.foldl_cons, catP_sum l (catP M e)]
    have := sum_put (fun l : List Int => l.length) [] rfl M e.1 ((mget M e.1).getD [] ++ e.2)
    have h1 : placesL (catP M e) + ((mget M e.1).getD []).length = placesL M + ((mget M e.1).getD [] ++ e.2).length := this
    have h2 : placesL (e :: l) = e.2.length + placesL l := by simp [placesL]
    rw [List.length_append] at h1; omega
end Go.Ix
namespace Go.Proofs.YtmbikfojljnnkaaGreatDoor
open Go Go.Sl Go.Gv Go.Kv Go.Po Go.Ix Go.Bst
set_option maxRecDepth 100000
/-- Where a record's words stand that begin so. -/
def preAts (w : ByteArray) (ws : List ByteArray) (r : Rec) : List Int := (ws.filter fun s => preB s w).flatMap fun s => atsOf (toksV r.t) s
theorem may_nodup {l : List PostP} (h : mayB l = true) : (mkeys l).Nodup := (may_asc h).imp fun {a b} hab e => by rw [e, before_irr] at hab; cases hab
theorem IxIs.posn {rs : List Rec} {s : PL × PW} (h : IxIs rs s) {r : Rec} (hr : r ∈ rs) (w : ByteArray) : mget ((mget s.1 w).getD []) r.key = mget (tok r) w := by
  obtain ⟨h1, h2⟩ := h.getD w
  have hn := may_nodup h1
  cases hm : mget (tok r) w with
  | some l => exact mget_of_mem hn ((h2 (r.key, l)).2 ⟨r, hr, rfl, hm⟩)
  | none =>
    cases hm' : mget ((mget s.1 w).getD []) r.key with
    | none => rfl
    | some l =>
      obtain ⟨r', hr', h3, h4⟩ := (h2 (r.key, l)).1 (mget_mem hm')
      rw [key_inj h.keys hr' hr h3.symm, hm] at h4; cases h4
/-- Of each key: what the words of ws give. -/
theorem IxIs.pre_get {rs : List Rec} {s : PL × PW} (h : IxIs rs s) (w : ByteArray) : ∀ (ws : List ByteArray) (M : PM), (mkeys M).Nodup → (∀ k ∈ mkeys M, k ∈ rs.map Rec.key) →
    (mkeys (ws.foldl (preStep w s.1) M)).Nodup ∧ (∀ k ∈ mkeys (ws.foldl (preStep w s.1) M), k ∈ rs.map Rec.key) ∧
    ∀ r ∈ rs, (mget (ws.foldl (preStep w s.1) M) r.key).getD [] = (mget M r.key).getD [] ++ preAts w ws r ∧ (mget (ws.foldl (preStep w s.1) M) r.key = none ↔ mget M r.key = none ∧ preAts w ws r = [])
  | [], M, hn, hk => ⟨hn, hk, fun r hr => ⟨by simp [preAts], by simp [preAts]⟩⟩
  | v :: ws, M, hn, hk => by
    rw [List.foldl_cons]
    by_cases hp : preB v w = true
    · have hst : preStep w s.1 M v = ((mget s.1 v).getD []).foldl catP M := by unfold preStep; rw [if_pos hp]
      obtain ⟨h1, h2⟩ := h.getD v
      have hnl := may_nodup h1
      have hn2 : (mkeys (((mget s.1 v).getD []).foldl catP M)).Nodup := catP_nodup _ _ hn
      have hk2 : ∀ k ∈ mkeys (((mget s.1 v).getD []).foldl catP M), k ∈ rs.map Rec.key := fun k hkm => by
        cases hm : mget ((mget s.1 v).getD []) k with
        | some l =>
          obtain ⟨r, hr, h3, -⟩ := (h2 (k, l)).1 (mget_mem hm)
          exact List.mem_map.2 ⟨r, hr, h3.symm⟩
        | none =>
          refine hk k (Classical.byContradiction fun hc => ?_)
          have := fold_catP k ((mget s.1 v).getD []) M hnl
          rw [hm, mget_none.2 hc] at this
          exact mget_none.1 this hkm
      obtain ⟨i1, i2, i3⟩ := IxIs.pre_get h w ws _ hn2 hk2
      rw [hst]
      refine ⟨i1, i2, fun r hr => ?_⟩
      obtain ⟨j1, j2⟩ := i3 r hr
      have hg := fold_catP r.key ((mget s.1 v).getD []) M hnl
      rw [h.posn hr, posL_get] at hg
      have hpa : preAts w (v :: ws) r = atsOf (toksV r.t) v ++ preAts w ws r := by unfold preAts; rw [List.filter_cons_of_pos (p := fun s => preB s w) hp, List.flatMap_cons]
      rw [hpa]
      by_cases ha : atsOf (toksV r.t) v = []
      · rw [if_pos ha] at hg
        rw [j1, j2, hg, ha]; simp
      · rw [if_neg ha] at hg
        rw [j1, j2, hg]
        refine ⟨by simp, ?_⟩
        simp [ha]
    · have hst : preStep w s.1 M v = M := by unfold preStep; rw [if_neg hp]
      rw [hst]
      obtain ⟨i1, i2, i3⟩ := IxIs.pre_get h w ws M hn hk
      refine ⟨i1, i2, fun r hr => ?_⟩
      have hpa : preAts w (v :: ws) r = preAts w ws r := by unfold preAts; rw [List.filter_cons_of_neg (p := fun s => preB s w) (by simpa using hp)]
      rw [hpa]; exact i3 r hr
theorem pre_sum (w : ByteArray) (P : PL) : ∀ (ws : List ByteArray) (M : PM), placesL (ws.foldl (preStep w P) M) = placesL M + (ws.map fun s => if preB s w then placesL ((mget P s).getD []) else 0).sum
  | [], _ => by simp
  | v :: ws, M => by
    rw [List.foldl_cons, pre_sum w P ws]
    by_cases hp : preB v w = true
    · have hst : preStep w P M v = ((mget P v).getD []).foldl catP M := by unfold preStep; rw [if_pos hp]
      rw [hst, catP_sum, List.map_cons, List.sum_cons, if_pos hp]; omega
    · have hst : preStep w P M v = M := by unfold preStep; rw [if_neg hp]
      rw [hst, List.map_cons, List.sum_cons, if_neg hp]; omega
theorem ats_mem {T : List WordP} {s : ByteArray} {x : Int} (h : x ∈ atsOf T s) : (s, x) ∈ T := by
  unfold atsOf at h
  obtain ⟨p, hp, rfl⟩ := List.mem_map.1 h
  obtain ⟨h1, h2⟩ := List.mem_filter.1 hp
  have : p.1 = s := of_decide_eq_true h2
  rw [← this]; exact h1
theorem up_inj {T : List WordP} (h : T.Pairwise fun p q => p.2 < q.2) {p q : WordP} (hp : p ∈ T) (hq : q ∈ T) (e : p.2 = q.2) : p = q := by
  induction T with
  | nil => cases hp
  | cons x T ih =>
    have h' := List.pairwise_cons.1 h
    rcases List.mem_cons.1 hp with h1 | h1
    · rcases List.mem_cons.1 hq with h2 | h2
      · rw [h1, h2]
      · have := h'.1 q h2; rw [h1] at e; omega
    · rcases List.mem_cons.1 hq with h2 | h2
      · have := h'.1 p h1; rw [h2] at e; omega
      · exact ih h'.2 h1 h2
theorem flat_nodup {T : List WordP} (h : UpT T) : ∀ (ws : List ByteArray), ws.Nodup → (ws.flatMap fun s => atsOf T s).Nodup
  | [], _ => List.nodup_nil
  | v :: ws, hn => by
    have hn' := List.nodup_cons.1 hn
    rw [List.flatMap_cons, List.nodup_append]
    refine ⟨(ats_up h v).1.imp fun {a b} hab e => by omega, flat_nodup h ws hn'.2, fun a ha b hb e => ?_⟩
    subst e
    obtain ⟨s, hs, hb'⟩ := List.mem_flatMap.1 hb
    have := up_inj h.1 (ats_mem ha) (ats_mem hb') rfl
    have ev : v = s := congrArg Prod.fst this
    exact hn'.1 (by rw [ev]; exact hs)
theorem preAts_rises (w : ByteArray) {ws : List ByteArray} (hn : ws.Nodup) (r : Rec) (hne : preAts w ws r ≠ []) : risesB (sortI (preAts w ws r)) = true := by
  have hup := up_toks r.t
  have hnd : (preAts w ws r).Nodup := flat_nodup hup _ (List.Nodup.sublist List.filter_sublist hn)
  have hnd2 : (sortI (preAts w ws r)).Nodup := (sortI_perm _).nodup_iff.2 hnd
  have hle : (sortI (preAts w ws r)).Pairwise fun x y => x ≤ y := by
    have := List.pairwise_mergeSort (le := fun x y : Int => decide (x ≤ y)) (fun a b c h1 h2 => by simp only [decide_eq_true_eq] at *; omega) (fun a b => by rcases Int.le_total a b with h | h <;> simp [h]) (preAts w ws r)
    exact this.imp fun {a b} h => by simpa using h
  have hlt : (sortI (preAts w ws r)).Pairwise (· < ·) := (hle.and hnd2).imp fun {a b} h => by have := h.1; have := h.2; omega
  unfold risesB
  rw [rises_pw (fun x hx => ?_) hlt, Bool.true_and]
  · exact decide_eq_true fun e => hne (List.length_eq_zero_iff.1 (by rw [← sortI_length, e]; rfl))
  · have hx2 := (sortI_perm _).subset hx
    unfold preAts at hx2
    obtain ⟨s, -, hs⟩ := List.mem_flatMap.1 hx2
    have := (ats_up hup s).2 x hs
    omega
theorem preAts_len (w : ByteArray) {ws : List ByteArray} (hn : ws.Nodup) (r : Rec) : (preAts w ws r).length ≤ 121 := by
  have hnd : (preAts w ws r).Nodup := flat_nodup (up_toks r.t) _ (List.Nodup.sublist List.filter_sublist hn)
  have := nodup_sub (m := (toksV r.t).map Prod.snd) hnd fun x hx => by
    obtain ⟨s, -, hs⟩ := List.mem_flatMap.1 hx
    exact List.mem_map.2 ⟨(s, x), ats_mem hs, rfl⟩
  rw [List.length_map] at this
  exact Nat.le_trans this (toks_le121 r)
/-- What a prefix gives: in order, and what each key has. -/
theorem IxIs.pre {rs : List Rec} {s : PL × PW} (h : IxIs rs s) (w : ByteArray) {l : List PostP} (hp : List.Perm l (mm sortI (prefM w s.1))) (ho : l.Pairwise fun p q => before q.1 p.1 = false) :
    mayB l = true ∧ (mkeys l).Nodup ∧ (∀ p ∈ l, p.2.length ≤ 1000) ∧ (∀ r ∈ rs, ∀ v ∈ sortB (mkeys s.1), preB v w = true → ∀ at', mget (tok r) v = some at' → ∃ p ∈ l, p.1 = r.key ∧ at'.length ≤ p.2.length) := by
  have hwn : (sortB (mkeys s.1)).Nodup := (sortB_perm _).nodup_iff.2 h.ln
  obtain ⟨h1, h2, h3⟩ := h.pre_get w (sortB (mkeys s.1)) [] List.nodup_nil (fun k hk => by cases hk)
  have hkm : mkeys (mm sortI (prefM w s.1)) = mkeys (prefM w s.1) := by simp [mm, mkeys]
  have hln : (mkeys l).Nodup := by
    rw [(hp.map Prod.fst).nodup_iff]
    show (mkeys (mm sortI (prefM w s.1))).Nodup
    rw [hkm]; exact h1
  have hget : ∀ r ∈ rs, ∀ x, (r.key, x) ∈ l → preAts w (sortB (mkeys s.1)) r ≠ [] ∧ x = sortI (preAts w (sortB (mkeys s.1)) r) := fun r hr x hx => by
    have hx2 := hp.subset hx
    obtain ⟨e, he, hxe⟩ := List.mem_map.1 hx2
    obtain ⟨k, at'⟩ := e
    have hk : k = r.key := congrArg Prod.fst hxe
    have hxs : sortI at' = x := congrArg Prod.snd hxe
    rw [hk] at he
    have hg := mget_of_mem h1 he
    obtain ⟨h4, h5⟩ := h3 r hr
    have hne : preAts w (sortB (mkeys s.1)) r ≠ [] := fun e => by
      rw [h5.2 ⟨rfl, e⟩] at hg; cases hg
    have h6 : (mget (List.foldl (preStep w s.1) [] (sortB (mkeys s.1))) r.key).getD [] = preAts w (sortB (mkeys s.1)) r := by rw [h4]; rfl
    rw [hg] at h6
    have h7 : at' = preAts w (sortB (mkeys s.1)) r := h6
    exact ⟨hne, by rw [← hxs, h7]⟩
  have hmemr : ∀ p ∈ l, ∃ r ∈ rs, p.1 = r.key := fun p hpl => by
    have hx2 := hp.subset hpl
    obtain ⟨e, he, hxe⟩ := List.mem_map.1 hx2
    obtain ⟨r, hr, hk⟩ := List.mem_map.1 (h2 e.1 (List.mem_map.2 ⟨e, he, rfl⟩))
    exact ⟨r, hr, by rw [hk, ← hxe]⟩
  refine ⟨may_of ?_ fun p hpl => ?_, hln, fun p hpl => ?_, fun r hr v hv hpv at' hat => ?_⟩
  · have hk2 : l.Pairwise fun p q => p.1 ≠ q.1 := List.pairwise_map.1 hln
    refine (ho.and hk2).imp fun {a b} hab => ?_
    rcases before_total hab.2 with h4 | h4
    · exact h4
    · rw [hab.1] at h4; cases h4
  · obtain ⟨r, hr, hk⟩ := hmemr p hpl
    obtain ⟨h4, h5⟩ := hget r hr p.2 (by rw [← hk]; exact hpl)
    rw [h5]; exact preAts_rises w hwn r h4
  · obtain ⟨r, hr, hk⟩ := hmemr p hpl
    obtain ⟨h4, h5⟩ := hget r hr p.2 (by rw [← hk]; exact hpl)
    rw [h5, sortI_length]
    exact Nat.le_trans (preAts_len w hwn r) (by decide)
  · obtain ⟨h4, h5⟩ := h3 r hr
    have hsub : at'.length ≤ (preAts w (sortB (mkeys s.1)) r).length ∧ preAts w (sortB (mkeys s.1)) r ≠ [] := by
      rw [posL_get] at hat
      split at hat
      · cases hat
      · rename_i hne
        cases hat
        unfold preAts
        have hvf : v ∈ (sortB (mkeys s.1)).filter fun s => preB s w := List.mem_filter.2 ⟨hv, hpv⟩
        obtain ⟨l1, l2, e⟩ := List.append_of_mem hvf
        rw [e, List.flatMap_append, List.flatMap_cons]
        refine ⟨by simp only [List.length_append]; omega, fun e2 => hne ?_⟩
        have := congrArg List.length e2
        simp only [List.length_append, List.length_nil] at this
        exact List.length_eq_zero_iff.1 (by omega)
    cases hg : mget (List.foldl (preStep w s.1) [] (sortB (mkeys s.1))) r.key with
    | none => exact (hsub.2 (h5.1 hg).2).elim
    | some x =>
      have h6 : (mget (List.foldl (preStep w s.1) [] (sortB (mkeys s.1))) r.key).getD [] = preAts w (sortB (mkeys s.1)) r := by rw [h4]; rfl
      rw [hg] at h6
      have h7 : x = preAts w (sortB (mkeys s.1)) r := h6
      refine ⟨(r.key, sortI x), hp.symm.subset (List.mem_map.2 ⟨(r.key, x), mget_mem hg, rfl⟩), rfl, ?_⟩
      show at'.length ≤ (sortI x).length
      rw [sortI_length, h7]; exact hsub.1
theorem placesL_mm (M : PM) : placesL (mm sortI M) = placesL M := by
  unfold placesL mm
  rw [List.map_map]
  congr 1
  exact List.map_congr_left fun e _ => sortI_length
theorem IxIs.pre_places {s : PL × PW} (w : ByteArray) {l : List PostP} (hp : List.Perm l (mm sortI (prefM w s.1))) : placesL l = ((sortB (mkeys s.1)).map fun v => if preB v w then placesL ((mget s.1 v).getD []) else 0).sum := by
  have : placesL l = placesL (mm sortI (prefM w s.1)) := sum_perm hp
  rw [this, placesL_mm]
  unfold prefM
  rw [pre_sum]; simp [placesL]
theorem pre_le {P : PL} (hn : (mkeys P).Nodup) (w : ByteArray) : ((sortB (mkeys P)).map fun v => if preB v w then placesL ((mget P v).getD []) else 0).sum ≤ placesP P := by
  rw [← places_words hn]
  generalize sortB (mkeys P) = ws
  induction ws with
  | nil => exact Nat.le_refl _
  | cons v ws ih =>
    simp only [List.map_cons, List.sum_cons]
    split <;> omega
end Go.Proofs.YtmbikfojljnnkaaGreatDoor
