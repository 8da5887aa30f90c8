/- A map's entry, changed in place (m[k] += x). Nothing of the program stands here. -/
import Derived.Test.YthlnjkfahmebjaaDoorMap
namespace Go.Sl
open Go Go.Kv Go.ChangeMaps
section
variable {P : Program} {n : Nat} {w0 : World} {env : Env} {H : List HProp} {κ ν : Type}
theorem mput_get [DecidableEq κ] {m : List (κ × ν)} {k : κ} {v : ν} (h : mget m k = some v) : mput m k v = m := by
  induction m with
  | nil => cases h
  | cons p m ih =>
    obtain ⟨k', v'⟩ := p
    simp only [mget] at h
    simp only [mput]
    by_cases hk : k = k'
    · simp [hk] at h; subst h; simp [hk]
    · simp only [hk, if_false] at h ⊢; rw [ih h]
theorem mput_put [DecidableEq κ] (m : List (κ × ν)) (k : κ) (u v : ν) : mput (mput m k u) k v = mput m k v := by
  induction m with
  | nil => simp [mput]
  | cons p m ih =>
    obtain ⟨k', v'⟩ := p
    simp only [mput]
    by_cases hk : k = k'
    · subst hk; simp [mput]
    · simp only [hk, if_false, mput, ih]
theorem mput_none [DecidableEq κ] {k : κ} {v : ν} : ∀ (m : List (κ × ν)), mget m k = none → mput m k v = m ++ [(k, v)]
  | [], _ => rfl
  | (k', v') :: r, h => by
    simp only [mget] at h
    by_cases hk : k = k'
    · simp [hk] at h
    · simp only [hk, if_false] at h
      simp only [mput, hk, if_false, List.cons_append, mput_none r h]
/-- A map with an entry for k, whose stamp is known; m: what it was ahead. -/
def mpS [DecidableEq κ] (enck : κ → Value) (encv : ν → Value) (b : Nat) (m : List (κ × ν)) (z : ν) (k : κ) (st : Nat) : HProp := fun h => ∃ (ents : Array MapEntry) (clock i : Nat) (e : MapEntry), pt b (.map ents clock) h ∧ ents.toList.map (fun e => (e.key, e.val)) = (mput m k ((mget m k).getD z)).map (fun p => (enck p.1, encv p.2)) ∧ (mkeys (mput m k ((mget m k).getD z))).Nodup ∧
  (ents.toList.map (·.born)).Nodup ∧ (∀ e ∈ ents.toList, e.born < clock) ∧ ents[i]? = some e ∧ e.born = st ∧ (mput m k ((mget m k).getD z))[i]? = some (k, (mget m k).getD z) ∧ ∀ v', (mput m k ((mget m k).getD z)).set i (k, v') = mput m k v'
/-- What a look into a map gives. -/
def LkH (P : Program) (w0 : World) (H : List HProp) (T : TypeId) (b : Nat) (key u : Value) : Prop := ∀ w, Sat w0 w H → (Instr.lookup T (.map (some b)) key false).run P w = .ok u w
theorem rd_lookE {d : Option Tmp} {x y : Operand} {T ty : TypeId} {pos : String} {af : Array Edge} {g : Option (Nat × Bool)} {b : Nat} {key u : Value} (hx : ev env x = some (.map (some b))) (hy : ev env y = some key) (l : LkH P w0 H T b key u) :
    Rd P ⟨d, .lookup T x y false, ty, pos, af, g⟩ w0 env H u := fun ρ w e s => by
  refine run_v (s := Instr.lookup T (ρ x) (ρ y) false) ?_
  rw [e.eval hx, e.eval hy]; exact l w s
theorem lk_run [DecidableEq κ] {T K E : TypeId} {enck : κ → Value} {encv : ν → Value} {b : Nat} {m : List (κ × ν)} {k : κ} {z : ν} {w : World} {ents : Array MapEntry} {clock : Nat} (ht : P.underlying T = some (.map K E)) (kt : KeyT P K enck) (zv : ZV P E (encv z))
    (hb : w.heap[b]? = some (.map ents clock)) (he : ents.toList.map (fun e => (e.key, e.val)) = m.map (fun p => (enck p.1, encv p.2))) : (Instr.lookup T (.map (some b)) (enck k) false).run P w = .ok (encv ((mget m k).getD z)) w := by
  have hu : (underlying T).run P w = .ok (.map K E) w := by simp [underlying, ht, go_sem]
  unfold Instr.lookup
  simp only [Sem.run_bind, hu, run_getMap hb, Result.andThen_ok, Sem.run_pure, kt.check, find_in kt he]
  rcases seek_spec (encv := encv) (k := k) m 0 with ⟨h1, h2⟩ | ⟨j, u, h1, h2, -⟩
  · rw [h1, h2]; simp only [Sem.run_bind, zv.run, Result.andThen_ok, Sem.run_pure]; rfl
  · rw [h1, h2]; simp only [Sem.run_pure, Result.andThen_ok]; rfl
theorem LkH.mp [DecidableEq κ] {T K E : TypeId} {enck : κ → Value} {encv : ν → Value} {b : Nat} {m : List (κ × ν)} {k : κ} {z : ν} {H' : List HProp} (ht : P.underlying T = some (.map K E)) (kt : KeyT P K enck) (zv : ZV P E (encv z)) (t : Take (mp enck encv b m) H H') :
    LkH P w0 H T b (enck k) (encv ((mget m k).getD z)) := fun w s => by
  obtain ⟨h0, ⟨ents, clock, hp, he, -⟩, s'⟩ := (s.take t).toRo
  exact lk_run ht kt zv (s'.ro b _ hp.1) he
theorem LkH.mpS [DecidableEq κ] {T K E : TypeId} {enck : κ → Value} {encv : ν → Value} {b st : Nat} {m : List (κ × ν)} {k : κ} {z : ν} {H' : List HProp} (ht : P.underlying T = some (.map K E)) (kt : KeyT P K enck) (zv : ZV P E (encv z)) (t : Take (mpS enck encv b m z k st) H H') :
    LkH P w0 H T b (enck k) (encv ((mget m k).getD z)) := fun w s => by
  obtain ⟨h0, ⟨ents, clock, i, e, hp, he, -⟩, s'⟩ := (s.take t).toRo
  have := lk_run (k := k) ht kt zv (s'.ro b _ hp.1) he
  rwa [mget_put, if_pos rfl] at this
theorem ac_mapEntry [DecidableEq κ] {d : Option Tmp} {x y : Operand} {T K E ty : TypeId} {pos : String} {af : Array Edge} {g : Option (Nat × Bool)} {enck : κ → Value} {encv : ν → Value} {b : Nat} {m : List (κ × ν)} {k : κ} {z : ν} {H' : List HProp} (ht : P.underlying T = some (.map K E)) (kt : KeyT P K enck) (zv : ZV P E (encv z))
    (hx : ev env x = some (.map (some b))) (hy : ev env y = some (enck k)) (t : Take (mp enck encv b m) H H') :
    Ac P ⟨d, .mapEntry T x y, ty, pos, af, g⟩ w0 env H (fun v H'' => ∃ st : Nat, v = .tuple #[encv ((mget m k).getD z), .int .i64 st] ∧ H'' = mpS enck encv b m z k st :: H') := Ac.of_run fun ρ w r s => by
  have st := s.take t
  obtain ⟨h, le, h1, h2, dd, rfl, ⟨ents, clock, hp, he, hn, hb1, hb2⟩, hl⟩ := st.heap
  have hb := le b _ (Hp.un_left hp.1)
  have sat : Sat w0 w (pt b (.map ents clock) :: H') := ⟨st.os, st.tape, st.output, st.size, _, le, h1, h2, dd, rfl, hp, hl⟩
  have hu : (underlying T).run P w = .ok (.map K E) w := by simp [underlying, ht, go_sem]
  rcases seek_spec (encv := encv) (k := k) m 0 with ⟨g1, g2⟩ | ⟨j, u, g1, g2, g3, g4, -⟩
  · have hput : mput m k ((mget m k).getD z) = m ++ [(k, z)] := by rw [g2]; exact mput_none m g2
    have hrun : (Instr.mapEntry T (.map (some b)) (enck k)).run P w = .ok (.tuple #[encv z, .int .i64 clock]) { w with heap := w.heap.setIfInBounds b (.map (ents.push { key := enck k, val := encv z, born := clock }) (clock + 1)) } := by
      unfold Instr.mapEntry
      simp only [Sem.run_bind, hu, run_getMap hb, Result.andThen_ok, kt.check, find_in kt he, g1, zv.run, run_setMap hb, Sem.run_pure, goInt]
    have hl' := congrArg List.length he
    simp at hl'
    refine ⟨_, _, _, run_v (s := Instr.mapEntry T (ρ x) (ρ y)) (by rw [r.eval hx, r.eval hy]; exact hrun), ⟨clock, by rw [g2]; rfl, rfl⟩, (sat.setMap (o' := .map (ents.push { key := enck k, val := encv z, born := clock }) (clock + 1))).ent fun hh hpp => ⟨_, _, m.length, { key := enck k, val := encv z, born := clock }, hpp, ?_, nodup_put hn _ _, ?_, ?_, ?_, rfl, ?_, fun v' => ?_⟩⟩
    · rw [hput]; simp [he]
    · simp only [Array.toList_push, List.map_append, List.map_cons, List.map_nil]
      rw [List.nodup_append]
      refine ⟨hb1, by simp, fun a ha c hc e => ?_⟩
      simp at hc; subst hc; subst e
      obtain ⟨e, he', hee⟩ := List.mem_map.1 ha
      have := hb2 e he'; omega
    · intro e hee
      simp only [Array.toList_push, List.mem_append, List.mem_singleton] at hee
      rcases hee with hee | rfl
      · have := hb2 e hee; omega
      · simp
    · rw [Array.getElem?_push, if_pos hl'.symm]
    · rw [hput, g2]; simp
    · rw [hput, mput_none m g2]; simp
  · rw [Nat.zero_add] at g1
    have hj : j < m.length := (List.getElem?_eq_some_iff.1 g3).1
    have hjs : j < ents.size := by have := congrArg List.length he; simp at this; omega
    have hej : (ents[j].key, ents[j].val) = (enck k, encv u) := by
      have h1 : (ents.toList.map (fun e => (e.key, e.val)))[j]? = some (ents[j].key, ents[j].val) := by simp [hjs]
      rw [he] at h1
      simp [g3] at h1
      rw [← h1.1, ← h1.2]
    simp only [Prod.mk.injEq] at hej
    have hput : mput m k ((mget m k).getD z) = m := by rw [g2]; exact mput_get g2
    have hk : (Instr.keyThatStays (((ents[j]?).map (·.key)).getD (enck k)) (enck k)).run P w = .ok (enck k) w := by
      have : (((ents[j]?).map (·.key)).getD (enck k)) = enck k := by simp [hjs, hej.1]
      rw [this]; unfold Instr.keyThatStays; rw [if_pos (kt.same k)]; rfl
    have hsame : (ents.modify j fun e => { e with key := enck k }) = ents := by
      apply Array.ext_getElem?
      intro i
      rw [Array.getElem?_modify]
      by_cases hij : j = i
      · subst hij; simp only [if_true, hjs, Array.getElem?_eq_getElem, Option.map_some]; rw [← hej.1]
      · simp [hij]
    have hrun : (Instr.mapEntry T (.map (some b)) (enck k)).run P w = .ok (.tuple #[encv u, .int .i64 ents[j].born]) { w with heap := w.heap.setIfInBounds b (.map ents clock) } := by
      unfold Instr.mapEntry
      simp only [Sem.run_bind, hu, run_getMap hb, Result.andThen_ok, kt.check, find_in kt he, g1, hk, hsame, run_setMap hb, Sem.run_pure]
      simp [hjs, goInt]
    refine ⟨_, _, _, run_v (s := Instr.mapEntry T (ρ x) (ρ y)) (by rw [r.eval hx, r.eval hy]; exact hrun), ⟨ents[j].born, by rw [g2]; rfl, rfl⟩, (sat.setMap (o' := .map ents clock)).ent fun hh hpp => ⟨_, _, j, ents[j], hpp, by rw [hput]; exact he, by rw [hput]; exact hn, hb1, hb2, by simp [hjs], rfl, by rw [hput, g2]; exact g3, fun v' => by rw [hput]; exact g4 v'⟩⟩
theorem ac_entryStore [DecidableEq κ] {d : Option Tmp} {x y u : Operand} {T ty : TypeId} {pos : String} {af : Array Edge} {g : Option (Nat × Bool)} {enck : κ → Value} {encv : ν → Value} {b st : Nat} {m : List (κ × ν)} {k : κ} {z v : ν} {H' : List HProp}
    (hx : ev env x = some (.map (some b))) (hy : ev env y = some (.int .i64 st)) (hu : ev env u = some (encv v)) (t : Take (mpS enck encv b m z k st) H H') :
    Ac P ⟨d, .entryStore T x y u, ty, pos, af, g⟩ w0 env H (fun _ H'' => H'' = mp enck encv b (mput m k v) :: H') := Ac.of_skip fun ρ w r s => by
  have s1 := s.take t
  obtain ⟨h, le, h1, h2, dd, rfl, ⟨ents, clock, i, e, hp, he, hn, hb1, hb2, hi, hst, hmi, hset⟩, hl⟩ := s1.heap
  have hb := le b _ (Hp.un_left hp.1)
  have sat : Sat w0 w (pt b (.map ents clock) :: H') := ⟨s1.os, s1.tape, s1.output, s1.size, _, le, h1, h2, dd, rfl, hp, hl⟩
  have his : i < ents.size := (Array.getElem?_eq_some_iff.1 hi).1
  have hie : ents[i] = e := (Array.getElem?_eq_some_iff.1 hi).2
  have hfind : ents.findIdx? (fun e => (e.born : Int) == st) = some i := by
    rw [Array.findIdx?_eq_some_iff_getElem]
    refine ⟨his, by rw [hie, hst]; simp, fun j hji => ?_⟩
    have hjs : j < ents.size := by omega
    intro hc
    have hc' : ents[j].born = st := by have := eq_of_beq hc; omega
    have hnd := List.pairwise_iff_getElem.1 hb1 j i (by simpa using hjs) (by simpa using his) hji
    apply hnd
    simp [hc', hie, hst]
  have hrun : (Instr.entryStore T (.map (some b)) (.int .i64 st) (encv v)).run P w = .ok () { w with heap := w.heap.setIfInBounds b (.map (ents.modify i fun e => { e with val := encv v }) clock) } := by
    unfold Instr.entryStore
    simp only [Sem.run_bind, run_getMap hb, Result.andThen_ok, asInt, asIntOf, Sem.run_pure, hfind]
    exact run_setMap hb
  refine ⟨_, _, by rw [show (execOp ρ ⟨d, .entryStore T x y u, ty, pos, af, g⟩) = (do Instr.entryStore T (ρ x) (ρ y) (ρ u); Pure.pure Next.skip : Sem Next) from rfl, r.eval hx, r.eval hy, r.eval hu]; simp only [Sem.run_bind, hrun, Result.andThen_ok]; rfl, rfl, (sat.setMap (o' := .map (ents.modify i fun e => { e with val := encv v }) clock)).ent fun hh hpp => ⟨_, _, hpp, ?_, ?_, ?_, ?_⟩⟩
  · rw [← hset v]
    apply List.ext_getElem?
    intro q
    have hei : (ents.toList[q]?).map (fun e => (e.key, e.val)) = ((mput m k ((mget m k).getD z))[q]?).map (fun p => (enck p.1, encv p.2)) := by
      have := congrArg (·[q]?) he; simpa only [List.getElem?_map] using this
    have hlen : (mput m k ((mget m k).getD z)).length = ents.size := by have := congrArg List.length he; simp at this; omega
    simp only [Array.toList_modify, List.getElem?_map, List.getElem?_modify, List.getElem?_set]
    by_cases hiq : i = q
    · subst hiq
      have hti : ents.toList[i]? = some e := by simpa using hi
      rw [hti, hmi] at hei
      simp only [Option.map_some, Option.some.injEq, Prod.mk.injEq] at hei
      rw [hti]
      simp [hlen, his, hei.1]
    · simp only [hiq, if_false]
      rw [← hei]; cases ents.toList[q]? <;> simp
  · rw [mkeys_put] at hn ⊢; exact hn
  · have : ((ents.toList.modify i fun e => { e with val := encv v }).map (·.born)) = ents.toList.map (·.born) := by
      apply List.ext_getElem?
      intro q
      simp only [List.getElem?_map, List.getElem?_modify]
      cases ents.toList[q]? with
      | none => simp
      | some e => by_cases hiq : i = q <;> simp [hiq]
    rw [Array.toList_modify, this]; exact hb1
  · intro e' hee
    rw [Array.toList_modify] at hee
    obtain ⟨q, hq⟩ := List.mem_iff_getElem?.1 hee
    rw [List.getElem?_modify] at hq
    cases hx' : ents.toList[q]? with
    | none => rw [hx'] at hq; simp at hq
    | some e0 =>
      have := hb2 e0 (List.mem_of_getElem? hx')
      rw [hx'] at hq
      by_cases hiq : i = q <;> simp [hiq] at hq <;> subst hq <;> exact this
end
end Go.Sl
