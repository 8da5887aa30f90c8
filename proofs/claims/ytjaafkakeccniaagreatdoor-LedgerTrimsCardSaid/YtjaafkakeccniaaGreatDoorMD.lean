/- Texts that stand in one. -/
import Derived.Test.YtjaafkakeccniaaGreatDoorMore
import Derived.Laws.Small
import Derived.Test.YtjaafkakeccniaaGreatDoorMem
import Derived.Test.YtjaafkakeccniaaGreatDoorSlc
import Derived.Lib.Overlaps
import Derived.Lib.AppendZerosOnto
import Derived.Test.YtjaafkakeccniaaGreatDoorMap
import Derived.Lib.OthersKept
/- Yet more operations: cuts with three indexes, least and greatest, slices against nil, parts of strings. Nothing of the program stands here. -/
namespace Go.Sl
open Go
section
variable {P : Program} {n : Nat} {w0 : World} {env : Env} {H : List HProp} {d : Option Tmp} {x y z : Operand} {T T' ty : TypeId} {pos : String} {af : Array Edge} {g : Option (Nat × Bool)}
theorem pu_slice3H {u : Operand} {E sz by_ : Nat} {a : Option Addr} {l c : Nat} {k k' : IntKind} {i j : Int} (et : ET P T E sz by_) (hx : ev env x = some (.slice a l c)) (hz : ev env z = some (.int k i)) (hu : ev env u = some (.int k' j))
    (h0 : 0 ≤ i) (h1 : i ≤ j) (h2 : j ≤ c) : Pu P ⟨d, .slice T x none (some z) (some u), ty, pos, af, g⟩ env (.slice a i.toNat j.toNat) := fun ρ w e => by
  obtain ⟨inf, zz, ht, hi, -, rfl, rfl, -⟩ := et.ex
  refine run_v (s := Instr.sliceAt T (ρ x) none (some (ρ z)) (some (ρ u))) ?_
  rw [e.eval hx, e.eval hz, e.eval hu]
  have hu : (underlying T).run P w = .ok (.slice E) w := by simp [underlying, ht, go_sem]
  have hq : (sizeOf E).run P w = .ok inf.size w := by simp [sizeOf, typeInfo, hi, go_sem]
  have hb : (Instr.sliceBounds true l c none (some (.int k i)) (some (.int k' j))).run P w = .ok (0, i.toNat, j.toNat) w := by
    simp only [Instr.sliceBounds, if_true, Sem.run_bind, Sem.run_pure, Result.andThen_ok, run_bound (P := P) (w := w) (k := k') (code := .slice3Acap) (show 0 ≤ j by omega) h2, run_bound (P := P) (w := w) (k := k) (code := .slice3B) h0 (show i ≤ (j.toNat : Int) by omega)]
  unfold Instr.sliceAt Instr.slice
  simp only [Sem.run_bind, hu, hb, hq, Result.andThen_ok, Nat.sub_zero, Nat.zero_mul]
  have ha : (if j.toNat = 0 then a else a.map (·.add 0)) = a := by
    split
    · rfl
    · cases a with
      | none => rfl
      | some p => rfl
  rw [ha]; rfl
theorem pu_max {k k' : IntKind} {i j : Int} {ts : Array TypeId} (h : ev env x = some (.int k i)) (h' : ev env y = some (.int k' j)) : Pu P ⟨d, .call ⟨.builtin .max, #[x, y], ts⟩, ty, pos, af, g⟩ env (.int k (max i j)) := fun ρ w e => by
  have hm : (if j > i then j else i) = max i j := by split <;> omega
  have := run_max_int2 (P := P) (w := w) ts ty k k' i j
  simp [execOp, resolve, invoke, builtin, e.eval h, e.eval h', this, go_sem, hm]
theorem pu_min {k k' : IntKind} {i j : Int} {ts : Array TypeId} (h : ev env x = some (.int k i)) (h' : ev env y = some (.int k' j)) : Pu P ⟨d, .call ⟨.builtin .min, #[x, y], ts⟩, ty, pos, af, g⟩ env (.int k (min i j)) := fun ρ w e => by
  have hm : (if j < i then j else i) = min i j := by split <;> omega
  have := run_min_int2 (P := P) (w := w) ts ty k k' i j
  simp [execOp, resolve, invoke, builtin, e.eval h, e.eval h', this, go_sem, hm]
theorem equal_slice_nil {t e : TypeId} (w : World) (a : Option Addr) (n c n' c' : Nat) (h : P.underlying t = some (.slice e)) : (Op.equal t (.slice a n c) (.slice none n' c')).run P w = .ok a.isNone w := by
  have : ∀ d : Nat, (Op.equalIn (d + 1) t (.slice a n c) (.slice none n' c')).run P w = .ok a.isNone w := fun d => by
    cases a <;> simp [Op.equalIn, run_underlying h]
  exact this 9999
theorem pu_eqL {E l c l' c' : Nat} {a : Option Addr} (ht : P.underlying T = some (.slice E)) (h : ev env x = some (.slice a l c)) (h' : ev env y = some (.slice none l' c')) : Pu P ⟨d, .binOp .eql T x y T', ty, pos, af, g⟩ env (.bool a.isNone) := fun ρ w e => by
  refine run_v (s := do eqGuard .eql T x y (ρ x) (ρ y); binOp .eql T (ρ x) (ρ y)) ?_
  rw [e.eval h, e.eval h']
  have : (do eqGuard .eql T x y (.slice a l c) (.slice none l' c'); binOp .eql T (.slice a l c) (.slice none l' c') : Sem Value) = (do pure (.bool (← Op.equal T (.slice a l c) (.slice none l' c')))) := by cases a <;> rfl
  rw [this]; simp only [Sem.run_bind, equal_slice_nil w a l c l' c' ht, Result.andThen_ok]; rfl
theorem pu_neL {E l c l' c' : Nat} {a : Option Addr} (ht : P.underlying T = some (.slice E)) (h : ev env x = some (.slice a l c)) (h' : ev env y = some (.slice none l' c')) : Pu P ⟨d, .binOp .neq T x y T', ty, pos, af, g⟩ env (.bool a.isSome) := fun ρ w e => by
  refine run_v (s := do eqGuard .neq T x y (ρ x) (ρ y); binOp .neq T (ρ x) (ρ y)) ?_
  rw [e.eval h, e.eval h']
  have : (do eqGuard .neq T x y (.slice a l c) (.slice none l' c'); binOp .neq T (.slice a l c) (.slice none l' c') : Sem Value) = (do pure (.bool (!(← Op.equal T (.slice a l c) (.slice none l' c'))))) := by cases a <;> rfl
  rw [this]; simp only [Sem.run_bind, equal_slice_nil w a l c l' c' ht, Result.andThen_ok]; cases a <;> rfl
end
section
variable {α : Type} {w0 : World} {n : Nat} {env : Env} {H : List HProp} {X : Act → World → Prop}
/-- A slice cut down, its room with it. -/
theorem sl_room {E sz : Nat} {enc : α → List Value} {a : Option Addr} {c : Nat} {xs : List α} (k : Nat) (hk : k ≤ xs.length) : ∀ h, sl E sz enc a c xs h → sl E sz enc a k (xs.take k) h := fun h x => by
  rcases x with ⟨rfl, rfl, rfl⟩ | ⟨b, off, cells, rfl, hp, h1, h2, h3⟩
  · obtain rfl : k = 0 := by simpa using hk
    exact .inl ⟨rfl, rfl, rfl⟩
  · refine .inr ⟨b, off, cells, rfl, hp, by simp; omega, ?_, fun i y hi j v hj => h3 i y ?_ j v hj⟩
    · have := Nat.mul_le_mul_right sz (Nat.le_trans hk h1); omega
    · rw [List.getElem?_take] at hi; split at hi
      · exact hi
      · cases hi
theorem Srd.cutH {sz : Nat} {enc : α → List Value} {A : HProp} {a : Option Addr} {xs : List α} (S : Srd A sz enc a xs) (k c : Nat) (hc : xs.length ≤ c) : Srd A sz enc (suba a 0 c sz) (xs.take k) := fun w1 _ _ t => (S w1 _ _ t).cutH k c hc
theorem Srd.cutL {sz : Nat} {enc : α → List Value} {A : HProp} {a : Option Addr} {xs : List α} (S : Srd A sz enc a xs) (k c : Nat) (hc : xs.length ≤ c) : Srd A sz enc (suba a k c sz) (xs.drop k) := fun w1 _ _ t => (S w1 _ _ t).cutL k c hc
theorem Srd.pre {sz : Nat} {enc : α → List Value} {A : HProp} {a : Option Addr} {xs ys : List α} (S : Srd A sz enc a (xs ++ ys)) : Srd A sz enc a xs := fun w1 _ _ t => (S w1 _ _ t).pre
theorem Gs.slRoom {E sz : Nat} {enc : α → List Value} {a : Option Addr} {c : Nat} {xs : List α} {H' : List HProp} (k : Nat) (hk : k ≤ xs.length) (t : Take (sl E sz enc a c xs) H H') (g : Gs w0 n env (sl E sz enc a k (xs.take k) :: H') X) : Gs w0 n env H X :=
  fun ac w e s => g ac w e ((s.take t).ent (sl_room k hk))
end
end Go.Sl

/- Ends of bodies with three results and more. Nothing of the program stands here. -/
namespace Go.Sl
open Go
section
variable {w0 : World} {n : Nat} {env : Env} {H : List HProp} {P : Program} {fn : Func} {post : Value → List HProp → Prop} {R : List HProp}
theorem results_3 {t u x : Nat} (hr : fn.results = #[.tmp t, .tmp u, .tmp x]) {tmps : Array Value} {w : World} {a b c : Value} (h : tmps.getD t undef = a) (k : tmps.getD u undef = b) (l : tmps.getD x undef = c) : (results fn tmps).run P w = .ok (.tuple #[a, b, c]) w := by
  have h' : tmps[t]?.getD undef = a := by rw [← h, Array.getD_eq_getD_getElem?]
  have k' : tmps[u]?.getD undef = b := by rw [← k, Array.getD_eq_getD_getElem?]
  have l' : tmps[x]?.getD undef = c := by rw [← l, Array.getD_eq_getD_getElem?]
  unfold results; rw [hr]; simp [h', k', l']
theorem results_4 {t u x y : Nat} (hr : fn.results = #[.tmp t, .tmp u, .tmp x, .tmp y]) {tmps : Array Value} {w : World} {a b c d : Value} (h : tmps.getD t undef = a) (k : tmps.getD u undef = b) (l : tmps.getD x undef = c) (m : tmps.getD y undef = d) : (results fn tmps).run P w = .ok (.tuple #[a, b, c, d]) w := by
  have h' : tmps[t]?.getD undef = a := by rw [← h, Array.getD_eq_getD_getElem?]
  have k' : tmps[u]?.getD undef = b := by rw [← k, Array.getD_eq_getD_getElem?]
  have l' : tmps[x]?.getD undef = c := by rw [← l, Array.getD_eq_getD_getElem?]
  have m' : tmps[y]?.getD undef = d := by rw [← m, Array.getD_eq_getD_getElem?]
  unfold results; rw [hr]; simp [h', k', l', m']
theorem results_c3 {t u x T : Nat} (hr : fn.results = #[.cell t T, .tmp u, .tmp x]) {tmps : Array Value} {w : World} {A : Addr} {v a b : Value} (h : tmps.getD t undef = .pointer (some A)) (k : tmps.getD u undef = a) (l : tmps.getD x undef = b) (hl : (loadVar T A).run P w = .ok v w) : (results fn tmps).run P w = .ok (.tuple #[v, a, b]) w := by
  have h' : tmps[t]?.getD undef = .pointer (some A) := by rw [← h, Array.getD_eq_getD_getElem?]
  have k' : tmps[u]?.getD undef = a := by rw [← k, Array.getD_eq_getD_getElem?]
  have l' : tmps[x]?.getD undef = b := by rw [← l, Array.getD_eq_getD_getElem?]
  unfold results; rw [hr]; simp [asAddr, h', hl, k', l']
theorem Gs.fin3 {t u x : Nat} {a b c : Value} (hr : fn.results = #[.tmp t, .tmp u, .tmp x]) (h : lk env t = some a) (k : lk env u = some b) (l : lk env x = some c) (hs : List HProp) (hp : post (.tuple #[a, b, c]) hs) (hH : Ent H (hs ++ R)) :
    Gs w0 n env H (bodyPost P fn (fun e w' => ∃ v hs, e = .returned v ∧ post v hs ∧ Sat w0 w' (hs ++ R)) .ret) := fun ac w e s =>
  ⟨e.defers, _, results_3 hr (e.slots t _ h) (e.slots u _ k) (e.slots x _ l), _, hs, rfl, hp, hH.sat s⟩
theorem Gs.fin4 {t u x y : Nat} {a b c d : Value} (hr : fn.results = #[.tmp t, .tmp u, .tmp x, .tmp y]) (h : lk env t = some a) (k : lk env u = some b) (l : lk env x = some c) (m : lk env y = some d) (hs : List HProp) (hp : post (.tuple #[a, b, c, d]) hs) (hH : Ent H (hs ++ R)) :
    Gs w0 n env H (bodyPost P fn (fun e w' => ∃ v hs, e = .returned v ∧ post v hs ∧ Sat w0 w' (hs ++ R)) .ret) := fun ac w e s =>
  ⟨e.defers, _, results_4 hr (e.slots t _ h) (e.slots u _ k) (e.slots x _ l) (e.slots y _ m), _, hs, rfl, hp, hH.sat s⟩
theorem Gs.finc3 {t u x T k b : Nat} {vs : List Value} {y z : Value} (hr : fn.results = #[.cell t T, .tmp u, .tmp x]) (ag : AG P T k) (h : lk env t = some (.pointer (some ⟨b, 0, none⟩))) (r : Rdc w0 H b 0 vs) (hk : vs.length = k) (hu : lk env u = some y) (hx : lk env x = some z) (hs : List HProp) (hp : post (.tuple #[.agg vs.toArray, y, z]) hs) (hH : Ent H (hs ++ R)) :
    Gs w0 n env H (bodyPost P fn (fun e w' => ∃ v hs, e = .returned v ∧ post v hs ∧ Sat w0 w' (hs ++ R)) .ret) := fun ac w e s =>
  ⟨e.defers, _, results_c3 hr (e.slots t _ h) (e.slots u _ hu) (e.slots x _ hx) (run_lda ag r hk s), _, hs, rfl, hp, hH.sat s⟩
end
end Go.Sl

/- copy into an owned slice; append of what is made; two rows that do not overlap. Nothing of the program stands here. -/
namespace Go.Sl
open Go
theorem plain_of_one {v : Value} (h : v.oneCell' = true) : plain v = true := by
  cases v <;> first | rfl | (simp [Value.oneCell'] at h)
section
variable {P : Program} {w0 : World} {n : Nat} {env : Env} {H : List HProp} {α : Type}
theorem pu_cap {d : Option Tmp} {x : Operand} {T E ty : TypeId} {pos : String} {af : Array Edge} {g : Option (Nat × Bool)} {a : Option Addr} {l c : Nat} (ht : P.underlying T = some (.slice E)) (hx : ev env x = some (.slice a l c)) :
    Pu P ⟨d, .call ⟨.builtin .cap, #[x], #[T]⟩, ty, pos, af, g⟩ env (.int .i64 c) := fun ρ w e => by
  have hu : (underlying T).run P w = .ok (.slice E) w := by simp [underlying, ht, go_sem]
  simp [execOp, resolve, invoke, builtin, Builtin.cap_, e.eval hx, hu, go_sem, goInt]
theorem SlH.cutS {sz b o : Nat} {enc : α → List Value} {xs : List α} (S : SlH w0 H sz enc (some ⟨b, o, none⟩) xs) (i c : Nat) (hi : i < c) (hc : xs.length ≤ c) : SlH w0 H sz enc (some ⟨b, o + i * sz, none⟩) (xs.drop i) := by
  have h := S.cutL i c hc
  rwa [suba_some (by omega)] at h
theorem getElem?_put {xs ys : List α} {p i : Nat} {y : α} (hp : p ≤ xs.length) (h : (xs.take p ++ ys ++ xs.drop (p + ys.length))[i]? = some y) :
    (∃ k, i = p + k ∧ ys[k]? = some y) ∨ ((i < p ∨ p + ys.length ≤ i) ∧ xs[i]? = some y) := by
  have hl : (xs.take p).length = p := by rw [List.length_take]; omega
  rcases append_getElem? h with h | ⟨k, rfl, h2⟩
  · rcases append_getElem? h with h | ⟨k, rfl, h2⟩
    · have hi := (List.getElem?_eq_some_iff.1 h).1
      rw [List.getElem?_take] at h
      split at h
      · exact .inr ⟨.inl (by omega), h⟩
      · cases h
    · exact .inl ⟨k, by rw [hl], h2⟩
  · rw [List.getElem?_drop] at h2
    rw [List.length_append, hl]
    exact .inr ⟨.inr (by omega), h2⟩
/-- copy(d, s) into an owned slice, from its place p on. -/
theorem ac_cp {d : Option Tmp} {x y : Operand} {T tx E sz ty : Nat} {pos : String} {af : Array Edge} {g : Option (Nat × Bool)} {enc : α → List Value} {b off o c p dl dc sl_ sc : Nat} {xs ys : List α} {asr : Option Addr} {H' : List HProp}
    (ht : P.underlying T = some (.slice E)) (hz : SZ P E sz) (e : EncOk sz enc) (hx : ev env x = some (.slice (some ⟨b, o, none⟩) dl dc)) (ho : o = off + p * sz) (hy : ev env y = some (.slice asr sl_ sc)) (hn : ys.length = Nat.min sl_ dl)
    (t : Take (sl E sz enc (some ⟨b, off, none⟩) c xs) H H') (S : SlH w0 H sz enc asr ys) (hp : p ≤ xs.length) (hc : p + ys.length ≤ c) :
    Ac P ⟨d, .call ⟨.builtin .copy, #[x, y], #[T, tx]⟩, ty, pos, af, g⟩ w0 env H (fun v H'' => v = .int .i64 ys.length ∧ H'' = sl E sz enc (some ⟨b, off, none⟩) c (xs.take p ++ ys ++ xs.drop (p + ys.length)) :: H') := Ac.of_run fun ρ w r s => by
  have st := s.take t
  have hu : (underlying T).run P w = .ok (.slice E) w := by simp [underlying, ht, go_sem]
  have hf : (Builtin.firstCells sz ys.length (.slice asr sl_ sc)).run P w = .ok (ys.flatMap enc).toArray w := by
    by_cases h0 : ys = []
    · subst h0
      cases asr <;> simp [Builtin.firstCells, loadCells, loadCellsFrom, go_sem]
    · obtain ⟨b', off', rfl, hcell⟩ := S w s h0
      refine run_firstCells_some w sz ys.length ⟨b', off', none⟩ sl_ sc _ (e.flat ys) fun j u hj => ?_
      obtain ⟨i, j', z, rfl, hj', hz', hv⟩ := e.inv ys j u hj
      have := hcell i z hz' j' u hv
      show w.cell? _ = _
      unfold Addr.add; split
      · rename_i h; rw [h] at this; simpa using this
      · exact this
  obtain ⟨h, le, h1, h2, dd, rfl, hs, hl'⟩ := st.heap
  rcases hs with ⟨h0, -, -⟩ | ⟨b', off', cells, hb, hpt, hlen, hroom, hxs⟩
  · cases h0
  · cases hb
    have s1 : Sat w0 w (cl b E cells.toList :: H') := ⟨st.os, st.tape, st.output, st.size, _, le, h1, h2, dd, rfl, by simpa [cl] using hpt, hl'⟩
    have hfit : o + (ys.flatMap enc).length ≤ cells.toList.length := by
      rw [e.flat, ho, Nat.add_assoc, ← Nat.add_mul, Array.length_toList (xs := cells)]
      exact Nat.le_trans (Nat.add_le_add_left (Nat.mul_le_mul_right _ hc) _) hroom
    obtain ⟨ds, g1, g2, g3, g4⟩ := lay_ex cells.toList o _ hfit
    obtain ⟨w', hw, s'⟩ := run_stores (P := P) _ 0 o cells.toList ds w s1 (fun v hv => plain_of_one (e.ones ys v hv)) (by simpa using g1)
    refine ⟨_, _, w', ?_, ⟨rfl, rfl⟩, s'.ent fun hh hcc => .inr ⟨b, off, ds.toArray, rfl, hcc, ?_, by simp [g2]; exact hroom, fun i u hi j v hv => ?_⟩⟩
    · show (do Pure.pure (Next.value (← Builtin.copy_ #[T, tx] ty (#[x, y].map ρ))) : Sem Next).run P w = _
      rw [show #[x, y].map ρ = #[ρ x, ρ y] by simp, r.eval hx, r.eval hy]
      refine run_v ?_
      simp only [Builtin.copy_, Builtin.lenOf, List.getElem?_toArray, List.getElem?_cons_zero, List.getElem?_cons_succ, Sem.run_bind, Sem.run_pure, hu, hz.run, Result.andThen_ok, ← hn, hf, hw]
      rfl
    · simp only [List.length_append, List.length_take, List.length_drop]; omega
    · have hjl : j < sz := by rw [← e.len u]; exact (List.getElem?_eq_some_iff.1 hv).1
      simp only [List.getElem?_toArray]
      rcases getElem?_put hp hi with ⟨k, rfl, hk⟩ | ⟨hio, hk⟩
      · have hat := e.at ys k j u v hk hv
        have := g3 _ v hat
        rwa [show o + (k * sz + j) = off + ((p + k) * sz + j) by rw [ho, Nat.add_mul]; omega] at this
      · rw [g4 _ (by
          rw [e.flat, ho]
          rcases hio with h | h
          · left
            have : (i + 1) * sz ≤ p * sz := Nat.mul_le_mul_right _ h
            rw [Nat.succ_mul] at this; omega
          · right
            have : (p + ys.length) * sz ≤ i * sz := Nat.mul_le_mul_right _ h
            rw [Nat.add_mul] at this; omega)]
        have := hxs i u hk j v hv
        simpa using this
theorem zeros_at {z : Value} {zc : List Value} (hz : z.cells = zc.toArray) (m i j : Nat) (v : Value) (hi : i < m) (hv : zc[j]? = some v) : (Builtin.zeroCells z.cells m)[i * zc.length + j]? = some v := by
  have hj := (List.getElem?_eq_some_iff.1 hv).1
  have hlt : i * zc.length + j < m * zc.length := by
    have : (i + 1) * zc.length ≤ m * zc.length := Nat.mul_le_mul_right _ hi
    rw [Nat.succ_mul] at this; omega
  simp only [Builtin.zeroCells, hz, Array.getElem?_map, List.size_toArray, Array.getElem?_range]
  rw [if_pos hlt]
  simp only [Option.map_some]
  have hm : (i * zc.length + j) % zc.length = j := by rw [Nat.mul_comm, Nat.mul_add_mod, Nat.mod_eq_of_lt hj]
  rw [hm]
  obtain ⟨h1, h2⟩ := List.getElem?_eq_some_iff.1 hv
  rw [getElem!_pos zc.toArray j (by simpa using hj)]
  simp [h2]
/-- append(s, make(.., k)...) where there is no room. -/
theorem ac_appendZ {d : Option Tmp} {x y : Operand} {T tn E sz by_ ty k c l : Nat} {kq kn : IntKind} {pos : String} {af : Array Edge} {g : Option (Nat × Bool)} {enc : α → List Value} {a : Option Addr} {xs : List α} {z0 : α}
    (et : ET P T E sz by_) (hzv : ZV P E (.agg (enc z0).toArray) ∨ ∃ u, enc z0 = [u] ∧ ZV P E u ∧ u.cells = #[u]) (htn : P.underlying tn = some (.int kn)) (e : EncOk sz enc) (hx : ev env x = some (.slice a l c)) (hl : l = xs.length) (hy : ev env y = some (.int kq (k : Int))) (S : SlH w0 H sz enc a xs)
    (h0 : 0 < k) (hs : 0 < sz) (hg : c < xs.length + k) (hb : (xs.length + k) * by_ ≤ 140737488355328) (hm : xs.length + k ≤ 9223372036854775807) :
    Ac P ⟨d, .call ⟨.builtin .append, #[x, y], #[T, tn]⟩, ty, pos, af, g⟩ w0 env H (fun v H'' => ∃ b' c', v = .slice (some ⟨b', 0, none⟩) (xs.length + k) c' ∧ xs.length + k ≤ c' ∧ H'' = sl E sz enc (some ⟨b', 0, none⟩) c' (xs ++ List.replicate k z0) :: H) := Ac.of_run fun ρ w r s => by
  obtain ⟨i, z, ht, hi, hz, rfl, rfl, hzs⟩ := et.ex
  subst hl
  have hzc : z.cells = (enc z0).toArray := by
    have hrun : (zeroValue E).run P w = .ok z w := by simp [zeroValue, typeInfo, hi, hz, go_sem]
    rcases hzv with h | ⟨u, hu, h, huc⟩
    · have h2 := h.run w
      have h3 : Result.ok z w = .ok (.agg (enc z0).toArray) w := hrun.symm.trans h2
      cases h3; rfl
    · have h2 := h.run w
      have h3 : Result.ok z w = .ok u w := hrun.symm.trans h2
      cases h3; rw [huc, hu]
  have hold : (Builtin.firstCells i.size xs.length (.slice a xs.length c)).run P w.drew = .ok (xs.flatMap enc).toArray w.drew := by
    by_cases h0 : xs = []
    · subst h0
      cases a <;> simp [Builtin.firstCells, loadCells, loadCellsFrom, go_sem]
    · obtain ⟨b', off', rfl, hcell⟩ := S w s h0
      refine run_firstCells_some w.drew i.size xs.length ⟨b', off', none⟩ xs.length c _ (e.flat xs) fun j u hj => ?_
      obtain ⟨q, j', y', rfl, hj', hz', hv⟩ := e.inv xs j u hj
      have := hcell q y' hz' j' u hv
      show w.cell? _ = _
      unfold Addr.add; split
      · rename_i h; rw [h] at this; simpa using this
      · exact this
  have hk48 : k * i.bytes ≤ 281474976710656 := by rw [Nat.add_mul] at hb; omega
  have hrun := Lib.run_append_grow_zeros w T tn ty E i z kq kn ht htn hi hz a xs.length c _ hold k h0 hs hg (by omega) hk48 (growslice_fits hg hb)
  refine ⟨.slice (some ⟨w.heap.size, 0, none⟩) (xs.length + k) (grownCap w (xs.length + k) c E), _, w.drew.alloc (.cells ((xs.flatMap enc).toArray ++ Builtin.zeroCells z.cells k ++ Builtin.zeroCells z.cells (grownCap w (xs.length + k) c E - (xs.length + k))) E), ?_, ⟨w.heap.size, grownCap w (xs.length + k) c E, rfl, grownCap_ge .., rfl⟩, ?_⟩
  · show (do pure (Next.value (← Builtin.append_ #[T, tn] ty (#[x, y].map ρ))) : Sem Next).run P w = _
    rw [show #[x, y].map ρ = #[ρ x, ρ y] by simp, r.eval hx, r.eval hy]
    exact run_v hrun
  · have hlen : (enc z0).length = i.size := e.len z0
    have hge := grownCap_ge w (xs.length + k) c E
    have sat1 : Sat w0 w.drew H := s.drew
    refine (sat1.alloc _).ent (sl_new (by simpa using hge) ?_ ?_)
    · simp only [Array.size_append, List.size_toArray, e.flat, Builtin.zeroCells, Array.size_map, Array.size_range, hzc, hlen]
      rw [← Nat.add_mul, ← Nat.add_mul]; exact Nat.mul_le_mul_right _ (by omega)
    · intro q y' hq j v hv
      have hj : j < i.size := by rw [← e.len y']; exact (List.getElem?_eq_some_iff.1 hv).1
      rcases append_getElem? hq with hq1 | ⟨m, rfl, hq2⟩
      · have hat := e.at xs q j y' v hq1 hv
        have hlt := (List.getElem?_eq_some_iff.1 hat).1
        rw [Array.getElem?_append_left (by simp only [Array.size_append, List.size_toArray]; omega), Array.getElem?_append_left (by simpa using hlt)]
        simpa using hat
      · have hm' : m < k := by have := (List.getElem?_eq_some_iff.1 hq2).1; simpa using this
        rw [List.getElem?_replicate, if_pos hm'] at hq2
        cases hq2
        have hza := zeros_at hzc k m j v hm' hv
        rw [hlen] at hza
        have hlt := (Array.getElem?_eq_some_iff.1 hza).1
        rw [Array.getElem?_append_left (by simp only [Array.size_append, List.size_toArray, e.flat]; rw [Nat.add_mul]; omega), Array.getElem?_append_right (by simp only [List.size_toArray, e.flat]; rw [Nat.add_mul]; omega)]
        simp only [List.size_toArray, e.flat]
        rw [show (xs.length + m) * i.size + j - xs.length * i.size = m * i.size + j by rw [Nat.add_mul]; omega]
        exact hza
/-- slices.overlaps of two owned slices in two blocks. -/
theorem rd_overlaps {β : Type} {d : Option Tmp} {x y : Operand} {f : FuncId} {fn : Func} {T R E sz sz' ty : Nat} {ts : Array TypeId} {pos : String} {af : Array Edge} {g : Option (Nat × Bool)} {enc : α → List Value} {enc' : β → List Value} {b o off c l lc b2 o2 off2 c2 l2 lc2 : Nat} {xs : List α} {ys : List β} {H' H'' : List HProp}
    (hf : P.funcs[f]? = some fn) (hname : (fn.name == "runtime.NumGoroutine") = false) (hb : fn.body.isNone = true) (hn : Extern.findNext fn = none) (he : Extern.find fn = some (Extern.SlicesOverlaps.overlaps #[T, T] #[R]))
    (ht : P.underlying T = some (.slice E)) (hz : SZ P E sz') (hx : ev env x = some (.slice (some ⟨b, o, none⟩) l lc)) (hy : ev env y = some (.slice (some ⟨b2, o2, none⟩) l2 lc2))
    (t : Take (sl E sz enc (some ⟨b, off, none⟩) c xs) H H') (t2 : Take (sl E sz enc' (some ⟨b2, off2, none⟩) c2 ys) H' H'') (h0 : 0 < c2 * sz) :
    Rd P ⟨d, .call ⟨.value (.func f), #[x, y], ts⟩, ty, pos, af, g⟩ w0 env H (.bool false) := fun ρ w r s => by
  have st := (s.take t).takes (As := [sl E sz enc (some ⟨b, off, none⟩) c xs, sl E sz enc' (some ⟨b2, off2, none⟩) c2 ys]) (.cons .hd (.cons t2 .nil))
  obtain ⟨h, le, h1, h2, dd, rfl, hs, h3, h4, dd2, rfl, hs2, -⟩ := st.heap
  rcases hs with ⟨e0, -, -⟩ | ⟨b', off', cells, hbe, hpt, hlen, hroom, hxs⟩
  · cases e0
  rcases hs2 with ⟨e0, -, -⟩ | ⟨b2', off2', cells2, hbe2, hpt2, hlen2, hroom2, hxs2⟩
  · cases e0
  cases hbe; cases hbe2
  have k1 : w.heap[b]? = some (.cells cells E (0, 0)) := le b _ (Hp.un_left hpt.1)
  have k2 : w.heap[b2]? = some (.cells cells2 E (0, 0)) := le b2 _ (Hp.un_right dd (Hp.un_left hpt2.1))
  have hne : b ≠ b2 := by
    rintro rfl
    have q1 := hpt.1
    have q2 : (h3.un h4) b = some (.cells cells2 E (0, 0)) := Hp.un_left hpt2.1
    rcases dd b with e | e
    · rw [q1] at e; cases e
    · rw [q2] at e; cases e
  have hsh1 : w.shape? b = some (E, cells.size) := by simp [World.shape?, k1]
  have hsh2 : w.shape? b2 = some (E, cells2.size) := by simp [World.shape?, k2]
  have hrun := Lib.run_overlaps_apart (P := P) w T R E ht sz' hz.run ⟨b, o, none⟩ ⟨b2, o2, none⟩ l lc l2 lc2 hne E E cells.size cells2.size hsh1 hsh2 (by omega) (by simp [World.frozen?, k1]) (by simp [World.frozen?, k1])
  show (do let d ← resolve ρ ⟨.value (.func f), #[x, y], ts⟩ ty; invoke d.target d.args : Sem Next).run P w = _
  have h1 : resolve ρ ⟨.value (.func f), #[x, y], ts⟩ ty = (pure ⟨.fn (.func f) #[], #[.slice (some ⟨b, o, none⟩) l lc, .slice (some ⟨b2, o2, none⟩) l2 lc2]⟩ : Sem Deferred) := by
    simp only [resolve, r.eval (x := .func f) rfl, Deferred.ofValue]
    show (pure ⟨Target.fn (.func f) #[], #[] ++ #[x, y].map ρ⟩ : Sem Deferred) = _
    rw [show #[x, y].map ρ = #[ρ x, ρ y] by simp, r.eval hx, r.eval hy]; simp
  rw [h1]
  simp only [Sem.run_bind, Sem.run_pure, Result.andThen_ok, invoke]
  have := run_callFunc_extern hf hname hb hn he #[.slice (some ⟨b, o, none⟩) l lc, .slice (some ⟨b2, o2, none⟩) l2 lc2] w
  rw [hrun] at this
  simpa using this
end
end Go.Sl

/- Many assertions as one. Nothing of the program stands here. -/
namespace Go.Sl
open Go
section
variable {w0 w : World} {n : Nat} {env : Env} {H : List HProp} {X : Act → World → Prop}
theorem Sat.bigs {L M : List HProp} : Sat w0 w (big L :: M) ↔ Sat w0 w (L ++ M) :=
  ⟨fun s => s.imp fun _ x => big_append.2 x, fun s => s.imp fun _ x => big_append.1 x⟩
theorem Take.mid {A : HProp} : ∀ (L M : List HProp), Take A (L ++ A :: M) (L ++ M)
  | [], _ => .hd
  | B :: L, M => .tl (Take.mid L M)
theorem Sat.mid {A : HProp} {L M R : List HProp} : Sat w0 w (big (L ++ A :: M) :: R) ↔ Sat w0 w (A :: big (L ++ M) :: R) := by
  constructor
  · intro s
    have s1 : Sat w0 w (L ++ A :: (M ++ R)) := by have := Sat.bigs.1 s; rwa [List.append_assoc] at this
    exact (s1.imp fun _ x => (Take.mid L (M ++ R)).go x).imp fun _ x => big_under (fun _ y => by rw [← List.append_assoc] at y; exact big_append.1 y) x
  · intro s
    have s1 : Sat w0 w (A :: (L ++ (M ++ R))) := s.imp fun _ x => big_under (fun _ y => by have := (big_append (L := L ++ M) (M := R)).2 y; rwa [List.append_assoc] at this) x
    have s2 := s1.imp fun _ x => (Take.mid L (M ++ R)).back x
    exact Sat.bigs.2 (by rw [List.append_assoc]; exact s2)
theorem Gs.midOpen {A : HProp} {L M H' : List HProp} (t : Take (big (L ++ A :: M)) H H') (g : Gs w0 n env (A :: big (L ++ M) :: H') X) : Gs w0 n env H X :=
  fun a w e s => g a w e (Sat.mid.1 (s.take t))
theorem Gs.midClose {A : HProp} {L M H1 H' : List HProp} (t : Take A H H1) (u : Take (big (L ++ M)) H1 H') (g : Gs w0 n env (big (L ++ A :: M) :: H') X) : Gs w0 n env H X :=
  fun a w e s => g a w e (Sat.mid.2 ((s.imp fun _ x => big_under (fun _ y => u.go y) (t.go x))))
theorem Gs.bigNil (g : Gs w0 n env (big [] :: H) X) : Gs w0 n env H X := fun a w e s => g a w e (Sat.bigs.2 s)
/-- One more at the end. -/
theorem Gs.endClose {A : HProp} {L H1 H' : List HProp} (t : Take A H H1) (u : Take (big L) H1 H') (g : Gs w0 n env (big (L ++ [A]) :: H') X) : Gs w0 n env H X :=
  Gs.midClose (L := L) (M := []) t (by rw [List.append_nil]; exact u) g
end
end Go.Sl

/- Many assertions as one: taken out, put back, read. Nothing of the program stands here. -/
namespace Go.Sl
open Go
section
variable {w0 w : World} {n : Nat} {env : Env} {L L' M : List HProp} {A B : HProp} {X : Act → World → Prop}
theorem Sat.big : Sat w0 w (Sl.big L :: M) ↔ Sat w0 w (L ++ M) := by
  constructor
  · intro s
    refine s.imp fun h => ?_
    rintro ⟨h1, h2, d, rfl, l, m⟩
    exact big_append.2 ⟨h1, h2, d, rfl, l, m⟩
  · intro s
    refine s.imp fun h x => ?_
    obtain ⟨h1, h2, d, rfl, l, m⟩ := big_append.1 x
    exact ⟨h1, h2, d, rfl, l, m⟩
theorem take_snoc : ∀ {L : List HProp}, Take A (L ++ [A]) L
  | [] => .hd
  | _ :: _ => .tl take_snoc
theorem take_mid {L2 : List HProp} : ∀ {L1 : List HProp}, Take A (L1 ++ A :: L2) (L1 ++ L2)
  | [] => .hd
  | _ :: _ => .tl take_mid
theorem take_at : ∀ {L : List HProp} {i : Nat}, L[i]? = some A → Take A L (L.eraseIdx i)
  | [], i, h => by cases h
  | B :: L, 0, h => by simp only [List.getElem?_cons_zero, Option.some.injEq] at h; subst h; exact .hd
  | B :: L, i + 1, h => .tl (take_at (by simpa using h))
theorem take_set : ∀ {L : List HProp} {i : Nat}, i < L.length → Take A (L.set i A) (L.eraseIdx i)
  | [], i, h => by simp at h
  | B :: L, 0, h => .hd
  | B :: L, i + 1, h => .tl (take_set (by simpa using h))
theorem Sat.bigTake (t : Take A L L') (s : Sat w0 w (Sl.big L :: M)) : Sat w0 w (A :: Sl.big L' :: M) := by
  have h2 : Sat w0 w (Sl.big (A :: L') :: M) := s.ent fun _ l => t.go l
  exact (Sat.two (A := A) (B := Sl.big L')).1 h2
theorem Sat.bigBack (t : Take A L L') (s : Sat w0 w (A :: Sl.big L' :: M)) : Sat w0 w (Sl.big L :: M) := by
  have h2 : Sat w0 w (Sl.big (A :: L') :: M) := Sat.two.2 s
  exact h2.ent fun _ l => t.back l
theorem Sat.bigNil (s : Sat w0 w M) : Sat w0 w (Sl.big [] :: M) := Sat.big.2 s
theorem Gs.bigTake (t : Take A L L') (g : Gs w0 n env (A :: Sl.big L' :: M) X) : Gs w0 n env (Sl.big L :: M) X := fun a w e s => g a w e (s.bigTake t)
theorem Gs.bigBack (t : Take A L L') (g : Gs w0 n env (Sl.big L :: M) X) : Gs w0 n env (A :: Sl.big L' :: M) X := fun a w e s => g a w e (s.bigBack t)
theorem Ct.two {P : Program} {f : FuncId} {args : List Value} {post : Value → List HProp → Prop} (c : Ct P f args [Sl.two A B] post) (h : ∀ v hs, post v hs → ∃ r, hs = Sl.two A B :: r) : Ct P f args [A, B] (fun v hs => ∃ r, post v (Sl.two A B :: r) ∧ hs = A :: B :: r) :=
  ⟨c.enters, fun w0 w R s => (c.calls w0 w R (Sat.two.2 s)).mono fun _ _ ⟨v, hs, he, hp, hsat⟩ => by
    obtain ⟨r, rfl⟩ := h v hs hp
    exact ⟨v, _, he, ⟨r, hp, rfl⟩, Sat.two.1 hsat⟩⟩
theorem Srd.two1 {α : Type} {sz : Nat} {enc : α → List Value} {a : Option Addr} {xs : List α} (S : Srd A sz enc a xs) : Srd (Sl.two A B) sz enc a xs :=
  fun w0 H H' t w s => S w0 _ _ .hd w (Sat.two.1 (s.take t))
theorem Srd.two2 {α : Type} {sz : Nat} {enc : α → List Value} {a : Option Addr} {xs : List α} (S : Srd B sz enc a xs) : Srd (Sl.two A B) sz enc a xs :=
  fun w0 H H' t w s => S w0 _ _ (.tl .hd) w (Sat.two.1 (s.take t))
theorem Srd.bigs {α : Type} {sz : Nat} {enc : α → List Value} {a : Option Addr} {xs : List α} (S : Srd A sz enc a xs) (h : A ∈ L) : Srd (Sl.big L) sz enc a xs := fun w0 H H' t w s => by
  obtain ⟨i, hi⟩ := List.mem_iff_getElem?.1 h
  exact S w0 _ _ .hd w ((s.take t).bigTake (take_at hi))
end
end Go.Sl

/- Where the orders of a drawn region meet again. Nothing of the program stands here. -/
namespace Go.Sl
open Go
section
variable {P : Program} {n : Nat} {w0 : World} {ops : List Oper} {Q : Exit → Act → World → Prop} {D pp rp : List Nat} {env : Env} {H : List HProp}
theorem Rg.cutAt {σ : Type} (D0 : List Nat) (E : σ → Env) (I : σ → List HProp) (rest : ∀ s, Rg P n w0 ops Q D0 [] [] (E s) (I s))
    (way : (∀ s, Rg P n w0 ops Q D0 [] [] (E s) (I s)) → Rg P n w0 ops Q D pp rp env H) : Rg P n w0 ops Q D pp rp env H := way rest
theorem Rg.join {D0 : List Nat} {env0 : Env} {H0 : List HProp} (hD : (D.all (memb · D0) && D0.all (memb · D)) = true) (hp : (pp.isEmpty && rp.isEmpty) = true) (hE : Sub env env0) (hH : Ent H H0)
    (g : Rg P n w0 ops Q D0 [] [] env0 H0) : Rg P n w0 ops Q D pp rp env H := fun ht _ _ _ => by
  rw [Bool.and_eq_true, List.all_eq_true, List.all_eq_true] at hD
  rw [Bool.and_eq_true, List.isEmpty_iff, List.isEmpty_iff] at hp
  obtain ⟨rfl, rfl⟩ := hp
  have h0 : Good n ops ([] ++ []) := ⟨fun k hk => (List.not_mem_nil hk).elim, fun k hk => (List.not_mem_nil hk).elim⟩
  have r := g ht h0 (fun k hk => (List.not_mem_nil hk).elim) (fun k hk => (List.not_mem_nil hk).elim)
  exact fun fuel listed a w h1 h2 h3 h4 h5 h6 h7 h8 => r fuel listed a w h1 (fun i hi => memb_iff.1 (hD.1 i (h2 i hi))) (fun i hi _ => h3 i (memb_iff.1 (hD.2 i hi)) (fun h => List.not_mem_nil h)) h4 h5
    (fun t v hv hm => h6 t v (hE.lk hv) hm) (hH.sat h7) h8
end
theorem Gs.cutS {P : Program} {n : Nat} {w0 : World} {env : Env} {H : List HProp} {Q : Exit → Act → World → Prop} {σ : Type} (E : σ → Env) (I : σ → List HProp) {c : Code} {K : Act → World → Prop} (g : Gs w0 n env H (c.wp P (Exit.then (fun a w => ∃ s, EnvOk n (E s) a ∧ Sat w0 w (I s)) Q))) (k : ∀ s, Gs w0 n (E s) (I s) K) :
    Gs w0 n env H (c.wp P (Exit.then K Q)) := fun a w e s => Code.wp_mono (fun ex a' w' h => by
      cases ex with
      | normal => obtain ⟨x, h1, h2⟩ := h; exact k x a' w' h1 h2
      | _ => exact h) (g a w e s)
theorem Gs.cutEndS {n : Nat} {w0 : World} {env : Env} {H : List HProp} {σ : Type} {E : σ → Env} {I : σ → List HProp} (s : σ) (hE : Sub env (E s)) (hH : Ent H (I s)) : Gs w0 n env H (fun a w => ∃ s, EnvOk n (E s) a ∧ Sat w0 w (I s)) :=
  fun _ w e t => ⟨s, e.sub hE, hH.sat t⟩
/-- What a call leaves may be less. -/
theorem Ct.less {P : Program} {f : FuncId} {args : List Value} {pre : List HProp} {post post' : Value → List HProp → Prop} (S : Ct P f args pre post) (i : ∀ v hs, post v hs → ∃ hs', post' v hs' ∧ Ent hs hs') : Ct P f args pre post' :=
  ⟨S.enters, fun w0 w R s => (S.calls w0 w R s).mono fun _ _ ⟨v, hs, e, p, t⟩ => by
    obtain ⟨hs', p', en⟩ := i v hs p
    refine ⟨v, hs', e, p', t.imp fun h x => ?_⟩
    obtain ⟨h1, h2, d, rfl, l, m⟩ := big_append.1 x
    exact big_append.2 ⟨h1, h2, d, rfl, en.big l, m⟩⟩
theorem Ct.bigs {P : Program} {f : FuncId} {args : List Value} {L : List HProp} {post : Value → List HProp → Prop} (c : Ct P f args [Sl.big L] post) (h : ∀ v hs, post v hs → ∃ r, hs = Sl.big L :: r) : Ct P f args L (fun v hs => ∃ r, post v (Sl.big L :: r) ∧ hs = L ++ r) :=
  ⟨c.enters, fun w0 w R s => (c.calls w0 w R (Sat.big.2 s)).mono fun _ _ ⟨v, hs, he, hp, hsat⟩ => by
    obtain ⟨r, rfl⟩ := h v hs hp
    exact ⟨v, _, he, ⟨r, hp, rfl⟩, by rw [List.append_assoc]; exact Sat.big.1 hsat⟩⟩
end Go.Sl

/- A map's entry, changed in place (m[k] += x). Nothing of the program stands here. -/
namespace Go.Sl
open Go Go.Kv Go.ChangeMaps
section
variable {P : Program} {n : Nat} {w0 : World} {env : Env} {H : List HProp} {κ ν : Type}
theorem mput_get [DecidableEq κ] {m : List (κ × ν)} {k : κ} {v : ν} (h : mget m k = some v) : mput m k v = m := by
  induction m with
  | nil => cases h
  | cons p m ih =>
    obtain ⟨k', v'⟩ := p
    simp only [mget] at h
    simp only [mput]
    by_cases hk : k = k'
    · simp [hk] at h; subst h; simp [hk]
    · simp only [hk, if_false] at h ⊢; rw [ih h]
theorem mput_put [DecidableEq κ] (m : List (κ × ν)) (k : κ) (u v : ν) : mput (mput m k u) k v = mput m k v := by
  induction m with
  | nil => simp [mput]
  | cons p m ih =>
    obtain ⟨k', v'⟩ := p
    simp only [mput]
    by_cases hk : k = k'
    · subst hk; simp [mput]
    · simp only [hk, if_false, mput, ih]
theorem mput_none [DecidableEq κ] {k : κ} {v : ν} : ∀ (m : List (κ × ν)), mget m k = none → mput m k v = m ++ [(k, v)]
  | [], _ => rfl
  | (k', v') :: r, h => by
    simp only [mget] at h
    by_cases hk : k = k'
    · simp [hk] at h
    · simp only [hk, if_false] at h
      simp only [mput, hk, if_false, List.cons_append, mput_none r h]
/-- A map with an entry for k, whose stamp is known; m: what it was ahead. -/
def mpS [DecidableEq κ] (enck : κ → Value) (encv : ν → Value) (b : Nat) (m : List (κ × ν)) (z : ν) (k : κ) (st : Nat) : HProp := fun h => ∃ (ents : Array MapEntry) (clock i : Nat) (e : MapEntry), pt b (.map ents clock) h ∧ ents.toList.map (fun e => (e.key, e.val)) = (mput m k ((mget m k).getD z)).map (fun p => (enck p.1, encv p.2)) ∧ (mkeys (mput m k ((mget m k).getD z))).Nodup ∧
  (ents.toList.map (·.born)).Nodup ∧ (∀ e ∈ ents.toList, e.born < clock) ∧ ents[i]? = some e ∧ e.born = st ∧ (mput m k ((mget m k).getD z))[i]? = some (k, (mget m k).getD z) ∧ ∀ v', (mput m k ((mget m k).getD z)).set i (k, v') = mput m k v'
/-- What a look into a map gives. -/
def LkH (P : Program) (w0 : World) (H : List HProp) (T : TypeId) (b : Nat) (key u : Value) : Prop := ∀ w, Sat w0 w H → (Instr.lookup T (.map (some b)) key false).run P w = .ok u w
theorem rd_lookE {d : Option Tmp} {x y : Operand} {T ty : TypeId} {pos : String} {af : Array Edge} {g : Option (Nat × Bool)} {b : Nat} {key u : Value} (hx : ev env x = some (.map (some b))) (hy : ev env y = some key) (l : LkH P w0 H T b key u) :
    Rd P ⟨d, .lookup T x y false, ty, pos, af, g⟩ w0 env H u := fun ρ w e s => by
  refine run_v (s := Instr.lookup T (ρ x) (ρ y) false) ?_
  rw [e.eval hx, e.eval hy]; exact l w s
theorem lk_run [DecidableEq κ] {T K E : TypeId} {enck : κ → Value} {encv : ν → Value} {b : Nat} {m : List (κ × ν)} {k : κ} {z : ν} {w : World} {ents : Array MapEntry} {clock : Nat} (ht : P.underlying T = some (.map K E)) (kt : KeyT P K enck) (zv : ZV P E (encv z))
    (hb : w.heap[b]? = some (.map ents clock)) (he : ents.toList.map (fun e => (e.key, e.val)) = m.map (fun p => (enck p.1, encv p.2))) : (Instr.lookup T (.map (some b)) (enck k) false).run P w = .ok (encv ((mget m k).getD z)) w := by
  have hu : (underlying T).run P w = .ok (.map K E) w := by simp [underlying, ht, go_sem]
  unfold Instr.lookup
  simp only [Sem.run_bind, hu, run_getMap hb, Result.andThen_ok, Sem.run_pure, kt.check, find_in kt he]
  rcases seek_spec (encv := encv) (k := k) m 0 with ⟨h1, h2⟩ | ⟨j, u, h1, h2, -⟩
  · rw [h1, h2]; simp only [Sem.run_bind, zv.run, Result.andThen_ok, Sem.run_pure]; rfl
  · rw [h1, h2]; simp only [Sem.run_pure, Result.andThen_ok]; rfl
theorem LkH.mp [DecidableEq κ] {T K E : TypeId} {enck : κ → Value} {encv : ν → Value} {b : Nat} {m : List (κ × ν)} {k : κ} {z : ν} {H' : List HProp} (ht : P.underlying T = some (.map K E)) (kt : KeyT P K enck) (zv : ZV P E (encv z)) (t : Take (mp enck encv b m) H H') :
    LkH P w0 H T b (enck k) (encv ((mget m k).getD z)) := fun w s => by
  obtain ⟨h0, ⟨ents, clock, hp, he, -⟩, s'⟩ := (s.take t).toRo
  exact lk_run ht kt zv (s'.ro b _ hp.1) he
theorem LkH.mpS [DecidableEq κ] {T K E : TypeId} {enck : κ → Value} {encv : ν → Value} {b st : Nat} {m : List (κ × ν)} {k : κ} {z : ν} {H' : List HProp} (ht : P.underlying T = some (.map K E)) (kt : KeyT P K enck) (zv : ZV P E (encv z)) (t : Take (mpS enck encv b m z k st) H H') :
    LkH P w0 H T b (enck k) (encv ((mget m k).getD z)) := fun w s => by
  obtain ⟨h0, ⟨ents, clock, i, e, hp, he, -⟩, s'⟩ := (s.take t).toRo
  have := lk_run (k := k) ht kt zv (s'.ro b _ hp.1) he
  rwa [mget_put, if_pos rfl] at this
theorem ac_mapEntry [DecidableEq κ] {d : Option Tmp} {x y : Operand} {T K E ty : TypeId} {pos : String} {af : Array Edge} {g : Option (Nat × Bool)} {enck : κ → Value} {encv : ν → Value} {b : Nat} {m : List (κ × ν)} {k : κ} {z : ν} {H' : List HProp} (ht : P.underlying T = some (.map K E)) (kt : KeyT P K enck) (zv : ZV P E (encv z))
    (hx : ev env x = some (.map (some b))) (hy : ev env y = some (enck k)) (t : Take (mp enck encv b m) H H') :
    Ac P ⟨d, .mapEntry T x y, ty, pos, af, g⟩ w0 env H (fun v H'' => ∃ st : Nat, v = .tuple #[encv ((mget m k).getD z), .int .i64 st] ∧ H'' = mpS enck encv b m z k st :: H') := Ac.of_run fun ρ w r s => by
  have st := s.take t
  obtain ⟨h, le, h1, h2, dd, rfl, ⟨ents, clock, hp, he, hn, hb1, hb2⟩, hl⟩ := st.heap
  have hb := le b _ (Hp.un_left hp.1)
  have sat : Sat w0 w (pt b (.map ents clock) :: H') := ⟨st.os, st.tape, st.output, st.size, _, le, h1, h2, dd, rfl, hp, hl⟩
  have hu : (underlying T).run P w = .ok (.map K E) w := by simp [underlying, ht, go_sem]
  rcases seek_spec (encv := encv) (k := k) m 0 with ⟨g1, g2⟩ | ⟨j, u, g1, g2, g3, g4, -⟩
  · have hput : mput m k ((mget m k).getD z) = m ++ [(k, z)] := by rw [g2]; exact mput_none m g2
    have hrun : (Instr.mapEntry T (.map (some b)) (enck k)).run P w = .ok (.tuple #[encv z, .int .i64 clock]) { w with heap := w.heap.setIfInBounds b (.map (ents.push { key := enck k, val := encv z, born := clock }) (clock + 1)) } := by
      unfold Instr.mapEntry
      simp only [Sem.run_bind, hu, run_getMap hb, Result.andThen_ok, kt.check, find_in kt he, g1, zv.run, run_setMap hb, Sem.run_pure, goInt]
    have hl' := congrArg List.length he
    simp at hl'
    refine ⟨_, _, _, run_v (s := Instr.mapEntry T (ρ x) (ρ y)) (by rw [r.eval hx, r.eval hy]; exact hrun), ⟨clock, by rw [g2]; rfl, rfl⟩, (sat.setMap (o' := .map (ents.push { key := enck k, val := encv z, born := clock }) (clock + 1))).ent fun hh hpp => ⟨_, _, m.length, { key := enck k, val := encv z, born := clock }, hpp, ?_, nodup_put hn _ _, ?_, ?_, ?_, rfl, ?_, fun v' => ?_⟩⟩
    · rw [hput]; simp [he]
    · simp only [Array.toList_push, List.map_append, List.map_cons, List.map_nil]
      rw [List.nodup_append]
      refine ⟨hb1, by simp, fun a ha c hc e => ?_⟩
      simp at hc; subst hc; subst e
      obtain ⟨e, he', hee⟩ := List.mem_map.1 ha
      have := hb2 e he'; omega
    · intro e hee
      simp only [Array.toList_push, List.mem_append, List.mem_singleton] at hee
      rcases hee with hee | rfl
      · have := hb2 e hee; omega
      · simp
    · rw [Array.getElem?_push, if_pos hl'.symm]
    · rw [hput, g2]; simp
    · rw [hput, mput_none m g2]; simp
  · rw [Nat.zero_add] at g1
    have hj : j < m.length := (List.getElem?_eq_some_iff.1 g3).1
    have hjs : j < ents.size := by have := congrArg List.length he; simp at this; omega
    have hej : (ents[j].key, ents[j].val) = (enck k, encv u) := by
      have h1 : (ents.toList.map (fun e => (e.key, e.val)))[j]? = some (ents[j].key, ents[j].val) := by simp [hjs]
      rw [he] at h1
      simp [g3] at h1
      rw [← h1.1, ← h1.2]
    simp only [Prod.mk.injEq] at hej
    have hput : mput m k ((mget m k).getD z) = m := by rw [g2]; exact mput_get g2
    have hk : (Instr.keyThatStays (((ents[j]?).map (·.key)).getD (enck k)) (enck k)).run P w = .ok (enck k) w := by
      have : (((ents[j]?).map (·.key)).getD (enck k)) = enck k := by simp [hjs, hej.1]
      rw [this]; unfold Instr.keyThatStays; rw [if_pos (kt.same k)]; rfl
    have hsame : (ents.modify j fun e => { e with key := enck k }) = ents := by
      apply Array.ext_getElem?
      intro i
      rw [Array.getElem?_modify]
      by_cases hij : j = i
      · subst hij; simp only [if_true, hjs, Array.getElem?_eq_getElem, Option.map_some]; rw [← hej.1]
      · simp [hij]
    have hrun : (Instr.mapEntry T (.map (some b)) (enck k)).run P w = .ok (.tuple #[encv u, .int .i64 ents[j].born]) { w with heap := w.heap.setIfInBounds b (.map ents clock) } := by
      unfold Instr.mapEntry
      simp only [Sem.run_bind, hu, run_getMap hb, Result.andThen_ok, kt.check, find_in kt he, g1, hk, hsame, run_setMap hb, Sem.run_pure]
      simp [hjs, goInt]
    refine ⟨_, _, _, run_v (s := Instr.mapEntry T (ρ x) (ρ y)) (by rw [r.eval hx, r.eval hy]; exact hrun), ⟨ents[j].born, by rw [g2]; rfl, rfl⟩, (sat.setMap (o' := .map ents clock)).ent fun hh hpp => ⟨_, _, j, ents[j], hpp, by rw [hput]; exact he, by rw [hput]; exact hn, hb1, hb2, by simp [hjs], rfl, by rw [hput, g2]; exact g3, fun v' => by rw [hput]; exact g4 v'⟩⟩
theorem ac_entryStore [DecidableEq κ] {d : Option Tmp} {x y u : Operand} {T ty : TypeId} {pos : String} {af : Array Edge} {g : Option (Nat × Bool)} {enck : κ → Value} {encv : ν → Value} {b st : Nat} {m : List (κ × ν)} {k : κ} {z v : ν} {H' : List HProp}
    (hx : ev env x = some (.map (some b))) (hy : ev env y = some (.int .i64 st)) (hu : ev env u = some (encv v)) (t : Take (mpS enck encv b m z k st) H H') :
    Ac P ⟨d, .entryStore T x y u, ty, pos, af, g⟩ w0 env H (fun _ H'' => H'' = mp enck encv b (mput m k v) :: H') := Ac.of_skip fun ρ w r s => by
  have s1 := s.take t
  obtain ⟨h, le, h1, h2, dd, rfl, ⟨ents, clock, i, e, hp, he, hn, hb1, hb2, hi, hst, hmi, hset⟩, hl⟩ := s1.heap
  have hb := le b _ (Hp.un_left hp.1)
  have sat : Sat w0 w (pt b (.map ents clock) :: H') := ⟨s1.os, s1.tape, s1.output, s1.size, _, le, h1, h2, dd, rfl, hp, hl⟩
  have his : i < ents.size := (Array.getElem?_eq_some_iff.1 hi).1
  have hie : ents[i] = e := (Array.getElem?_eq_some_iff.1 hi).2
  have hfind : ents.findIdx? (fun e => (e.born : Int) == st) = some i := by
    rw [Array.findIdx?_eq_some_iff_getElem]
    refine ⟨his, by rw [hie, hst]; simp, fun j hji => ?_⟩
    have hjs : j < ents.size := by omega
    intro hc
    have hc' : ents[j].born = st := by have := eq_of_beq hc; omega
    have hnd := List.pairwise_iff_getElem.1 hb1 j i (by simpa using hjs) (by simpa using his) hji
    apply hnd
    simp [hc', hie, hst]
  have hrun : (Instr.entryStore T (.map (some b)) (.int .i64 st) (encv v)).run P w = .ok () { w with heap := w.heap.setIfInBounds b (.map (ents.modify i fun e => { e with val := encv v }) clock) } := by
    unfold Instr.entryStore
    simp only [Sem.run_bind, run_getMap hb, Result.andThen_ok, asInt, asIntOf, Sem.run_pure, hfind]
    exact run_setMap hb
  refine ⟨_, _, by rw [show (execOp ρ ⟨d, .entryStore T x y u, ty, pos, af, g⟩) = (do Instr.entryStore T (ρ x) (ρ y) (ρ u); Pure.pure Next.skip : Sem Next) from rfl, r.eval hx, r.eval hy, r.eval hu]; simp only [Sem.run_bind, hrun, Result.andThen_ok]; rfl, rfl, (sat.setMap (o' := .map (ents.modify i fun e => { e with val := encv v }) clock)).ent fun hh hpp => ⟨_, _, hpp, ?_, ?_, ?_, ?_⟩⟩
  · rw [← hset v]
    apply List.ext_getElem?
    intro q
    have hei : (ents.toList[q]?).map (fun e => (e.key, e.val)) = ((mput m k ((mget m k).getD z))[q]?).map (fun p => (enck p.1, encv p.2)) := by
      have := congrArg (·[q]?) he; simpa only [List.getElem?_map] using this
    have hlen : (mput m k ((mget m k).getD z)).length = ents.size := by have := congrArg List.length he; simp at this; omega
    simp only [Array.toList_modify, List.getElem?_map, List.getElem?_modify, List.getElem?_set]
    by_cases hiq : i = q
    · subst hiq
      have hti : ents.toList[i]? = some e := by simpa using hi
      rw [hti, hmi] at hei
      simp only [Option.map_some, Option.some.injEq, Prod.mk.injEq] at hei
      rw [hti]
      simp [hlen, his, hei.1]
    · simp only [hiq, if_false]
      rw [← hei]; cases ents.toList[q]? <;> simp
  · rw [mkeys_put] at hn ⊢; exact hn
  · have : ((ents.toList.modify i fun e => { e with val := encv v }).map (·.born)) = ents.toList.map (·.born) := by
      apply List.ext_getElem?
      intro q
      simp only [List.getElem?_map, List.getElem?_modify]
      cases ents.toList[q]? with
      | none => simp
      | some e => by_cases hiq : i = q <;> simp [hiq]
    rw [Array.toList_modify, this]; exact hb1
  · intro e' hee
    rw [Array.toList_modify] at hee
    obtain ⟨q, hq⟩ := List.mem_iff_getElem?.1 hee
    rw [List.getElem?_modify] at hq
    cases hx' : ents.toList[q]? with
    | none => rw [hx'] at hq; simp at hq
    | some e0 =>
      have := hb2 e0 (List.mem_of_getElem? hx')
      rw [hx'] at hq
      by_cases hiq : i = q <;> simp [hiq] at hq <;> subst hq <;> exact this
end
end Go.Sl

/- A range over a string. Nothing of the program stands here. -/
namespace Go.Sl
open Go Go.ChangeMaps
section
variable {P : Program} {n : Nat} {w0 : World} {env : Env} {H : List HProp}
/-- An iterator over a string, at a place. -/
def sit (r : Nat) (s : ByteArray) (i : Nat) : HProp := pt r (.stringIter s i)
theorem ac_rangeS {d : Option Tmp} {x : Operand} {T ty : TypeId} {pos : String} {af : Array Edge} {g : Option (Nat × Bool)} {s : ByteArray} (ht : P.underlying T = some .string) (hx : ev env x = some (.string s)) :
    Ac P ⟨d, .range T x, ty, pos, af, g⟩ w0 env H (fun v H'' => ∃ r, v = .pointer (some ⟨r, 0, none⟩) ∧ H'' = sit r s 0 :: H) := Ac.of_run fun ρ w r st => by
  refine ⟨_, _, _, run_v (s := Instr.range T (ρ x)) (v := .pointer (some ⟨w.heap.size, 0, none⟩)) (w' := w.iter s 0) ?_, ⟨w.heap.size, rfl, rfl⟩, ?_⟩
  · rw [r.eval hx]; exact run_range_string w T s ht
  · exact st.alloc _
theorem ac_nextS {d : Option Tmp} {x : Operand} {ty : TypeId} {pos : String} {af : Array Edge} {g : Option (Nat × Bool)} {s : ByteArray} {r i : Nat} {H' : List HProp}
    (hx : ev env x = some (.pointer (some ⟨r, 0, none⟩))) (t : Take (sit r s i) H H') :
    Ac P ⟨d, .next x true, ty, pos, af, g⟩ w0 env H (fun v H'' => (¬ i < s.size ∧ v = .tuple #[.bool false] ∧ H'' = sit r s i :: H') ∨
      (i < s.size ∧ v = .tuple #[.bool true, .int .i64 i, .int .i32 (Utf8.decode s i).1] ∧ H'' = sit r s (i + (Utf8.decode s i).2) :: H')) := Ac.of_run fun ρ w rr st => by
  have s1 := st.take t
  have hk : w.heap[r]? = some (.stringIter s i) := Sat.pt s1
  by_cases h : i < s.size
  · refine ⟨_, _, _, run_v (s := Instr.next (ρ x) true ty) (by rw [rr.eval hx]; exact Lib.run_next_any_at w r s i ty hk h), .inr ⟨h, rfl, rfl⟩, ?_⟩
    exact Sat.setMap s1
  · exact ⟨_, _, _, run_v (s := Instr.next (ρ x) true ty) (by rw [rr.eval hx]; exact Lib.run_next_end_at w r s i ty hk h), .inl ⟨h, rfl, rfl⟩, s1⟩
end
end Go.Sl

