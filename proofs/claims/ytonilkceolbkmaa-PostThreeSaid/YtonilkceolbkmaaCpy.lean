/- copy into an owned slice; append of what is made; two rows that do not overlap. Nothing of the program stands here. -/
import Derived.Test.YtonilkceolbkmaaClear
import Derived.Lib.Overlaps
import Derived.Lib.AppendZerosOnto
namespace Go.Sl
open Go
theorem plain_of_one {v : Value} (h : v.oneCell' = true) : plain v = true := by
  cases v <;> first | rfl | (simp [Value.oneCell'] at h)
section
variable {P : Program} {w0 : World} {n : Nat} {env : Env} {H : List HProp} {α : Type}
theorem pu_cap {d : Option Tmp} {x : Operand} {T E ty : TypeId} {pos : String} {af : Array Edge} {g : Option (Nat × Bool)} {a : Option Addr} {l c : Nat} (ht : P.underlying T = some (.slice E)) (hx : ev env x = some (.slice a l c)) :
    Pu P ⟨d, .call ⟨.builtin .cap, #[x], #[T]⟩, ty, pos, af, g⟩ env (.int .i64 c) := fun ρ w e => by
  have hu : (underlying T).run P w = .ok (.slice E) w := by simp [underlying, ht, go_sem]
  simp [execOp, resolve, invoke, builtin, Builtin.cap_, e.eval hx, hu, go_sem, goInt]
theorem SlH.cutS {sz b o : Nat} {enc : α → List Value} {xs : List α} (S : SlH w0 H sz enc (some ⟨b, o, none⟩) xs) (i c : Nat) (hi : i < c) (hc : xs.length ≤ c) : SlH w0 H sz enc (some ⟨b, o + i * sz, none⟩) (xs.drop i) := by
  have h := S.cutL i c hc
  rwa [suba_some (by omega)] at h
theorem getElem?_put {xs ys : List α} {p i : Nat} {y : α} (hp : p ≤ xs.length) (h : (xs.take p ++ ys ++ xs.drop (p + ys.length))[i]? = some y) :
    (∃ k, i = p + k ∧ ys[k]? = some y) ∨ ((i < p ∨ p + ys.length ≤ i) ∧ xs[i]? = some y) := by
  have hl : (xs.take p).length = p := by rw [List.length_take]; omega
  rcases append_getElem? h with h | ⟨k, rfl, h2⟩
  · rcases append_getElem? h with h | ⟨k, rfl, h2⟩
    · have hi := (List.getElem?_eq_some_iff.1 h).1
      rw [List.getElem?_take] at h
      split at h
      · exact .inr ⟨.inl (by omega), h⟩
      · cases h
    · exact .inl ⟨k, by rw [hl], h2⟩
  · rw [List.getElem?_drop] at h2
    rw [List.length_append, hl]
    exact .inr ⟨.inr (by omega), h2⟩
/-- copy(d, s) into an owned slice, from its place p on. -/
theorem ac_cp {d : Option Tmp} {x y : Operand} {T tx E sz ty : Nat} {pos : String} {af : Array Edge} {g : Option (Nat × Bool)} {enc : α → List Value} {b off o c p dl dc sl_ sc : Nat} {xs ys : List α} {asr : Option Addr} {H' : List HProp}
    (ht : P.underlying T = some (.slice E)) (hz : SZ P E sz) (e : EncOk sz enc) (hx : ev env x = some (.slice (some ⟨b, o, none⟩) dl dc)) (ho : o = off + p * sz) (hy : ev env y = some (.slice asr sl_ sc)) (hn : ys.length = Nat.min sl_ dl)
    (t : Take (sl E sz enc (some ⟨b, off, none⟩) c xs) H H') (S : SlH w0 H sz enc asr ys) (hp : p ≤ xs.length) (hc : p + ys.length ≤ c) :
    Ac P ⟨d, .call ⟨.builtin .copy, #[x, y], #[T, tx]⟩, ty, pos, af, g⟩ w0 env H (fun v H'' => v = .int .i64 ys.length ∧ H'' = sl E sz enc (some ⟨b, off, none⟩) c (xs.take p ++ ys ++ xs.drop (p + ys.length)) :: H') := Ac.of_run fun ρ w r s => by
  have st := s.take t
  have hu : (underlying T).run P w = .ok (.slice E) w := by simp [underlying, ht, go_sem]
  have hf : (Builtin.firstCells sz ys.length (.slice asr sl_ sc)).run P w = .ok (ys.flatMap enc).toArray w := by
    by_cases h0 : ys = []
    · subst h0
      cases asr <;> simp [Builtin.firstCells, loadCells, loadCellsFrom, go_sem]
    · obtain ⟨b', off', rfl, hcell⟩ := S w s h0
      refine run_firstCells_some w sz ys.length ⟨b', off', none⟩ sl_ sc _ (e.flat ys) fun j u hj => ?_
      obtain ⟨i, j', z, rfl, hj', hz', hv⟩ := e.inv ys j u hj
      have := hcell i z hz' j' u hv
      show w.cell? _ = _
      unfold Addr.add; split
      · rename_i h; rw [h] at this; simpa using this
      · exact this
  obtain ⟨h, le, h1, h2, dd, rfl, hs, hl'⟩ := st.heap
  rcases hs with ⟨h0, -, -⟩ | ⟨b', off', cells, hb, hpt, hlen, hroom, hxs⟩
  · cases h0
  · cases hb
    have s1 : Sat w0 w (cl b E cells.toList :: H') := ⟨st.os, st.tape, st.output, st.size, _, le, h1, h2, dd, rfl, by simpa [cl] using hpt, hl'⟩
    have hfit : o + (ys.flatMap enc).length ≤ cells.toList.length := by
      rw [e.flat, ho, Nat.add_assoc, ← Nat.add_mul, Array.length_toList (xs := cells)]
      exact Nat.le_trans (Nat.add_le_add_left (Nat.mul_le_mul_right _ hc) _) hroom
    obtain ⟨ds, g1, g2, g3, g4⟩ := lay_ex cells.toList o _ hfit
    obtain ⟨w', hw, s'⟩ := run_stores (P := P) _ 0 o cells.toList ds w s1 (fun v hv => plain_of_one (e.ones ys v hv)) (by simpa using g1)
    refine ⟨_, _, w', ?_, ⟨rfl, rfl⟩, s'.ent fun hh hcc => .inr ⟨b, off, ds.toArray, rfl, hcc, ?_, by simp [g2]; exact hroom, fun i u hi j v hv => ?_⟩⟩
    · show (do Pure.pure (Next.value (← Builtin.copy_ #[T, tx] ty (#[x, y].map ρ))) : Sem Next).run P w = _
      rw [show #[x, y].map ρ = #[ρ x, ρ y] by simp, r.eval hx, r.eval hy]
      refine run_v ?_
      simp only [Builtin.copy_, Builtin.lenOf, List.getElem?_toArray, List.getElem?_cons_zero, List.getElem?_cons_succ, Sem.run_bind, Sem.run_pure, hu, hz.run, Result.andThen_ok, ← hn, hf, hw]
      rfl
    · simp only [List.length_append, List.length_take, List.length_drop]; omega
    · have hjl : j < sz := by rw [← e.len u]; exact (List.getElem?_eq_some_iff.1 hv).1
      simp only [List.getElem?_toArray]
      rcases getElem?_put hp hi with ⟨k, rfl, hk⟩ | ⟨hio, hk⟩
      · have hat := e.at ys k j u v hk hv
        have := g3 _ v hat
        rwa [show o + (k * sz + j) = off + ((p + k) * sz + j) by rw [ho, Nat.add_mul]; omega] at this
      · rw [g4 _ (by
          rw [e.flat, ho]
          rcases hio with h | h
          · left
            have : (i + 1) * sz ≤ p * sz := Nat.mul_le_mul_right _ h
            rw [Nat.succ_mul] at this; omega
          · right
            have : (p + ys.length) * sz ≤ i * sz := Nat.mul_le_mul_right _ h
            rw [Nat.add_mul] at this; omega)]
        have := hxs i u hk j v hv
        simpa using this
theorem zeros_at {z : Value} {zc : List Value} (hz : z.cells = zc.toArray) (m i j : Nat) (v : Value) (hi : i < m) (hv : zc[j]? = some v) : (Builtin.zeroCells z.cells m)[i * zc.length + j]? = some v := by
  have hj := (List.getElem?_eq_some_iff.1 hv).1
  have hlt : i * zc.length + j < m * zc.length := by
    have : (i + 1) * zc.length ≤ m * zc.length := Nat.mul_le_mul_right _ hi
    rw [Nat.succ_mul] at this; omega
  simp only [Builtin.zeroCells, hz, Array.getElem?_map, List.size_toArray, Array.getElem?_range]
  rw [if_pos hlt]
  simp only [Option.map_some]
  have hm : (i * zc.length + j) % zc.length = j := by rw [Nat.mul_comm, Nat.mul_add_mod, Nat.mod_eq_of_lt hj]
  rw [hm]
  obtain ⟨h1, h2⟩ := List.getElem?_eq_some_iff.1 hv
  rw [getElem!_pos zc.toArray j (by simpa using hj)]
  simp [h2]
/-- append(s, make(.., k)...) where there is no room. -/
theorem ac_appendZ {d : Option Tmp} {x y : Operand} {T tn E sz by_ ty k c l : Nat} {kq kn : IntKind} {pos : String} {af : Array Edge} {g : Option (Nat × Bool)} {enc : α → List Value} {a : Option Addr} {xs : List α} {z0 : α}
    (et : ET P T E sz by_) (hzv : ZV P E (.agg (enc z0).toArray) ∨ ∃ u, enc z0 = [u] ∧ ZV P E u ∧ u.cells = #[u]) (htn : P.underlying tn = some (.int kn)) (e : EncOk sz enc) (hx : ev env x = some (.slice a l c)) (hl : l = xs.length) (hy : ev env y = some (.int kq (k : Int))) (S : SlH w0 H sz enc a xs)
    (h0 : 0 < k) (hs : 0 < sz) (hg : c < xs.length + k) (hb : (xs.length + k) * by_ ≤ 140737488355328) (hm : xs.length + k ≤ 9223372036854775807) :
    Ac P ⟨d, .call ⟨.builtin .append, #[x, y], #[T, tn]⟩, ty, pos, af, g⟩ w0 env H (fun v H'' => ∃ b' c', v = .slice (some ⟨b', 0, none⟩) (xs.length + k) c' ∧ xs.length + k ≤ c' ∧ H'' = sl E sz enc (some ⟨b', 0, none⟩) c' (xs ++ List.replicate k z0) :: H) := Ac.of_run fun ρ w r s => by
  obtain ⟨i, z, ht, hi, hz, rfl, rfl, hzs⟩ := et.ex
  subst hl
  have hzc : z.cells = (enc z0).toArray := by
    have hrun : (zeroValue E).run P w = .ok z w := by simp [zeroValue, typeInfo, hi, hz, go_sem]
    rcases hzv with h | ⟨u, hu, h, huc⟩
    · have h2 := h.run w
      have h3 : Result.ok z w = .ok (.agg (enc z0).toArray) w := hrun.symm.trans h2
      cases h3; rfl
    · have h2 := h.run w
      have h3 : Result.ok z w = .ok u w := hrun.symm.trans h2
      cases h3; rw [huc, hu]
  have hold : (Builtin.firstCells i.size xs.length (.slice a xs.length c)).run P w.drew = .ok (xs.flatMap enc).toArray w.drew := by
    by_cases h0 : xs = []
    · subst h0
      cases a <;> simp [Builtin.firstCells, loadCells, loadCellsFrom, go_sem]
    · obtain ⟨b', off', rfl, hcell⟩ := S w s h0
      refine run_firstCells_some w.drew i.size xs.length ⟨b', off', none⟩ xs.length c _ (e.flat xs) fun j u hj => ?_
      obtain ⟨q, j', y', rfl, hj', hz', hv⟩ := e.inv xs j u hj
      have := hcell q y' hz' j' u hv
      show w.cell? _ = _
      unfold Addr.add; split
      · rename_i h; rw [h] at this; simpa using this
      · exact this
  have hk48 : k * i.bytes ≤ 281474976710656 := by rw [Nat.add_mul] at hb; omega
  have hrun := Lib.run_append_grow_zeros w T tn ty E i z kq kn ht htn hi hz a xs.length c _ hold k h0 hs hg (by omega) hk48 (growslice_fits hg hb)
  refine ⟨.slice (some ⟨w.heap.size, 0, none⟩) (xs.length + k) (grownCap w (xs.length + k) c E), _, w.drew.alloc (.cells ((xs.flatMap enc).toArray ++ Builtin.zeroCells z.cells k ++ Builtin.zeroCells z.cells (grownCap w (xs.length + k) c E - (xs.length + k))) E), ?_, ⟨w.heap.size, grownCap w (xs.length + k) c E, rfl, grownCap_ge .., rfl⟩, ?_⟩
  · show (do pure (Next.value (← Builtin.append_ #[T, tn] ty (#[x, y].map ρ))) : Sem Next).run P w = _
    rw [show #[x, y].map ρ = #[ρ x, ρ y] by simp, r.eval hx, r.eval hy]
    exact run_v hrun
  · have hlen : (enc z0).length = i.size := e.len z0
    have hge := grownCap_ge w (xs.length + k) c E
    have sat1 : Sat w0 w.drew H := s.drew
    refine (sat1.alloc _).ent (sl_new (by simpa using hge) ?_ ?_)
    · simp only [Array.size_append, List.size_toArray, e.flat, Builtin.zeroCells, Array.size_map, Array.size_range, hzc, hlen]
      rw [← Nat.add_mul, ← Nat.add_mul]; exact Nat.mul_le_mul_right _ (by omega)
    · intro q y' hq j v hv
      have hj : j < i.size := by rw [← e.len y']; exact (List.getElem?_eq_some_iff.1 hv).1
      rcases append_getElem? hq with hq1 | ⟨m, rfl, hq2⟩
      · have hat := e.at xs q j y' v hq1 hv
        have hlt := (List.getElem?_eq_some_iff.1 hat).1
        rw [Array.getElem?_append_left (by simp only [Array.size_append, List.size_toArray]; omega), Array.getElem?_append_left (by simpa using hlt)]
        simpa using hat
      · have hm' : m < k := by have := (List.getElem?_eq_some_iff.1 hq2).1; simpa using this
        rw [List.getElem?_replicate, if_pos hm'] at hq2
        cases hq2
        have hza := zeros_at hzc k m j v hm' hv
        rw [hlen] at hza
        have hlt := (Array.getElem?_eq_some_iff.1 hza).1
        rw [Array.getElem?_append_left (by simp only [Array.size_append, List.size_toArray, e.flat]; rw [Nat.add_mul]; omega), Array.getElem?_append_right (by simp only [List.size_toArray, e.flat]; rw [Nat.add_mul]; omega)]
        simp only [List.size_toArray, e.flat]
        rw [show (xs.length + m) * i.size + j - xs.length * i.size = m * i.size + j by rw [Nat.add_mul]; omega]
        exact hza
/-- slices.overlaps of two owned slices in two blocks. -/
theorem rd_overlaps {β : Type} {d : Option Tmp} {x y : Operand} {f : FuncId} {fn : Func} {T R E sz sz' ty : Nat} {ts : Array TypeId} {pos : String} {af : Array Edge} {g : Option (Nat × Bool)} {enc : α → List Value} {enc' : β → List Value} {b o off c l lc b2 o2 off2 c2 l2 lc2 : Nat} {xs : List α} {ys : List β} {H' H'' : List HProp}
    (hf : P.funcs[f]? = some fn) (hname : (fn.name == "runtime.NumGoroutine") = false) (hb : fn.body.isNone = true) (hn : Extern.findNext fn = none) (he : Extern.find fn = some (Extern.SlicesOverlaps.overlaps #[T, T] #[R]))
    (ht : P.underlying T = some (.slice E)) (hz : SZ P E sz') (hx : ev env x = some (.slice (some ⟨b, o, none⟩) l lc)) (hy : ev env y = some (.slice (some ⟨b2, o2, none⟩) l2 lc2))
    (t : Take (sl E sz enc (some ⟨b, off, none⟩) c xs) H H') (t2 : Take (sl E sz enc' (some ⟨b2, off2, none⟩) c2 ys) H' H'') (h0 : 0 < c2 * sz) :
    Rd P ⟨d, .call ⟨.value (.func f), #[x, y], ts⟩, ty, pos, af, g⟩ w0 env H (.bool false) := fun ρ w r s => by
  have st := (s.take t).takes (As := [sl E sz enc (some ⟨b, off, none⟩) c xs, sl E sz enc' (some ⟨b2, off2, none⟩) c2 ys]) (.cons .hd (.cons t2 .nil))
  obtain ⟨h, le, h1, h2, dd, rfl, hs, h3, h4, dd2, rfl, hs2, -⟩ := st.heap
  rcases hs with ⟨e0, -, -⟩ | ⟨b', off', cells, hbe, hpt, hlen, hroom, hxs⟩
  · cases e0
  rcases hs2 with ⟨e0, -, -⟩ | ⟨b2', off2', cells2, hbe2, hpt2, hlen2, hroom2, hxs2⟩
  · cases e0
  cases hbe; cases hbe2
  have k1 : w.heap[b]? = some (.cells cells E (0, 0)) := le b _ (Hp.un_left hpt.1)
  have k2 : w.heap[b2]? = some (.cells cells2 E (0, 0)) := le b2 _ (Hp.un_right dd (Hp.un_left hpt2.1))
  have hne : b ≠ b2 := by
    rintro rfl
    have q1 := hpt.1
    have q2 : (h3.un h4) b = some (.cells cells2 E (0, 0)) := Hp.un_left hpt2.1
    rcases dd b with e | e
    · rw [q1] at e; cases e
    · rw [q2] at e; cases e
  have hsh1 : w.shape? b = some (E, cells.size) := by simp [World.shape?, k1]
  have hsh2 : w.shape? b2 = some (E, cells2.size) := by simp [World.shape?, k2]
  have hrun := Lib.run_overlaps_apart (P := P) w T R E ht sz' hz.run ⟨b, o, none⟩ ⟨b2, o2, none⟩ l lc l2 lc2 hne E E cells.size cells2.size hsh1 hsh2 (by omega) (by simp [World.frozen?, k1]) (by simp [World.frozen?, k1])
  show (do let d ← resolve ρ ⟨.value (.func f), #[x, y], ts⟩ ty; invoke d.target d.args : Sem Next).run P w = _
  have h1 : resolve ρ ⟨.value (.func f), #[x, y], ts⟩ ty = (pure ⟨.fn (.func f) #[], #[.slice (some ⟨b, o, none⟩) l lc, .slice (some ⟨b2, o2, none⟩) l2 lc2]⟩ : Sem Deferred) := by
    simp only [resolve, r.eval (x := .func f) rfl, Deferred.ofValue]
    show (pure ⟨Target.fn (.func f) #[], #[] ++ #[x, y].map ρ⟩ : Sem Deferred) = _
    rw [show #[x, y].map ρ = #[ρ x, ρ y] by simp, r.eval hx, r.eval hy]; simp
  rw [h1]
  simp only [Sem.run_bind, Sem.run_pure, Result.andThen_ok, invoke]
  have := run_callFunc_extern hf hname hb hn he #[.slice (some ⟨b, o, none⟩) l lc, .slice (some ⟨b2, o2, none⟩) l2 lc2] w
  rw [hrun] at this
  simpa using this
end
end Go.Sl
