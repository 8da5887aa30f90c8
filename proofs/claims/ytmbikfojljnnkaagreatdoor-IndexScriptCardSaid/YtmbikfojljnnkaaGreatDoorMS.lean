/- Texts that stand in one. -/
import Derived.Test.YtmbikfojljnnkaaGreatDoorRf
import Derived.Test.YtmbikfojljnnkaaGreatDoorIxA
/- maps.Keys and slices.Collect at the map of records: the keys, in whatever order, once each. -/
namespace Go.Proofs.YtmbikfojljnnkaaGreatDoor
open Go Go.Sl Go.Gv Go.Kv Go.Po Go.Ix
set_option maxRecDepth 100000

/-- What a call of yield does: it takes x over. -/
def l_YOk (P : Program) (l : Nat) (J : List ByteArray → HProp) : Prop := ∀ (pre : List ByteArray) (x : ByteArray) (w0 w : World) (R : List HProp), pre.length < 100000 → Sat w0 w (J pre :: R) → ∃ f tmps assign body, (Instr.yield l #[strV x]).run P w = .ok (.round l f tmps assign body) w ∧
  ∀ m, RoundIn Fence.wide m P l f tmps assign body w fun e w' => e = .returned (.bool true) ∧ Sat w0 w' (J (pre ++ [x]) :: R)

theorem l_erase_perm {α : Type} : ∀ {l : List α} {i : Nat} {x : α}, l[i]? = some x → List.Perm (x :: l.eraseIdx i) l
  | [], _, _, h => by simp at h
  | a :: l, 0, x, h => by simp at h; subst h; exact List.Perm.refl _
  | a :: l, i + 1, x, h => by
    have := l_erase_perm (l := l) (i := i) (x := x) (by simpa using h)
    exact (List.Perm.swap a x _).trans (this.cons a)
theorem Gs.l_yieldAt {l : Nat} {J : List ByteArray → HProp} (hY : l_YOk Tryz.prog l J) {w0 : World} {n m k dd : Nat} {env : Env} {H : List HProp} {Q : Exit → Act → World → Prop} {ops : Array Oper} {rest : List Nat} {x y : Operand} {ts : Array TypeId} {ty : TypeId} {pos : String} {af : Array Edge} {pre : List ByteArray} (z : ByteArray)
    (hpl : pre.length < 100000) (ho : ops[k]? = some ⟨some dd, .call ⟨.value x, #[y], ts⟩, ty, pos, af, none⟩) (hdn : Nat.blt dd n = true) (hx : ev env x = some (.func (.yield l) #[] #[])) (hy : ev env y = some (strV z))
    (g : Gs w0 n ((dd, .bool true) :: env) (J (pre ++ [z]) :: H) (wpOpsIn Fence.wide m Tryz.prog ops Q rest)) : Gs w0 n env (J pre :: H) (wpOpsIn Fence.wide m Tryz.prog ops Q (k :: rest)) := fun a w e t => by
  obtain ⟨f, tmps, assign, body, h1, h2⟩ := hY pre z w0 w H hpl t
  have hw : Region.wanted ⟨some dd, .call ⟨.value x, #[y], ts⟩, ty, pos, af, none⟩ (yielded ops a.tmps) = true := by simp [Region.wanted]
  have hr : (execOp a.eval ⟨some dd, .call ⟨.value x, #[y], ts⟩, ty, pos, af, none⟩).run Tryz.prog w = .ok (.round l f tmps assign body) w := by
    show (do let d ← resolve a.eval ⟨.value x, #[y], ts⟩ ty; invoke d.target d.args : Sem Next).run Tryz.prog w = _
    have hr1 : resolve a.eval ⟨.value x, #[y], ts⟩ ty = (pure ⟨.fn (.yield l) #[], #[strV z]⟩ : Sem Deferred) := by
      simp only [resolve, e.eval hx, Deferred.ofValue]
      simp [e.eval hy]
    rw [hr1]
    simp only [Sem.run_bind, Sem.run_pure, Result.andThen_ok, invoke]
    exact h1
  simp only [wpOpsIn, ho, hw, if_true]
  unfold Oper.wpIn
  refine ⟨fun _ _ => trivial, ?_⟩
  rw [show Fence.wide.round = none from rfl, Oper.semAt_none, hr]
  refine ⟨(fun hs => by cases hs), (h2 (m - 1)).mono ?_⟩
  rintro e' w' ⟨rfl, t'⟩
  exact g _ _ (e.put (by simpa [Nat.blt_eq] using hdn) _) t'
theorem l_keysFn_spec (m : Nat) : Ct Tryz.prog 59 [.map (some m)] []
    (fun v hs => ∃ b, v = .func (.func 94) #[] #[.pointer (some ⟨b, 0, none⟩)] ∧ hs = [cl b 69 [.map (some m)]]) := by
  refine Ct.intro Tryz.func59 rfl (by kernel_rfl) 4 Tryz.ntmps59 (Nat.le_of_ble_eq_true rfl) fun w0 R => ?_
  refine Gs.seq ?_
  refine Gs.reg ?_
  refine Go.Sl.L.ac rfl rfl trivial (ac_box rfl rfl) ?_
  rintro _ _ ⟨b, rfl, rfl⟩
  refine Go.Sl.L.pu rfl rfl trivial (pu_assign rfl) ?_
  refine Go.Sl.L.nil ?_
  refine Gs.then_n ?_
  refine Gs.seq ?_
  refine Gs.reg ?_
  refine Go.Sl.L.pu rfl rfl trivial (pu_func (by repeat constructor) (by repeat constructor)) ?_
  refine Go.Sl.L.pu rfl rfl trivial (pu_assign rfl) ?_
  refine Go.Sl.L.nil ?_
  refine Gs.then_n ?_
  refine Gs.ret ?_
  exact Gs.fin1 Tryz.results59 rfl _ (⟨b, rfl, rfl⟩) (by repeat constructor)
/-- The iterator: J is carried on over all keys, in some order. -/
theorem l_iter_spec {l : Nat} {J : List ByteArray → HProp} (hY : l_YOk Tryz.prog l J) (b m : Nat) (es : List (ByteArray × (SlV PostV))) (hes : es.length ≤ 100000) :
    Ct Tryz.prog 94 [.func (.yield l) #[] #[], .pointer (some ⟨b, 0, none⟩)] [J [], cl b 69 [.map (some m)], mp strV slV m es]
      (fun _ hs => ∃ xs, List.Perm xs (mkeys es) ∧ hs = [J xs, cl b 69 [.map (some m)], mp strV slV m es]) := by
  refine Ct.intro Tryz.func94 rfl (by kernel_rfl) 14 Tryz.ntmps94 (Nat.le_of_ble_eq_true rfl) fun w0 R => ?_
  refine Gs.seq ?_
  refine Gs.reg ?_
  refine Go.Sl.L.rd rfl rfl trivial (rd_ld na_69 rfl (Rdc.cl1 (by repeat constructor) rfl)) ?_
  refine Go.Sl.L.ac rfl rfl trivial (ac_range (enck := strV) (encv := slV) Tryz.underlying69 rfl (by repeat constructor)) ?_
  rintro _ _ ⟨r, rfl, rfl⟩
  refine Go.Sl.L.nil ?_
  refine Gs.then_n ?_
  refine Gs.block ?_
  refine Gs.loop1 (fun s : List ByteArray × List (ByteArray × (SlV PostV)) × Option (ByteArray × (SlV PostV)) => List.Perm (s.1 ++ mkeys s.2.1) (mkeys es)) (fun s => [(0, .func (.yield l) #[] #[]), (5, .pointer (some ⟨r, 0, none⟩))]) (fun s => [itr strV slV r m es s.2.1 s.2.2, J s.1, cl b 69 [.map (some m)]] ++ R) (fun s => s.2.1.length) ([], es, none) (List.Perm.refl _) (by repeat constructor) (by repeat constructor) (fun s hs => ?_)
  obtain ⟨pre, left, last⟩ := s
  dsimp only at hs ⊢
  refine Gs.seq ?_
  refine Gs.reg ?_
  refine Go.Sl.L.ac rfl rfl trivial (ac_next rfl (by repeat constructor)) ?_
  rintro _ _ (⟨hl, rfl, rfl⟩ | ⟨i, p, hp, rfl, rfl⟩)
  · skip
    have hl' : left = [] := hl
    subst hl'
    refine Gs.itrEnd (by repeat constructor) ?_
    refine Go.Sl.L.pu rfl rfl trivial (pu_extract rfl rfl) ?_
    refine Go.Sl.L.nil ?_
    refine Gs.then_n ?_
    refine Gs.seq ?_
    refine Gs.cond_f rfl ?_
    refine Gs.exit ?_
    refine Gs.then_x ?_
    refine Gs.then_x ?_
    refine Gs.blk_hit ?_
    refine Gs.fin_n ?_
    exact Gs.fin0 Tryz.results94 _ (⟨pre, by simpa [mkeys] using hs, rfl⟩) (by repeat constructor)
  · skip
    have hperm : List.Perm ((pre ++ [p.1]) ++ mkeys (left.eraseIdx i)) (mkeys es) := by
      refine List.Perm.trans ?_ hs
      rw [List.append_assoc]
      refine List.Perm.append_left pre ?_
      have h1 : List.Perm (p :: left.eraseIdx i) left := l_erase_perm hp
      exact h1.map Prod.fst
    have hlt : (left.eraseIdx i).length < left.length := by
      have := (List.getElem?_eq_some_iff.1 hp).1
      rw [List.length_eraseIdx_of_lt this]; omega
    have hpl : pre.length < 100000 := by
      have h1 := hs.length_eq
      have h2 := (List.getElem?_eq_some_iff.1 hp).1
      simp [mkeys] at h1; omega
    refine Go.Sl.L.pu rfl rfl trivial (pu_extract rfl rfl) ?_
    refine Go.Sl.L.nil ?_
    refine Gs.then_n ?_
    refine Gs.seq ?_
    refine Gs.cond_t rfl ?_
    refine Gs.skip ?_
    refine Gs.then_n ?_
    refine Gs.block ?_
    refine Gs.seq ?_
    refine Gs.reg ?_
    refine Go.Sl.L.rd rfl rfl trivial (ac_entry rfl (by repeat constructor)) ?_
    refine Go.Sl.L.pu rfl rfl trivial (pu_extract rfl rfl) ?_
    refine Go.Sl.L.pu rfl rfl trivial (pu_assign rfl) ?_
    refine Go.Sl.L.nil ?_
    refine Gs.then_n ?_
    refine Gs.seq ?_
    refine Gs.wide (m := 0) ?_
    refine GI.reg [0, 1, 2, 3] rfl ?_
    refine GI.rd Fw.wide rfl rfl rfl rfl rfl (Pu.rd (pu_move rfl)) ?_
    refine GI.rd Fw.wide rfl rfl rfl rfl rfl (Pu.rd (pu_move rfl)) ?_
    refine Gs.take (A := J pre) (by repeat constructor) ?_
    refine Gs.l_yieldAt hY p.1 hpl rfl rfl rfl rfl ?_
    refine GI.rd Fw.wide rfl rfl rfl rfl rfl (Pu.rd (pu_not rfl)) ?_
    refine GI.nil ?_
    refine Gs.then_n ?_
    refine Gs.cond_f rfl ?_
    refine Gs.skip ?_
    refine Gs.blk_n ?_
    refine Gs.then_n ?_
    exact Gs.again1 (pre ++ [p.1], left.eraseIdx i, some p) hperm hlt (by repeat constructor) (by repeat constructor)
/-- What slices.AppendSeq carries on: its loop's record; its variable; the keys that came. -/
def l_colJ (l b2 : Nat) (r : Loop) (pre : List ByteArray) : HProp := fun h => ∃ p : Option Addr × Nat, two (pt l (.loop r)) (two (cl b2 58 [.slice p.1 pre.length p.2]) (sl 9 1 strC p.1 p.2 pre)) h
theorem l_colJ_fold {l b2 n : Nat} {r : Loop} {pre : List ByteArray} {a : Option Addr} {c : Nat} {w0 w : World} {L : List HProp} (hn : n = pre.length) (s : Sat w0 w (pt l (.loop r) :: cl b2 58 [.slice a n c] :: sl 9 1 strC a c pre :: L)) : Sat w0 w (l_colJ l b2 r pre :: L) := by
  subst hn
  have s1 : Sat w0 w (cl b2 58 [.slice a pre.length c] :: sl 9 1 strC a c pre :: pt l (.loop r) :: L) := (s.take (.tl (.tl .hd))).take (.tl (.tl .hd))
  exact (Sat.two.2 ((Sat.two.2 s1).take (.tl .hd))).ent fun h x => ⟨(a, c), x⟩
theorem l_colJ_open {l b2 : Nat} {r : Loop} {pre : List ByteArray} {w0 w : World} {L : List HProp} (s : Sat w0 w (l_colJ l b2 r pre :: L)) : ∃ a c, Sat w0 w (pt l (.loop r) :: cl b2 58 [.slice a pre.length c] :: sl 9 1 strC a c pre :: L) := by
  obtain ⟨p, s1⟩ := s.ex
  have s2 := Sat.two.1 ((Sat.two.1 s1).take (.tl .hd))
  exact ⟨p.1, p.2, s2.take (.tl (.tl .hd))⟩
theorem l_collect_seq (b m : Nat) (es : List (ByteArray × (SlV PostV))) (hl : es.length ≤ 100000) :
    Ct Tryz.prog 101 [.slice none 0 0, .func (.func 94) #[] #[.pointer (some ⟨b, 0, none⟩)]]
      [cl b 69 [.map (some m)], mp strV slV m es] (fun v hs => ∃ xs a c, List.Perm xs (mkeys es) ∧ v = .slice a xs.length c ∧ hs = [sl 9 1 strC a c xs, mp strV slV m es]) := by
  refine Ct.introM Tryz.func101 rfl (by kernel_rfl) 13 Tryz.ntmps101 (Nat.le_of_ble_eq_true rfl) fun w0 R => ?_
  refine Gs.seq ?_
  refine Gs.reg ?_
  refine Go.Sl.L.ac rfl rfl trivial (ac_box rfl rfl) ?_
  rintro _ _ ⟨b2, rfl, rfl⟩
  refine Go.Sl.L.pu rfl rfl trivial (pu_assign rfl) ?_
  refine Go.Sl.L.nil ?_
  refine Gs.then_n ?_
  refine Gs.seq ?_
  refine Gs.seq ?_
  refine Gs.reg ?_
  refine Go.Sl.L.pu rfl rfl trivial (pu_move rfl) ?_
  refine Go.Sl.L.nil ?_
  refine Gs.then_n ?_
  refine Gs.block ?_
  refine Gs.slNil 9 1 strC ?_
  intro a w e s
  have hen : ∀ args w, (callFunc 94 args).run Tryz.prog w = .ok (.enter 94 args) w := Go.Proofs.enters_of Tryz.func94 (by kernel_rfl) rfl
  have he : a.eval (.tmp 6) = .func (.func 94) #[] #[.pointer (some ⟨b, 0, none⟩)] := e.eval rfl
  refine wp_rangeCall he hen fun fn r hr => ?_
  have sat1 := s.alloc2 (.deferred (some [])) (.loop r)
  have hY : l_YOk Tryz.prog (w.heap.size + 1) (l_colJ (w.heap.size + 1) b2 r) := by
    intro pre x w1 w' R' hpl hs
    obtain ⟨a', c', s1⟩ := l_colJ_open hs
    refine ⟨r.fn, _, r.assign, r.body, run_yield s1.pt (by rw [hr]; rfl), fun m => roundIn_of_wpIn trivial ?_⟩
    have ht : (r.params.zip #[strV x]).foldl (fun tmps (t, a) => tmps.setIfInBounds t a) r.tmps = (a.put (some 7) (strV x)).tmps := by rw [hr]; simp [Act.put]
    have e7 : EnvOk 13 [(7, strV x), (2, .pointer (some ⟨b2, 0, none⟩))] ⟨(r.params.zip #[strV x]).foldl (fun tmps (t, a) => tmps.setIfInBounds t a) r.tmps, []⟩ := by
      rw [ht]
      have e8 := (e.put (d := 7) (by decide) (strV x)).sub (e := [(7, strV x), (2, .pointer (some ⟨b2, 0, none⟩))]) (by repeat constructor)
      exact ⟨e8.size, rfl, e8.slots⟩
    refine (?_ : Gs w1 13 [(7, strV x), (2, .pointer (some ⟨b2, 0, none⟩))] _ _) _ _ e7 s1
    subst hr
    refine GI.reg [0] rfl ?_
    refine GI.rd (Fw.round _) rfl rfl rfl rfl rfl (Pu.rd (pu_assign rfl)) ?_
    refine GI.nil ?_
    refine Gs.then_n ?_
    refine Gs.take .hd ?_
    refine Gs.begin rfl ?_
    refine GI.block ?_
    refine GI.reg [0, 1, 2, 3, 4] rfl ?_
    refine GI.rd (Fw.round _) rfl rfl rfl rfl rfl (rd_ld na_58 rfl (Rdc.cl1 (by repeat constructor) rfl)) ?_
    refine GI.rd (Fw.round _) rfl rfl rfl rfl rfl (Pu.rd (pu_move rfl)) ?_
    refine GI.ac (Fw.round _) rfl rfl rfl rfl rfl (ac_lit strC [x] et_58 ek_9 rfl (by repeat constructor) rfl rfl (by decide)) ?_
    rintro _ _ ⟨lb, rfl, rfl⟩
    refine GI.ac (Fw.round _) rfl rfl rfl rfl rfl (ac_append (xs := pre) et_58 ek_9 rfl rfl (by repeat constructor) (SrcH.sl Tryz.underlying58 ek_9 (SlH.own (by repeat constructor))) (by simp; omega) (by simp; omega)) ?_
    rintro _ _ ⟨a2, c2, rfl, rfl⟩
    refine GI.ac0 (Fw.round _) rfl rfl rfl rfl (ac_st sz_58 rfl rfl (by repeat constructor) rfl rfl rfl rfl) ?_
    rintro _ _ rfl
    refine GI.nil ?_
    refine Gs.blk_n ?_
    refine Gs.take (A := pt (w.heap.size + 1) (.loop _)) (by repeat constructor) ?_
    refine Gs.endRound fun w'' s'' => ⟨rfl, l_colJ_fold (a := a2) (c := c2) rfl (Ent.sat (by repeat constructor) s'')⟩
  have satJ : Sat w0 ((w.alloc (.deferred (some []))).alloc (.loop r)) ([l_colJ (w.heap.size + 1) b2 r [], cl b 69 [.map (some m)], mp strV slV m es] ++ (pt w.heap.size (.deferred (some [])) :: R)) := by
    have := sat1.takes (As := [pt (w.heap.size + 1) (.loop r), cl b2 58 [.slice none 0 0], sl 9 1 strC none 0 [], cl b 69 [.map (some m)], mp strV slV m es]) (by repeat constructor)
    exact l_colJ_fold rfl this
  refine ((l_iter_spec hY b m es hl).calls w0 _ _ satJ).mono ?_
  rintro e' w' ⟨v, hs, rfl, ⟨xs, hp, rfl⟩, sat2⟩
  obtain ⟨a', c', s3⟩ := l_colJ_open sat2
  have hend := run_endLoop (P := Tryz.prog) s3.pt (by rw [hr]; simp)
  rw [show r.pending = none by rw [hr]] at hend
  refine ⟨v, _, rfl, hend, ?_⟩
  have s4 : Sat w0 (w'.putObj (w.heap.size + 1) (.loop { r with state := .exhausted, pending := none })) _ := s3.setMap
  have rho : Rho [(2, .pointer (some ⟨b2, 0, none⟩))] a.eval := (e.sub (e := [(2, .pointer (some ⟨b2, 0, none⟩))]) (by repeat constructor)).rho
  refine wp_seq (wp_region_lit ?_)
  refine tail_rd rfl rfl (rd_ld na_58 rfl (Rdc.cl1 (by repeat constructor) rfl)) rho s4 fun w5 s5 => ?_
  have e5 := (e.put (d := 12) (by decide) (.slice a' xs.length c'))
  have rho5 : Rho [(12, .slice a' xs.length c')] (({ a with defers := [{ target := .collected w.heap.size, args := #[] }] ++ a.defers } : Act).put (some 12) (.slice a' xs.length c')).eval :=
    (e5.sub (e := [(12, .slice a' xs.length c')]) (by repeat constructor)).rho
  refine tail_rd rfl rfl (Pu.rd (pu_assign rfl)) rho5 s5 fun w6 s6 => ?_
  have e6 := (e5.put (d := 4) (by decide) (.slice a' xs.length c'))
  refine wp_ret ?_
  have s7 := s6.take (A := pt w.heap.size (.deferred (some []))) (by repeat constructor)
  have hds : a.defers = [] := e.defers
  show LeavesInM Fence.wide 0 _ _ _ _ ({ target := .collected w.heap.size, args := #[] } :: a.defers) .returning w6
  rw [hds]
  refine ⟨by simp, .inl ⟨w.heap.size, _, rfl, run_takeDeferred s7.pt, ?_⟩⟩
  have s8 : Sat w0 (w6.putObj w.heap.size (.deferred none)) _ := s7.setMap (o' := .deferred none)
  refine ⟨_, results_tmp Tryz.results101 _ _ _, _, _, rfl, ⟨xs, a', c', hp, ?_, rfl⟩, Ent.sat (by repeat constructor) s8⟩
  exact e6.slots 4 _ rfl
theorem l_collect_spec (b m : Nat) (es : List (ByteArray × (SlV PostV))) (hl : es.length ≤ 100000) :
    Ct Tryz.prog 73 [.func (.func 94) #[] #[.pointer (some ⟨b, 0, none⟩)]]
      [cl b 69 [.map (some m)], mp strV slV m es] (fun v hs => ∃ xs a c, List.Perm xs (mkeys es) ∧ v = .slice a xs.length c ∧ hs = [sl 9 1 strC a c xs, mp strV slV m es]) := by
  refine Ct.intro Tryz.func73 rfl (by kernel_rfl) 5 Tryz.ntmps73 (Nat.le_of_ble_eq_true rfl) fun w0 R => ?_
  refine Gs.seq ?_
  refine Gs.reg ?_
  refine Go.Sl.L.pu rfl rfl trivial (pu_assign rfl) ?_
  refine Go.Sl.L.nil ?_
  refine Gs.then_n ?_
  refine Gs.seq ?_
  refine Gs.reg ?_
  refine Go.Sl.L.pu rfl rfl trivial (pu_move rfl) ?_
  refine Go.Sl.L.ac rfl rfl trivial (as_call (l_collect_seq b m es hl) (by repeat constructor) (by repeat constructor)) ?_
  rintro _ _ ⟨_, ⟨xs, a, c, hp, rfl, rfl⟩, rfl⟩
  refine Go.Sl.L.pu rfl rfl trivial (pu_assign rfl) ?_
  refine Go.Sl.L.nil ?_
  refine Gs.then_n ?_
  refine Gs.ret ?_
  exact Gs.fin1 Tryz.results73 rfl _ (⟨xs, a, c, hp, rfl, rfl⟩) (by repeat constructor)
end Go.Proofs.YtmbikfojljnnkaaGreatDoor

/- maps.Keys and slices.Collect at the map of records: the keys, in whatever order, once each. -/
namespace Go.Proofs.YtmbikfojljnnkaaGreatDoor
open Go Go.Sl Go.Gv Go.Kv Go.Po Go.Ix
set_option maxRecDepth 100000

/-- What a call of yield does: it takes x over. -/
def t_YOk (P : Program) (l : Nat) (J : List ByteArray → HProp) : Prop := ∀ (pre : List ByteArray) (x : ByteArray) (w0 w : World) (R : List HProp), pre.length < 100000 → Sat w0 w (J pre :: R) → ∃ f tmps assign body, (Instr.yield l #[strV x]).run P w = .ok (.round l f tmps assign body) w ∧
  ∀ m, RoundIn Fence.wide m P l f tmps assign body w fun e w' => e = .returned (.bool true) ∧ Sat w0 w' (J (pre ++ [x]) :: R)

theorem t_erase_perm {α : Type} : ∀ {l : List α} {i : Nat} {x : α}, l[i]? = some x → List.Perm (x :: l.eraseIdx i) l
  | [], _, _, h => by simp at h
  | a :: l, 0, x, h => by simp at h; subst h; exact List.Perm.refl _
  | a :: l, i + 1, x, h => by
    have := t_erase_perm (l := l) (i := i) (x := x) (by simpa using h)
    exact (List.Perm.swap a x _).trans (this.cons a)
theorem Gs.t_yieldAt {l : Nat} {J : List ByteArray → HProp} (hY : t_YOk Tryz.prog l J) {w0 : World} {n m k dd : Nat} {env : Env} {H : List HProp} {Q : Exit → Act → World → Prop} {ops : Array Oper} {rest : List Nat} {x y : Operand} {ts : Array TypeId} {ty : TypeId} {pos : String} {af : Array Edge} {pre : List ByteArray} (z : ByteArray)
    (hpl : pre.length < 100000) (ho : ops[k]? = some ⟨some dd, .call ⟨.value x, #[y], ts⟩, ty, pos, af, none⟩) (hdn : Nat.blt dd n = true) (hx : ev env x = some (.func (.yield l) #[] #[])) (hy : ev env y = some (strV z))
    (g : Gs w0 n ((dd, .bool true) :: env) (J (pre ++ [z]) :: H) (wpOpsIn Fence.wide m Tryz.prog ops Q rest)) : Gs w0 n env (J pre :: H) (wpOpsIn Fence.wide m Tryz.prog ops Q (k :: rest)) := fun a w e t => by
  obtain ⟨f, tmps, assign, body, h1, h2⟩ := hY pre z w0 w H hpl t
  have hw : Region.wanted ⟨some dd, .call ⟨.value x, #[y], ts⟩, ty, pos, af, none⟩ (yielded ops a.tmps) = true := by simp [Region.wanted]
  have hr : (execOp a.eval ⟨some dd, .call ⟨.value x, #[y], ts⟩, ty, pos, af, none⟩).run Tryz.prog w = .ok (.round l f tmps assign body) w := by
    show (do let d ← resolve a.eval ⟨.value x, #[y], ts⟩ ty; invoke d.target d.args : Sem Next).run Tryz.prog w = _
    have hr1 : resolve a.eval ⟨.value x, #[y], ts⟩ ty = (pure ⟨.fn (.yield l) #[], #[strV z]⟩ : Sem Deferred) := by
      simp only [resolve, e.eval hx, Deferred.ofValue]
      simp [e.eval hy]
    rw [hr1]
    simp only [Sem.run_bind, Sem.run_pure, Result.andThen_ok, invoke]
    exact h1
  simp only [wpOpsIn, ho, hw, if_true]
  unfold Oper.wpIn
  refine ⟨fun _ _ => trivial, ?_⟩
  rw [show Fence.wide.round = none from rfl, Oper.semAt_none, hr]
  refine ⟨(fun hs => by cases hs), (h2 (m - 1)).mono ?_⟩
  rintro e' w' ⟨rfl, t'⟩
  exact g _ _ (e.put (by simpa [Nat.blt_eq] using hdn) _) t'
theorem t_keysFn_spec (m : Nat) : Ct Tryz.prog 35 [.map (some m)] []
    (fun v hs => ∃ b, v = .func (.func 75) #[] #[.pointer (some ⟨b, 0, none⟩)] ∧ hs = [cl b 76 [.map (some m)]]) := by
  refine Ct.intro Tryz.func35 rfl (by kernel_rfl) 4 Tryz.ntmps35 (Nat.le_of_ble_eq_true rfl) fun w0 R => ?_
  refine Gs.seq ?_
  refine Gs.reg ?_
  refine Go.Sl.L.ac rfl rfl trivial (ac_box rfl rfl) ?_
  rintro _ _ ⟨b, rfl, rfl⟩
  refine Go.Sl.L.pu rfl rfl trivial (pu_assign rfl) ?_
  refine Go.Sl.L.nil ?_
  refine Gs.then_n ?_
  refine Gs.seq ?_
  refine Gs.reg ?_
  refine Go.Sl.L.pu rfl rfl trivial (pu_func (by repeat constructor) (by repeat constructor)) ?_
  refine Go.Sl.L.pu rfl rfl trivial (pu_assign rfl) ?_
  refine Go.Sl.L.nil ?_
  refine Gs.then_n ?_
  refine Gs.ret ?_
  exact Gs.fin1 Tryz.results35 rfl _ (⟨b, rfl, rfl⟩) (by repeat constructor)
/-- The iterator: J is carried on over all keys, in some order. -/
theorem t_iter_spec {l : Nat} {J : List ByteArray → HProp} (hY : t_YOk Tryz.prog l J) (b m : Nat) (es : List (ByteArray × (SlV Int))) (hes : es.length ≤ 100000) :
    Ct Tryz.prog 75 [.func (.yield l) #[] #[], .pointer (some ⟨b, 0, none⟩)] [J [], cl b 76 [.map (some m)], mp strV slV m es]
      (fun _ hs => ∃ xs, List.Perm xs (mkeys es) ∧ hs = [J xs, cl b 76 [.map (some m)], mp strV slV m es]) := by
  refine Ct.intro Tryz.func75 rfl (by kernel_rfl) 14 Tryz.ntmps75 (Nat.le_of_ble_eq_true rfl) fun w0 R => ?_
  refine Gs.seq ?_
  refine Gs.reg ?_
  refine Go.Sl.L.rd rfl rfl trivial (rd_ld na_76 rfl (Rdc.cl1 (by repeat constructor) rfl)) ?_
  refine Go.Sl.L.ac rfl rfl trivial (ac_range (enck := strV) (encv := slV) Tryz.underlying76 rfl (by repeat constructor)) ?_
  rintro _ _ ⟨r, rfl, rfl⟩
  refine Go.Sl.L.nil ?_
  refine Gs.then_n ?_
  refine Gs.block ?_
  refine Gs.loop1 (fun s : List ByteArray × List (ByteArray × (SlV Int)) × Option (ByteArray × (SlV Int)) => List.Perm (s.1 ++ mkeys s.2.1) (mkeys es)) (fun s => [(0, .func (.yield l) #[] #[]), (5, .pointer (some ⟨r, 0, none⟩))]) (fun s => [itr strV slV r m es s.2.1 s.2.2, J s.1, cl b 76 [.map (some m)]] ++ R) (fun s => s.2.1.length) ([], es, none) (List.Perm.refl _) (by repeat constructor) (by repeat constructor) (fun s hs => ?_)
  obtain ⟨pre, left, last⟩ := s
  dsimp only at hs ⊢
  refine Gs.seq ?_
  refine Gs.reg ?_
  refine Go.Sl.L.ac rfl rfl trivial (ac_next rfl (by repeat constructor)) ?_
  rintro _ _ (⟨hl, rfl, rfl⟩ | ⟨i, p, hp, rfl, rfl⟩)
  · skip
    have hl' : left = [] := hl
    subst hl'
    refine Gs.itrEnd (by repeat constructor) ?_
    refine Go.Sl.L.pu rfl rfl trivial (pu_extract rfl rfl) ?_
    refine Go.Sl.L.nil ?_
    refine Gs.then_n ?_
    refine Gs.seq ?_
    refine Gs.cond_f rfl ?_
    refine Gs.exit ?_
    refine Gs.then_x ?_
    refine Gs.then_x ?_
    refine Gs.blk_hit ?_
    refine Gs.fin_n ?_
    exact Gs.fin0 Tryz.results75 _ (⟨pre, by simpa [mkeys] using hs, rfl⟩) (by repeat constructor)
  · skip
    have hperm : List.Perm ((pre ++ [p.1]) ++ mkeys (left.eraseIdx i)) (mkeys es) := by
      refine List.Perm.trans ?_ hs
      rw [List.append_assoc]
      refine List.Perm.append_left pre ?_
      have h1 : List.Perm (p :: left.eraseIdx i) left := t_erase_perm hp
      exact h1.map Prod.fst
    have hlt : (left.eraseIdx i).length < left.length := by
      have := (List.getElem?_eq_some_iff.1 hp).1
      rw [List.length_eraseIdx_of_lt this]; omega
    have hpl : pre.length < 100000 := by
      have h1 := hs.length_eq
      have h2 := (List.getElem?_eq_some_iff.1 hp).1
      simp [mkeys] at h1; omega
    refine Go.Sl.L.pu rfl rfl trivial (pu_extract rfl rfl) ?_
    refine Go.Sl.L.nil ?_
    refine Gs.then_n ?_
    refine Gs.seq ?_
    refine Gs.cond_t rfl ?_
    refine Gs.skip ?_
    refine Gs.then_n ?_
    refine Gs.block ?_
    refine Gs.seq ?_
    refine Gs.reg ?_
    refine Go.Sl.L.rd rfl rfl trivial (ac_entry rfl (by repeat constructor)) ?_
    refine Go.Sl.L.pu rfl rfl trivial (pu_extract rfl rfl) ?_
    refine Go.Sl.L.pu rfl rfl trivial (pu_assign rfl) ?_
    refine Go.Sl.L.nil ?_
    refine Gs.then_n ?_
    refine Gs.seq ?_
    refine Gs.wide (m := 0) ?_
    refine GI.reg [0, 1, 2, 3] rfl ?_
    refine GI.rd Fw.wide rfl rfl rfl rfl rfl (Pu.rd (pu_move rfl)) ?_
    refine GI.rd Fw.wide rfl rfl rfl rfl rfl (Pu.rd (pu_move rfl)) ?_
    refine Gs.take (A := J pre) (by repeat constructor) ?_
    refine Gs.t_yieldAt hY p.1 hpl rfl rfl rfl rfl ?_
    refine GI.rd Fw.wide rfl rfl rfl rfl rfl (Pu.rd (pu_not rfl)) ?_
    refine GI.nil ?_
    refine Gs.then_n ?_
    refine Gs.cond_f rfl ?_
    refine Gs.skip ?_
    refine Gs.blk_n ?_
    refine Gs.then_n ?_
    exact Gs.again1 (pre ++ [p.1], left.eraseIdx i, some p) hperm hlt (by repeat constructor) (by repeat constructor)
/-- What slices.AppendSeq carries on: its loop's record; its variable; the keys that came. -/
def t_colJ (l b2 : Nat) (r : Loop) (pre : List ByteArray) : HProp := fun h => ∃ p : Option Addr × Nat, two (pt l (.loop r)) (two (cl b2 58 [.slice p.1 pre.length p.2]) (sl 9 1 strC p.1 p.2 pre)) h
theorem t_colJ_fold {l b2 n : Nat} {r : Loop} {pre : List ByteArray} {a : Option Addr} {c : Nat} {w0 w : World} {L : List HProp} (hn : n = pre.length) (s : Sat w0 w (pt l (.loop r) :: cl b2 58 [.slice a n c] :: sl 9 1 strC a c pre :: L)) : Sat w0 w (t_colJ l b2 r pre :: L) := by
  subst hn
  have s1 : Sat w0 w (cl b2 58 [.slice a pre.length c] :: sl 9 1 strC a c pre :: pt l (.loop r) :: L) := (s.take (.tl (.tl .hd))).take (.tl (.tl .hd))
  exact (Sat.two.2 ((Sat.two.2 s1).take (.tl .hd))).ent fun h x => ⟨(a, c), x⟩
theorem t_colJ_open {l b2 : Nat} {r : Loop} {pre : List ByteArray} {w0 w : World} {L : List HProp} (s : Sat w0 w (t_colJ l b2 r pre :: L)) : ∃ a c, Sat w0 w (pt l (.loop r) :: cl b2 58 [.slice a pre.length c] :: sl 9 1 strC a c pre :: L) := by
  obtain ⟨p, s1⟩ := s.ex
  have s2 := Sat.two.1 ((Sat.two.1 s1).take (.tl .hd))
  exact ⟨p.1, p.2, s2.take (.tl (.tl .hd))⟩
theorem t_collect_seq (b m : Nat) (es : List (ByteArray × (SlV Int))) (hl : es.length ≤ 100000) :
    Ct Tryz.prog 101 [.slice none 0 0, .func (.func 75) #[] #[.pointer (some ⟨b, 0, none⟩)]]
      [cl b 76 [.map (some m)], mp strV slV m es] (fun v hs => ∃ xs a c, List.Perm xs (mkeys es) ∧ v = .slice a xs.length c ∧ hs = [sl 9 1 strC a c xs, mp strV slV m es]) := by
  refine Ct.introM Tryz.func101 rfl (by kernel_rfl) 13 Tryz.ntmps101 (Nat.le_of_ble_eq_true rfl) fun w0 R => ?_
  refine Gs.seq ?_
  refine Gs.reg ?_
  refine Go.Sl.L.ac rfl rfl trivial (ac_box rfl rfl) ?_
  rintro _ _ ⟨b2, rfl, rfl⟩
  refine Go.Sl.L.pu rfl rfl trivial (pu_assign rfl) ?_
  refine Go.Sl.L.nil ?_
  refine Gs.then_n ?_
  refine Gs.seq ?_
  refine Gs.seq ?_
  refine Gs.reg ?_
  refine Go.Sl.L.pu rfl rfl trivial (pu_move rfl) ?_
  refine Go.Sl.L.nil ?_
  refine Gs.then_n ?_
  refine Gs.block ?_
  refine Gs.slNil 9 1 strC ?_
  intro a w e s
  have hen : ∀ args w, (callFunc 75 args).run Tryz.prog w = .ok (.enter 75 args) w := Go.Proofs.enters_of Tryz.func75 (by kernel_rfl) rfl
  have he : a.eval (.tmp 6) = .func (.func 75) #[] #[.pointer (some ⟨b, 0, none⟩)] := e.eval rfl
  refine wp_rangeCall he hen fun fn r hr => ?_
  have sat1 := s.alloc2 (.deferred (some [])) (.loop r)
  have hY : t_YOk Tryz.prog (w.heap.size + 1) (t_colJ (w.heap.size + 1) b2 r) := by
    intro pre x w1 w' R' hpl hs
    obtain ⟨a', c', s1⟩ := t_colJ_open hs
    refine ⟨r.fn, _, r.assign, r.body, run_yield s1.pt (by rw [hr]; rfl), fun m => roundIn_of_wpIn trivial ?_⟩
    have ht : (r.params.zip #[strV x]).foldl (fun tmps (t, a) => tmps.setIfInBounds t a) r.tmps = (a.put (some 7) (strV x)).tmps := by rw [hr]; simp [Act.put]
    have e7 : EnvOk 13 [(7, strV x), (2, .pointer (some ⟨b2, 0, none⟩))] ⟨(r.params.zip #[strV x]).foldl (fun tmps (t, a) => tmps.setIfInBounds t a) r.tmps, []⟩ := by
      rw [ht]
      have e8 := (e.put (d := 7) (by decide) (strV x)).sub (e := [(7, strV x), (2, .pointer (some ⟨b2, 0, none⟩))]) (by repeat constructor)
      exact ⟨e8.size, rfl, e8.slots⟩
    refine (?_ : Gs w1 13 [(7, strV x), (2, .pointer (some ⟨b2, 0, none⟩))] _ _) _ _ e7 s1
    subst hr
    refine GI.reg [0] rfl ?_
    refine GI.rd (Fw.round _) rfl rfl rfl rfl rfl (Pu.rd (pu_assign rfl)) ?_
    refine GI.nil ?_
    refine Gs.then_n ?_
    refine Gs.take .hd ?_
    refine Gs.begin rfl ?_
    refine GI.block ?_
    refine GI.reg [0, 1, 2, 3, 4] rfl ?_
    refine GI.rd (Fw.round _) rfl rfl rfl rfl rfl (rd_ld na_58 rfl (Rdc.cl1 (by repeat constructor) rfl)) ?_
    refine GI.rd (Fw.round _) rfl rfl rfl rfl rfl (Pu.rd (pu_move rfl)) ?_
    refine GI.ac (Fw.round _) rfl rfl rfl rfl rfl (ac_lit strC [x] et_58 ek_9 rfl (by repeat constructor) rfl rfl (by decide)) ?_
    rintro _ _ ⟨lb, rfl, rfl⟩
    refine GI.ac (Fw.round _) rfl rfl rfl rfl rfl (ac_append (xs := pre) et_58 ek_9 rfl rfl (by repeat constructor) (SrcH.sl Tryz.underlying58 ek_9 (SlH.own (by repeat constructor))) (by simp; omega) (by simp; omega)) ?_
    rintro _ _ ⟨a2, c2, rfl, rfl⟩
    refine GI.ac0 (Fw.round _) rfl rfl rfl rfl (ac_st sz_58 rfl rfl (by repeat constructor) rfl rfl rfl rfl) ?_
    rintro _ _ rfl
    refine GI.nil ?_
    refine Gs.blk_n ?_
    refine Gs.take (A := pt (w.heap.size + 1) (.loop _)) (by repeat constructor) ?_
    refine Gs.endRound fun w'' s'' => ⟨rfl, t_colJ_fold (a := a2) (c := c2) rfl (Ent.sat (by repeat constructor) s'')⟩
  have satJ : Sat w0 ((w.alloc (.deferred (some []))).alloc (.loop r)) ([t_colJ (w.heap.size + 1) b2 r [], cl b 76 [.map (some m)], mp strV slV m es] ++ (pt w.heap.size (.deferred (some [])) :: R)) := by
    have := sat1.takes (As := [pt (w.heap.size + 1) (.loop r), cl b2 58 [.slice none 0 0], sl 9 1 strC none 0 [], cl b 76 [.map (some m)], mp strV slV m es]) (by repeat constructor)
    exact t_colJ_fold rfl this
  refine ((t_iter_spec hY b m es hl).calls w0 _ _ satJ).mono ?_
  rintro e' w' ⟨v, hs, rfl, ⟨xs, hp, rfl⟩, sat2⟩
  obtain ⟨a', c', s3⟩ := t_colJ_open sat2
  have hend := run_endLoop (P := Tryz.prog) s3.pt (by rw [hr]; simp)
  rw [show r.pending = none by rw [hr]] at hend
  refine ⟨v, _, rfl, hend, ?_⟩
  have s4 : Sat w0 (w'.putObj (w.heap.size + 1) (.loop { r with state := .exhausted, pending := none })) _ := s3.setMap
  have rho : Rho [(2, .pointer (some ⟨b2, 0, none⟩))] a.eval := (e.sub (e := [(2, .pointer (some ⟨b2, 0, none⟩))]) (by repeat constructor)).rho
  refine wp_seq (wp_region_lit ?_)
  refine tail_rd rfl rfl (rd_ld na_58 rfl (Rdc.cl1 (by repeat constructor) rfl)) rho s4 fun w5 s5 => ?_
  have e5 := (e.put (d := 12) (by decide) (.slice a' xs.length c'))
  have rho5 : Rho [(12, .slice a' xs.length c')] (({ a with defers := [{ target := .collected w.heap.size, args := #[] }] ++ a.defers } : Act).put (some 12) (.slice a' xs.length c')).eval :=
    (e5.sub (e := [(12, .slice a' xs.length c')]) (by repeat constructor)).rho
  refine tail_rd rfl rfl (Pu.rd (pu_assign rfl)) rho5 s5 fun w6 s6 => ?_
  have e6 := (e5.put (d := 4) (by decide) (.slice a' xs.length c'))
  refine wp_ret ?_
  have s7 := s6.take (A := pt w.heap.size (.deferred (some []))) (by repeat constructor)
  have hds : a.defers = [] := e.defers
  show LeavesInM Fence.wide 0 _ _ _ _ ({ target := .collected w.heap.size, args := #[] } :: a.defers) .returning w6
  rw [hds]
  refine ⟨by simp, .inl ⟨w.heap.size, _, rfl, run_takeDeferred s7.pt, ?_⟩⟩
  have s8 : Sat w0 (w6.putObj w.heap.size (.deferred none)) _ := s7.setMap (o' := .deferred none)
  refine ⟨_, results_tmp Tryz.results101 _ _ _, _, _, rfl, ⟨xs, a', c', hp, ?_, rfl⟩, Ent.sat (by repeat constructor) s8⟩
  exact e6.slots 4 _ rfl
theorem t_collect_spec (b m : Nat) (es : List (ByteArray × (SlV Int))) (hl : es.length ≤ 100000) :
    Ct Tryz.prog 73 [.func (.func 75) #[] #[.pointer (some ⟨b, 0, none⟩)]]
      [cl b 76 [.map (some m)], mp strV slV m es] (fun v hs => ∃ xs a c, List.Perm xs (mkeys es) ∧ v = .slice a xs.length c ∧ hs = [sl 9 1 strC a c xs, mp strV slV m es]) := by
  refine Ct.intro Tryz.func73 rfl (by kernel_rfl) 5 Tryz.ntmps73 (Nat.le_of_ble_eq_true rfl) fun w0 R => ?_
  refine Gs.seq ?_
  refine Gs.reg ?_
  refine Go.Sl.L.pu rfl rfl trivial (pu_assign rfl) ?_
  refine Go.Sl.L.nil ?_
  refine Gs.then_n ?_
  refine Gs.seq ?_
  refine Gs.reg ?_
  refine Go.Sl.L.pu rfl rfl trivial (pu_move rfl) ?_
  refine Go.Sl.L.ac rfl rfl trivial (as_call (t_collect_seq b m es hl) (by repeat constructor) (by repeat constructor)) ?_
  rintro _ _ ⟨_, ⟨xs, a, c, hp, rfl, rfl⟩, rfl⟩
  refine Go.Sl.L.pu rfl rfl trivial (pu_assign rfl) ?_
  refine Go.Sl.L.nil ?_
  refine Gs.then_n ?_
  refine Gs.ret ?_
  exact Gs.fin1 Tryz.results73 rfl _ (⟨xs, a, c, hp, rfl, rfl⟩) (by repeat constructor)
end Go.Proofs.YtmbikfojljnnkaaGreatDoor

/- maps.Keys and slices.Collect at the map of records: the keys, in whatever order, once each. -/
namespace Go.Proofs.YtmbikfojljnnkaaGreatDoor
open Go Go.Sl Go.Gv Go.Kv Go.Po Go.Ix
set_option maxRecDepth 100000

/-- What a call of yield does: it takes x over. -/
def w_YOk (P : Program) (l : Nat) (J : List Key → HProp) : Prop := ∀ (pre : List Key) (x : Key) (w0 w : World) (R : List HProp), pre.length < 100000 → Sat w0 w (J pre :: R) → ∃ f tmps assign body, (Instr.yield l #[keyV x]).run P w = .ok (.round l f tmps assign body) w ∧
  ∀ m, RoundIn Fence.wide m P l f tmps assign body w fun e w' => e = .returned (.bool true) ∧ Sat w0 w' (J (pre ++ [x]) :: R)

theorem w_erase_perm {α : Type} : ∀ {l : List α} {i : Nat} {x : α}, l[i]? = some x → List.Perm (x :: l.eraseIdx i) l
  | [], _, _, h => by simp at h
  | a :: l, 0, x, h => by simp at h; subst h; exact List.Perm.refl _
  | a :: l, i + 1, x, h => by
    have := w_erase_perm (l := l) (i := i) (x := x) (by simpa using h)
    exact (List.Perm.swap a x _).trans (this.cons a)
theorem Gs.w_yieldAt {l : Nat} {J : List Key → HProp} (hY : w_YOk Tryz.prog l J) {w0 : World} {n m k dd : Nat} {env : Env} {H : List HProp} {Q : Exit → Act → World → Prop} {ops : Array Oper} {rest : List Nat} {x y : Operand} {ts : Array TypeId} {ty : TypeId} {pos : String} {af : Array Edge} {pre : List Key} (z : Key)
    (hpl : pre.length < 100000) (ho : ops[k]? = some ⟨some dd, .call ⟨.value x, #[y], ts⟩, ty, pos, af, none⟩) (hdn : Nat.blt dd n = true) (hx : ev env x = some (.func (.yield l) #[] #[])) (hy : ev env y = some (keyV z))
    (g : Gs w0 n ((dd, .bool true) :: env) (J (pre ++ [z]) :: H) (wpOpsIn Fence.wide m Tryz.prog ops Q rest)) : Gs w0 n env (J pre :: H) (wpOpsIn Fence.wide m Tryz.prog ops Q (k :: rest)) := fun a w e t => by
  obtain ⟨f, tmps, assign, body, h1, h2⟩ := hY pre z w0 w H hpl t
  have hw : Region.wanted ⟨some dd, .call ⟨.value x, #[y], ts⟩, ty, pos, af, none⟩ (yielded ops a.tmps) = true := by simp [Region.wanted]
  have hr : (execOp a.eval ⟨some dd, .call ⟨.value x, #[y], ts⟩, ty, pos, af, none⟩).run Tryz.prog w = .ok (.round l f tmps assign body) w := by
    show (do let d ← resolve a.eval ⟨.value x, #[y], ts⟩ ty; invoke d.target d.args : Sem Next).run Tryz.prog w = _
    have hr1 : resolve a.eval ⟨.value x, #[y], ts⟩ ty = (pure ⟨.fn (.yield l) #[], #[keyV z]⟩ : Sem Deferred) := by
      simp only [resolve, e.eval hx, Deferred.ofValue]
      simp [e.eval hy]
    rw [hr1]
    simp only [Sem.run_bind, Sem.run_pure, Result.andThen_ok, invoke]
    exact h1
  simp only [wpOpsIn, ho, hw, if_true]
  unfold Oper.wpIn
  refine ⟨fun _ _ => trivial, ?_⟩
  rw [show Fence.wide.round = none from rfl, Oper.semAt_none, hr]
  refine ⟨(fun hs => by cases hs), (h2 (m - 1)).mono ?_⟩
  rintro e' w' ⟨rfl, t'⟩
  exact g _ _ (e.put (by simpa [Nat.blt_eq] using hdn) _) t'
theorem w_keysFn_spec (m : Nat) : Ct Tryz.prog 52 [.map (some m)] []
    (fun v hs => ∃ b, v = .func (.func 93) #[] #[.pointer (some ⟨b, 0, none⟩)] ∧ hs = [cl b 70 [.map (some m)]]) := by
  refine Ct.intro Tryz.func52 rfl (by kernel_rfl) 4 Tryz.ntmps52 (Nat.le_of_ble_eq_true rfl) fun w0 R => ?_
  refine Gs.seq ?_
  refine Gs.reg ?_
  refine Go.Sl.L.ac rfl rfl trivial (ac_box rfl rfl) ?_
  rintro _ _ ⟨b, rfl, rfl⟩
  refine Go.Sl.L.pu rfl rfl trivial (pu_assign rfl) ?_
  refine Go.Sl.L.nil ?_
  refine Gs.then_n ?_
  refine Gs.seq ?_
  refine Gs.reg ?_
  refine Go.Sl.L.pu rfl rfl trivial (pu_func (by repeat constructor) (by repeat constructor)) ?_
  refine Go.Sl.L.pu rfl rfl trivial (pu_assign rfl) ?_
  refine Go.Sl.L.nil ?_
  refine Gs.then_n ?_
  refine Gs.ret ?_
  exact Gs.fin1 Tryz.results52 rfl _ (⟨b, rfl, rfl⟩) (by repeat constructor)
/-- The iterator: J is carried on over all keys, in some order. -/
theorem w_iter_spec {l : Nat} {J : List Key → HProp} (hY : w_YOk Tryz.prog l J) (b m : Nat) (es : List (Key × (SlV ByteArray))) (hes : es.length ≤ 100000) :
    Ct Tryz.prog 93 [.func (.yield l) #[] #[], .pointer (some ⟨b, 0, none⟩)] [J [], cl b 70 [.map (some m)], mp keyV slV m es]
      (fun _ hs => ∃ xs, List.Perm xs (mkeys es) ∧ hs = [J xs, cl b 70 [.map (some m)], mp keyV slV m es]) := by
  refine Ct.intro Tryz.func93 rfl (by kernel_rfl) 14 Tryz.ntmps93 (Nat.le_of_ble_eq_true rfl) fun w0 R => ?_
  refine Gs.seq ?_
  refine Gs.reg ?_
  refine Go.Sl.L.rd rfl rfl trivial (rd_ld na_70 rfl (Rdc.cl1 (by repeat constructor) rfl)) ?_
  refine Go.Sl.L.ac rfl rfl trivial (ac_range (enck := keyV) (encv := slV) Tryz.underlying70 rfl (by repeat constructor)) ?_
  rintro _ _ ⟨r, rfl, rfl⟩
  refine Go.Sl.L.nil ?_
  refine Gs.then_n ?_
  refine Gs.block ?_
  refine Gs.loop1 (fun s : List Key × List (Key × (SlV ByteArray)) × Option (Key × (SlV ByteArray)) => List.Perm (s.1 ++ mkeys s.2.1) (mkeys es)) (fun s => [(0, .func (.yield l) #[] #[]), (5, .pointer (some ⟨r, 0, none⟩))]) (fun s => [itr keyV slV r m es s.2.1 s.2.2, J s.1, cl b 70 [.map (some m)]] ++ R) (fun s => s.2.1.length) ([], es, none) (List.Perm.refl _) (by repeat constructor) (by repeat constructor) (fun s hs => ?_)
  obtain ⟨pre, left, last⟩ := s
  dsimp only at hs ⊢
  refine Gs.seq ?_
  refine Gs.reg ?_
  refine Go.Sl.L.ac rfl rfl trivial (ac_next rfl (by repeat constructor)) ?_
  rintro _ _ (⟨hl, rfl, rfl⟩ | ⟨i, p, hp, rfl, rfl⟩)
  · skip
    have hl' : left = [] := hl
    subst hl'
    refine Gs.itrEnd (by repeat constructor) ?_
    refine Go.Sl.L.pu rfl rfl trivial (pu_extract rfl rfl) ?_
    refine Go.Sl.L.nil ?_
    refine Gs.then_n ?_
    refine Gs.seq ?_
    refine Gs.cond_f rfl ?_
    refine Gs.exit ?_
    refine Gs.then_x ?_
    refine Gs.then_x ?_
    refine Gs.blk_hit ?_
    refine Gs.fin_n ?_
    exact Gs.fin0 Tryz.results93 _ (⟨pre, by simpa [mkeys] using hs, rfl⟩) (by repeat constructor)
  · skip
    have hperm : List.Perm ((pre ++ [p.1]) ++ mkeys (left.eraseIdx i)) (mkeys es) := by
      refine List.Perm.trans ?_ hs
      rw [List.append_assoc]
      refine List.Perm.append_left pre ?_
      have h1 : List.Perm (p :: left.eraseIdx i) left := w_erase_perm hp
      exact h1.map Prod.fst
    have hlt : (left.eraseIdx i).length < left.length := by
      have := (List.getElem?_eq_some_iff.1 hp).1
      rw [List.length_eraseIdx_of_lt this]; omega
    have hpl : pre.length < 100000 := by
      have h1 := hs.length_eq
      have h2 := (List.getElem?_eq_some_iff.1 hp).1
      simp [mkeys] at h1; omega
    refine Go.Sl.L.pu rfl rfl trivial (pu_extract rfl rfl) ?_
    refine Go.Sl.L.nil ?_
    refine Gs.then_n ?_
    refine Gs.seq ?_
    refine Gs.cond_t rfl ?_
    refine Gs.skip ?_
    refine Gs.then_n ?_
    refine Gs.block ?_
    refine Gs.seq ?_
    refine Gs.reg ?_
    refine Go.Sl.L.rd rfl rfl trivial (ac_entry rfl (by repeat constructor)) ?_
    refine Go.Sl.L.pu rfl rfl trivial (pu_extract rfl rfl) ?_
    refine Go.Sl.L.ac rfl rfl trivial (ac_alloc zv_31 rfl) ?_
    rintro _ _ ⟨b3, rfl, rfl⟩
    refine Go.Sl.L.ac0 rfl trivial (ac_st sz_31 rfl rfl (by repeat constructor) rfl rfl rfl rfl) ?_
    rintro _ _ rfl
    refine Go.Sl.L.nil ?_
    refine Gs.then_n ?_
    refine Gs.seq ?_
    refine Gs.wide (m := 0) ?_
    refine GI.reg [0, 1, 2, 3] rfl ?_
    refine GI.rd Fw.wide rfl rfl rfl rfl rfl (Pu.rd (pu_move rfl)) ?_
    refine GI.rd Fw.wide rfl rfl rfl rfl rfl (rd_lda ag_31 rfl (Rdc.cl 2 (by repeat constructor) rfl) rfl) ?_
    refine Gs.take (A := J pre) (by repeat constructor) ?_
    refine Gs.w_yieldAt hY p.1 hpl rfl rfl rfl rfl ?_
    refine GI.rd Fw.wide rfl rfl rfl rfl rfl (Pu.rd (pu_not rfl)) ?_
    refine GI.nil ?_
    refine Gs.then_n ?_
    refine Gs.cond_f rfl ?_
    refine Gs.skip ?_
    refine Gs.blk_n ?_
    refine Gs.then_n ?_
    exact Gs.again1 (pre ++ [p.1], left.eraseIdx i, some p) hperm hlt (by repeat constructor) (by repeat constructor)
/-- What slices.AppendSeq carries on: its loop's record; its variable; the keys that came. -/
def w_colJ (l b2 : Nat) (r : Loop) (pre : List Key) : HProp := fun h => ∃ p : Option Addr × Nat, two (pt l (.loop r)) (two (cl b2 47 [.slice p.1 pre.length p.2]) (sl 31 2 keyC p.1 p.2 pre)) h
theorem w_colJ_fold {l b2 n : Nat} {r : Loop} {pre : List Key} {a : Option Addr} {c : Nat} {w0 w : World} {L : List HProp} (hn : n = pre.length) (s : Sat w0 w (pt l (.loop r) :: cl b2 47 [.slice a n c] :: sl 31 2 keyC a c pre :: L)) : Sat w0 w (w_colJ l b2 r pre :: L) := by
  subst hn
  have s1 : Sat w0 w (cl b2 47 [.slice a pre.length c] :: sl 31 2 keyC a c pre :: pt l (.loop r) :: L) := (s.take (.tl (.tl .hd))).take (.tl (.tl .hd))
  exact (Sat.two.2 ((Sat.two.2 s1).take (.tl .hd))).ent fun h x => ⟨(a, c), x⟩
theorem w_colJ_open {l b2 : Nat} {r : Loop} {pre : List Key} {w0 w : World} {L : List HProp} (s : Sat w0 w (w_colJ l b2 r pre :: L)) : ∃ a c, Sat w0 w (pt l (.loop r) :: cl b2 47 [.slice a pre.length c] :: sl 31 2 keyC a c pre :: L) := by
  obtain ⟨p, s1⟩ := s.ex
  have s2 := Sat.two.1 ((Sat.two.1 s1).take (.tl .hd))
  exact ⟨p.1, p.2, s2.take (.tl (.tl .hd))⟩
theorem w_collect_seq (b m : Nat) (es : List (Key × (SlV ByteArray))) (hl : es.length ≤ 100000) :
    Ct Tryz.prog 127 [.slice none 0 0, .func (.func 93) #[] #[.pointer (some ⟨b, 0, none⟩)]]
      [cl b 70 [.map (some m)], mp keyV slV m es] (fun v hs => ∃ xs a c, List.Perm xs (mkeys es) ∧ v = .slice a xs.length c ∧ hs = [sl 31 2 keyC a c xs, mp keyV slV m es]) := by
  refine Ct.introM Tryz.func127 rfl (by kernel_rfl) 13 Tryz.ntmps127 (Nat.le_of_ble_eq_true rfl) fun w0 R => ?_
  refine Gs.seq ?_
  refine Gs.reg ?_
  refine Go.Sl.L.ac rfl rfl trivial (ac_box rfl rfl) ?_
  rintro _ _ ⟨b2, rfl, rfl⟩
  refine Go.Sl.L.pu rfl rfl trivial (pu_assign rfl) ?_
  refine Go.Sl.L.nil ?_
  refine Gs.then_n ?_
  refine Gs.seq ?_
  refine Gs.seq ?_
  refine Gs.reg ?_
  refine Go.Sl.L.pu rfl rfl trivial (pu_move rfl) ?_
  refine Go.Sl.L.nil ?_
  refine Gs.then_n ?_
  refine Gs.block ?_
  refine Gs.slNil 31 2 keyC ?_
  intro a w e s
  have hen : ∀ args w, (callFunc 93 args).run Tryz.prog w = .ok (.enter 93 args) w := Go.Proofs.enters_of Tryz.func93 (by kernel_rfl) rfl
  have he : a.eval (.tmp 6) = .func (.func 93) #[] #[.pointer (some ⟨b, 0, none⟩)] := e.eval rfl
  refine wp_rangeCall he hen fun fn r hr => ?_
  have sat1 := s.alloc2 (.deferred (some [])) (.loop r)
  have hY : w_YOk Tryz.prog (w.heap.size + 1) (w_colJ (w.heap.size + 1) b2 r) := by
    intro pre x w1 w' R' hpl hs
    obtain ⟨a', c', s1⟩ := w_colJ_open hs
    refine ⟨r.fn, _, r.assign, r.body, run_yield s1.pt (by rw [hr]; rfl), fun m => roundIn_of_wpIn trivial ?_⟩
    have ht : (r.params.zip #[keyV x]).foldl (fun tmps (t, a) => tmps.setIfInBounds t a) r.tmps = (a.put (some 7) (keyV x)).tmps := by rw [hr]; simp [Act.put]
    have e7 : EnvOk 13 [(7, keyV x), (2, .pointer (some ⟨b2, 0, none⟩))] ⟨(r.params.zip #[keyV x]).foldl (fun tmps (t, a) => tmps.setIfInBounds t a) r.tmps, []⟩ := by
      rw [ht]
      have e8 := (e.put (d := 7) (by decide) (keyV x)).sub (e := [(7, keyV x), (2, .pointer (some ⟨b2, 0, none⟩))]) (by repeat constructor)
      exact ⟨e8.size, rfl, e8.slots⟩
    refine (?_ : Gs w1 13 [(7, keyV x), (2, .pointer (some ⟨b2, 0, none⟩))] _ _) _ _ e7 s1
    subst hr
    refine GI.reg [0, 1] rfl ?_
    refine GI.ac (Fw.round _) rfl rfl rfl rfl rfl (ac_alloc zv_31 rfl) ?_
    rintro _ _ ⟨b5, rfl, rfl⟩
    refine GI.ac0 (Fw.round _) rfl rfl rfl rfl (ac_st sz_31 rfl rfl (by repeat constructor) rfl rfl rfl rfl) ?_
    rintro _ _ rfl
    refine GI.nil ?_
    refine Gs.then_n ?_
    refine Gs.take (.tl .hd) ?_
    refine Gs.begin rfl ?_
    refine GI.block ?_
    refine GI.reg [0, 1, 2, 3, 4] rfl ?_
    refine GI.rd (Fw.round _) rfl rfl rfl rfl rfl (rd_ld na_47 rfl (Rdc.cl1 (by repeat constructor) rfl)) ?_
    refine GI.rd (Fw.round _) rfl rfl rfl rfl rfl (rd_lda ag_31 rfl (Rdc.cl 2 (by repeat constructor) rfl) rfl) ?_
    refine GI.ac (Fw.round _) rfl rfl rfl rfl rfl (ac_lit keyC [x] et_47 ek_31 rfl (by repeat constructor) rfl rfl (by decide)) ?_
    rintro _ _ ⟨lb, rfl, rfl⟩
    refine GI.ac (Fw.round _) rfl rfl rfl rfl rfl (ac_append (xs := pre) et_47 ek_31 rfl rfl (by repeat constructor) (SrcH.sl Tryz.underlying47 ek_31 (SlH.own (by repeat constructor))) (by simp; omega) (by simp; omega)) ?_
    rintro _ _ ⟨a2, c2, rfl, rfl⟩
    refine GI.ac0 (Fw.round _) rfl rfl rfl rfl (ac_st sz_47 rfl rfl (by repeat constructor) rfl rfl rfl rfl) ?_
    rintro _ _ rfl
    refine GI.nil ?_
    refine Gs.blk_n ?_
    refine Gs.take (A := pt (w.heap.size + 1) (.loop _)) (by repeat constructor) ?_
    refine Gs.endRound fun w'' s'' => ⟨rfl, w_colJ_fold (a := a2) (c := c2) rfl (Ent.sat (by repeat constructor) s'')⟩
  have satJ : Sat w0 ((w.alloc (.deferred (some []))).alloc (.loop r)) ([w_colJ (w.heap.size + 1) b2 r [], cl b 70 [.map (some m)], mp keyV slV m es] ++ (pt w.heap.size (.deferred (some [])) :: R)) := by
    have := sat1.takes (As := [pt (w.heap.size + 1) (.loop r), cl b2 47 [.slice none 0 0], sl 31 2 keyC none 0 [], cl b 70 [.map (some m)], mp keyV slV m es]) (by repeat constructor)
    exact w_colJ_fold rfl this
  refine ((w_iter_spec hY b m es hl).calls w0 _ _ satJ).mono ?_
  rintro e' w' ⟨v, hs, rfl, ⟨xs, hp, rfl⟩, sat2⟩
  obtain ⟨a', c', s3⟩ := w_colJ_open sat2
  have hend := run_endLoop (P := Tryz.prog) s3.pt (by rw [hr]; simp)
  rw [show r.pending = none by rw [hr]] at hend
  refine ⟨v, _, rfl, hend, ?_⟩
  have s4 : Sat w0 (w'.putObj (w.heap.size + 1) (.loop { r with state := .exhausted, pending := none })) _ := s3.setMap
  have rho : Rho [(2, .pointer (some ⟨b2, 0, none⟩))] a.eval := (e.sub (e := [(2, .pointer (some ⟨b2, 0, none⟩))]) (by repeat constructor)).rho
  refine wp_seq (wp_region_lit ?_)
  refine tail_rd rfl rfl (rd_ld na_47 rfl (Rdc.cl1 (by repeat constructor) rfl)) rho s4 fun w5 s5 => ?_
  have e5 := (e.put (d := 12) (by decide) (.slice a' xs.length c'))
  have rho5 : Rho [(12, .slice a' xs.length c')] (({ a with defers := [{ target := .collected w.heap.size, args := #[] }] ++ a.defers } : Act).put (some 12) (.slice a' xs.length c')).eval :=
    (e5.sub (e := [(12, .slice a' xs.length c')]) (by repeat constructor)).rho
  refine tail_rd rfl rfl (Pu.rd (pu_assign rfl)) rho5 s5 fun w6 s6 => ?_
  have e6 := (e5.put (d := 4) (by decide) (.slice a' xs.length c'))
  refine wp_ret ?_
  have s7 := s6.take (A := pt w.heap.size (.deferred (some []))) (by repeat constructor)
  have hds : a.defers = [] := e.defers
  show LeavesInM Fence.wide 0 _ _ _ _ ({ target := .collected w.heap.size, args := #[] } :: a.defers) .returning w6
  rw [hds]
  refine ⟨by simp, .inl ⟨w.heap.size, _, rfl, run_takeDeferred s7.pt, ?_⟩⟩
  have s8 : Sat w0 (w6.putObj w.heap.size (.deferred none)) _ := s7.setMap (o' := .deferred none)
  refine ⟨_, results_tmp Tryz.results127 _ _ _, _, _, rfl, ⟨xs, a', c', hp, ?_, rfl⟩, Ent.sat (by repeat constructor) s8⟩
  exact e6.slots 4 _ rfl
theorem w_collect_spec (b m : Nat) (es : List (Key × (SlV ByteArray))) (hl : es.length ≤ 100000) :
    Ct Tryz.prog 91 [.func (.func 93) #[] #[.pointer (some ⟨b, 0, none⟩)]]
      [cl b 70 [.map (some m)], mp keyV slV m es] (fun v hs => ∃ xs a c, List.Perm xs (mkeys es) ∧ v = .slice a xs.length c ∧ hs = [sl 31 2 keyC a c xs, mp keyV slV m es]) := by
  refine Ct.intro Tryz.func91 rfl (by kernel_rfl) 5 Tryz.ntmps91 (Nat.le_of_ble_eq_true rfl) fun w0 R => ?_
  refine Gs.seq ?_
  refine Gs.reg ?_
  refine Go.Sl.L.pu rfl rfl trivial (pu_assign rfl) ?_
  refine Go.Sl.L.nil ?_
  refine Gs.then_n ?_
  refine Gs.seq ?_
  refine Gs.reg ?_
  refine Go.Sl.L.pu rfl rfl trivial (pu_move rfl) ?_
  refine Go.Sl.L.ac rfl rfl trivial (as_call (w_collect_seq b m es hl) (by repeat constructor) (by repeat constructor)) ?_
  rintro _ _ ⟨_, ⟨xs, a, c, hp, rfl, rfl⟩, rfl⟩
  refine Go.Sl.L.pu rfl rfl trivial (pu_assign rfl) ?_
  refine Go.Sl.L.nil ?_
  refine Gs.then_n ?_
  refine Gs.ret ?_
  exact Gs.fin1 Tryz.results91 rfl _ (⟨xs, a, c, hp, rfl, rfl⟩) (by repeat constructor)
end Go.Proofs.YtmbikfojljnnkaaGreatDoor

