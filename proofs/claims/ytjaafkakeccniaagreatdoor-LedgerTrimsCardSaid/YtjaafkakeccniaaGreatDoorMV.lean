/- Texts that stand in one. -/
import Derived.Test.YtjaafkakeccniaaGreatDoorMW
import Derived.Test.YtjaafkakeccniaaGreatDoorMD
import Derived.Test.YtjaafkakeccniaaGreatDoorLay
import Derived.Test.YtjaafkakeccniaaGreatDoorRf
/- drive.named: which name may be, for names of ASCII; strings.ContainsRune at an ASCII rune by the kit's contract. -/
namespace Go.Proofs
open Go.Shelf
namespace YtjaafkakeccniaaGreatDoor
open Go Go.Sl Go.Gv Go.Dv Go.Bst Go.RowKit
set_option maxRecDepth 100000
theorem ofNat_toNat8 (c : UInt8) : (c.toNat : Int).toNat.toUInt8 = c := by
  rw [Int.toNat_natCast]
  exact UInt8.ofNat_toNat
theorem hasRune_spec (s : ByteArray) (c : UInt8) (h : c.toNat < 128) : Ct Tryz.prog 92 [.string s, .int .i32 c.toNat] [] (fun v hs => v = .bool (decide (0 ≤ Lib.indexByte s.data.toList c)) ∧ hs = []) :=
  Ct.ofBelow Tryz.func92 rfl (by kernel_rfl) (V := fun _ => .bool (decide (0 ≤ Lib.indexByte s.data.toList c))) (fun w0 w R st => by
    have := Any.strings_ContainsRune_ascii Tryz.laysCtRune s c.toNat w (by omega) (by omega)
    rw [ofNat_toNat8] at this
    exact this.mono fun e w' ⟨h1, h2⟩ => ⟨h1, by rw [h2]; exact Below.refl _ _⟩) (fun _ => ⟨rfl, rfl⟩)
def abc : List UInt8 := [97, 98, 99, 100, 101, 102, 103, 104, 105, 106, 107, 108, 109, 110, 111, 112, 113, 114, 115, 116, 117, 118, 119, 120, 121, 122, 48, 49, 50, 51, 52, 53, 54, 55, 56, 57, 46]
theorem abc_ok (c : UInt8) : decide (0 ≤ Lib.indexByte abc c) = okB c := by
  have h : ∀ k : Fin 256, decide (0 ≤ Lib.indexByte abc (UInt8.ofNat k.val)) = okB (UInt8.ofNat k.val) := by decide +kernel
  have := h ⟨c.toNat, c.toNat_lt⟩
  rwa [show UInt8.ofNat c.toNat = c from UInt8.ofNat_toNat] at this
theorem odd_spec (c : UInt8) (h : c.toNat < 128) : Ct Tryz.prog 91 [.int .i32 c.toNat] [] (fun v hs => v = .bool (!okB c) ∧ hs = []) := by
  refine Ct.intro Tryz.func91 rfl (by kernel_rfl) 6 Tryz.ntmps91 (Nat.le_of_ble_eq_true rfl) fun w0 R => ?_
  refine Gs.seq ?_
  refine Gs.reg ?_
  refine Go.Sl.L.pu rfl rfl trivial (pu_assign rfl) ?_
  refine Go.Sl.L.nil ?_
  refine Gs.then_n ?_
  refine Gs.seq ?_
  refine Gs.reg ?_
  refine Go.Sl.L.pu rfl rfl trivial (pu_move rfl) ?_
  refine Go.Sl.L.ac rfl rfl trivial (as_call (hasRune_spec ⟨abc.toArray⟩ c h) (by repeat constructor) (by repeat constructor)) ?_
  rintro _ _ ⟨_, ⟨rfl, rfl⟩, rfl⟩
  refine Go.Sl.L.pu rfl rfl trivial (pu_not rfl) ?_
  refine Go.Sl.L.pu rfl rfl trivial (pu_assign rfl) ?_
  refine Go.Sl.L.nil ?_
  refine Gs.then_n ?_
  refine Gs.ret ?_
  exact Gs.fin1 Tryz.results91 rfl _ (⟨by rw [← abc_ok c], rfl⟩) (by repeat constructor)
theorem decode_at {s : ByteArray} {i : Nat} (h : i < s.size) {c : UInt8} (hc : s.data.toList[i]? = some c) (ha : c.toNat < 128) : Utf8.decode s i = (c.toNat, 1) := by
  have e : s[i]'h = c := by
    have : s.data.toList[i]? = some (s.data[i]'h) := by simp
    rw [this] at hc; exact Option.some.inj hc
  have := decode_ascii s i h (by rw [e]; exact ha)
  rw [e] at this; exact this
theorem any_drop {p : UInt8 → Bool} {l : List UInt8} {i : Nat} {c : UInt8} (h : l[i]? = some c) : (l.drop i).any p = (p c || (l.drop (i + 1)).any p) := by
  obtain ⟨hl, e⟩ := List.getElem?_eq_some_iff.1 h
  rw [List.drop_eq_getElem_cons hl, List.any_cons, e]
theorem indexFunc_spec (p : UInt8 → Bool) (g : Nat) (s : ByteArray) (hs : s.size ≤ 1000000) (ha : asciiB s = true) (hg : ∀ c : UInt8, c.toNat < 128 → Ct Tryz.prog g [.int .i32 c.toNat] [] (fun v hs => v = .bool (p c) ∧ hs = [])) :
    Ct Tryz.prog 141 [.string s, .func (.func g) #[] #[], .bool true] [] (fun v hs => (∃ z : Int, v = int z ∧ decide (0 ≤ z) = s.data.toList.any p) ∧ hs = []) := by
  have hsz : s.size = s.data.toList.length := by rw [Array.length_toList]; rfl
  refine Ct.intro Tryz.func141 rfl (by kernel_rfl) 21 Tryz.ntmps141 (Nat.le_of_ble_eq_true rfl) fun w0 R => ?_
  refine Gs.seq ?_
  refine Gs.reg ?_
  refine Go.Sl.L.pu rfl rfl trivial (pu_assign rfl) ?_
  refine Go.Sl.L.nil ?_
  refine Gs.then_n ?_
  refine Gs.seq ?_
  refine Gs.seq ?_
  refine Gs.reg ?_
  refine Go.Sl.L.pu rfl rfl trivial (pu_move rfl) ?_
  refine Go.Sl.L.ac rfl rfl trivial (ac_rangeS Tryz.underlying9 rfl) ?_
  rintro _ _ ⟨r, rfl, rfl⟩
  refine Go.Sl.L.nil ?_
  refine Gs.then_n ?_
  refine Gs.block ?_
  refine Gs.loop1 (fun i : Nat => i ≤ s.size ∧ s.data.toList.any p = (s.data.toList.drop i).any p) (fun i => [(1, .func (.func g) #[] #[]), (2, .bool true), (10, .pointer (some ⟨r, 0, none⟩))]) (fun i => [sit r s i] ++ R) (fun i => s.size - i) 0 (⟨Nat.zero_le _, rfl⟩) (by repeat constructor) (by repeat constructor) (fun i ⟨hi, hd⟩ => ?_)
  refine Gs.seq ?_
  refine Gs.reg ?_
  refine Go.Sl.L.ac rfl rfl trivial (ac_nextS rfl (by repeat constructor)) ?_
  rintro _ _ (⟨hl, rfl, rfl⟩ | ⟨hl, rfl, rfl⟩)
  · skip
    refine Go.Sl.L.pu rfl rfl trivial (pu_extract rfl rfl) ?_
    refine Go.Sl.L.nil ?_
    refine Gs.then_n ?_
    refine Gs.seq ?_
    refine Gs.cond_f rfl ?_
    refine Gs.exit ?_
    refine Gs.then_x ?_
    refine Gs.then_x ?_
    refine Gs.blk_hit ?_
    refine Gs.then_n ?_
    refine Gs.seq ?_
    refine Gs.reg ?_
    refine Go.Sl.L.pu rfl rfl trivial (pu_assign rfl) ?_
    refine Go.Sl.L.nil ?_
    refine Gs.then_n ?_
    refine Gs.ret ?_
    exact Gs.fin1 Tryz.results141 rfl _ (⟨⟨_, rfl, by rw [hd, List.drop_eq_nil_of_le (by omega)]; rfl⟩, rfl⟩) (by repeat constructor)
  · skip
    obtain ⟨c, hc⟩ : ∃ c, s.data.toList[i]? = some c := ⟨s.data.toList[i]'(by omega), by simp⟩
    have hc1 : c.toNat < 128 := by
      have := List.all_eq_true.1 ha c (List.mem_of_getElem? hc)
      simpa using this
    rw [decode_at hl hc hc1]
    refine Go.Sl.L.pu rfl rfl trivial (pu_extract rfl rfl) ?_
    refine Go.Sl.L.nil ?_
    refine Gs.then_n ?_
    refine Gs.seq ?_
    refine Gs.cond_t rfl ?_
    refine Gs.skip ?_
    refine Gs.then_n ?_
    refine Gs.block ?_
    refine Gs.seq ?_
    refine Gs.reg ?_
    refine Go.Sl.L.pu rfl rfl trivial (pu_extract rfl rfl) ?_
    refine Go.Sl.L.pu rfl rfl trivial (pu_extract rfl rfl) ?_
    refine Go.Sl.L.pu rfl rfl trivial (pu_assign rfl) ?_
    refine Go.Sl.L.pu rfl rfl trivial (pu_assign rfl) ?_
    refine Go.Sl.L.nil ?_
    refine Gs.then_n ?_
    refine Gs.seq ?_
    refine Gs.reg ?_
    refine Go.Sl.L.pu rfl rfl trivial (pu_move rfl) ?_
    refine Go.Sl.L.pu rfl rfl trivial (pu_move rfl) ?_
    refine Go.Sl.L.ac rfl rfl trivial (as_callV rfl (hg c hc1) (by repeat constructor) (by repeat constructor)) ?_
    rintro _ _ ⟨_, ⟨rfl, rfl⟩, rfl⟩
    refine Go.Sl.L.pu rfl rfl trivial (pu_move rfl) ?_
    refine Go.Sl.L.pu rfl rfl trivial (pu_eqB Tryz.underlying4 rfl rfl) ?_
    refine Go.Sl.L.nil ?_
    refine Gs.then_n ?_
    refine Gs.cond rfl (fun hq => ?_) (fun hq => ?_)
    · skip
      have hp : p c = true := by simpa using hq
      refine Gs.seq ?_
      refine Gs.reg ?_
      refine Go.Sl.L.pu rfl rfl trivial (pu_move rfl) ?_
      refine Go.Sl.L.pu rfl rfl trivial (pu_assign rfl) ?_
      refine Go.Sl.L.nil ?_
      refine Gs.then_n ?_
      refine Gs.ret ?_
      refine Gs.blk_r ?_
      refine Gs.then_r ?_
      refine Gs.blk_r ?_
      refine Gs.then_r ?_
      exact Gs.fin1 Tryz.results141 rfl _ (⟨⟨_, rfl, by rw [hd, any_drop hc, hp]; simp⟩, rfl⟩) (by repeat constructor)
    · skip
      have hp : p c = false := by simpa using hq
      refine Gs.skip ?_
      refine Gs.blk_n ?_
      refine Gs.then_n ?_
      exact Gs.again1 (i + 1) ⟨by omega, by rw [hd, any_drop hc, hp]; rfl⟩ (by show s.size - (i + 1) < s.size - i; omega) (by repeat constructor) (by repeat constructor)
theorem containsFunc_spec (p : UInt8 → Bool) (g : Nat) (s : ByteArray) (hs : s.size ≤ 1000000) (ha : asciiB s = true) (hg : ∀ c : UInt8, c.toNat < 128 → Ct Tryz.prog g [.int .i32 c.toNat] [] (fun v hs => v = .bool (p c) ∧ hs = [])) :
    Ct Tryz.prog 93 [.string s, .func (.func g) #[] #[]] [] (fun v hs => v = .bool (s.data.toList.any p) ∧ hs = []) := by
  have hI : Ct Tryz.prog 114 [.string s, .func (.func g) #[] #[]] [] (fun v hs => (∃ z : Int, v = int z ∧ decide (0 ≤ z) = s.data.toList.any p) ∧ hs = []) := by
    refine Ct.intro Tryz.func114 rfl (by kernel_rfl) 8 Tryz.ntmps114 (Nat.le_of_ble_eq_true rfl) fun w0 R => ?_
    refine Gs.seq ?_
    refine Gs.reg ?_
    refine Go.Sl.L.pu rfl rfl trivial (pu_assign rfl) ?_
    refine Go.Sl.L.nil ?_
    refine Gs.then_n ?_
    refine Gs.seq ?_
    refine Gs.reg ?_
    refine Go.Sl.L.pu rfl rfl trivial (pu_move rfl) ?_
    refine Go.Sl.L.pu rfl rfl trivial (pu_move rfl) ?_
    refine Go.Sl.L.ac rfl rfl trivial (as_call (indexFunc_spec p g s hs ha hg) (by repeat constructor) (by repeat constructor)) ?_
    rintro _ _ ⟨_, ⟨⟨z, rfl, hz⟩, rfl⟩, rfl⟩
    refine Go.Sl.L.pu rfl rfl trivial (pu_assign rfl) ?_
    refine Go.Sl.L.nil ?_
    refine Gs.then_n ?_
    refine Gs.ret ?_
    exact Gs.fin1 Tryz.results114 rfl _ (⟨⟨z, rfl, hz⟩, rfl⟩) (by repeat constructor)
  refine Ct.intro Tryz.func93 rfl (by kernel_rfl) 9 Tryz.ntmps93 (Nat.le_of_ble_eq_true rfl) fun w0 R => ?_
  refine Gs.seq ?_
  refine Gs.reg ?_
  refine Go.Sl.L.pu rfl rfl trivial (pu_assign rfl) ?_
  refine Go.Sl.L.nil ?_
  refine Gs.then_n ?_
  refine Gs.seq ?_
  refine Gs.reg ?_
  refine Go.Sl.L.pu rfl rfl trivial (pu_move rfl) ?_
  refine Go.Sl.L.pu rfl rfl trivial (pu_move rfl) ?_
  refine Go.Sl.L.ac rfl rfl trivial (as_call (hI) (by repeat constructor) (by repeat constructor)) ?_
  rintro _ _ ⟨_, ⟨⟨z, rfl, hz⟩, rfl⟩, rfl⟩
  refine Go.Sl.L.pu rfl rfl trivial (pu_ge rfl rfl) ?_
  refine Go.Sl.L.pu rfl rfl trivial (pu_assign rfl) ?_
  refine Go.Sl.L.nil ?_
  refine Gs.then_n ?_
  refine Gs.ret ?_
  exact Gs.fin1 Tryz.results93 rfl _ (⟨by rw [← hz], rfl⟩) (by repeat constructor)
theorem named_spec (s : ByteArray) (ha : asciiB s = true) (hsz : s.size ≤ 9223372036854775807) : Ct Tryz.prog 63 [.string s] [] (fun v hs => v = .bool (namedB s) ∧ hs = []) := by
  refine Ct.intro Tryz.func63 rfl (by kernel_rfl) 18 Tryz.ntmps63 (Nat.le_of_ble_eq_true rfl) fun w0 R => ?_
  refine Gs.seq ?_
  refine Gs.reg ?_
  refine Go.Sl.L.pu rfl rfl trivial (pu_assign rfl) ?_
  refine Go.Sl.L.nil ?_
  refine Gs.then_n ?_
  refine Gs.seq ?_
  refine Gs.reg ?_
  refine Go.Sl.L.pu rfl rfl trivial (pu_assign rfl) ?_
  refine Go.Sl.L.nil ?_
  refine Gs.then_n ?_
  refine Gs.seq ?_
  refine Gs.reg ?_
  refine Go.Sl.L.pu rfl rfl trivial (pu_move rfl) ?_
  refine Go.Sl.L.pu rfl rfl trivial (pu_lenS Tryz.underlying9 rfl) ?_
  refine Go.Sl.L.pu rfl rfl trivial (pu_ge rfl rfl) ?_
  refine Go.Sl.L.puB rfl rfl trivial (pu_move rfl) (fun hg3 => ?_) (fun hg3 => ?_)
  · skip
    have hg := of_decide_eq_true hg3
    refine Go.Sl.L.pu rfl rfl ⟨_, rfl, rfl⟩ (pu_move rfl) ?_
    refine Go.Sl.L.pu rfl rfl ⟨_, rfl, rfl⟩ (pu_lenS Tryz.underlying9 rfl) ?_
    refine Go.Sl.L.pu rfl rfl ⟨_, rfl, rfl⟩ (pu_le rfl rfl) ?_
    refine Go.Sl.L.pu rfl rfl trivial (by first | exact pu_pick_t rfl rfl | exact pu_pick_f rfl rfl) ?_
    refine Go.Sl.L.puB rfl rfl trivial (pu_move rfl) (fun hg8 => ?_) (fun hg8 => ?_)
    · skip
      have hg8' := of_decide_eq_true hg8
      refine Go.Sl.L.pu rfl rfl ⟨_, rfl, rfl⟩ (pu_move rfl) ?_
      refine Go.Sl.L.pu rfl rfl ⟨_, rfl, rfl⟩ (pu_move rfl) ?_
      refine Go.Sl.L.ac rfl rfl ⟨_, rfl, rfl⟩ (as_call (containsFunc_spec (fun c => !okB c) _ s (by omega) ha odd_spec) (by repeat constructor) (by repeat constructor)) ?_
      rintro _ _ ⟨_, ⟨rfl, rfl⟩, rfl⟩
      refine Go.Sl.L.pu rfl rfl ⟨_, rfl, rfl⟩ (pu_not rfl) ?_
      refine Go.Sl.L.pu rfl rfl trivial (by first | exact pu_pick_t rfl rfl | exact pu_pick_f rfl rfl) ?_
      refine Go.Sl.L.pu rfl rfl trivial (pu_assign rfl) ?_
      refine Go.Sl.L.nil ?_
      refine Gs.then_n ?_
      refine Gs.ret ?_
      exact Gs.fin1 Tryz.results63 rfl _ (⟨by grind [namedB], rfl⟩) (by repeat constructor)
    · skip
      have hg8' := of_decide_eq_false hg8
      refine Go.Sl.L.off rfl rfl rfl rfl rfl rfl ?_
      refine Go.Sl.L.off rfl rfl rfl rfl rfl rfl ?_
      refine Go.Sl.L.off rfl rfl rfl rfl rfl rfl ?_
      refine Go.Sl.L.off rfl rfl rfl rfl rfl rfl ?_
      refine Go.Sl.L.pu rfl rfl trivial (by first | exact pu_pick_t rfl rfl | exact pu_pick_f rfl rfl) ?_
      refine Go.Sl.L.pu rfl rfl trivial (pu_assign rfl) ?_
      refine Go.Sl.L.nil ?_
      refine Gs.then_n ?_
      refine Gs.ret ?_
      exact Gs.fin1 Tryz.results63 rfl _ (⟨by grind [namedB], rfl⟩) (by repeat constructor)
  · skip
    have hg := of_decide_eq_false hg3
    refine Go.Sl.L.off rfl rfl rfl rfl rfl rfl ?_
    refine Go.Sl.L.off rfl rfl rfl rfl rfl rfl ?_
    refine Go.Sl.L.off rfl rfl rfl rfl rfl rfl ?_
    refine Go.Sl.L.pu rfl rfl trivial (by first | exact pu_pick_t rfl rfl | exact pu_pick_f rfl rfl) ?_
    refine Go.Sl.L.pu rfl rfl trivial (pu_move rfl) ?_
    refine Go.Sl.L.off rfl rfl rfl rfl rfl rfl ?_
    refine Go.Sl.L.off rfl rfl rfl rfl rfl rfl ?_
    refine Go.Sl.L.off rfl rfl rfl rfl rfl rfl ?_
    refine Go.Sl.L.off rfl rfl rfl rfl rfl rfl ?_
    refine Go.Sl.L.pu rfl rfl trivial (by first | exact pu_pick_t rfl rfl | exact pu_pick_f rfl rfl) ?_
    refine Go.Sl.L.pu rfl rfl trivial (pu_assign rfl) ?_
    refine Go.Sl.L.nil ?_
    refine Gs.then_n ?_
    refine Gs.ret ?_
    exact Gs.fin1 Tryz.results63 rfl _ (⟨by grind [namedB], rfl⟩) (by repeat constructor)
end YtjaafkakeccniaaGreatDoor
end Go.Proofs

/- maps.Keys and slices.Collect at the map of records: the keys, in whatever order, once each. -/
namespace Go.Proofs.YtjaafkakeccniaaGreatDoor
open Go Go.Sl Go.Gv Go.Kv Go.Dv Go.Bst
set_option maxRecDepth 100000

/-- What a call of yield does: it takes x over. -/
def s_YOk (P : Program) (l : Nat) (J : List ByteArray → HProp) : Prop := ∀ (pre : List ByteArray) (x : ByteArray) (w0 w : World) (R : List HProp), pre.length < 1000 → Sat w0 w (J pre :: R) → ∃ f tmps assign body, (Instr.yield l #[strV x]).run P w = .ok (.round l f tmps assign body) w ∧
  ∀ m, RoundIn Fence.wide m P l f tmps assign body w fun e w' => e = .returned (.bool true) ∧ Sat w0 w' (J (pre ++ [x]) :: R)

theorem s_erase_perm {α : Type} : ∀ {l : List α} {i : Nat} {x : α}, l[i]? = some x → List.Perm (x :: l.eraseIdx i) l
  | [], _, _, h => by simp at h
  | a :: l, 0, x, h => by simp at h; subst h; exact List.Perm.refl _
  | a :: l, i + 1, x, h => by
    have := s_erase_perm (l := l) (i := i) (x := x) (by simpa using h)
    exact (List.Perm.swap a x _).trans (this.cons a)
theorem Gs.s_yieldAt {l : Nat} {J : List ByteArray → HProp} (hY : s_YOk Tryz.prog l J) {w0 : World} {n m k dd : Nat} {env : Env} {H : List HProp} {Q : Exit → Act → World → Prop} {ops : Array Oper} {rest : List Nat} {x y : Operand} {ts : Array TypeId} {ty : TypeId} {pos : String} {af : Array Edge} {pre : List ByteArray} (z : ByteArray)
    (hpl : pre.length < 1000) (ho : ops[k]? = some ⟨some dd, .call ⟨.value x, #[y], ts⟩, ty, pos, af, none⟩) (hdn : Nat.blt dd n = true) (hx : ev env x = some (.func (.yield l) #[] #[])) (hy : ev env y = some (strV z))
    (g : Gs w0 n ((dd, .bool true) :: env) (J (pre ++ [z]) :: H) (wpOpsIn Fence.wide m Tryz.prog ops Q rest)) : Gs w0 n env (J pre :: H) (wpOpsIn Fence.wide m Tryz.prog ops Q (k :: rest)) := fun a w e t => by
  obtain ⟨f, tmps, assign, body, h1, h2⟩ := hY pre z w0 w H hpl t
  have hw : Region.wanted ⟨some dd, .call ⟨.value x, #[y], ts⟩, ty, pos, af, none⟩ (yielded ops a.tmps) = true := by simp [Region.wanted]
  have hr : (execOp a.eval ⟨some dd, .call ⟨.value x, #[y], ts⟩, ty, pos, af, none⟩).run Tryz.prog w = .ok (.round l f tmps assign body) w := by
    show (do let d ← resolve a.eval ⟨.value x, #[y], ts⟩ ty; invoke d.target d.args : Sem Next).run Tryz.prog w = _
    have hr1 : resolve a.eval ⟨.value x, #[y], ts⟩ ty = (pure ⟨.fn (.yield l) #[], #[strV z]⟩ : Sem Deferred) := by
      simp only [resolve, e.eval hx, Deferred.ofValue]
      simp [e.eval hy]
    rw [hr1]
    simp only [Sem.run_bind, Sem.run_pure, Result.andThen_ok, invoke]
    exact h1
  simp only [wpOpsIn, ho, hw, if_true]
  unfold Oper.wpIn
  refine ⟨fun _ _ => trivial, ?_⟩
  rw [show Fence.wide.round = none from rfl, Oper.semAt_none, hr]
  refine ⟨(fun hs => by cases hs), (h2 (m - 1)).mono ?_⟩
  rintro e' w' ⟨rfl, t'⟩
  exact g _ _ (e.put (by simpa [Nat.blt_eq] using hdn) _) t'
theorem s_keysFn_spec (m : Nat) : Ct Tryz.prog 51 [.map (some m)] []
    (fun v hs => ∃ b, v = .func (.func 74) #[] #[.pointer (some ⟨b, 0, none⟩)] ∧ hs = [cl b 60 [.map (some m)]]) := by
  refine Ct.intro Tryz.func51 rfl (by kernel_rfl) 4 Tryz.ntmps51 (Nat.le_of_ble_eq_true rfl) fun w0 R => ?_
  refine Gs.seq ?_
  refine Gs.reg ?_
  refine Go.Sl.L.ac rfl rfl trivial (ac_box rfl rfl) ?_
  rintro _ _ ⟨b, rfl, rfl⟩
  refine Go.Sl.L.pu rfl rfl trivial (pu_assign rfl) ?_
  refine Go.Sl.L.nil ?_
  refine Gs.then_n ?_
  refine Gs.seq ?_
  refine Gs.reg ?_
  refine Go.Sl.L.pu rfl rfl trivial (pu_func (by repeat constructor) (by repeat constructor)) ?_
  refine Go.Sl.L.pu rfl rfl trivial (pu_assign rfl) ?_
  refine Go.Sl.L.nil ?_
  refine Gs.then_n ?_
  refine Gs.ret ?_
  exact Gs.fin1 Tryz.results51 rfl _ (⟨b, rfl, rfl⟩) (by repeat constructor)
/-- The iterator: J is carried on over all keys, in some order. -/
theorem s_iter_spec {l : Nat} {J : List ByteArray → HProp} (hY : s_YOk Tryz.prog l J) (b m : Nat) (es : List (ByteArray × (Option Nat))) (hes : es.length ≤ 1000) :
    Ct Tryz.prog 74 [.func (.yield l) #[] #[], .pointer (some ⟨b, 0, none⟩)] [J [], cl b 60 [.map (some m)], mp strV pv m es]
      (fun _ hs => ∃ xs, List.Perm xs (mkeys es) ∧ hs = [J xs, cl b 60 [.map (some m)], mp strV pv m es]) := by
  refine Ct.intro Tryz.func74 rfl (by kernel_rfl) 14 Tryz.ntmps74 (Nat.le_of_ble_eq_true rfl) fun w0 R => ?_
  refine Gs.seq ?_
  refine Gs.reg ?_
  refine Go.Sl.L.rd rfl rfl trivial (rd_ld na_60 rfl (Rdc.cl1 (by repeat constructor) rfl)) ?_
  refine Go.Sl.L.ac rfl rfl trivial (ac_range (enck := strV) (encv := pv) Tryz.underlying60 rfl (by repeat constructor)) ?_
  rintro _ _ ⟨r, rfl, rfl⟩
  refine Go.Sl.L.nil ?_
  refine Gs.then_n ?_
  refine Gs.block ?_
  refine Gs.loop1 (fun s : List ByteArray × List (ByteArray × (Option Nat)) × Option (ByteArray × (Option Nat)) => List.Perm (s.1 ++ mkeys s.2.1) (mkeys es)) (fun s => [(0, .func (.yield l) #[] #[]), (5, .pointer (some ⟨r, 0, none⟩))]) (fun s => [itr strV pv r m es s.2.1 s.2.2, J s.1, cl b 60 [.map (some m)]] ++ R) (fun s => s.2.1.length) ([], es, none) (List.Perm.refl _) (by repeat constructor) (by repeat constructor) (fun s hs => ?_)
  obtain ⟨pre, left, last⟩ := s
  dsimp only at hs ⊢
  refine Gs.seq ?_
  refine Gs.reg ?_
  refine Go.Sl.L.ac rfl rfl trivial (ac_next rfl (by repeat constructor)) ?_
  rintro _ _ (⟨hl, rfl, rfl⟩ | ⟨i, p, hp, rfl, rfl⟩)
  · skip
    have hl' : left = [] := hl
    subst hl'
    refine Gs.itrEnd (by repeat constructor) ?_
    refine Go.Sl.L.pu rfl rfl trivial (pu_extract rfl rfl) ?_
    refine Go.Sl.L.nil ?_
    refine Gs.then_n ?_
    refine Gs.seq ?_
    refine Gs.cond_f rfl ?_
    refine Gs.exit ?_
    refine Gs.then_x ?_
    refine Gs.then_x ?_
    refine Gs.blk_hit ?_
    refine Gs.fin_n ?_
    exact Gs.fin0 Tryz.results74 _ (⟨pre, by simpa [mkeys] using hs, rfl⟩) (by repeat constructor)
  · skip
    have hperm : List.Perm ((pre ++ [p.1]) ++ mkeys (left.eraseIdx i)) (mkeys es) := by
      refine List.Perm.trans ?_ hs
      rw [List.append_assoc]
      refine List.Perm.append_left pre ?_
      have h1 : List.Perm (p :: left.eraseIdx i) left := s_erase_perm hp
      exact h1.map Prod.fst
    have hlt : (left.eraseIdx i).length < left.length := by
      have := (List.getElem?_eq_some_iff.1 hp).1
      rw [List.length_eraseIdx_of_lt this]; omega
    have hpl : pre.length < 1000 := by
      have h1 := hs.length_eq
      have h2 := (List.getElem?_eq_some_iff.1 hp).1
      simp [mkeys] at h1; omega
    refine Go.Sl.L.pu rfl rfl trivial (pu_extract rfl rfl) ?_
    refine Go.Sl.L.nil ?_
    refine Gs.then_n ?_
    refine Gs.seq ?_
    refine Gs.cond_t rfl ?_
    refine Gs.skip ?_
    refine Gs.then_n ?_
    refine Gs.block ?_
    refine Gs.seq ?_
    refine Gs.reg ?_
    refine Go.Sl.L.rd rfl rfl trivial (ac_entry rfl (by repeat constructor)) ?_
    refine Go.Sl.L.pu rfl rfl trivial (pu_extract rfl rfl) ?_
    refine Go.Sl.L.pu rfl rfl trivial (pu_assign rfl) ?_
    refine Go.Sl.L.nil ?_
    refine Gs.then_n ?_
    refine Gs.seq ?_
    refine Gs.wide (m := 0) ?_
    refine GI.reg [0, 1, 2, 3] rfl ?_
    refine GI.rd Fw.wide rfl rfl rfl rfl rfl (Pu.rd (pu_move rfl)) ?_
    refine GI.rd Fw.wide rfl rfl rfl rfl rfl (Pu.rd (pu_move rfl)) ?_
    refine Gs.take (A := J pre) (by repeat constructor) ?_
    refine Gs.s_yieldAt hY p.1 hpl rfl rfl rfl rfl ?_
    refine GI.rd Fw.wide rfl rfl rfl rfl rfl (Pu.rd (pu_not rfl)) ?_
    refine GI.nil ?_
    refine Gs.then_n ?_
    refine Gs.cond_f rfl ?_
    refine Gs.skip ?_
    refine Gs.blk_n ?_
    refine Gs.then_n ?_
    exact Gs.again1 (pre ++ [p.1], left.eraseIdx i, some p) hperm hlt (by repeat constructor) (by repeat constructor)
/-- What slices.AppendSeq carries on: its loop's record; its variable; the keys that came. -/
def s_colJ (l b2 : Nat) (r : Loop) (pre : List ByteArray) : HProp := fun h => ∃ p : Option Addr × Nat, two (pt l (.loop r)) (two (cl b2 66 [.slice p.1 pre.length p.2]) (sl 9 1 strC p.1 p.2 pre)) h
theorem s_colJ_fold {l b2 n : Nat} {r : Loop} {pre : List ByteArray} {a : Option Addr} {c : Nat} {w0 w : World} {L : List HProp} (hn : n = pre.length) (s : Sat w0 w (pt l (.loop r) :: cl b2 66 [.slice a n c] :: sl 9 1 strC a c pre :: L)) : Sat w0 w (s_colJ l b2 r pre :: L) := by
  subst hn
  have s1 : Sat w0 w (cl b2 66 [.slice a pre.length c] :: sl 9 1 strC a c pre :: pt l (.loop r) :: L) := (s.take (.tl (.tl .hd))).take (.tl (.tl .hd))
  exact (Sat.two.2 ((Sat.two.2 s1).take (.tl .hd))).ent fun h x => ⟨(a, c), x⟩
theorem s_colJ_open {l b2 : Nat} {r : Loop} {pre : List ByteArray} {w0 w : World} {L : List HProp} (s : Sat w0 w (s_colJ l b2 r pre :: L)) : ∃ a c, Sat w0 w (pt l (.loop r) :: cl b2 66 [.slice a pre.length c] :: sl 9 1 strC a c pre :: L) := by
  obtain ⟨p, s1⟩ := s.ex
  have s2 := Sat.two.1 ((Sat.two.1 s1).take (.tl .hd))
  exact ⟨p.1, p.2, s2.take (.tl (.tl .hd))⟩
theorem s_collect_seq (b m : Nat) (es : List (ByteArray × (Option Nat))) (hl : es.length ≤ 1000) :
    Ct Tryz.prog 99 [.slice none 0 0, .func (.func 74) #[] #[.pointer (some ⟨b, 0, none⟩)]]
      [cl b 60 [.map (some m)], mp strV pv m es] (fun v hs => ∃ xs a c, List.Perm xs (mkeys es) ∧ v = .slice a xs.length c ∧ hs = [sl 9 1 strC a c xs, mp strV pv m es]) := by
  refine Ct.introM Tryz.func99 rfl (by kernel_rfl) 13 Tryz.ntmps99 (Nat.le_of_ble_eq_true rfl) fun w0 R => ?_
  refine Gs.seq ?_
  refine Gs.reg ?_
  refine Go.Sl.L.ac rfl rfl trivial (ac_box rfl rfl) ?_
  rintro _ _ ⟨b2, rfl, rfl⟩
  refine Go.Sl.L.pu rfl rfl trivial (pu_assign rfl) ?_
  refine Go.Sl.L.nil ?_
  refine Gs.then_n ?_
  refine Gs.seq ?_
  refine Gs.seq ?_
  refine Gs.reg ?_
  refine Go.Sl.L.pu rfl rfl trivial (pu_move rfl) ?_
  refine Go.Sl.L.nil ?_
  refine Gs.then_n ?_
  refine Gs.block ?_
  refine Gs.slNil 9 1 strC ?_
  intro a w e s
  have hen : ∀ args w, (callFunc 74 args).run Tryz.prog w = .ok (.enter 74 args) w := Go.Proofs.enters_of Tryz.func74 (by kernel_rfl) rfl
  have he : a.eval (.tmp 6) = .func (.func 74) #[] #[.pointer (some ⟨b, 0, none⟩)] := e.eval rfl
  refine wp_rangeCall he hen fun fn r hr => ?_
  have sat1 := s.alloc2 (.deferred (some [])) (.loop r)
  have hY : s_YOk Tryz.prog (w.heap.size + 1) (s_colJ (w.heap.size + 1) b2 r) := by
    intro pre x w1 w' R' hpl hs
    obtain ⟨a', c', s1⟩ := s_colJ_open hs
    refine ⟨r.fn, _, r.assign, r.body, run_yield s1.pt (by rw [hr]; rfl), fun m => roundIn_of_wpIn trivial ?_⟩
    have ht : (r.params.zip #[strV x]).foldl (fun tmps (t, a) => tmps.setIfInBounds t a) r.tmps = (a.put (some 7) (strV x)).tmps := by rw [hr]; simp [Act.put]
    have e7 : EnvOk 13 [(7, strV x), (2, .pointer (some ⟨b2, 0, none⟩))] ⟨(r.params.zip #[strV x]).foldl (fun tmps (t, a) => tmps.setIfInBounds t a) r.tmps, []⟩ := by
      rw [ht]
      have e8 := (e.put (d := 7) (by decide) (strV x)).sub (e := [(7, strV x), (2, .pointer (some ⟨b2, 0, none⟩))]) (by repeat constructor)
      exact ⟨e8.size, rfl, e8.slots⟩
    refine (?_ : Gs w1 13 [(7, strV x), (2, .pointer (some ⟨b2, 0, none⟩))] _ _) _ _ e7 s1
    subst hr
    refine GI.reg [0] rfl ?_
    refine GI.rd (Fw.round _) rfl rfl rfl rfl rfl (Pu.rd (pu_assign rfl)) ?_
    refine GI.nil ?_
    refine Gs.then_n ?_
    refine Gs.take .hd ?_
    refine Gs.begin rfl ?_
    refine GI.block ?_
    refine GI.reg [0, 1, 2, 3, 4] rfl ?_
    refine GI.rd (Fw.round _) rfl rfl rfl rfl rfl (rd_ld na_66 rfl (Rdc.cl1 (by repeat constructor) rfl)) ?_
    refine GI.rd (Fw.round _) rfl rfl rfl rfl rfl (Pu.rd (pu_move rfl)) ?_
    refine GI.ac (Fw.round _) rfl rfl rfl rfl rfl (ac_lit strC [x] et_66 ek_9 rfl (by repeat constructor) rfl rfl (by decide)) ?_
    rintro _ _ ⟨lb, rfl, rfl⟩
    refine GI.ac (Fw.round _) rfl rfl rfl rfl rfl (ac_append (xs := pre) et_66 ek_9 rfl rfl (by repeat constructor) (SrcH.sl Tryz.underlying66 ek_9 (SlH.own (by repeat constructor))) (by simp; omega) (by simp; omega)) ?_
    rintro _ _ ⟨a2, c2, rfl, rfl⟩
    refine GI.ac0 (Fw.round _) rfl rfl rfl rfl (ac_st sz_66 rfl rfl (by repeat constructor) rfl rfl rfl rfl) ?_
    rintro _ _ rfl
    refine GI.nil ?_
    refine Gs.blk_n ?_
    refine Gs.take (A := pt (w.heap.size + 1) (.loop _)) (by repeat constructor) ?_
    refine Gs.endRound fun w'' s'' => ⟨rfl, s_colJ_fold (a := a2) (c := c2) rfl (Ent.sat (by repeat constructor) s'')⟩
  have satJ : Sat w0 ((w.alloc (.deferred (some []))).alloc (.loop r)) ([s_colJ (w.heap.size + 1) b2 r [], cl b 60 [.map (some m)], mp strV pv m es] ++ (pt w.heap.size (.deferred (some [])) :: R)) := by
    have := sat1.takes (As := [pt (w.heap.size + 1) (.loop r), cl b2 66 [.slice none 0 0], sl 9 1 strC none 0 [], cl b 60 [.map (some m)], mp strV pv m es]) (by repeat constructor)
    exact s_colJ_fold rfl this
  refine ((s_iter_spec hY b m es hl).calls w0 _ _ satJ).mono ?_
  rintro e' w' ⟨v, hs, rfl, ⟨xs, hp, rfl⟩, sat2⟩
  obtain ⟨a', c', s3⟩ := s_colJ_open sat2
  have hend := run_endLoop (P := Tryz.prog) s3.pt (by rw [hr]; simp)
  rw [show r.pending = none by rw [hr]] at hend
  refine ⟨v, _, rfl, hend, ?_⟩
  have s4 : Sat w0 (w'.putObj (w.heap.size + 1) (.loop { r with state := .exhausted, pending := none })) _ := s3.setMap
  have rho : Rho [(2, .pointer (some ⟨b2, 0, none⟩))] a.eval := (e.sub (e := [(2, .pointer (some ⟨b2, 0, none⟩))]) (by repeat constructor)).rho
  refine wp_seq (wp_region_lit ?_)
  refine tail_rd rfl rfl (rd_ld na_66 rfl (Rdc.cl1 (by repeat constructor) rfl)) rho s4 fun w5 s5 => ?_
  have e5 := (e.put (d := 12) (by decide) (.slice a' xs.length c'))
  have rho5 : Rho [(12, .slice a' xs.length c')] (({ a with defers := [{ target := .collected w.heap.size, args := #[] }] ++ a.defers } : Act).put (some 12) (.slice a' xs.length c')).eval :=
    (e5.sub (e := [(12, .slice a' xs.length c')]) (by repeat constructor)).rho
  refine tail_rd rfl rfl (Pu.rd (pu_assign rfl)) rho5 s5 fun w6 s6 => ?_
  have e6 := (e5.put (d := 4) (by decide) (.slice a' xs.length c'))
  refine wp_ret ?_
  have s7 := s6.take (A := pt w.heap.size (.deferred (some []))) (by repeat constructor)
  have hds : a.defers = [] := e.defers
  show LeavesInM Fence.wide 0 _ _ _ _ ({ target := .collected w.heap.size, args := #[] } :: a.defers) .returning w6
  rw [hds]
  refine ⟨by simp, .inl ⟨w.heap.size, _, rfl, run_takeDeferred s7.pt, ?_⟩⟩
  have s8 : Sat w0 (w6.putObj w.heap.size (.deferred none)) _ := s7.setMap (o' := .deferred none)
  refine ⟨_, results_tmp Tryz.results99 _ _ _, _, _, rfl, ⟨xs, a', c', hp, ?_, rfl⟩, Ent.sat (by repeat constructor) s8⟩
  exact e6.slots 4 _ rfl
theorem s_collect_spec (b m : Nat) (es : List (ByteArray × (Option Nat))) (hl : es.length ≤ 1000) :
    Ct Tryz.prog 72 [.func (.func 74) #[] #[.pointer (some ⟨b, 0, none⟩)]]
      [cl b 60 [.map (some m)], mp strV pv m es] (fun v hs => ∃ xs a c, List.Perm xs (mkeys es) ∧ v = .slice a xs.length c ∧ hs = [sl 9 1 strC a c xs, mp strV pv m es]) := by
  refine Ct.intro Tryz.func72 rfl (by kernel_rfl) 5 Tryz.ntmps72 (Nat.le_of_ble_eq_true rfl) fun w0 R => ?_
  refine Gs.seq ?_
  refine Gs.reg ?_
  refine Go.Sl.L.pu rfl rfl trivial (pu_assign rfl) ?_
  refine Go.Sl.L.nil ?_
  refine Gs.then_n ?_
  refine Gs.seq ?_
  refine Gs.reg ?_
  refine Go.Sl.L.pu rfl rfl trivial (pu_move rfl) ?_
  refine Go.Sl.L.ac rfl rfl trivial (as_call (s_collect_seq b m es hl) (by repeat constructor) (by repeat constructor)) ?_
  rintro _ _ ⟨_, ⟨xs, a, c, hp, rfl, rfl⟩, rfl⟩
  refine Go.Sl.L.pu rfl rfl trivial (pu_assign rfl) ?_
  refine Go.Sl.L.nil ?_
  refine Gs.then_n ?_
  refine Gs.ret ?_
  exact Gs.fin1 Tryz.results72 rfl _ (⟨xs, a, c, hp, rfl, rfl⟩) (by repeat constructor)
end Go.Proofs.YtjaafkakeccniaaGreatDoor

/- slices.Sort at strings, by the kit's contracts; drive.Names. -/
namespace Go.Sl
open Go Go.Sort Go.Proofs
section
variable {α : Type} {w0 w : World} {L : List HProp} {E : Nat} {enc : α → Value} {b off c : Nat} {xs : List α}
theorem sl1_block (s : Sat w0 w (sl E 1 (fun x => [enc x]) (some ⟨b, off, none⟩) c xs :: L)) : ∃ cells, Sat w0 w (pt b (.cells cells E (0, 0)) :: L) ∧ w.heap[b]? = some (.cells cells E (0, 0)) ∧ xs.length ≤ c ∧ off + c ≤ cells.size ∧
    ∀ i x, xs[i]? = some x → cells[off + i]? = some (enc x) := by
  obtain ⟨h, le, h1, h2, d, rfl, hs, hl⟩ := s.heap
  rcases hs with ⟨h0, -, -⟩ | ⟨b', off', cells, hb, hp, h3, h4, h5⟩
  · cases h0
  · cases hb
    have s1 : Sat w0 w (pt b (.cells cells E (0, 0)) :: L) := ⟨s.os, s.tape, s.output, s.size, _, le, h1, h2, d, rfl, hp, hl⟩
    exact ⟨cells, s1, s1.pt, h3, by omega, fun i x hi => by have := h5 i x hi 0 (enc x) rfl; simpa using this⟩
variable [Inhabited α]
theorem sl1_holds (s : Sat w0 w (sl E 1 (fun x => [enc x]) (some ⟨b, off, none⟩) c xs :: L)) : Holds enc w b off xs.toArray ∧ b < w.heap.size := by
  obtain ⟨cells, -, hb, h3, h4, h5⟩ := sl1_block s
  refine ⟨fun j hj => ?_, (Array.getElem?_eq_some_iff.1 hb).1⟩
  simp only [List.size_toArray] at hj
  have hx : xs[j]? = some xs[j] := by simp [hj]
  have hc := h5 _ _ hx
  have e1 : xs.toArray[j]! = xs[j] := by rw [getElem!_pos _ _ (by simpa using hj)]; simp
  refine ⟨?_, by simp [World.frozen?, hb]⟩
  rw [e1]
  simpa [World.cell?, hb] using hc
theorem sl1_sorted {ys : List α} {n : Nat} {os : Array Obj} (hl : ys.length = xs.length) (s : Sat w0 w (sl E 1 (fun x => [enc x]) (some ⟨b, off, none⟩) c xs :: L)) :
    Sat w0 (grow (putRow enc (Sort.ahead w n) b off ys.toArray) os) (sl E 1 (fun x => [enc x]) (some ⟨b, off, none⟩) c ys :: L) := by
  obtain ⟨cells, s1, hb, h3, h4, h5⟩ := sl1_block s
  have hblt := (Array.getElem?_eq_some_iff.1 hb).1
  have hsz : (putRow enc (Sort.ahead w n) b off ys.toArray).heap.size = w.heap.size := by simp [putRow, mapBlock, Sort.ahead]
  have hnew : (grow (putRow enc (Sort.ahead w n) b off ys.toArray) os).heap[b]? = some (.cells (putCells enc off ys.toArray cells) E (0, 0)) := by
    rw [heap_grow_old _ _ (by rw [hsz]; exact hblt)]
    simp [putRow, mapBlock, Sort.ahead, Array.getElem?_modify, hb, onCells]
  have hold : ∀ k, k ≠ b → k < w.heap.size → (grow (putRow enc (Sort.ahead w n) b off ys.toArray) os).heap[k]? = w.heap[k]? := fun k hk hlt => by
    rw [heap_grow_old _ _ (by rw [hsz]; exact hlt)]
    have : b ≠ k := fun e => hk e.symm
    simp [putRow, mapBlock, Sort.ahead, Array.getElem?_modify, this]
  refine (s1.write (w' := grow (putRow enc (Sort.ahead w n) b off ys.toArray) os) rfl rfl rfl (by show w.heap.size ≤ ((putRow enc (Sort.ahead w n) b off ys.toArray).heap ++ os).size; rw [Array.size_append, hsz]; omega) hnew hold).ent fun hh hp => .inr ⟨b, off, _, rfl, hp, by omega, by simp [putCells]; omega, fun i y hi j v hj => ?_⟩
  have hil : i < ys.length := (List.getElem?_eq_some_iff.1 hi).1
  have hj0 : j = 0 ∧ v = enc y := by
    cases j with
    | zero => simp at hj; exact ⟨rfl, hj.symm⟩
    | succ j => simp at hj
  obtain ⟨rfl, rfl⟩ := hj0
  have hpos : off + i < cells.size := by omega
  simp only [putCells, Array.getElem?_mapIdx, Nat.mul_one, Nat.add_zero]
  rw [Array.getElem?_eq_getElem hpos]
  simp only [Option.map_some, List.size_toArray]
  rw [if_pos ⟨by omega, by omega⟩, Nat.add_sub_cancel_left]
  have e1 : ys.toArray[i]! = y := by
    rw [getElem!_pos _ _ (by simpa using hil)]
    simpa [hil] using hi
  rw [e1]
/-- The same slice, its elements told by other names. -/
theorem sl_map {α β : Type} {E sz : Nat} {enc : α → List Value} {enc' : β → List Value} {a : Option Addr} {c : Nat} {xs : List α} (f : α → β) (hf : ∀ x, enc x = enc' (f x)) : ∀ h, sl E sz enc a c xs h → sl E sz enc' a c (xs.map f) h := fun h x => by
  rcases x with ⟨rfl, rfl, rfl⟩ | ⟨b, off, cells, rfl, hp, h1, h2, h3⟩
  · exact .inl ⟨rfl, rfl, rfl⟩
  · refine .inr ⟨b, off, cells, rfl, hp, by simpa using h1, h2, fun i y hi j v hj => ?_⟩
    rw [List.getElem?_map] at hi
    obtain ⟨x, hx, rfl⟩ := Option.map_eq_some_iff.1 hi
    exact h3 i x hx j v (by rw [hf]; exact hj)
end
end Go.Sl
namespace Go.Proofs.YtjaafkakeccniaaGreatDoor
open Go Go.Sl Go.Gv Go.Kv Go.Dv Go.Bst Go.Sort
set_option maxRecDepth 100000
theorem sortS_spec (a : Option Addr) (c : Nat) (xs : List ByteArray) (hl : xs.length ≤ 1000) : Ct Tryz.prog 73 [.slice a xs.length c] [sl 9 1 strC a c xs]
    (fun v hs => v = .tuple #[] ∧ hs = [sl 9 1 strC a c (sortB xs)]) := by
  refine ⟨enters_of Tryz.func73 (by kernel_rfl) rfl _, fun w0 w R s => ?_⟩
  by_cases he : xs = []
  · subst he
    refine (Any.slices_Sort_string_none Tryz.laysSortS a c w).mono ?_
    rintro e w' ⟨rfl, rfl⟩
    exact ⟨_, _, rfl, ⟨rfl, rfl⟩, by rw [show sortB [] = [] by simp [sortB]]; exact s⟩
  · obtain ⟨b, off, ha, -⟩ := (SlH.own .hd : SlH w0 ([sl 9 1 strC a c xs] ++ R) 1 strC a xs) w s he
    subst ha
    have s1 : Sat w0 w (sl 9 1 (fun x : List UInt8 => [encStr x]) (some ⟨b, off, none⟩) c (xs.map fun s => s.data.toList) :: R) := Sat.ent s (sl_map (fun s : ByteArray => s.data.toList) fun x => by show [Value.string x] = [Value.string ⟨x.data.toList.toArray⟩]; rw [of_list])
    obtain ⟨hH, hb⟩ := sl1_holds s1
    have hS := Any.slices_Sort_string Tryz.laysSortS b off c (xs.map fun s => s.data.toList) w hH hb (by simp; omega)
    rw [List.length_map] at hS
    refine hS.mono ?_
    rintro e w' ⟨rfl, n, os, rfl⟩
    refine ⟨_, _, rfl, ⟨rfl, rfl⟩, ?_⟩
    have s2 := sl1_sorted (n := n) (os := os) (ys := (xs.map fun s => s.data.toList).mergeSort fun x y => decide (x ≤ y)) (by rw [List.length_mergeSort]) s1
    exact s2.ent (sl_map (fun l : List UInt8 => (⟨l.toArray⟩ : ByteArray)) fun x => rfl)
theorem sortedS_spec (b m : Nat) (es : List (ByteArray × Option Nat)) (hl : es.length ≤ 1000) :
    Ct Tryz.prog 50 [.func (.func 74) #[] #[.pointer (some ⟨b, 0, none⟩)]]
      [cl b 60 [.map (some m)], mp strV pv m es] (fun v hs => ∃ a c, v = .slice a (sortB (mkeys es)).length c ∧ hs = [sl 9 1 strC a c (sortB (mkeys es)), mp strV pv m es]) := by
  refine Ct.intro Tryz.func50 rfl (by kernel_rfl) 9 Tryz.ntmps50 (Nat.le_of_ble_eq_true rfl) fun w0 R => ?_
  refine Gs.seq ?_
  refine Gs.reg ?_
  refine Go.Sl.L.pu rfl rfl trivial (pu_assign rfl) ?_
  refine Go.Sl.L.nil ?_
  refine Gs.then_n ?_
  refine Gs.seq ?_
  refine Gs.reg ?_
  refine Go.Sl.L.pu rfl rfl trivial (pu_move rfl) ?_
  refine Go.Sl.L.ac rfl rfl trivial (as_call (s_collect_spec b m es hl) (by repeat constructor) (by repeat constructor)) ?_
  rintro _ _ ⟨_, ⟨xs, a, c, hp, rfl, rfl⟩, rfl⟩
  refine Go.Sl.L.pu rfl rfl trivial (pu_assign rfl) ?_
  refine Go.Sl.L.nil ?_
  have hxl : xs.length ≤ 1000 := by rw [hp.length_eq]; simp [mkeys]; exact hl
  have hss : sortB xs = sortB (mkeys es) := sortB_of_perm hp
  refine Gs.then_n ?_
  refine Gs.seq ?_
  refine Gs.reg ?_
  refine Go.Sl.L.pu rfl rfl trivial (pu_move rfl) ?_
  refine Go.Sl.L.ac rfl rfl trivial (as_call (sortS_spec a c xs hxl) (by repeat constructor) (by repeat constructor)) ?_
  rintro _ _ ⟨_, ⟨rfl, rfl⟩, rfl⟩
  refine Go.Sl.L.nil ?_
  rw [hss]
  refine Gs.then_n ?_
  refine Gs.seq ?_
  refine Gs.reg ?_
  refine Go.Sl.L.pu rfl rfl trivial (pu_move rfl) ?_
  refine Go.Sl.L.pu rfl rfl trivial (pu_assign rfl) ?_
  refine Go.Sl.L.nil ?_
  refine Gs.then_n ?_
  refine Gs.ret ?_
  exact Gs.fin1 Tryz.results50 rfl _ (⟨a, c, by rw [← hss, sortB_length], rfl⟩) (by repeat constructor)
theorem names_spec (b : Nat) (most : Int) (D : List Fl) (hD : D.length ≤ 1000) : Ct Tryz.prog 29 [ptr b] [drv b most D]
    (fun v hs => ∃ a c, v = .slice a (sortB (names D)).length c ∧ hs = [drv b most D, sl 9 1 strC a c (sortB (names D))]) := by
  refine Ct.intro Tryz.func29 rfl (by kernel_rfl) 11 Tryz.ntmps29 (Nat.le_of_ble_eq_true rfl) fun w0 R => ?_
  refine Gs.drvOpen (by repeat constructor) fun m P hP hok => ?_
  subst hP
  refine Gs.seq ?_
  refine Gs.reg ?_
  refine Go.Sl.L.pu rfl rfl trivial (pu_assign rfl) ?_
  refine Go.Sl.L.nil ?_
  refine Gs.then_n ?_
  refine Gs.seq ?_
  refine Gs.seq ?_
  refine Gs.reg ?_
  refine Go.Sl.L.pu rfl rfl trivial (pu_move rfl) ?_
  refine Go.Sl.L.pu rfl rfl trivial (pu_eqN Tryz.underlying26 rfl rfl) ?_
  refine Go.Sl.L.nil ?_
  refine Gs.then_n ?_
  refine Gs.cond_f rfl ?_
  refine Gs.skip ?_
  refine Gs.then_n ?_
  refine Gs.seq ?_
  refine Gs.reg ?_
  refine Go.Sl.L.pu rfl rfl trivial (pu_move rfl) ?_
  refine Go.Sl.L.pu rfl rfl trivial (by first | exact pu_nil rfl | exact pu_nilF rfl) ?_
  refine Go.Sl.L.pu rfl rfl trivial (pu_fa fa_62_1 rfl) ?_
  refine Go.Sl.L.rd rfl rfl trivial (rd_ld na_60 rfl (Rdc.cl1 (by repeat constructor) rfl)) ?_
  refine Go.Sl.L.ac rfl rfl trivial (as_call (s_keysFn_spec m) (by repeat constructor) (by repeat constructor)) ?_
  rintro _ _ ⟨_, ⟨kb, rfl, rfl⟩, rfl⟩
  refine Go.Sl.L.ac rfl rfl trivial (as_call (sortedS_spec kb m (pairs P) (by rw [length_pairs]; exact hD)) (by repeat constructor) (by repeat constructor)) ?_
  rintro _ _ ⟨_, ⟨a, c, rfl, rfl⟩, rfl⟩
  rw [mkeys_pairs]
  refine Go.Sl.L.pu rfl rfl trivial (pu_assign rfl) ?_
  refine Go.Sl.L.nil ?_
  refine Gs.then_n ?_
  refine Gs.ret ?_
  refine Gs.drvClose (P := P) (D := fls P) (by repeat constructor) rfl hok ?_
  exact Gs.fin1 Tryz.results29 rfl _ (⟨a, c, rfl, rfl⟩) (by repeat constructor)
theorem namesNil_spec : Ct Tryz.prog 29 [.pointer none] [] (fun v hs => v = .slice none 0 0 ∧ hs = []) := by
  refine Ct.intro Tryz.func29 rfl (by kernel_rfl) 11 Tryz.ntmps29 (Nat.le_of_ble_eq_true rfl) fun w0 R => ?_
  refine Gs.seq ?_
  refine Gs.reg ?_
  refine Go.Sl.L.pu rfl rfl trivial (pu_assign rfl) ?_
  refine Go.Sl.L.nil ?_
  refine Gs.then_n ?_
  refine Gs.seq ?_
  refine Gs.seq ?_
  refine Gs.reg ?_
  refine Go.Sl.L.pu rfl rfl trivial (pu_move rfl) ?_
  refine Go.Sl.L.pu rfl rfl trivial (pu_eqN Tryz.underlying26 rfl rfl) ?_
  refine Go.Sl.L.nil ?_
  refine Gs.then_n ?_
  refine Gs.cond_t rfl ?_
  refine Gs.seq ?_
  refine Gs.reg ?_
  refine Go.Sl.L.pu rfl rfl trivial (pu_assign rfl) ?_
  refine Go.Sl.L.nil ?_
  refine Gs.then_n ?_
  refine Gs.ret ?_
  refine Gs.then_r ?_
  exact Gs.fin1 Tryz.results29 rfl _ (⟨rfl, rfl⟩) (by repeat constructor)
end Go.Proofs.YtjaafkakeccniaaGreatDoor

/- Walks: drive. -/
namespace Go.Proofs.YtjaafkakeccniaaGreatDoor
open Go Go.Sl Go.Gv Go.Kv Go.Dv Go.Bst
set_option maxRecDepth 100000
theorem drvNew_spec (most : Int) : Ct Tryz.prog 11 [int most] [] (fun v hs => ((most < 0 ∨ 1048576 < most) ∧ v = .pointer none ∧ hs = []) ∨
    (0 ≤ most ∧ most ≤ 1048576 ∧ ∃ b, v = ptr b ∧ hs = [drv b most []])) := by
  refine Ct.intro Tryz.func11 rfl (by kernel_rfl) 13 Tryz.ntmps11 (Nat.le_of_ble_eq_true rfl) fun w0 R => ?_
  refine Gs.seq ?_
  refine Gs.reg ?_
  refine Go.Sl.L.pu rfl rfl trivial (pu_assign rfl) ?_
  refine Go.Sl.L.nil ?_
  refine Gs.then_n ?_
  refine Gs.seq ?_
  refine Gs.seq ?_
  refine Gs.reg ?_
  refine Go.Sl.L.pu rfl rfl trivial (pu_move rfl) ?_
  refine Go.Sl.L.pu rfl rfl trivial (pu_lt rfl rfl) ?_
  refine Go.Sl.L.puB rfl rfl trivial (pu_move rfl) (fun hg2 => ?_) (fun hg2 => ?_)
  · skip
    have hg2' := of_decide_eq_true hg2
    refine Go.Sl.L.off rfl rfl rfl rfl rfl rfl ?_
    refine Go.Sl.L.off rfl rfl rfl rfl rfl rfl ?_
    refine Go.Sl.L.pu rfl rfl trivial (by first | exact pu_pick_t rfl rfl | exact pu_pick_f rfl rfl) ?_
    refine Go.Sl.L.nil ?_
    refine Gs.then_n ?_
    refine Gs.cond_t rfl ?_
    refine Gs.seq ?_
    refine Gs.reg ?_
    refine Go.Sl.L.pu rfl rfl trivial (pu_assign rfl) ?_
    refine Go.Sl.L.nil ?_
    refine Gs.then_n ?_
    refine Gs.ret ?_
    refine Gs.then_r ?_
    exact Gs.fin1 Tryz.results11 rfl _ (.inl ⟨by omega, rfl, rfl⟩) (by repeat constructor)
  · skip
    have hg2' := of_decide_eq_false hg2
    refine Go.Sl.L.pu rfl rfl ⟨_, rfl, rfl⟩ (pu_move rfl) ?_
    refine Go.Sl.L.pu rfl rfl ⟨_, rfl, rfl⟩ (pu_gt rfl rfl) ?_
    refine Go.Sl.L.pu rfl rfl trivial (by first | exact pu_pick_t rfl rfl | exact pu_pick_f rfl rfl) ?_
    refine Go.Sl.L.nil ?_
    refine Gs.then_n ?_
    refine Gs.cond rfl (fun hc => ?_) (fun hc => ?_)
    · skip
      have hc' := of_decide_eq_true hc
      refine Gs.seq ?_
      refine Gs.reg ?_
      refine Go.Sl.L.pu rfl rfl trivial (pu_assign rfl) ?_
      refine Go.Sl.L.nil ?_
      refine Gs.then_n ?_
      refine Gs.ret ?_
      refine Gs.then_r ?_
      exact Gs.fin1 Tryz.results11 rfl _ (.inl ⟨by omega, rfl, rfl⟩) (by repeat constructor)
    · skip
      have hc' := of_decide_eq_false hc
      refine Gs.skip ?_
      refine Gs.then_n ?_
      refine Gs.seq ?_
      refine Gs.reg ?_
      refine Go.Sl.L.pu rfl rfl trivial (pu_move rfl) ?_
      refine Go.Sl.L.ac rfl rfl trivial (ac_mkmap enck_9 encv_92) ?_
      rintro _ _ ⟨m, rfl, rfl⟩
      refine Go.Sl.L.pu rfl rfl trivial (pu_build bd_62 (by repeat constructor) rfl) ?_
      refine Go.Sl.L.ac rfl rfl trivial (ac_box rfl rfl) ?_
      rintro _ _ ⟨b, rfl, rfl⟩
      refine Go.Sl.L.pu rfl rfl trivial (pu_assign rfl) ?_
      refine Go.Sl.L.nil ?_
      refine Gs.then_n ?_
      refine Gs.ret ?_
      refine Gs.filesNil ?_
      refine Gs.drvClose (P := []) (D := []) (by repeat constructor) rfl (Ok.nil (by omega) (by omega)) ?_
      exact Gs.fin1 Tryz.results11 rfl _ (.inr ⟨by omega, by omega, b, rfl, rfl⟩) (by repeat constructor)
theorem drvNew_ok (most : Int) (h : 0 ≤ most) (h2 : most ≤ 1048576) : Ct Tryz.prog 11 [int most] [] (fun v hs => ∃ b, v = ptr b ∧ hs = [drv b most []]) :=
  (drvNew_spec most).mono fun v hs h => by
    rcases h with ⟨h, -⟩ | ⟨-, -, h⟩
    · omega
    · exact h
theorem drvNew_bad (most : Int) (h : most < 0 ∨ 1048576 < most) : Ct Tryz.prog 11 [int most] [] (fun v hs => v = .pointer none ∧ hs = []) :=
  (drvNew_spec most).mono fun v hs h => by
    rcases h with ⟨-, h⟩ | ⟨h, h', -⟩
    · exact h
    · omega
abbrev fpre (b m : Nat) (most : Int) (P : DP) : List HProp := [cl b 62 (driveC most m), mp strV pv m (pairs P)]
theorem find_some {b m : Nat} {most : Int} {P : DP} {n : ByteArray} {p : Nat} (h : mget (pairs P) n = some (some p)) : Ct Tryz.prog 68 [ptr b, .string n] (fpre b m most P) (fun v hs => v = .tuple #[ptr p, int 0] ∧ hs = fpre b m most P) := by
  refine Ct.intro Tryz.func68 rfl (by kernel_rfl) 18 Tryz.ntmps68 (Nat.le_of_ble_eq_true rfl) fun w0 R => ?_
  refine Gs.seq ?_
  refine Gs.reg ?_
  refine Go.Sl.L.pu rfl rfl trivial (pu_assign rfl) ?_
  refine Go.Sl.L.pu rfl rfl trivial (pu_assign rfl) ?_
  refine Go.Sl.L.nil ?_
  refine Gs.then_n ?_
  refine Gs.seq ?_
  refine Gs.seq ?_
  refine Gs.reg ?_
  refine Go.Sl.L.pu rfl rfl trivial (pu_move rfl) ?_
  refine Go.Sl.L.pu rfl rfl trivial (pu_eqN Tryz.underlying26 rfl rfl) ?_
  refine Go.Sl.L.nil ?_
  refine Gs.then_n ?_
  refine Gs.cond_f rfl ?_
  refine Gs.skip ?_
  refine Gs.then_n ?_
  refine Gs.seq ?_
  refine Gs.seq ?_
  refine Gs.reg ?_
  refine Go.Sl.L.pu rfl rfl trivial (pu_move rfl) ?_
  refine Go.Sl.L.pu rfl rfl trivial (by first | exact pu_nil rfl | exact pu_nilF rfl) ?_
  refine Go.Sl.L.pu rfl rfl trivial (pu_fa fa_62_1 rfl) ?_
  refine Go.Sl.L.rd rfl rfl trivial (rd_ld na_60 rfl (Rdc.cl1 (by repeat constructor) rfl)) ?_
  refine Go.Sl.L.pu rfl rfl trivial (pu_move rfl) ?_
  refine Go.Sl.L.rd rfl rfl trivial (rd_look1 (k := n) Tryz.underlying60 kt_9 zvk_92 rfl rfl (by repeat constructor)) ?_
  rw [h]
  refine Go.Sl.L.pu rfl rfl trivial (pu_assign rfl) ?_
  refine Go.Sl.L.nil ?_
  refine Gs.then_n ?_
  refine Gs.seq ?_
  refine Gs.reg ?_
  refine Go.Sl.L.pu rfl rfl trivial (pu_move rfl) ?_
  refine Go.Sl.L.pu rfl rfl trivial (pu_neN Tryz.underlying92 rfl rfl) ?_
  refine Go.Sl.L.nil ?_
  refine Gs.then_n ?_
  refine Gs.cond_t rfl ?_
  refine Gs.seq ?_
  refine Gs.reg ?_
  refine Go.Sl.L.pu rfl rfl trivial (pu_move rfl) ?_
  refine Go.Sl.L.pu rfl rfl trivial (pu_assign rfl) ?_
  refine Go.Sl.L.pu rfl rfl trivial (pu_assign rfl) ?_
  refine Go.Sl.L.nil ?_
  refine Gs.then_n ?_
  refine Gs.ret ?_
  refine Gs.then_r ?_
  exact Gs.fin2 Tryz.results68 rfl rfl _ (⟨rfl, rfl⟩) (by repeat constructor)
theorem find_none {b m : Nat} {most : Int} {P : DP} {n : ByteArray} (h : mget (pairs P) n = none) : Ct Tryz.prog 68 [ptr b, .string n] (fpre b m most P) (fun v hs => v = .tuple #[.pointer none, int 13] ∧ hs = fpre b m most P) := by
  refine Ct.intro Tryz.func68 rfl (by kernel_rfl) 18 Tryz.ntmps68 (Nat.le_of_ble_eq_true rfl) fun w0 R => ?_
  refine Gs.seq ?_
  refine Gs.reg ?_
  refine Go.Sl.L.pu rfl rfl trivial (pu_assign rfl) ?_
  refine Go.Sl.L.pu rfl rfl trivial (pu_assign rfl) ?_
  refine Go.Sl.L.nil ?_
  refine Gs.then_n ?_
  refine Gs.seq ?_
  refine Gs.seq ?_
  refine Gs.reg ?_
  refine Go.Sl.L.pu rfl rfl trivial (pu_move rfl) ?_
  refine Go.Sl.L.pu rfl rfl trivial (pu_eqN Tryz.underlying26 rfl rfl) ?_
  refine Go.Sl.L.nil ?_
  refine Gs.then_n ?_
  refine Gs.cond_f rfl ?_
  refine Gs.skip ?_
  refine Gs.then_n ?_
  refine Gs.seq ?_
  refine Gs.seq ?_
  refine Gs.reg ?_
  refine Go.Sl.L.pu rfl rfl trivial (pu_move rfl) ?_
  refine Go.Sl.L.pu rfl rfl trivial (by first | exact pu_nil rfl | exact pu_nilF rfl) ?_
  refine Go.Sl.L.pu rfl rfl trivial (pu_fa fa_62_1 rfl) ?_
  refine Go.Sl.L.rd rfl rfl trivial (rd_ld na_60 rfl (Rdc.cl1 (by repeat constructor) rfl)) ?_
  refine Go.Sl.L.pu rfl rfl trivial (pu_move rfl) ?_
  refine Go.Sl.L.rd rfl rfl trivial (rd_look1 (k := n) Tryz.underlying60 kt_9 zvk_92 rfl rfl (by repeat constructor)) ?_
  rw [h]
  refine Go.Sl.L.pu rfl rfl trivial (pu_assign rfl) ?_
  refine Go.Sl.L.nil ?_
  refine Gs.then_n ?_
  refine Gs.seq ?_
  refine Gs.reg ?_
  refine Go.Sl.L.pu rfl rfl trivial (pu_move rfl) ?_
  refine Go.Sl.L.pu rfl rfl trivial (pu_neN Tryz.underlying92 rfl rfl) ?_
  refine Go.Sl.L.nil ?_
  refine Gs.then_n ?_
  refine Gs.cond_f rfl ?_
  refine Gs.skip ?_
  refine Gs.then_n ?_
  refine Gs.seq ?_
  refine Gs.reg ?_
  refine Go.Sl.L.pu rfl rfl trivial (pu_assign rfl) ?_
  refine Go.Sl.L.pu rfl rfl trivial (pu_assign rfl) ?_
  refine Go.Sl.L.nil ?_
  refine Gs.then_n ?_
  refine Gs.ret ?_
  exact Gs.fin2 Tryz.results68 rfl rfl _ (⟨rfl, rfl⟩) (by repeat constructor)
theorem find_nil (n : ByteArray) : Ct Tryz.prog 68 [.pointer none, .string n] [] (fun v hs => v = .tuple #[.pointer none, int 1] ∧ hs = []) := by
  refine Ct.intro Tryz.func68 rfl (by kernel_rfl) 18 Tryz.ntmps68 (Nat.le_of_ble_eq_true rfl) fun w0 R => ?_
  refine Gs.seq ?_
  refine Gs.reg ?_
  refine Go.Sl.L.pu rfl rfl trivial (pu_assign rfl) ?_
  refine Go.Sl.L.pu rfl rfl trivial (pu_assign rfl) ?_
  refine Go.Sl.L.nil ?_
  refine Gs.then_n ?_
  refine Gs.seq ?_
  refine Gs.seq ?_
  refine Gs.reg ?_
  refine Go.Sl.L.pu rfl rfl trivial (pu_move rfl) ?_
  refine Go.Sl.L.pu rfl rfl trivial (pu_eqN Tryz.underlying26 rfl rfl) ?_
  refine Go.Sl.L.nil ?_
  refine Gs.then_n ?_
  refine Gs.cond_t rfl ?_
  refine Gs.seq ?_
  refine Gs.reg ?_
  refine Go.Sl.L.pu rfl rfl trivial (pu_assign rfl) ?_
  refine Go.Sl.L.pu rfl rfl trivial (pu_assign rfl) ?_
  refine Go.Sl.L.nil ?_
  refine Gs.then_n ?_
  refine Gs.ret ?_
  refine Gs.then_r ?_
  exact Gs.fin2 Tryz.results68 rfl rfl _ (⟨rfl, rfl⟩) (by repeat constructor)
end Go.Proofs.YtjaafkakeccniaaGreatDoor

/- Walks: drive's methods. -/
namespace Go.Proofs.YtjaafkakeccniaaGreatDoor
open Go Go.Sl Go.Gv Go.Kv Go.Dv Go.Bst
set_option maxRecDepth 100000
theorem used_spec (b : Nat) (most : Int) (D : List Fl) (hD : D.length ≤ 1000) : Ct Tryz.prog 25 [ptr b] [drv b most D] (fun v hs => v = int (used D) ∧ hs = [drv b most D]) := by
  refine Ct.intro Tryz.func25 rfl (by kernel_rfl) 27 Tryz.ntmps25 (Nat.le_of_ble_eq_true rfl) fun w0 R => ?_
  refine Gs.seq ?_
  refine Gs.reg ?_
  refine Go.Sl.L.pu rfl rfl trivial (pu_assign rfl) ?_
  refine Go.Sl.L.nil ?_
  refine Gs.then_n ?_
  refine Gs.seq ?_
  refine Gs.reg ?_
  refine Go.Sl.L.pu rfl rfl trivial (pu_assign rfl) ?_
  refine Go.Sl.L.nil ?_
  refine Gs.then_n ?_
  refine Gs.seq ?_
  refine Gs.seq ?_
  refine Gs.reg ?_
  refine Go.Sl.L.pu rfl rfl trivial (pu_move rfl) ?_
  refine Go.Sl.L.ac rfl rfl trivial (as_call (names_spec b most D hD) (by repeat constructor) (by repeat constructor)) ?_
  rintro _ _ ⟨_, ⟨a2, c2, rfl, rfl⟩, rfl⟩
  refine Gs.drvOpen (by repeat constructor) fun m P hP hok => ?_
  obtain ⟨ns, hns⟩ : ∃ ns, ns = sortB (names D) := ⟨_, rfl⟩
  have hperm : List.Perm ns (names D) := by rw [hns]; exact sortB_perm _
  have hnl : ns.length ≤ 1000 := by rw [hperm.length_eq]; simpa using hD
  have hsum : (ns.map (lenOf D)).sum = used D := lenOf_sum hok.nd hperm
  have hroom := hok.room
  have hhi := hok.hi
  rw [← hns]
  refine Gs.slAddr (SlH.own (by repeat constructor) : SlH _ _ 1 strC a2 ns) fun kb ko hka => ?_
  refine Go.Sl.L.pu rfl rfl trivial (pu_len Tryz.underlying66 rfl) ?_
  refine Go.Sl.L.pu rfl rfl trivial (pu_move rfl) ?_
  refine Go.Sl.L.nil ?_
  refine Gs.then_n ?_
  refine Gs.block ?_
  refine Gs.loop1 (fun i : Nat => i ≤ ns.length) (fun i => [(0, ptr b), (3, int (((ns.map (lenOf D)).take i).sum : Nat)), (7, .slice a2 ns.length c2), (8, int ns.length), (9, int i)]) (fun i => [cl b 62 (driveC most m), mp strV pv m (pairs P), files P, sl 9 1 strC a2 c2 ns] ++ R) (fun i => ns.length - i) 0 (Nat.zero_le _) (by repeat constructor) (by repeat constructor) (fun i hi => ?_)
  refine Gs.seq ?_
  refine Gs.reg ?_
  refine Go.Sl.L.pu rfl rfl trivial (pu_lt rfl rfl) ?_
  refine Go.Sl.L.nil ?_
  refine Gs.then_n ?_
  refine Gs.seq ?_
  refine Gs.cond rfl (fun hc0 => ?_) (fun hc0 => ?_)
  · skip
    have hlt : i < ns.length := by have := of_decide_eq_true hc0; omega
    obtain ⟨k, hk⟩ : ∃ k, ns[i]? = some k := ⟨ns[i], by simp [hlt]⟩
    obtain rfl := hka (by rintro rfl; simp at hlt)
    have hmem : k ∈ names D := hperm.mem_iff.1 (List.mem_of_getElem? hk)
    obtain ⟨h1, h2⟩ | ⟨U, f, p, V, e0, e1, e2, e3, -, -, -, -, -⟩ := find_at (P := P) (by rw [hP]; exact hok.nd) k
    · rw [hP, lookF_none] at h1; exact (h1 hmem).elim
    have hle : lenOf D k = f.b.length := by rw [← hP]; simp only [lenOf, e2]
    have hst : ((ns.map (lenOf D)).take (i + 1)).sum = ((ns.map (lenOf D)).take i).sum + f.b.length := sum_take_succ (by rw [List.getElem?_map, hk]; simp [hle])
    have hb1 := sum_take_le (ns.map (lenOf D)) (i + 1)
    refine Gs.skip ?_
    refine Gs.then_n ?_
    refine Gs.seq ?_
    refine Gs.block ?_
    refine Gs.seq ?_
    refine Gs.reg ?_
    refine Go.Sl.L.pu rfl rfl trivial (pu_ia se_66 rfl rfl (by omega) (by omega)) ?_
    refine Go.Sl.L.rd rfl rfl trivial (rd_ld na_9 rfl (Rdc.el0 (SlH.own (by repeat constructor)) hk rfl rfl)) ?_
    refine Go.Sl.L.pu rfl rfl trivial (pu_assign rfl) ?_
    refine Go.Sl.L.nil ?_
    refine Gs.then_n ?_
    refine Gs.reg ?_
    refine Go.Sl.L.pu rfl rfl trivial (pu_move rfl) ?_
    refine Go.Sl.L.pu rfl rfl trivial (pu_move rfl) ?_
    refine Go.Sl.L.pu rfl rfl trivial (by first | exact pu_nil rfl | exact pu_nilF rfl) ?_
    refine Go.Sl.L.pu rfl rfl trivial (pu_fa fa_62_1 rfl) ?_
    refine Go.Sl.L.rd rfl rfl trivial (rd_ld na_60 rfl (Rdc.cl1 (by repeat constructor) rfl)) ?_
    refine Go.Sl.L.pu rfl rfl trivial (pu_move rfl) ?_
    refine Go.Sl.L.rd rfl rfl trivial (rd_look1 (k := k) Tryz.underlying60 kt_9 zvk_92 rfl rfl (by repeat constructor)) ?_
    rw [e3]
    subst e0
    refine Gs.filOpen (U := U) (V := V) (f := f) (p := p) (by repeat constructor) fun fa fc => ?_
    refine Go.Sl.L.pu rfl rfl trivial (by first | exact pu_nil rfl | exact pu_nilF rfl) ?_
    refine Go.Sl.L.pu rfl rfl trivial (pu_fa fa_91_0 rfl) ?_
    refine Go.Sl.L.rd rfl rfl trivial (rd_ld na_75 rfl (Rdc.cl1 (by repeat constructor) rfl)) ?_
    refine Go.Sl.L.pu rfl rfl trivial (pu_len Tryz.underlying75 rfl) ?_
    refine Go.Sl.L.pu rfl rfl trivial (pu_addI (z := (((ns.map (lenOf D)).take (i + 1)).sum : Nat)) rfl rfl (by rw [hst]; omega) (by omega) (by omega)) ?_
    refine Go.Sl.L.pu rfl rfl trivial (pu_assign rfl) ?_
    refine Go.Sl.L.nil ?_
    refine Gs.filClose (U := U) (V := V) (f := f) (p := p) (by repeat constructor) rfl rfl rfl ?_
    refine Gs.blk_n ?_
    refine Gs.then_n ?_
    refine Gs.reg ?_
    refine Go.Sl.L.pu rfl rfl trivial (by first | exact pu_addI rfl rfl rfl (by omega) (by omega) | exact pu_add rfl rfl) ?_
    refine Go.Sl.L.pu rfl rfl trivial (pu_move rfl) ?_
    refine Go.Sl.L.nil ?_
    refine Gs.then_n ?_
    exact Gs.again1 (i + 1) (by omega) (by omega) (by repeat constructor) (by repeat constructor)
  · skip
    have hge : i = ns.length := by have := of_decide_eq_false hc0; omega
    have hall : ((ns.map (lenOf D)).take i).sum = used D := by rw [List.take_of_length_le (by rw [List.length_map]; omega), hsum]
    rw [hall]
    refine Gs.exit ?_
    refine Gs.then_x ?_
    refine Gs.then_x ?_
    refine Gs.blk_hit ?_
    refine Gs.then_n ?_
    refine Gs.seq ?_
    refine Gs.reg ?_
    refine Go.Sl.L.pu rfl rfl trivial (pu_move rfl) ?_
    refine Go.Sl.L.pu rfl rfl trivial (pu_assign rfl) ?_
    refine Go.Sl.L.nil ?_
    refine Gs.then_n ?_
    refine Gs.ret ?_
    refine Gs.drvClose (P := P) (D := D) (by repeat constructor) hP hok ?_
    exact Gs.fin1 Tryz.results25 rfl _ (⟨rfl, rfl⟩) (by repeat constructor)
theorem usedNil_spec : Ct Tryz.prog 25 [.pointer none] [] (fun v hs => v = int 0 ∧ hs = []) := by
  refine Ct.intro Tryz.func25 rfl (by kernel_rfl) 27 Tryz.ntmps25 (Nat.le_of_ble_eq_true rfl) fun w0 R => ?_
  refine Gs.seq ?_
  refine Gs.reg ?_
  refine Go.Sl.L.pu rfl rfl trivial (pu_assign rfl) ?_
  refine Go.Sl.L.nil ?_
  refine Gs.then_n ?_
  refine Gs.seq ?_
  refine Gs.reg ?_
  refine Go.Sl.L.pu rfl rfl trivial (pu_assign rfl) ?_
  refine Go.Sl.L.nil ?_
  refine Gs.then_n ?_
  refine Gs.seq ?_
  refine Gs.seq ?_
  refine Gs.reg ?_
  refine Go.Sl.L.pu rfl rfl trivial (pu_move rfl) ?_
  refine Go.Sl.L.ac rfl rfl trivial (as_call (namesNil_spec) (by repeat constructor) (by repeat constructor)) ?_
  rintro _ _ ⟨_, ⟨rfl, rfl⟩, rfl⟩
  rename_i RR
  refine Go.Sl.L.pu rfl rfl trivial (pu_len Tryz.underlying66 rfl) ?_
  refine Go.Sl.L.pu rfl rfl trivial (pu_move rfl) ?_
  refine Go.Sl.L.nil ?_
  refine Gs.then_n ?_
  refine Gs.block ?_
  refine Gs.loop1 (fun _ : Unit => True) (fun _ => [(3, int 0), (8, int 0), (9, int 0)]) (fun _ => RR) (fun _ => 0) () (trivial) (by repeat constructor) (by repeat constructor) (fun i hi => ?_)
  refine Gs.seq ?_
  refine Gs.reg ?_
  refine Go.Sl.L.pu rfl rfl trivial (pu_lt rfl rfl) ?_
  refine Go.Sl.L.nil ?_
  refine Gs.then_n ?_
  refine Gs.seq ?_
  refine Gs.cond_f rfl ?_
  refine Gs.exit ?_
  refine Gs.then_x ?_
  refine Gs.then_x ?_
  refine Gs.blk_hit ?_
  refine Gs.then_n ?_
  refine Gs.seq ?_
  refine Gs.reg ?_
  refine Go.Sl.L.pu rfl rfl trivial (pu_move rfl) ?_
  refine Go.Sl.L.pu rfl rfl trivial (pu_assign rfl) ?_
  refine Go.Sl.L.nil ?_
  refine Gs.then_n ?_
  refine Gs.ret ?_
  exact Gs.fin1 Tryz.results25 rfl _ (⟨rfl, rfl⟩) (by repeat constructor)
def looseD (D : List Fl) (n : ByteArray) : Int := match lookF D n with
  | some f => f.b.length - f.s
  | none => 0
theorem loose_spec (b : Nat) (most : Int) (D : List Fl) (n : ByteArray) : Ct Tryz.prog 45 [ptr b, .string n] [drv b most D] (fun v hs => v = int (looseD D n) ∧ hs = [drv b most D]) := by
  refine Ct.intro Tryz.func45 rfl (by kernel_rfl) 25 Tryz.ntmps45 (Nat.le_of_ble_eq_true rfl) fun w0 R => ?_
  refine Gs.drvOpen (by repeat constructor) fun m P hP hok => ?_
  have hhi := hok.hi
  have hroom := hok.room
  obtain ⟨h1, h2⟩ | ⟨U, f, p, V, e0, e1, e2, e3, -, -, -, -, -⟩ := find_at (P := P) (by rw [hP]; exact hok.nd) n
  · have hv : looseD D n = 0 := by rw [← hP]; simp only [looseD, h1]
    refine Gs.seq ?_
    refine Gs.reg ?_
    refine Go.Sl.L.pu rfl rfl trivial (pu_assign rfl) ?_
    refine Go.Sl.L.nil ?_
    refine Gs.then_n ?_
    refine Gs.seq ?_
    refine Gs.reg ?_
    refine Go.Sl.L.pu rfl rfl trivial (pu_move rfl) ?_
    refine Go.Sl.L.pu rfl rfl trivial (pu_move rfl) ?_
    refine Go.Sl.L.ac rfl rfl trivial (as_call (find_none h2) (by repeat constructor) (by repeat constructor)) ?_
    rintro _ _ ⟨_, ⟨rfl, rfl⟩, rfl⟩
    refine Go.Sl.L.pu rfl rfl trivial (pu_move rfl) ?_
    refine Go.Sl.L.pu rfl rfl trivial (pu_extract rfl rfl) ?_
    refine Go.Sl.L.pu rfl rfl trivial (pu_extract rfl rfl) ?_
    refine Go.Sl.L.pu rfl rfl trivial (pu_assign rfl) ?_
    refine Go.Sl.L.pu rfl rfl trivial (pu_assign rfl) ?_
    refine Go.Sl.L.nil ?_
    refine Gs.then_n ?_
    refine Gs.seq ?_
    refine Gs.seq ?_
    refine Gs.reg ?_
    refine Go.Sl.L.pu rfl rfl trivial (pu_move rfl) ?_
    refine Go.Sl.L.pu rfl rfl trivial (pu_ne rfl rfl) ?_
    refine Go.Sl.L.nil ?_
    refine Gs.then_n ?_
    refine Gs.cond_tt rfl rfl ?_
    refine Gs.seq ?_
    refine Gs.reg ?_
    refine Go.Sl.L.pu rfl rfl trivial (pu_assign rfl) ?_
    refine Go.Sl.L.nil ?_
    refine Gs.then_n ?_
    refine Gs.ret ?_
    refine Gs.then_r ?_
    refine Gs.drvClose (P := P) (D := D) (by repeat constructor) hP hok ?_
    exact Gs.fin1 Tryz.results45 rfl _ (⟨by rw [hv], rfl⟩) (by repeat constructor)
  · have hv : looseD D n = f.b.length - f.s := by rw [← hP]; simp only [looseD, e2]
    have hfm : f ∈ D := by rw [← hP, e0]; simp
    have hf1 := hok.firm f hfm
    have hf2 := used_mem hfm
    refine Gs.seq ?_
    refine Gs.reg ?_
    refine Go.Sl.L.pu rfl rfl trivial (pu_assign rfl) ?_
    refine Go.Sl.L.nil ?_
    refine Gs.then_n ?_
    refine Gs.seq ?_
    refine Gs.reg ?_
    refine Go.Sl.L.pu rfl rfl trivial (pu_move rfl) ?_
    refine Go.Sl.L.pu rfl rfl trivial (pu_move rfl) ?_
    refine Go.Sl.L.ac rfl rfl trivial (as_call (find_some e3) (by repeat constructor) (by repeat constructor)) ?_
    rintro _ _ ⟨_, ⟨rfl, rfl⟩, rfl⟩
    refine Go.Sl.L.pu rfl rfl trivial (pu_move rfl) ?_
    refine Go.Sl.L.pu rfl rfl trivial (pu_extract rfl rfl) ?_
    refine Go.Sl.L.pu rfl rfl trivial (pu_extract rfl rfl) ?_
    refine Go.Sl.L.pu rfl rfl trivial (pu_assign rfl) ?_
    refine Go.Sl.L.pu rfl rfl trivial (pu_assign rfl) ?_
    refine Go.Sl.L.nil ?_
    refine Gs.then_n ?_
    refine Gs.seq ?_
    refine Gs.seq ?_
    refine Gs.reg ?_
    refine Go.Sl.L.pu rfl rfl trivial (pu_move rfl) ?_
    refine Go.Sl.L.pu rfl rfl trivial (pu_ne rfl rfl) ?_
    refine Go.Sl.L.nil ?_
    refine Gs.then_n ?_
    refine Gs.cond_ff rfl rfl ?_
    refine Gs.skip ?_
    refine Gs.then_n ?_
    refine Gs.seq ?_
    subst e0
    refine Gs.filOpen (U := U) (V := V) (f := f) (p := p) (by repeat constructor) fun fa fc => ?_
    refine Gs.regD mixed (by kernel_rfl) ?_
    refine Rg.pu 0 rfl rfl (by kernel_rfl) trivial (pu_move rfl) ?_
    refine Rg.pu 1 rfl rfl (by kernel_rfl) trivial (by first | exact pu_nil rfl | exact pu_nilF rfl) ?_
    refine Rg.pu 2 rfl rfl (by kernel_rfl) trivial (pu_fa fa_91_0 rfl) ?_
    refine Rg.rd 3 rfl rfl (by kernel_rfl) trivial (rd_ld na_75 rfl (Rdc.cl1 (by repeat constructor) rfl)) ?_
    refine Rg.pu 4 rfl rfl (by kernel_rfl) trivial (pu_len Tryz.underlying75 rfl) ?_
    refine Rg.pu 5 rfl rfl (by kernel_rfl) trivial (pu_move rfl) ?_
    refine Rg.pu 6 rfl rfl (by kernel_rfl) trivial (by first | exact pu_nil rfl | exact pu_nilF rfl) ?_
    refine Rg.pu 7 rfl rfl (by kernel_rfl) trivial (pu_fa fa_91_1 rfl) ?_
    refine Rg.rd 8 rfl rfl (by kernel_rfl) trivial (rd_ld na_3 rfl (Rdc.cl1 (by repeat constructor) rfl)) ?_
    refine Rg.pu 9 rfl rfl (by kernel_rfl) trivial (by first | exact pu_subI rfl rfl rfl (by omega) (by omega) | exact pu_sub rfl rfl) ?_
    refine Rg.pu 10 rfl rfl (by kernel_rfl) trivial (pu_assign rfl) ?_
    refine Rg.end (by kernel_rfl) ?_
    refine Gs.then_n ?_
    refine Gs.ret ?_
    refine Gs.filClose (U := U) (V := V) (f := f) (p := p) (by repeat constructor) rfl rfl rfl ?_
    refine Gs.drvClose (D := D) (by repeat constructor) hP hok ?_
    exact Gs.fin1 Tryz.results45 rfl _ (⟨by rw [hv], rfl⟩) (by repeat constructor)
theorem looseNil_spec (n : ByteArray) : Ct Tryz.prog 45 [.pointer none, .string n] [] (fun v hs => v = int 0 ∧ hs = []) := by
  refine Ct.intro Tryz.func45 rfl (by kernel_rfl) 25 Tryz.ntmps45 (Nat.le_of_ble_eq_true rfl) fun w0 R => ?_
  refine Gs.seq ?_
  refine Gs.reg ?_
  refine Go.Sl.L.pu rfl rfl trivial (pu_assign rfl) ?_
  refine Go.Sl.L.nil ?_
  refine Gs.then_n ?_
  refine Gs.seq ?_
  refine Gs.reg ?_
  refine Go.Sl.L.pu rfl rfl trivial (pu_move rfl) ?_
  refine Go.Sl.L.pu rfl rfl trivial (pu_move rfl) ?_
  refine Go.Sl.L.ac rfl rfl trivial (as_call (find_nil n) (by repeat constructor) (by repeat constructor)) ?_
  rintro _ _ ⟨_, ⟨rfl, rfl⟩, rfl⟩
  refine Go.Sl.L.pu rfl rfl trivial (pu_move rfl) ?_
  refine Go.Sl.L.pu rfl rfl trivial (pu_extract rfl rfl) ?_
  refine Go.Sl.L.pu rfl rfl trivial (pu_extract rfl rfl) ?_
  refine Go.Sl.L.pu rfl rfl trivial (pu_assign rfl) ?_
  refine Go.Sl.L.pu rfl rfl trivial (pu_assign rfl) ?_
  refine Go.Sl.L.nil ?_
  refine Gs.then_n ?_
  refine Gs.seq ?_
  refine Gs.seq ?_
  refine Gs.reg ?_
  refine Go.Sl.L.pu rfl rfl trivial (pu_move rfl) ?_
  refine Go.Sl.L.pu rfl rfl trivial (pu_ne rfl rfl) ?_
  refine Go.Sl.L.nil ?_
  refine Gs.then_n ?_
  refine Gs.cond_tt rfl rfl ?_
  refine Gs.seq ?_
  refine Gs.reg ?_
  refine Go.Sl.L.pu rfl rfl trivial (pu_assign rfl) ?_
  refine Go.Sl.L.nil ?_
  refine Gs.then_n ?_
  refine Gs.ret ?_
  refine Gs.then_r ?_
  exact Gs.fin1 Tryz.results45 rfl _ (⟨rfl, rfl⟩) (by repeat constructor)
def readE (D : List Fl) (n : ByteArray) : Int := match lookF D n with
  | some _ => 0
  | none => 13
def readL (D : List Fl) (n : ByteArray) : List UInt8 := match lookF D n with
  | some f => f.b
  | none => []
theorem read_spec (b : Nat) (most : Int) (D : List Fl) (n : ByteArray) : Ct Tryz.prog 55 [ptr b, .string n] [drv b most D]
    (fun v hs => ∃ a c, v = .tuple #[.slice a (readL D n).length c, int (readE D n)] ∧ hs = [drv b most D, sl 5 1 byteC a c (readL D n)]) := by
  refine Ct.intro Tryz.func55 rfl (by kernel_rfl) 22 Tryz.ntmps55 (Nat.le_of_ble_eq_true rfl) fun w0 R => ?_
  refine Gs.drvOpen (by repeat constructor) fun m P hP hok => ?_
  have hhi := hok.hi
  have hroom := hok.room
  obtain ⟨h1, h2⟩ | ⟨U, f, p, V, e0, e1, e2, e3, -, -, -, -, -⟩ := find_at (P := P) (by rw [hP]; exact hok.nd) n
  · have hv : readL D n = [] := by rw [← hP]; simp only [readL, h1]
    have hv2 : readE D n = 13 := by rw [← hP]; simp only [readE, h1]
    refine Gs.seq ?_
    refine Gs.reg ?_
    refine Go.Sl.L.pu rfl rfl trivial (pu_assign rfl) ?_
    refine Go.Sl.L.pu rfl rfl trivial (pu_assign rfl) ?_
    refine Go.Sl.L.nil ?_
    refine Gs.then_n ?_
    refine Gs.seq ?_
    refine Gs.reg ?_
    refine Go.Sl.L.pu rfl rfl trivial (pu_move rfl) ?_
    refine Go.Sl.L.pu rfl rfl trivial (pu_move rfl) ?_
    refine Go.Sl.L.ac rfl rfl trivial (as_call (find_none h2) (by repeat constructor) (by repeat constructor)) ?_
    rintro _ _ ⟨_, ⟨rfl, rfl⟩, rfl⟩
    refine Go.Sl.L.pu rfl rfl trivial (pu_move rfl) ?_
    refine Go.Sl.L.pu rfl rfl trivial (pu_extract rfl rfl) ?_
    refine Go.Sl.L.pu rfl rfl trivial (pu_extract rfl rfl) ?_
    refine Go.Sl.L.pu rfl rfl trivial (pu_assign rfl) ?_
    refine Go.Sl.L.pu rfl rfl trivial (pu_assign rfl) ?_
    refine Go.Sl.L.nil ?_
    refine Gs.then_n ?_
    refine Gs.seq ?_
    refine Gs.seq ?_
    refine Gs.reg ?_
    refine Go.Sl.L.pu rfl rfl trivial (pu_move rfl) ?_
    refine Go.Sl.L.pu rfl rfl trivial (pu_ne rfl rfl) ?_
    refine Go.Sl.L.nil ?_
    refine Gs.then_n ?_
    refine Gs.cond_tt rfl rfl ?_
    refine Gs.seq ?_
    refine Gs.reg ?_
    refine Go.Sl.L.pu rfl rfl trivial (pu_move rfl) ?_
    refine Go.Sl.L.pu rfl rfl trivial (pu_assign rfl) ?_
    refine Go.Sl.L.pu rfl rfl trivial (pu_assign rfl) ?_
    refine Go.Sl.L.nil ?_
    refine Gs.then_n ?_
    refine Gs.ret ?_
    refine Gs.then_r ?_
    refine Gs.drvClose (P := P) (D := D) (by repeat constructor) hP hok ?_
    refine Gs.slNil 5 1 byteC ?_
    exact Gs.fin2 Tryz.results55 rfl rfl _ (⟨none, 0, by rw [hv, hv2]; rfl, by rw [hv]⟩) (by repeat constructor)
  · have hv : readL D n = f.b := by rw [← hP]; simp only [readL, e2]
    have hv2 : readE D n = 0 := by rw [← hP]; simp only [readE, e2]
    have hfm : f ∈ D := by rw [← hP, e0]; simp
    have hf2 := used_mem hfm
    refine Gs.seq ?_
    refine Gs.reg ?_
    refine Go.Sl.L.pu rfl rfl trivial (pu_assign rfl) ?_
    refine Go.Sl.L.pu rfl rfl trivial (pu_assign rfl) ?_
    refine Go.Sl.L.nil ?_
    refine Gs.then_n ?_
    refine Gs.seq ?_
    refine Gs.reg ?_
    refine Go.Sl.L.pu rfl rfl trivial (pu_move rfl) ?_
    refine Go.Sl.L.pu rfl rfl trivial (pu_move rfl) ?_
    refine Go.Sl.L.ac rfl rfl trivial (as_call (find_some e3) (by repeat constructor) (by repeat constructor)) ?_
    rintro _ _ ⟨_, ⟨rfl, rfl⟩, rfl⟩
    refine Go.Sl.L.pu rfl rfl trivial (pu_move rfl) ?_
    refine Go.Sl.L.pu rfl rfl trivial (pu_extract rfl rfl) ?_
    refine Go.Sl.L.pu rfl rfl trivial (pu_extract rfl rfl) ?_
    refine Go.Sl.L.pu rfl rfl trivial (pu_assign rfl) ?_
    refine Go.Sl.L.pu rfl rfl trivial (pu_assign rfl) ?_
    refine Go.Sl.L.nil ?_
    refine Gs.then_n ?_
    refine Gs.seq ?_
    refine Gs.seq ?_
    refine Gs.reg ?_
    refine Go.Sl.L.pu rfl rfl trivial (pu_move rfl) ?_
    refine Go.Sl.L.pu rfl rfl trivial (pu_ne rfl rfl) ?_
    refine Go.Sl.L.nil ?_
    refine Gs.then_n ?_
    refine Gs.cond_ff rfl rfl ?_
    refine Gs.skip ?_
    refine Gs.then_n ?_
    refine Gs.seq ?_
    subst e0
    refine Gs.filOpen (U := U) (V := V) (f := f) (p := p) (by repeat constructor) fun fa fc => ?_
    refine Gs.reg ?_
    refine Go.Sl.L.pu rfl rfl trivial (pu_move rfl) ?_
    refine Go.Sl.L.pu rfl rfl trivial (by first | exact pu_nil rfl | exact pu_nilF rfl) ?_
    refine Go.Sl.L.pu rfl rfl trivial (pu_fa fa_91_0 rfl) ?_
    refine Go.Sl.L.rd rfl rfl trivial (rd_ld na_75 rfl (Rdc.cl1 (by repeat constructor) rfl)) ?_
    refine Go.Sl.L.ac rfl rfl trivial (as_call (cloneB_spec (S := sl 5 1 byteC fa fc f.b) Srd.own (by omega)) (by repeat constructor) (by repeat constructor)) ?_
    rintro _ _ ⟨_, ⟨a', c', rfl, rfl⟩, rfl⟩
    refine Go.Sl.L.pu rfl rfl trivial (pu_assign rfl) ?_
    refine Go.Sl.L.pu rfl rfl trivial (pu_assign rfl) ?_
    refine Go.Sl.L.nil ?_
    refine Gs.then_n ?_
    refine Gs.ret ?_
    refine Gs.filClose (U := U) (V := V) (f := f) (p := p) (by repeat constructor) rfl rfl rfl ?_
    refine Gs.drvClose (D := D) (by repeat constructor) hP hok ?_
    exact Gs.fin2 Tryz.results55 rfl rfl _ (⟨a', c', by rw [hv, hv2], by rw [hv]⟩) (by repeat constructor)
theorem readNil_spec (n : ByteArray) : Ct Tryz.prog 55 [.pointer none, .string n] [] (fun v hs => v = .tuple #[.slice none 0 0, int 1] ∧ hs = []) := by
  refine Ct.intro Tryz.func55 rfl (by kernel_rfl) 22 Tryz.ntmps55 (Nat.le_of_ble_eq_true rfl) fun w0 R => ?_
  refine Gs.seq ?_
  refine Gs.reg ?_
  refine Go.Sl.L.pu rfl rfl trivial (pu_assign rfl) ?_
  refine Go.Sl.L.pu rfl rfl trivial (pu_assign rfl) ?_
  refine Go.Sl.L.nil ?_
  refine Gs.then_n ?_
  refine Gs.seq ?_
  refine Gs.reg ?_
  refine Go.Sl.L.pu rfl rfl trivial (pu_move rfl) ?_
  refine Go.Sl.L.pu rfl rfl trivial (pu_move rfl) ?_
  refine Go.Sl.L.ac rfl rfl trivial (as_call (find_nil n) (by repeat constructor) (by repeat constructor)) ?_
  rintro _ _ ⟨_, ⟨rfl, rfl⟩, rfl⟩
  refine Go.Sl.L.pu rfl rfl trivial (pu_move rfl) ?_
  refine Go.Sl.L.pu rfl rfl trivial (pu_extract rfl rfl) ?_
  refine Go.Sl.L.pu rfl rfl trivial (pu_extract rfl rfl) ?_
  refine Go.Sl.L.pu rfl rfl trivial (pu_assign rfl) ?_
  refine Go.Sl.L.pu rfl rfl trivial (pu_assign rfl) ?_
  refine Go.Sl.L.nil ?_
  refine Gs.then_n ?_
  refine Gs.seq ?_
  refine Gs.seq ?_
  refine Gs.reg ?_
  refine Go.Sl.L.pu rfl rfl trivial (pu_move rfl) ?_
  refine Go.Sl.L.pu rfl rfl trivial (pu_ne rfl rfl) ?_
  refine Go.Sl.L.nil ?_
  refine Gs.then_n ?_
  refine Gs.cond_tt rfl rfl ?_
  refine Gs.seq ?_
  refine Gs.reg ?_
  refine Go.Sl.L.pu rfl rfl trivial (pu_move rfl) ?_
  refine Go.Sl.L.pu rfl rfl trivial (pu_assign rfl) ?_
  refine Go.Sl.L.pu rfl rfl trivial (pu_assign rfl) ?_
  refine Go.Sl.L.nil ?_
  refine Gs.then_n ?_
  refine Gs.ret ?_
  refine Gs.then_r ?_
  exact Gs.fin2 Tryz.results55 rfl rfl _ (⟨rfl, rfl⟩) (by repeat constructor)
end Go.Proofs.YtjaafkakeccniaaGreatDoor

/- Walks: what changes a drive. -/
namespace Go.Proofs.YtjaafkakeccniaaGreatDoor
open Go Go.Sl Go.Gv Go.Kv Go.Dv Go.Bst
set_option maxRecDepth 100000
theorem isNone_some {P : DP} {n : ByteArray} (h : (Option.map (fun b => (⟨b, 0, none⟩ : Addr)) ((mget (pairs P) n).getD none)).isNone = false) : mget (pairs P) n ≠ none := fun e => by rw [e] at h; cases h
theorem append_spec {S : HProp} (b : Nat) (most : Int) (D : List Fl) (n : ByteArray) (ha : asciiB n = true) (hn : n.size ≤ 9223372036854775807) {a : Option Addr} {c : Nat} {bs : List UInt8} (hS : Srd S 1 byteC a bs) (hl : bs.length ≤ 1048576) (hD : D.length ≤ 1000) :
    Ct Tryz.prog 35 [ptr b, .string n, .slice a bs.length c] [drv b most D, S] (fun v hs => v = int (appE most D n bs) ∧ hs = [drv b most (appL most D n bs), S]) := by
  refine Ct.intro Tryz.func35 rfl (by kernel_rfl) 51 Tryz.ntmps35 (Nat.le_of_ble_eq_true rfl) fun w0 R => ?_
  refine Gs.drvOpen (by repeat constructor) fun m0 P0 hP0 hok => ?_
  refine Gs.drvClose (P := P0) (by repeat constructor) hP0 hok ?_
  have hhi := hok.hi
  have hlo := hok.lo
  have hroom := hok.room
  refine Gs.seq ?_
  refine Gs.reg ?_
  refine Go.Sl.L.pu rfl rfl trivial (pu_assign rfl) ?_
  refine Go.Sl.L.nil ?_
  refine Gs.then_n ?_
  refine Gs.seq ?_
  refine Gs.block ?_
  refine Gs.seq ?_
  refine Gs.reg ?_
  refine Go.Sl.L.pu rfl rfl trivial (pu_move rfl) ?_
  refine Go.Sl.L.pu rfl rfl trivial (pu_eqN Tryz.underlying26 rfl rfl) ?_
  refine Go.Sl.L.pu rfl rfl trivial (pu_assign rfl) ?_
  refine Go.Sl.L.nil ?_
  refine Gs.then_n ?_
  refine Gs.cond_f rfl ?_
  refine Gs.seq ?_
  refine Gs.reg ?_
  refine Go.Sl.L.pu rfl rfl trivial (pu_move rfl) ?_
  refine Go.Sl.L.ac rfl rfl trivial (as_call (named_spec n ha hn) (by repeat constructor) (by repeat constructor)) ?_
  rintro _ _ ⟨_, ⟨rfl, rfl⟩, rfl⟩
  refine Go.Sl.L.pu rfl rfl trivial (pu_not rfl) ?_
  refine Go.Sl.L.pu rfl rfl trivial (pu_assign rfl) ?_
  refine Go.Sl.L.nil ?_
  refine Gs.then_n ?_
  refine Gs.cond rfl (fun hc1 => ?_) (fun hc1 => ?_)
  · skip
    have hnm : namedB n = false := by simpa using hc1
    have he : appE most D n bs = 2 := by simp [appE, hnm]
    have hL : appL most D n bs = D := by simp [appL, he]
    refine Gs.seq ?_
    refine Gs.reg ?_
    refine Go.Sl.L.pu rfl rfl trivial (pu_assign rfl) ?_
    refine Go.Sl.L.nil ?_
    refine Gs.then_n ?_
    refine Gs.ret ?_
    refine Gs.blk_r ?_
    refine Gs.then_r ?_
    exact Gs.fin1 Tryz.results35 rfl _ (⟨by rw [he], by rw [hL]⟩) (by repeat constructor)
  · skip
    have hnm : namedB n = true := by simpa using hc1
    refine Gs.seq ?_
    refine Gs.regD mixed (by kernel_rfl) ?_
    refine Rg.pu 0 rfl rfl (by kernel_rfl) trivial (pu_move rfl) ?_
    refine Rg.pu 2 rfl rfl (by kernel_rfl) trivial (pu_move rfl) ?_
    refine Rg.pu 3 rfl rfl (by kernel_rfl) trivial (pu_len Tryz.underlying75 rfl) ?_
    refine Rg.pu 5 rfl rfl (by kernel_rfl) trivial (pu_move rfl) ?_
    refine Rg.pu 6 rfl rfl (by kernel_rfl) trivial (by first | exact pu_nil rfl | exact pu_nilF rfl) ?_
    refine Rg.pu 7 rfl rfl (by kernel_rfl) trivial (pu_fa fa_62_0 rfl) ?_
    refine Rg.rd 8 rfl rfl (by kernel_rfl) trivial (rd_ld na_3 rfl (Rdc.drvMost (by repeat constructor))) ?_
    refine Rg.one (by kernel_rfl) (Stp.acR 1 [8] rfl rfl (by kernel_rfl) trivial (as_call (used_spec b most D hD) (by repeat constructor) (by repeat constructor)) (by rintro _ _ ⟨_, ⟨rfl, rfl⟩, rfl⟩; exact (Reads.cons rfl rfl rfl trivial rfl (rd_ld na_3 rfl (Rdc.drvMost (by repeat constructor))) Reads.nil)) ?_)
    rintro _ _ ⟨_, ⟨rfl, rfl⟩, rfl⟩
    refine Rg.pu 4 rfl rfl (by kernel_rfl) trivial (by first | exact pu_addI rfl rfl rfl (by omega) (by omega) | exact pu_add rfl rfl) ?_
    refine Rg.pu 9 rfl rfl (by kernel_rfl) trivial (pu_gt rfl rfl) ?_
    refine Rg.pu 10 rfl rfl (by kernel_rfl) trivial (pu_assign rfl) ?_
    refine Rg.end (by kernel_rfl) ?_
    refine Gs.then_n ?_
    refine Gs.cond rfl (fun hc2 => ?_) (fun hc2 => ?_)
    · skip
      have hc2' := of_decide_eq_true hc2
      have he : appE most D n bs = 8 := by simp only [appE, hnm, if_true]; rw [if_pos (by omega)]
      have hL : appL most D n bs = D := by simp [appL, he]
      refine Gs.seq ?_
      refine Gs.reg ?_
      refine Go.Sl.L.pu rfl rfl trivial (pu_assign rfl) ?_
      refine Go.Sl.L.nil ?_
      refine Gs.then_n ?_
      refine Gs.ret ?_
      refine Gs.blk_r ?_
      refine Gs.then_r ?_
      exact Gs.fin1 Tryz.results35 rfl _ (⟨by rw [he], by rw [hL]⟩) (by repeat constructor)
    · skip
      have hc2' := of_decide_eq_false hc2
      have he : appE most D n bs = 0 := by simp only [appE, hnm, if_true]; rw [if_neg (by omega)]
      have hL : appL most D n bs = appD D n bs := by simp [appL, he]
      have hokA : Ok most (appD D n bs) := hok.app (by omega)
      refine Gs.drvOpen (by repeat constructor) fun m P hP _ => ?_
      refine Gs.skip ?_
      refine Gs.blk_n ?_
      refine Gs.then_n ?_
      refine Gs.seq ?_
      refine Gs.reg ?_
      refine Go.Sl.L.pu rfl rfl trivial (pu_move rfl) ?_
      refine Go.Sl.L.pu rfl rfl trivial (by first | exact pu_nil rfl | exact pu_nilF rfl) ?_
      refine Go.Sl.L.pu rfl rfl trivial (pu_fa fa_62_1 rfl) ?_
      refine Go.Sl.L.rd rfl rfl trivial (rd_ld na_60 rfl (Rdc.cl1 (by repeat constructor) rfl)) ?_
      refine Go.Sl.L.pu rfl rfl trivial (pu_move rfl) ?_
      refine Go.Sl.L.rd rfl rfl trivial (rd_look1 (k := n) Tryz.underlying60 kt_9 zvk_92 rfl rfl (by repeat constructor)) ?_
      refine Go.Sl.L.pu rfl rfl trivial (pu_assign rfl) ?_
      refine Go.Sl.L.nil ?_
      refine Gs.then_n ?_
      refine Gs.seq ?_
      refine Gs.seq ?_
      refine Gs.reg ?_
      refine Go.Sl.L.pu rfl rfl trivial (pu_move rfl) ?_
      refine Go.Sl.L.pu rfl rfl trivial (pu_eqN Tryz.underlying92 rfl rfl) ?_
      refine Go.Sl.L.nil ?_
      refine Gs.then_n ?_
      refine Gs.cond rfl (fun hc3 => ?_) (fun hc3 => ?_)
      · skip
        obtain ⟨h1, h2⟩ : lookF (fls P) n = none ∧ mget (pairs P) n = none := by
          rcases find_at (P := P) (by rw [hP]; exact hok.nd) n with h | ⟨U, f, p, V, e0, e1, e2, e3, -, -, -, -, -⟩
          · exact h
          · rw [e3] at hc3; cases hc3
        have hA : appD D n bs = fls P ++ [⟨n, bs, 0⟩] := by rw [← hP]; simp [appD, h1]
        refine Gs.seq ?_
        refine Gs.reg ?_
        refine Go.Sl.L.pu rfl rfl trivial (pu_build bd_91 (by repeat constructor) rfl) ?_
        refine Go.Sl.L.ac rfl rfl trivial (ac_box rfl rfl) ?_
        rintro _ _ ⟨p, rfl, rfl⟩
        refine Go.Sl.L.pu rfl rfl trivial (pu_assign rfl) ?_
        refine Go.Sl.L.nil ?_
        refine Gs.then_n ?_
        refine Gs.reg ?_
        refine Go.Sl.L.pu rfl rfl trivial (pu_move rfl) ?_
        refine Go.Sl.L.pu rfl rfl trivial (by first | exact pu_nil rfl | exact pu_nilF rfl) ?_
        refine Go.Sl.L.pu rfl rfl trivial (pu_fa fa_62_1 rfl) ?_
        refine Go.Sl.L.rd rfl rfl trivial (rd_ld na_60 rfl (Rdc.cl1 (by repeat constructor) rfl)) ?_
        refine Go.Sl.L.pu rfl rfl trivial (pu_move rfl) ?_
        refine Go.Sl.L.pu rfl rfl trivial (pu_move rfl) ?_
        refine Go.Sl.L.ac0 rfl trivial (ac_put (k := n) (v := some p) (encv := encv_92) Tryz.underlying60 kt_9 rfl rfl rfl (by repeat constructor)) ?_
        rintro _ _ rfl
        rw [pairs_new (f := ⟨n, bs, 0⟩) h2]
        refine Gs.slNil 5 1 byteC ?_
        refine Go.Sl.L.nil ?_
        refine Gs.then_n ?_
        refine Gs.seq ?_
        refine Gs.reg ?_
        refine Go.Sl.L.pu rfl rfl trivial (pu_move rfl) ?_
        refine Go.Sl.L.pu rfl rfl trivial (pu_move rfl) ?_
        refine Go.Sl.L.pu rfl rfl trivial (by first | exact pu_nil rfl | exact pu_nilF rfl) ?_
        refine Go.Sl.L.pu rfl rfl trivial (pu_fa fa_91_0 rfl) ?_
        refine Go.Sl.L.rd rfl rfl trivial (rd_ld na_75 rfl (Rdc.cl1 (by repeat constructor) rfl)) ?_
        refine Go.Sl.L.pu rfl rfl trivial (pu_move rfl) ?_
        refine Go.Sl.L.ac rfl rfl trivial (ac_append et_75 ek_5 rfl rfl (by repeat constructor) (SrcH.sl Tryz.underlying75 ek_5 (hS.h (by repeat constructor))) (by first | omega | (simp; omega)) (by first | omega | (simp; omega))) ?_
        rintro _ _ ⟨a48, c48, rfl, rfl⟩
        refine Go.Sl.L.pu rfl rfl trivial (by first | exact pu_nil rfl | exact pu_nilF rfl) ?_
        refine Go.Sl.L.pu rfl rfl trivial (pu_fa fa_91_0 rfl) ?_
        refine Go.Sl.L.ac0 rfl trivial (ac_st sz_75 rfl rfl (by repeat constructor) rfl rfl rfl rfl) ?_
        rintro _ _ rfl
        refine Go.Sl.L.nil ?_
        refine Gs.then_n ?_
        refine Gs.seq ?_
        refine Gs.reg ?_
        refine Go.Sl.L.pu rfl rfl trivial (pu_assign rfl) ?_
        refine Go.Sl.L.nil ?_
        refine Gs.then_n ?_
        refine Gs.ret ?_
        first | (refine Gs.filClose (U := U) (V := V) (f := { f with b := f.b ++ bs }) (p := p) (by repeat constructor) (by simp) rfl rfl ?_; refine Gs.drvClose (P := U ++ ({ f with b := f.b ++ bs }, p) :: V) (D := appD D n bs) (by repeat constructor) (by rw [hA]; simp) hokA ?_) | (refine Gs.filNew (U := P) (f := ⟨n, bs, 0⟩) (p := p) (by repeat constructor) (by simp) rfl rfl ?_; refine Gs.drvClose (P := P ++ [(⟨n, bs, 0⟩, p)]) (D := appD D n bs) (by repeat constructor) (by rw [hA]; simp) hokA ?_)
        exact Gs.fin1 Tryz.results35 rfl _ (⟨by rw [he], by rw [hL]⟩) (by repeat constructor)
      · skip
        obtain ⟨U, f, p, V, e0, e1, e2, e3, e4, -, -, e7, -⟩ : ∃ U f p V, P = U ++ (f, p) :: V ∧ f.n = n ∧ lookF (fls P) n = some f ∧ mget (pairs P) n = some (some p) ∧ (∀ g, upd (fls P) n g = fls U ++ g f :: fls V) ∧ True ∧ True ∧ (∀ f' : Fl, f'.n = n → pairs (U ++ (f', p) :: V) = pairs P) ∧ True := by
          rcases find_at (P := P) (by rw [hP]; exact hok.nd) n with ⟨h1, h2⟩ | ⟨U, f, p, V, e0, e1, e2, e3, e4, -, -, e7, -⟩
          · exact (isNone_some hc3 h2).elim
          · exact ⟨U, f, p, V, e0, e1, e2, e3, e4, trivial, trivial, e7, trivial⟩
        have hA : appD D n bs = fls U ++ { f with b := f.b ++ bs } :: fls V := by rw [← hP]; simp only [appD, e2, Option.isSome_some, if_true]; exact e4 _
        have hfm : f ∈ D := by rw [← hP, e0]; simp
        have hf2 := used_mem hfm
        rw [e3]
        rw [← e7 { f with b := f.b ++ bs } e1]
        rw [e0]
        refine Gs.filOpen (U := U) (V := V) (f := f) (p := p) (by repeat constructor) fun fa fc => ?_
        refine Gs.skip ?_
        refine Gs.then_n ?_
        refine Gs.seq ?_
        refine Gs.reg ?_
        refine Go.Sl.L.pu rfl rfl trivial (pu_move rfl) ?_
        refine Go.Sl.L.pu rfl rfl trivial (pu_move rfl) ?_
        refine Go.Sl.L.pu rfl rfl trivial (by first | exact pu_nil rfl | exact pu_nilF rfl) ?_
        refine Go.Sl.L.pu rfl rfl trivial (pu_fa fa_91_0 rfl) ?_
        refine Go.Sl.L.rd rfl rfl trivial (rd_ld na_75 rfl (Rdc.cl1 (by repeat constructor) rfl)) ?_
        refine Go.Sl.L.pu rfl rfl trivial (pu_move rfl) ?_
        refine Go.Sl.L.ac rfl rfl trivial (ac_append et_75 ek_5 rfl rfl (by repeat constructor) (SrcH.sl Tryz.underlying75 ek_5 (hS.h (by repeat constructor))) (by first | omega | (simp; omega)) (by first | omega | (simp; omega))) ?_
        rintro _ _ ⟨a48, c48, rfl, rfl⟩
        refine Go.Sl.L.pu rfl rfl trivial (by first | exact pu_nil rfl | exact pu_nilF rfl) ?_
        refine Go.Sl.L.pu rfl rfl trivial (pu_fa fa_91_0 rfl) ?_
        refine Go.Sl.L.ac0 rfl trivial (ac_st sz_75 rfl rfl (by repeat constructor) rfl rfl rfl rfl) ?_
        rintro _ _ rfl
        refine Go.Sl.L.nil ?_
        refine Gs.then_n ?_
        refine Gs.seq ?_
        refine Gs.reg ?_
        refine Go.Sl.L.pu rfl rfl trivial (pu_assign rfl) ?_
        refine Go.Sl.L.nil ?_
        refine Gs.then_n ?_
        refine Gs.ret ?_
        first | (refine Gs.filClose (U := U) (V := V) (f := { f with b := f.b ++ bs }) (p := p) (by repeat constructor) (by simp) rfl rfl ?_; refine Gs.drvClose (P := U ++ ({ f with b := f.b ++ bs }, p) :: V) (D := appD D n bs) (by repeat constructor) (by rw [hA]; simp) hokA ?_) | (refine Gs.filNew (U := P) (f := ⟨n, bs, 0⟩) (p := p) (by repeat constructor) (by simp) rfl rfl ?_; refine Gs.drvClose (P := P ++ [(⟨n, bs, 0⟩, p)]) (D := appD D n bs) (by repeat constructor) (by rw [hA]; simp) hokA ?_)
        exact Gs.fin1 Tryz.results35 rfl _ (⟨by rw [he], by rw [hL]⟩) (by repeat constructor)
theorem appendNil_spec (n : ByteArray) (a : Option Addr) (l c : Nat) : Ct Tryz.prog 35 [.pointer none, .string n, .slice a l c] [] (fun v hs => v = int 1 ∧ hs = []) := by
  refine Ct.intro Tryz.func35 rfl (by kernel_rfl) 51 Tryz.ntmps35 (Nat.le_of_ble_eq_true rfl) fun w0 R => ?_
  refine Gs.seq ?_
  refine Gs.reg ?_
  refine Go.Sl.L.pu rfl rfl trivial (pu_assign rfl) ?_
  refine Go.Sl.L.nil ?_
  refine Gs.then_n ?_
  refine Gs.seq ?_
  refine Gs.block ?_
  refine Gs.seq ?_
  refine Gs.reg ?_
  refine Go.Sl.L.pu rfl rfl trivial (pu_move rfl) ?_
  refine Go.Sl.L.pu rfl rfl trivial (pu_eqN Tryz.underlying26 rfl rfl) ?_
  refine Go.Sl.L.pu rfl rfl trivial (pu_assign rfl) ?_
  refine Go.Sl.L.nil ?_
  refine Gs.then_n ?_
  refine Gs.cond_t rfl ?_
  refine Gs.seq ?_
  refine Gs.reg ?_
  refine Go.Sl.L.pu rfl rfl trivial (pu_assign rfl) ?_
  refine Go.Sl.L.nil ?_
  refine Gs.then_n ?_
  refine Gs.ret ?_
  refine Gs.blk_r ?_
  refine Gs.then_r ?_
  exact Gs.fin1 Tryz.results35 rfl _ (⟨rfl, rfl⟩) (by repeat constructor)
end Go.Proofs.YtjaafkakeccniaaGreatDoor

/- Walks: drive.Sync, Cut, Rename, Remove, Crash. -/
namespace Go.Proofs.YtjaafkakeccniaaGreatDoor
open Go Go.Sl Go.Gv Go.Kv Go.Dv Go.Bst
set_option maxRecDepth 100000
theorem cut_spec (b : Nat) (most : Int) (D : List Fl) (n : ByteArray) (k : Int) : Ct Tryz.prog 57 [ptr b, .string n, int k] [drv b most D] (fun v hs => v = int (cutE D n k) ∧ hs = [drv b most (cutL D n k)]) := by
  refine Ct.intro Tryz.func57 rfl (by kernel_rfl) 45 Tryz.ntmps57 (Nat.le_of_ble_eq_true rfl) fun w0 R => ?_
  refine Gs.drvOpen (by repeat constructor) fun m P hP hok => ?_
  have hhi := hok.hi
  have hroom := hok.room
  obtain ⟨h1, h2⟩ | ⟨U, f, p, V, e0, e1, e2, e3, e4, -, -, e7, -⟩ := find_at (P := P) (by rw [hP]; exact hok.nd) n
  · have hv : cutE D n k = 13 := by rw [← hP]; simp only [cutE, h1]
    have hL : cutL D n k = D := by simp [cutL, hv]
    refine Gs.seq ?_
    refine Gs.reg ?_
    refine Go.Sl.L.pu rfl rfl trivial (pu_assign rfl) ?_
    refine Go.Sl.L.nil ?_
    refine Gs.then_n ?_
    refine Gs.seq ?_
    refine Gs.reg ?_
    refine Go.Sl.L.pu rfl rfl trivial (pu_move rfl) ?_
    refine Go.Sl.L.pu rfl rfl trivial (pu_move rfl) ?_
    refine Go.Sl.L.ac rfl rfl trivial (as_call (find_none h2) (by repeat constructor) (by repeat constructor)) ?_
    rintro _ _ ⟨_, ⟨rfl, rfl⟩, rfl⟩
    refine Go.Sl.L.pu rfl rfl trivial (pu_move rfl) ?_
    refine Go.Sl.L.pu rfl rfl trivial (pu_extract rfl rfl) ?_
    refine Go.Sl.L.pu rfl rfl trivial (pu_extract rfl rfl) ?_
    refine Go.Sl.L.pu rfl rfl trivial (pu_assign rfl) ?_
    refine Go.Sl.L.pu rfl rfl trivial (pu_assign rfl) ?_
    refine Go.Sl.L.nil ?_
    refine Gs.then_n ?_
    refine Gs.seq ?_
    refine Gs.block ?_
    refine Gs.seq ?_
    refine Gs.reg ?_
    refine Go.Sl.L.pu rfl rfl trivial (pu_move rfl) ?_
    refine Go.Sl.L.pu rfl rfl trivial (pu_ne rfl rfl) ?_
    refine Go.Sl.L.pu rfl rfl trivial (pu_assign rfl) ?_
    refine Go.Sl.L.nil ?_
    refine Gs.then_n ?_
    refine Gs.cond_tt rfl rfl ?_
    refine Gs.seq ?_
    refine Gs.reg ?_
    refine Go.Sl.L.pu rfl rfl trivial (pu_move rfl) ?_
    refine Go.Sl.L.pu rfl rfl trivial (pu_assign rfl) ?_
    refine Go.Sl.L.nil ?_
    refine Gs.then_n ?_
    refine Gs.ret ?_
    refine Gs.blk_r ?_
    refine Gs.then_r ?_
    refine Gs.drvClose (P := P) (D := D) (by repeat constructor) hP hok ?_
    exact Gs.fin1 Tryz.results57 rfl _ (⟨by rw [hv], by rw [hL]⟩) (by repeat constructor)
  · have hv : cutE D n k = if 0 ≤ k ∧ k ≤ f.b.length then 0 else 2 := by rw [← hP]; simp only [cutE, e2]
    have hfm : f ∈ D := by rw [← hP, e0]; simp
    have hf1 := hok.firm f hfm
    have hf2 := used_mem hfm
    subst e0
    refine Gs.seq ?_
    refine Gs.reg ?_
    refine Go.Sl.L.pu rfl rfl trivial (pu_assign rfl) ?_
    refine Go.Sl.L.nil ?_
    refine Gs.then_n ?_
    refine Gs.seq ?_
    refine Gs.reg ?_
    refine Go.Sl.L.pu rfl rfl trivial (pu_move rfl) ?_
    refine Go.Sl.L.pu rfl rfl trivial (pu_move rfl) ?_
    refine Go.Sl.L.ac rfl rfl trivial (as_call (find_some e3) (by repeat constructor) (by repeat constructor)) ?_
    rintro _ _ ⟨_, ⟨rfl, rfl⟩, rfl⟩
    refine Go.Sl.L.pu rfl rfl trivial (pu_move rfl) ?_
    refine Go.Sl.L.pu rfl rfl trivial (pu_extract rfl rfl) ?_
    refine Go.Sl.L.pu rfl rfl trivial (pu_extract rfl rfl) ?_
    refine Go.Sl.L.pu rfl rfl trivial (pu_assign rfl) ?_
    refine Go.Sl.L.pu rfl rfl trivial (pu_assign rfl) ?_
    refine Go.Sl.L.nil ?_
    refine Gs.then_n ?_
    refine Gs.seq ?_
    refine Gs.block ?_
    refine Gs.seq ?_
    refine Gs.reg ?_
    refine Go.Sl.L.pu rfl rfl trivial (pu_move rfl) ?_
    refine Go.Sl.L.pu rfl rfl trivial (pu_ne rfl rfl) ?_
    refine Go.Sl.L.pu rfl rfl trivial (pu_assign rfl) ?_
    refine Go.Sl.L.nil ?_
    refine Gs.then_n ?_
    refine Gs.cond_ff rfl rfl ?_
    refine Gs.seq ?_
    refine Gs.filOpen (U := U) (V := V) (f := f) (p := p) (by repeat constructor) fun fa fc => ?_
    refine Gs.slLen (E := 5) (sz := 1) (enc := byteC) (a := fa) (c := fc) (xs := f.b) (by repeat constructor) fun hlc => ?_
    refine Gs.reg ?_
    refine Go.Sl.L.pu rfl rfl trivial (pu_move rfl) ?_
    refine Go.Sl.L.pu rfl rfl trivial (pu_lt rfl rfl) ?_
    refine Go.Sl.L.puB rfl rfl trivial (pu_move rfl) (fun hg2 => ?_) (fun hg2 => ?_)
    · skip
      have hg2' := of_decide_eq_true hg2
      have he : cutE D n k = 2 := by rw [hv, if_neg (by omega)]
      have hL : cutL D n k = D := by simp [cutL, he]
      refine Go.Sl.L.off rfl rfl rfl rfl rfl rfl ?_
      refine Go.Sl.L.off rfl rfl rfl rfl rfl rfl ?_
      refine Go.Sl.L.off rfl rfl rfl rfl rfl rfl ?_
      refine Go.Sl.L.off rfl rfl rfl rfl rfl rfl ?_
      refine Go.Sl.L.off rfl rfl rfl rfl rfl rfl ?_
      refine Go.Sl.L.off rfl rfl rfl rfl rfl rfl ?_
      refine Go.Sl.L.off rfl rfl rfl rfl rfl rfl ?_
      refine Go.Sl.L.pu rfl rfl trivial (by first | exact pu_pick_t rfl rfl | exact pu_pick_f rfl rfl) ?_
      refine Go.Sl.L.pu rfl rfl trivial (pu_assign rfl) ?_
      refine Go.Sl.L.nil ?_
      refine Gs.then_n ?_
      refine Gs.cond_t rfl ?_
      refine Gs.seq ?_
      refine Gs.reg ?_
      refine Go.Sl.L.pu rfl rfl trivial (pu_assign rfl) ?_
      refine Go.Sl.L.nil ?_
      refine Gs.then_n ?_
      refine Gs.ret ?_
      refine Gs.blk_r ?_
      refine Gs.then_r ?_
      refine Gs.filClose (U := U) (V := V) (f := f) (p := p) (by repeat constructor) rfl rfl rfl ?_
      refine Gs.drvClose (D := D) (by repeat constructor) hP hok ?_
      exact Gs.fin1 Tryz.results57 rfl _ (⟨by rw [he], by rw [hL]⟩) (by repeat constructor)
    · skip
      have hg2' := of_decide_eq_false hg2
      refine Go.Sl.L.pu rfl rfl ⟨_, rfl, rfl⟩ (pu_move rfl) ?_
      refine Go.Sl.L.pu rfl rfl ⟨_, rfl, rfl⟩ (pu_move rfl) ?_
      refine Go.Sl.L.pu rfl rfl ⟨_, rfl, rfl⟩ (by first | exact pu_nil rfl | exact pu_nilF rfl) ?_
      refine Go.Sl.L.pu rfl rfl ⟨_, rfl, rfl⟩ (pu_fa fa_91_0 rfl) ?_
      refine Go.Sl.L.rd rfl rfl ⟨_, rfl, rfl⟩ (rd_ld na_75 rfl (Rdc.cl1 (by repeat constructor) rfl)) ?_
      refine Go.Sl.L.pu rfl rfl ⟨_, rfl, rfl⟩ (pu_len Tryz.underlying75 rfl) ?_
      refine Go.Sl.L.pu rfl rfl ⟨_, rfl, rfl⟩ (pu_gt rfl rfl) ?_
      refine Go.Sl.L.pu rfl rfl trivial (by first | exact pu_pick_t rfl rfl | exact pu_pick_f rfl rfl) ?_
      refine Go.Sl.L.pu rfl rfl trivial (pu_assign rfl) ?_
      refine Go.Sl.L.nil ?_
      refine Gs.then_n ?_
      refine Gs.cond rfl (fun hc1 => ?_) (fun hc1 => ?_)
      · skip
        have hc1' := of_decide_eq_true hc1
        have he : cutE D n k = 2 := by rw [hv, if_neg (by omega)]
        have hL : cutL D n k = D := by simp [cutL, he]
        refine Gs.seq ?_
        refine Gs.reg ?_
        refine Go.Sl.L.pu rfl rfl trivial (pu_assign rfl) ?_
        refine Go.Sl.L.nil ?_
        refine Gs.then_n ?_
        refine Gs.ret ?_
        refine Gs.blk_r ?_
        refine Gs.then_r ?_
        refine Gs.filClose (U := U) (V := V) (f := f) (p := p) (by repeat constructor) rfl rfl rfl ?_
        refine Gs.drvClose (D := D) (by repeat constructor) hP hok ?_
        exact Gs.fin1 Tryz.results57 rfl _ (⟨by rw [he], by rw [hL]⟩) (by repeat constructor)
      · skip
        have hc1' := of_decide_eq_false hc1
        have he : cutE D n k = 0 := by rw [hv, if_pos (by omega)]
        have hL : cutL D n k = upd D n (fun f => { f with b := f.b.take k.toNat, s := k.toNat }) := by simp [cutL, he]
        have hL2 : cutL D n k = fls U ++ { f with b := f.b.take k.toNat, s := k.toNat } :: fls V := by rw [hL, ← hP]; exact e4 _
        have hokC : Ok most (cutL D n k) := by
          rw [hL2]
          have hok' := hok
          rw [← hP] at hok'
          refine ⟨hok.lo, hok.hi, ?_, ?_, fun x hx => ?_⟩
          · have := hok'.nd; simp only [fls, names, List.map_append, List.map_cons] at this ⊢; exact this
          · have := hok'.room
            have u1 := used_split (fls U) (fls V) f
            have u2 := used_split (fls U) (fls V) { f with b := f.b.take k.toNat, s := k.toNat }
            simp only [List.length_take] at u2
            simp only [fls, List.map_append, List.map_cons] at this u1 u2 ⊢
            rw [u1] at this; rw [u2]; omega
          · rcases List.mem_append.1 hx with h | h
            · exact hok'.firm x (by simp only [fls, List.map_append, List.map_cons]; exact List.mem_append_left _ h)
            · rcases List.mem_cons.1 h with rfl | h
              · simp only [List.length_take]; omega
              · exact hok'.firm x (by simp only [fls, List.map_append, List.map_cons]; exact List.mem_append_right _ (List.mem_cons_of_mem _ h))
        rw [← e7 { f with b := f.b.take k.toNat, s := k.toNat } e1]
        refine Gs.skip ?_
        refine Gs.blk_n ?_
        refine Gs.then_n ?_
        refine Gs.seq ?_
        refine Gs.reg ?_
        refine Go.Sl.L.pu rfl rfl trivial (pu_move rfl) ?_
        refine Go.Sl.L.pu rfl rfl trivial (pu_move rfl) ?_
        refine Go.Sl.L.pu rfl rfl trivial (pu_move rfl) ?_
        refine Go.Sl.L.pu rfl rfl trivial (by first | exact pu_nil rfl | exact pu_nilF rfl) ?_
        refine Go.Sl.L.pu rfl rfl trivial (pu_fa fa_91_0 rfl) ?_
        refine Go.Sl.L.rd rfl rfl trivial (rd_ld na_75 rfl (Rdc.cl1 (by repeat constructor) rfl)) ?_
        refine Go.Sl.L.pu rfl rfl trivial (pu_move rfl) ?_
        refine Go.Sl.L.pu rfl rfl trivial (pu_move rfl) ?_
        refine Go.Sl.L.pu rfl rfl trivial (pu_slice3H et_75 rfl rfl rfl (by omega) (by omega) (by omega)) ?_
        refine Go.Sl.L.pu rfl rfl trivial (pu_move rfl) ?_
        refine Go.Sl.L.pu rfl rfl trivial (by first | exact pu_nil rfl | exact pu_nilF rfl) ?_
        refine Go.Sl.L.pu rfl rfl trivial (pu_fa fa_91_0 rfl) ?_
        refine Go.Sl.L.ac0 rfl trivial (ac_st sz_75 rfl rfl (by repeat constructor) rfl rfl rfl rfl) ?_
        rintro _ _ rfl
        refine Go.Sl.L.pu rfl rfl trivial (by first | exact pu_nil rfl | exact pu_nilF rfl) ?_
        refine Go.Sl.L.pu rfl rfl trivial (pu_fa fa_91_1 rfl) ?_
        refine Go.Sl.L.ac0 rfl trivial (ac_st sz_3 rfl rfl (by repeat constructor) rfl rfl rfl rfl) ?_
        rintro _ _ rfl
        refine Go.Sl.L.nil ?_
        refine Gs.slRoom (E := 5) (sz := 1) (enc := byteC) (a := fa) (c := fc) (xs := f.b) k.toNat (by omega) (by repeat constructor) ?_
        rw [show int k = int (k.toNat : Int) by rw [Int.toNat_of_nonneg (by omega)]]
        refine Gs.then_n ?_
        refine Gs.seq ?_
        refine Gs.reg ?_
        refine Go.Sl.L.pu rfl rfl trivial (pu_assign rfl) ?_
        refine Go.Sl.L.nil ?_
        refine Gs.then_n ?_
        refine Gs.ret ?_
        refine Gs.filClose (U := U) (V := V) (f := { f with b := f.b.take k.toNat, s := k.toNat }) (p := p) (by repeat constructor) (by simp; omega) rfl rfl ?_
        refine Gs.drvClose (P := U ++ ({ f with b := f.b.take k.toNat, s := k.toNat }, p) :: V) (D := cutL D n k) (by repeat constructor) (by rw [hL2]; simp) hokC ?_
        exact Gs.fin1 Tryz.results57 rfl _ (⟨by rw [he], rfl⟩) (by repeat constructor)
theorem cutNil_spec (n : ByteArray) (k : Int) : Ct Tryz.prog 57 [.pointer none, .string n, int k] [] (fun v hs => v = int 1 ∧ hs = []) := by
  refine Ct.intro Tryz.func57 rfl (by kernel_rfl) 45 Tryz.ntmps57 (Nat.le_of_ble_eq_true rfl) fun w0 R => ?_
  refine Gs.seq ?_
  refine Gs.reg ?_
  refine Go.Sl.L.pu rfl rfl trivial (pu_assign rfl) ?_
  refine Go.Sl.L.nil ?_
  refine Gs.then_n ?_
  refine Gs.seq ?_
  refine Gs.reg ?_
  refine Go.Sl.L.pu rfl rfl trivial (pu_move rfl) ?_
  refine Go.Sl.L.pu rfl rfl trivial (pu_move rfl) ?_
  refine Go.Sl.L.ac rfl rfl trivial (as_call (find_nil n) (by repeat constructor) (by repeat constructor)) ?_
  rintro _ _ ⟨_, ⟨rfl, rfl⟩, rfl⟩
  refine Go.Sl.L.pu rfl rfl trivial (pu_move rfl) ?_
  refine Go.Sl.L.pu rfl rfl trivial (pu_extract rfl rfl) ?_
  refine Go.Sl.L.pu rfl rfl trivial (pu_extract rfl rfl) ?_
  refine Go.Sl.L.pu rfl rfl trivial (pu_assign rfl) ?_
  refine Go.Sl.L.pu rfl rfl trivial (pu_assign rfl) ?_
  refine Go.Sl.L.nil ?_
  refine Gs.then_n ?_
  refine Gs.seq ?_
  refine Gs.block ?_
  refine Gs.seq ?_
  refine Gs.reg ?_
  refine Go.Sl.L.pu rfl rfl trivial (pu_move rfl) ?_
  refine Go.Sl.L.pu rfl rfl trivial (pu_ne rfl rfl) ?_
  refine Go.Sl.L.pu rfl rfl trivial (pu_assign rfl) ?_
  refine Go.Sl.L.nil ?_
  refine Gs.then_n ?_
  refine Gs.cond_tt rfl rfl ?_
  refine Gs.seq ?_
  refine Gs.reg ?_
  refine Go.Sl.L.pu rfl rfl trivial (pu_move rfl) ?_
  refine Go.Sl.L.pu rfl rfl trivial (pu_assign rfl) ?_
  refine Go.Sl.L.nil ?_
  refine Gs.then_n ?_
  refine Gs.ret ?_
  refine Gs.blk_r ?_
  refine Gs.then_r ?_
  exact Gs.fin1 Tryz.results57 rfl _ (⟨rfl, rfl⟩) (by repeat constructor)
def remE (D : List Fl) (n : ByteArray) : Int := match lookF D n with
  | some _ => 0
  | none => 13
theorem del_none {D : List Fl} {n : ByteArray} (h : lookF D n = none) : del D n = D := List.filter_eq_self.2 fun f hf => by
  have := lookF_none.1 h
  simp only [ne_eq, decide_not, Bool.not_eq_eq_eq_not, Bool.not_true, decide_eq_false_iff_not]
  exact fun e => this (e ▸ List.mem_map_of_mem hf)
theorem remove_spec (b : Nat) (most : Int) (D : List Fl) (n : ByteArray) : Ct Tryz.prog 49 [ptr b, .string n] [drv b most D] (fun v hs => v = int (remE D n) ∧ hs = [drv b most (del D n)]) := by
  refine Ct.intro Tryz.func49 rfl (by kernel_rfl) 21 Tryz.ntmps49 (Nat.le_of_ble_eq_true rfl) fun w0 R => ?_
  refine Gs.drvOpen (by repeat constructor) fun m P hP hok => ?_
  obtain ⟨h1, h2⟩ | ⟨U, f, p, V, e0, e1, e2, e3, e4, e5, e6, -, -⟩ := find_at (P := P) (by rw [hP]; exact hok.nd) n
  · have hv : remE D n = 13 := by rw [← hP]; simp only [remE, h1]
    have hL : del D n = D := del_none (by rw [← hP]; exact h1)
    refine Gs.seq ?_
    refine Gs.reg ?_
    refine Go.Sl.L.pu rfl rfl trivial (pu_assign rfl) ?_
    refine Go.Sl.L.nil ?_
    refine Gs.then_n ?_
    refine Gs.seq ?_
    refine Gs.seq ?_
    refine Gs.reg ?_
    refine Go.Sl.L.pu rfl rfl trivial (pu_move rfl) ?_
    refine Go.Sl.L.pu rfl rfl trivial (pu_move rfl) ?_
    refine Go.Sl.L.ac rfl rfl trivial (as_call (find_none h2) (by repeat constructor) (by repeat constructor)) ?_
    rintro _ _ ⟨_, ⟨rfl, rfl⟩, rfl⟩
    refine Go.Sl.L.pu rfl rfl trivial (pu_move rfl) ?_
    refine Go.Sl.L.pu rfl rfl trivial (pu_extract rfl rfl) ?_
    refine Go.Sl.L.pu rfl rfl trivial (pu_extract rfl rfl) ?_
    refine Go.Sl.L.pu rfl rfl trivial (pu_assign rfl) ?_
    refine Go.Sl.L.pu rfl rfl trivial (pu_assign rfl) ?_
    refine Go.Sl.L.nil ?_
    refine Gs.then_n ?_
    refine Gs.seq ?_
    refine Gs.reg ?_
    refine Go.Sl.L.pu rfl rfl trivial (pu_move rfl) ?_
    refine Go.Sl.L.pu rfl rfl trivial (pu_ne rfl rfl) ?_
    refine Go.Sl.L.nil ?_
    refine Gs.then_n ?_
    refine Gs.cond_tt rfl rfl ?_
    refine Gs.seq ?_
    refine Gs.reg ?_
    refine Go.Sl.L.pu rfl rfl trivial (pu_move rfl) ?_
    refine Go.Sl.L.pu rfl rfl trivial (pu_assign rfl) ?_
    refine Go.Sl.L.nil ?_
    refine Gs.then_n ?_
    refine Gs.ret ?_
    refine Gs.then_r ?_
    refine Gs.drvClose (P := P) (D := D) (by repeat constructor) hP hok ?_
    exact Gs.fin1 Tryz.results49 rfl _ (⟨by rw [hv], by rw [hL]⟩) (by repeat constructor)
  · have hv : remE D n = 0 := by rw [← hP]; simp only [remE, e2]
    have hL : fls (U ++ V) = del D n := by rw [← hP, e5]
    refine Gs.seq ?_
    refine Gs.reg ?_
    refine Go.Sl.L.pu rfl rfl trivial (pu_assign rfl) ?_
    refine Go.Sl.L.nil ?_
    refine Gs.then_n ?_
    refine Gs.seq ?_
    refine Gs.seq ?_
    refine Gs.reg ?_
    refine Go.Sl.L.pu rfl rfl trivial (pu_move rfl) ?_
    refine Go.Sl.L.pu rfl rfl trivial (pu_move rfl) ?_
    refine Go.Sl.L.ac rfl rfl trivial (as_call (find_some e3) (by repeat constructor) (by repeat constructor)) ?_
    rintro _ _ ⟨_, ⟨rfl, rfl⟩, rfl⟩
    refine Go.Sl.L.pu rfl rfl trivial (pu_move rfl) ?_
    refine Go.Sl.L.pu rfl rfl trivial (pu_extract rfl rfl) ?_
    refine Go.Sl.L.pu rfl rfl trivial (pu_extract rfl rfl) ?_
    refine Go.Sl.L.pu rfl rfl trivial (pu_assign rfl) ?_
    refine Go.Sl.L.pu rfl rfl trivial (pu_assign rfl) ?_
    refine Go.Sl.L.nil ?_
    refine Gs.then_n ?_
    refine Gs.seq ?_
    refine Gs.reg ?_
    refine Go.Sl.L.pu rfl rfl trivial (pu_move rfl) ?_
    refine Go.Sl.L.pu rfl rfl trivial (pu_ne rfl rfl) ?_
    refine Go.Sl.L.nil ?_
    refine Gs.then_n ?_
    refine Gs.cond_ff rfl rfl ?_
    refine Gs.skip ?_
    refine Gs.then_n ?_
    refine Gs.seq ?_
    refine Gs.reg ?_
    refine Go.Sl.L.pu rfl rfl trivial (pu_move rfl) ?_
    refine Go.Sl.L.pu rfl rfl trivial (by first | exact pu_nil rfl | exact pu_nilF rfl) ?_
    refine Go.Sl.L.pu rfl rfl trivial (pu_fa fa_62_1 rfl) ?_
    refine Go.Sl.L.rd rfl rfl trivial (rd_ld na_60 rfl (Rdc.cl1 (by repeat constructor) rfl)) ?_
    refine Go.Sl.L.pu rfl rfl trivial (pu_move rfl) ?_
    refine Go.Sl.L.ac0 rfl trivial (ac_del (k := n) (encv := encv_92) Tryz.underlying60 kt_9 rfl rfl rfl (by repeat constructor)) ?_
    rintro _ _ rfl
    rw [e6]
    subst e0
    refine Gs.filOpen (U := U) (V := V) (f := f) (p := p) (by repeat constructor) fun fa fc => ?_
    refine Go.Sl.L.nil ?_
    refine Gs.then_n ?_
    refine Gs.seq ?_
    refine Gs.reg ?_
    refine Go.Sl.L.pu rfl rfl trivial (pu_assign rfl) ?_
    refine Go.Sl.L.nil ?_
    refine Gs.then_n ?_
    refine Gs.ret ?_
    refine Gs.drvClose (P := U ++ V) (D := del D n) (by repeat constructor) hL (hok.del n) ?_
    exact Gs.fin1 Tryz.results49 rfl _ (⟨by rw [hv], rfl⟩) (by repeat constructor)
theorem removeNil_spec (n : ByteArray) : Ct Tryz.prog 49 [.pointer none, .string n] [] (fun v hs => v = int 1 ∧ hs = []) := by
  refine Ct.intro Tryz.func49 rfl (by kernel_rfl) 21 Tryz.ntmps49 (Nat.le_of_ble_eq_true rfl) fun w0 R => ?_
  refine Gs.seq ?_
  refine Gs.reg ?_
  refine Go.Sl.L.pu rfl rfl trivial (pu_assign rfl) ?_
  refine Go.Sl.L.nil ?_
  refine Gs.then_n ?_
  refine Gs.seq ?_
  refine Gs.seq ?_
  refine Gs.reg ?_
  refine Go.Sl.L.pu rfl rfl trivial (pu_move rfl) ?_
  refine Go.Sl.L.pu rfl rfl trivial (pu_move rfl) ?_
  refine Go.Sl.L.ac rfl rfl trivial (as_call (find_nil n) (by repeat constructor) (by repeat constructor)) ?_
  rintro _ _ ⟨_, ⟨rfl, rfl⟩, rfl⟩
  refine Go.Sl.L.pu rfl rfl trivial (pu_move rfl) ?_
  refine Go.Sl.L.pu rfl rfl trivial (pu_extract rfl rfl) ?_
  refine Go.Sl.L.pu rfl rfl trivial (pu_extract rfl rfl) ?_
  refine Go.Sl.L.pu rfl rfl trivial (pu_assign rfl) ?_
  refine Go.Sl.L.pu rfl rfl trivial (pu_assign rfl) ?_
  refine Go.Sl.L.nil ?_
  refine Gs.then_n ?_
  refine Gs.seq ?_
  refine Gs.reg ?_
  refine Go.Sl.L.pu rfl rfl trivial (pu_move rfl) ?_
  refine Go.Sl.L.pu rfl rfl trivial (pu_ne rfl rfl) ?_
  refine Go.Sl.L.nil ?_
  refine Gs.then_n ?_
  refine Gs.cond_tt rfl rfl ?_
  refine Gs.seq ?_
  refine Gs.reg ?_
  refine Go.Sl.L.pu rfl rfl trivial (pu_move rfl) ?_
  refine Go.Sl.L.pu rfl rfl trivial (pu_assign rfl) ?_
  refine Go.Sl.L.nil ?_
  refine Gs.then_n ?_
  refine Gs.ret ?_
  refine Gs.then_r ?_
  exact Gs.fin1 Tryz.results49 rfl _ (⟨rfl, rfl⟩) (by repeat constructor)
theorem putF_some {D : List Fl} {f g : Fl} (h : lookF D f.n = some g) : put D f = upd D f.n fun _ => f := by simp [put, h]
theorem putF_none {D : List Fl} {f : Fl} (h : lookF D f.n = none) : put D f = D ++ [f] := by simp [put, h]
theorem pairs_set {U V : DP} {f f' : Fl} {p : Nat} (h : f'.n = f.n) : pairs (U ++ (f', p) :: V) = pairs (U ++ (f, p) :: V) := by simp [pairs, h]
section
variable {w0 : World} {nn : Nat} {env : Env} {H : List HProp} {X : Act → World → Prop}
/-- A file under another name, its map's entry set. -/
theorem Gs.renClose {b m : Nat} {most : Int} {W : DP} {D : List Fl} {f : Fl} {t : ByteArray} {p fc : Nat} {fa : Option Addr} {H' : List HProp} (hD : fls W = D) (hn : (names D).Nodup) (hok : Ok most (put D { f with n := t }))
    (tk : Takes [cl b 62 (driveC most m), mp strV pv m (mput (pairs W) t (some p)), cl p 91 (fileC fa f.b.length fc f.s), sl 5 1 byteC fa fc f.b, files W] H H')
    (g : Gs w0 nn env (drv b most (put D { f with n := t }) :: H') X) : Gs w0 nn env H X := by
  subst hD
  refine Gs.sat (fun w s => s.takes tk) ?_
  rcases find_at hn t with ⟨h1, h2⟩ | ⟨U, x, q, V, e0, e1, e2, e3, e4, -, -, -, e8⟩
  · rw [pairs_new (P := W) (f := { f with n := t }) h2]
    refine Gs.filNew (U := W) (f := { f with n := t }) (p := p) (a := fa) (c := fc) (by repeat constructor) rfl rfl rfl ?_
    exact Gs.drvClose (P := W ++ [({ f with n := t }, p)]) (by repeat constructor) (by rw [putF_none (f := { f with n := t }) h1]; simp) hok g
  · rw [e8 { f with n := t } p rfl]
    subst e0
    refine Gs.filOpen (U := U) (V := V) (f := x) (p := q) (by repeat constructor) fun a c => ?_
    refine Gs.filClose (U := U) (V := V) (f := { f with n := t }) (p := p) (a := fa) (c := fc) (by repeat constructor) rfl rfl rfl ?_
    refine Gs.drvClose (P := U ++ ({ f with n := t }, p) :: V) (D := put (fls (U ++ (x, q) :: V)) { f with n := t }) (by repeat constructor) (by rw [putF_some (f := { f with n := t }) e2, e4]; simp) hok (Gs.ents ?_ g)
    exact .cons .hd (.drop (.drop .refl))
end
end Go.Proofs.YtjaafkakeccniaaGreatDoor

/- Walks: drive.Sync, Crash. -/
namespace Go.Proofs.YtjaafkakeccniaaGreatDoor
open Go Go.Sl Go.Gv Go.Kv Go.Dv Go.Bst
set_option maxRecDepth 100000
def syncE (D : List Fl) (ns : List ByteArray) : Int := if allB D ns then 0 else 13
theorem allB_take {D : List Fl} {ns : List ByteArray} {i : Nat} {n : ByteArray} (h : ns[i]? = some n) : allB D (ns.take (i + 1)) = (allB D (ns.take i) && (lookF D n).isSome) := by
  unfold allB; rw [List.take_add_one, h]; simp
theorem allB_off {D : List Fl} {ns : List ByteArray} {n : ByteArray} (h : n ∈ ns) (hn : lookF D n = none) : allB D ns = false := by
  unfold allB; rw [List.all_eq_false]; exact ⟨n, h, by simp [hn]⟩
theorem syncL_nil (D : List Fl) : syncL D [] = D := by simp [syncL]
theorem Ok.sync {most : Int} {D : List Fl} (h : Ok most D) (ns : List ByteArray) : Ok most (syncL D ns) := by
  have e1 : names (syncL D ns) = names D := by
    simp only [names, syncL, List.map_map]
    exact List.map_congr_left fun f _ => by simp only [Function.comp]; split <;> rfl
  have e2 : used (syncL D ns) = used D := by
    simp only [used, syncL, List.map_map]
    congr 1
    exact List.map_congr_left fun f _ => by simp only [Function.comp]; split <;> rfl
  refine ⟨h.lo, h.hi, by rw [e1]; exact h.nd, by rw [e2]; exact h.room, fun f hf => ?_⟩
  obtain ⟨x, hx, rfl⟩ := List.mem_map.1 hf
  split
  · exact Nat.le_refl _
  · exact h.firm x hx
theorem names_sync (D : List Fl) (ns : List ByteArray) : names (syncL D ns) = names D := by
  simp only [names, syncL, List.map_map]
  exact List.map_congr_left fun f _ => by simp only [Function.comp]; split <;> rfl
theorem syncL_take {D : List Fl} {ns : List ByteArray} {i : Nat} {n : ByteArray} (h : ns[i]? = some n) : syncL D (ns.take (i + 1)) = upd (syncL D (ns.take i)) n (fun f => { f with s := f.b.length }) := by
  unfold syncL upd
  rw [List.map_map, List.take_add_one, h]
  refine List.map_congr_left fun f _ => ?_
  simp only [Function.comp, Option.toList_some, List.any_append, List.any_cons, List.any_nil, Bool.or_false, Bool.or_eq_true]
  by_cases h1 : (ns.take i).any (fun n => decide (n = f.n)) = true
  · simp only [h1, true_or, if_true]
    by_cases h2 : f.n = n <;> simp [h2]
  · simp only [h1, false_or]
    by_cases h2 : f.n = n
    · simp [h2]
    · have h3 : ¬ n = f.n := fun e => h2 e.symm
      simp [h2, h3]
theorem sync_spec {S : HProp} (b : Nat) (most : Int) (D : List Fl) {a : Option Addr} {c : Nat} {ns : List ByteArray} (hS : Srd S 1 strC a ns) (hl : ns.length ≤ 1000000) :
    Ct Tryz.prog 43 [ptr b, .slice a ns.length c] [drv b most D, S] (fun v hs => v = int (syncE D ns) ∧ hs = [drv b most (if syncE D ns = 0 then syncL D ns else D), S]) := by
  refine Ct.intro Tryz.func43 rfl (by kernel_rfl) 51 Tryz.ntmps43 (Nat.le_of_ble_eq_true rfl) fun w0 R => ?_
  refine Gs.slAddr (hS.h (by repeat constructor)) fun ab ao hka => ?_
  refine Gs.drvOpen (by repeat constructor) fun m P hP hok => ?_
  refine Gs.seq ?_
  refine Gs.reg ?_
  refine Go.Sl.L.pu rfl rfl trivial (pu_assign rfl) ?_
  refine Go.Sl.L.nil ?_
  refine Gs.then_n ?_
  refine Gs.seq ?_
  refine Gs.seq ?_
  refine Gs.reg ?_
  refine Go.Sl.L.pu rfl rfl trivial (pu_move rfl) ?_
  refine Go.Sl.L.pu rfl rfl trivial (pu_eqN Tryz.underlying26 rfl rfl) ?_
  refine Go.Sl.L.nil ?_
  refine Gs.then_n ?_
  refine Gs.cond_f rfl ?_
  refine Gs.skip ?_
  refine Gs.then_n ?_
  refine Gs.seq ?_
  refine Gs.seq ?_
  refine Gs.reg ?_
  refine Go.Sl.L.pu rfl rfl trivial (pu_move rfl) ?_
  refine Go.Sl.L.pu rfl rfl trivial (pu_len Tryz.underlying66 rfl) ?_
  refine Go.Sl.L.pu rfl rfl trivial (pu_move rfl) ?_
  refine Go.Sl.L.nil ?_
  refine Gs.then_n ?_
  refine Gs.block ?_
  refine Gs.loop1 (fun i : Nat => i ≤ ns.length ∧ allB D (ns.take i) = true) (fun i => [(0, ptr b), (1, .slice a ns.length c), (14, .slice a ns.length c), (15, int ns.length), (16, int i)]) (fun i => [cl b 62 (driveC most m), mp strV pv m (pairs P), files P, S] ++ R) (fun i => ns.length - i) 0 (⟨Nat.zero_le _, rfl⟩) (by repeat constructor) (by repeat constructor) (fun i ⟨hi, hall⟩ => ?_)
  refine Gs.seq ?_
  refine Gs.reg ?_
  refine Go.Sl.L.pu rfl rfl trivial (pu_lt rfl rfl) ?_
  refine Go.Sl.L.nil ?_
  refine Gs.then_n ?_
  refine Gs.seq ?_
  refine Gs.cond rfl (fun hc1 => ?_) (fun hc1 => ?_)
  · skip
    have hlt : i < ns.length := by have := of_decide_eq_true hc1; omega
    obtain ⟨k, hk⟩ : ∃ k, ns[i]? = some k := ⟨ns[i], by simp [hlt]⟩
    obtain rfl := hka (by rintro rfl; simp at hlt)
    obtain ⟨x, e, hx, hxe⟩ : ∃ (x : Option Nat) (e : Int), Ct Tryz.prog 68 [ptr b, .string k] (fpre b m most P) (fun v hs => v = .tuple #[pv x, int e] ∧ hs = fpre b m most P) ∧ ((e = 0 ∧ (lookF D k).isSome = true) ∨ (e = 13 ∧ lookF D k = none)) := by
      obtain ⟨h1, h2⟩ | ⟨U, f, p, V, e0, e1, e2, e3, -⟩ := find_at (P := P) (by rw [hP]; exact hok.nd) k
      · exact ⟨none, 13, find_none h2, .inr ⟨rfl, by rw [← hP]; exact h1⟩⟩
      · exact ⟨some p, 0, find_some e3, .inl ⟨rfl, by rw [← hP, e2]; rfl⟩⟩
    refine Gs.skip ?_
    refine Gs.then_n ?_
    refine Gs.seq ?_
    refine Gs.block ?_
    refine Gs.seq ?_
    refine Gs.reg ?_
    refine Go.Sl.L.pu rfl rfl trivial (pu_ia se_66 rfl rfl (by omega) (by omega)) ?_
    refine Go.Sl.L.rd rfl rfl trivial (rd_ld na_9 rfl (Rdc.el0 (hS.h (by repeat constructor)) hk rfl rfl)) ?_
    refine Go.Sl.L.pu rfl rfl trivial (pu_assign rfl) ?_
    refine Go.Sl.L.nil ?_
    refine Gs.then_n ?_
    refine Gs.seq ?_
    refine Gs.reg ?_
    refine Go.Sl.L.pu rfl rfl trivial (pu_move rfl) ?_
    refine Go.Sl.L.pu rfl rfl trivial (pu_move rfl) ?_
    refine Go.Sl.L.ac rfl rfl trivial (as_call (hx) (by repeat constructor) (by repeat constructor)) ?_
    rintro _ _ ⟨_, ⟨rfl, rfl⟩, rfl⟩
    refine Go.Sl.L.pu rfl rfl trivial (pu_move rfl) ?_
    refine Go.Sl.L.pu rfl rfl trivial (pu_extract rfl rfl) ?_
    refine Go.Sl.L.pu rfl rfl trivial (pu_extract rfl rfl) ?_
    refine Go.Sl.L.pu rfl rfl trivial (pu_assign rfl) ?_
    refine Go.Sl.L.pu rfl rfl trivial (pu_assign rfl) ?_
    refine Go.Sl.L.nil ?_
    refine Gs.then_n ?_
    refine Gs.seq ?_
    refine Gs.reg ?_
    refine Go.Sl.L.pu rfl rfl trivial (pu_move rfl) ?_
    refine Go.Sl.L.pu rfl rfl trivial (pu_ne rfl rfl) ?_
    refine Go.Sl.L.nil ?_
    refine Gs.then_n ?_
    refine Gs.cond rfl (fun hc2 => ?_) (fun hc2 => ?_)
    · skip
      have hne := of_decide_eq_true hc2
      have hkn : lookF D k = none := by rcases hxe with ⟨h, -⟩ | ⟨-, h⟩ <;> first | exact absurd h hne | exact h
      have hb : allB D ns = false := allB_off (List.mem_of_getElem? hk) hkn
      have he : e = 13 := by rcases hxe with ⟨h, -⟩ | ⟨h, -⟩ <;> first | exact absurd h hne | exact h
      have hE : syncE D ns = 13 := by simp [syncE, hb]
      refine Gs.seq ?_
      refine Gs.reg ?_
      refine Go.Sl.L.pu rfl rfl trivial (pu_move rfl) ?_
      refine Go.Sl.L.pu rfl rfl trivial (pu_assign rfl) ?_
      refine Go.Sl.L.nil ?_
      refine Gs.then_n ?_
      refine Gs.ret ?_
      refine Gs.blk_r ?_
      refine Gs.then_r ?_
      refine Gs.then_r ?_
      refine Gs.blk_r ?_
      refine Gs.then_r ?_
      refine Gs.drvClose (P := P) (D := D) (by repeat constructor) hP hok ?_
      exact Gs.fin1 Tryz.results43 rfl _ (⟨by rw [hE, he], by rw [if_neg (by omega)]⟩) (by repeat constructor)
    · skip
      have hne := of_decide_eq_false hc2
      have hs1 : (lookF D k).isSome = true := by rcases hxe with ⟨-, h⟩ | ⟨h, -⟩ <;> first | exact h | exact absurd h (by omega)
      refine Gs.skip ?_
      refine Gs.blk_n ?_
      refine Gs.then_n ?_
      refine Gs.reg ?_
      refine Go.Sl.L.pu rfl rfl trivial (by first | exact pu_addI rfl rfl rfl (by omega) (by omega) | exact pu_add rfl rfl) ?_
      refine Go.Sl.L.pu rfl rfl trivial (pu_move rfl) ?_
      refine Go.Sl.L.nil ?_
      refine Gs.then_n ?_
      exact Gs.again1 (i + 1) ⟨by omega, by rw [allB_take hk, hall, hs1]; rfl⟩ (by show ns.length - (i + 1) < ns.length - i; omega) (by repeat constructor) (by repeat constructor)
  · skip
    have hge : i = ns.length := by have := of_decide_eq_false hc1; omega
    have hall' : allB D ns = true := by rw [hge, List.take_length] at hall; exact hall
    have hE : syncE D ns = 0 := by simp [syncE, hall']
    clear hi hall hge
    refine Gs.exit ?_
    refine Gs.then_x ?_
    refine Gs.then_x ?_
    refine Gs.blk_hit ?_
    refine Gs.then_n ?_
    refine Gs.seq ?_
    refine Gs.seq ?_
    refine Gs.reg ?_
    refine Go.Sl.L.pu rfl rfl trivial (pu_move rfl) ?_
    refine Go.Sl.L.pu rfl rfl trivial (pu_len Tryz.underlying66 rfl) ?_
    refine Go.Sl.L.pu rfl rfl trivial (pu_move rfl) ?_
    refine Go.Sl.L.nil ?_
    refine Gs.then_n ?_
    refine Gs.block ?_
    refine Gs.loop1 (fun s : Nat × DP => s.1 ≤ ns.length ∧ fls s.2 = syncL D (ns.take s.1)) (fun s => [(0, ptr b), (1, .slice a ns.length c), (30, .slice a ns.length c), (31, int ns.length), (32, int s.1)]) (fun s => [cl b 62 (driveC most m), mp strV pv m (pairs s.2), files s.2, S] ++ R) (fun s => ns.length - s.1) (0, P) (⟨Nat.zero_le _, by rw [hP]; exact (syncL_nil D).symm⟩) (by repeat constructor) (by repeat constructor) (fun s hs => ?_)
    obtain ⟨j, Q⟩ := s
    obtain ⟨hj, hQ⟩ := hs
    dsimp only at hj hQ ⊢
    have hokQ : Ok most (fls Q) := by rw [hQ]; exact Ok.sync hok _
    refine Gs.seq ?_
    refine Gs.reg ?_
    refine Go.Sl.L.pu rfl rfl trivial (pu_lt rfl rfl) ?_
    refine Go.Sl.L.nil ?_
    refine Gs.then_n ?_
    refine Gs.seq ?_
    refine Gs.cond rfl (fun hc3 => ?_) (fun hc3 => ?_)
    · skip
      have hlt : j < ns.length := by have := of_decide_eq_true hc3; omega
      obtain ⟨k, hk⟩ : ∃ k, ns[j]? = some k := ⟨ns[j], by simp [hlt]⟩
      obtain rfl := hka (by rintro rfl; simp at hlt)
      have hmem : k ∈ names (fls Q) := by
        rw [hQ, names_sync]
        have := List.all_eq_true.1 hall' k (List.mem_of_getElem? hk)
        apply Classical.byContradiction
        intro h; rw [lookF_none.2 h] at this; cases this
      obtain ⟨h1, h2⟩ | ⟨U, f, p, V, e0, e1, e2, e3, e4, -, -, e7, -⟩ := find_at (P := Q) hokQ.nd k
      · exact (lookF_none.1 h1 hmem).elim
      have hn1 : fls (U ++ ({ f with s := f.b.length }, p) :: V) = syncL D (ns.take (j + 1)) := by
        rw [syncL_take hk, ← hQ, e4]; simp
      refine Gs.skip ?_
      refine Gs.then_n ?_
      refine Gs.seq ?_
      refine Gs.block ?_
      refine Gs.seq ?_
      refine Gs.reg ?_
      refine Go.Sl.L.pu rfl rfl trivial (pu_ia se_66 rfl rfl (by omega) (by omega)) ?_
      refine Go.Sl.L.rd rfl rfl trivial (rd_ld na_9 rfl (Rdc.el0 (hS.h (by repeat constructor)) hk rfl rfl)) ?_
      refine Go.Sl.L.pu rfl rfl trivial (pu_assign rfl) ?_
      refine Go.Sl.L.nil ?_
      refine Gs.then_n ?_
      refine Gs.seq ?_
      refine Gs.reg ?_
      refine Go.Sl.L.pu rfl rfl trivial (pu_move rfl) ?_
      refine Go.Sl.L.pu rfl rfl trivial (by first | exact pu_nil rfl | exact pu_nilF rfl) ?_
      refine Go.Sl.L.pu rfl rfl trivial (pu_fa fa_62_1 rfl) ?_
      refine Go.Sl.L.rd rfl rfl trivial (rd_ld na_60 rfl (Rdc.cl1 (by repeat constructor) rfl)) ?_
      refine Go.Sl.L.pu rfl rfl trivial (pu_move rfl) ?_
      refine Go.Sl.L.rd rfl rfl trivial (rd_look1 (k := k) Tryz.underlying60 kt_9 zvk_92 rfl rfl (by repeat constructor)) ?_
      rw [e3]
      rw [← e7 { f with s := f.b.length } e1]
      subst e0
      refine Gs.filOpen (U := U) (V := V) (f := f) (p := p) (by repeat constructor) fun fa fc => ?_
      refine Go.Sl.L.pu rfl rfl trivial (pu_assign rfl) ?_
      refine Go.Sl.L.nil ?_
      refine Gs.then_n ?_
      refine Gs.reg ?_
      refine Go.Sl.L.pu rfl rfl trivial (pu_move rfl) ?_
      refine Go.Sl.L.pu rfl rfl trivial (pu_move rfl) ?_
      refine Go.Sl.L.pu rfl rfl trivial (by first | exact pu_nil rfl | exact pu_nilF rfl) ?_
      refine Go.Sl.L.pu rfl rfl trivial (pu_fa fa_91_0 rfl) ?_
      refine Go.Sl.L.rd rfl rfl trivial (rd_ld na_75 rfl (Rdc.cl1 (by repeat constructor) rfl)) ?_
      refine Go.Sl.L.pu rfl rfl trivial (pu_len Tryz.underlying75 rfl) ?_
      refine Go.Sl.L.pu rfl rfl trivial (by first | exact pu_nil rfl | exact pu_nilF rfl) ?_
      refine Go.Sl.L.pu rfl rfl trivial (pu_fa fa_91_1 rfl) ?_
      refine Go.Sl.L.ac0 rfl trivial (ac_st sz_3 rfl rfl (by repeat constructor) rfl rfl rfl rfl) ?_
      rintro _ _ rfl
      refine Go.Sl.L.nil ?_
      refine Gs.filClose (U := U) (V := V) (f := { f with s := f.b.length }) (p := p) (by repeat constructor) rfl rfl rfl ?_
      refine Gs.blk_n ?_
      refine Gs.then_n ?_
      refine Gs.reg ?_
      refine Go.Sl.L.pu rfl rfl trivial (by first | exact pu_addI rfl rfl rfl (by omega) (by omega) | exact pu_add rfl rfl) ?_
      refine Go.Sl.L.pu rfl rfl trivial (pu_move rfl) ?_
      refine Go.Sl.L.nil ?_
      refine Gs.then_n ?_
      exact Gs.again1 (j + 1, U ++ ({ f with s := f.b.length }, p) :: V) ⟨by show j + 1 ≤ ns.length; omega, hn1⟩ (by show ns.length - (j + 1) < ns.length - j; omega) (by repeat constructor) (by repeat constructor)
    · skip
      have hge : j = ns.length := by have := of_decide_eq_false hc3; omega
      rw [hge, List.take_length] at hQ
      refine Gs.exit ?_
      refine Gs.then_x ?_
      refine Gs.then_x ?_
      refine Gs.blk_hit ?_
      refine Gs.then_n ?_
      refine Gs.seq ?_
      refine Gs.reg ?_
      refine Go.Sl.L.pu rfl rfl trivial (pu_assign rfl) ?_
      refine Go.Sl.L.nil ?_
      refine Gs.then_n ?_
      refine Gs.ret ?_
      refine Gs.drvClose (P := Q) (D := syncL D ns) (by repeat constructor) hQ (Ok.sync hok _) ?_
      exact Gs.fin1 Tryz.results43 rfl _ (⟨by rw [hE], by rw [hE, if_pos rfl]⟩) (by repeat constructor)
theorem syncNil_spec (a : Option Addr) (l c : Nat) : Ct Tryz.prog 43 [.pointer none, .slice a l c] [] (fun v hs => v = int 1 ∧ hs = []) := by
  refine Ct.intro Tryz.func43 rfl (by kernel_rfl) 51 Tryz.ntmps43 (Nat.le_of_ble_eq_true rfl) fun w0 R => ?_
  refine Gs.seq ?_
  refine Gs.reg ?_
  refine Go.Sl.L.pu rfl rfl trivial (pu_assign rfl) ?_
  refine Go.Sl.L.nil ?_
  refine Gs.then_n ?_
  refine Gs.seq ?_
  refine Gs.seq ?_
  refine Gs.reg ?_
  refine Go.Sl.L.pu rfl rfl trivial (pu_move rfl) ?_
  refine Go.Sl.L.pu rfl rfl trivial (pu_eqN Tryz.underlying26 rfl rfl) ?_
  refine Go.Sl.L.nil ?_
  refine Gs.then_n ?_
  refine Gs.cond_t rfl ?_
  refine Gs.seq ?_
  refine Gs.reg ?_
  refine Go.Sl.L.pu rfl rfl trivial (pu_assign rfl) ?_
  refine Go.Sl.L.nil ?_
  refine Gs.then_n ?_
  refine Gs.ret ?_
  refine Gs.then_r ?_
  exact Gs.fin1 Tryz.results43 rfl _ (⟨rfl, rfl⟩) (by repeat constructor)
theorem crash_spec (b : Nat) (most : Int) (D : List Fl) (st0 : Int) (hD : D.length ≤ 1000) (hlo : -9223372036854775808 ≤ st0) (hhi0 : st0 < 9223372036854775808) :
    Ct Tryz.prog 26 [ptr b, int st0] [drv b most D] (fun v hs => v = .tuple #[] ∧ hs = [drv b most (crashL st0 D)]) := by
  refine Ct.intro Tryz.func26 rfl (by kernel_rfl) 62 Tryz.ntmps26 (Nat.le_of_ble_eq_true rfl) fun w0 R => ?_
  refine Gs.seq ?_
  refine Gs.reg ?_
  refine Go.Sl.L.pu rfl rfl trivial (pu_move rfl) ?_
  refine Go.Sl.L.ac rfl rfl trivial (as_call (names_spec b most D hD) (by repeat constructor) (by repeat constructor)) ?_
  rintro _ _ ⟨_, ⟨a2, c2, rfl, rfl⟩, rfl⟩
  refine Gs.drvOpen (by repeat constructor) fun m P hP hok => ?_
  obtain ⟨ns, hns⟩ : ∃ ns, ns = sortB (names D) := ⟨_, rfl⟩
  have hperm : List.Perm ns (names D) := by rw [hns]; exact sortB_perm _
  have hnl : ns.length ≤ 1000 := by rw [hperm.length_eq]; simpa using hD
  have hL : crashL st0 D = crashN st0 ns D := by rw [hns]; rfl
  rw [← hns]
  refine Gs.slAddr (SlH.own (by repeat constructor) : SlH _ _ 1 strC a2 ns) fun kb ko hka => ?_
  refine Go.Sl.L.pu rfl rfl trivial (pu_len Tryz.underlying66 rfl) ?_
  refine Go.Sl.L.pu rfl rfl trivial (pu_move rfl) ?_
  refine Go.Sl.L.nil ?_
  refine Gs.then_n ?_
  refine Gs.block ?_
  refine Gs.loop1 (fun s : Nat × Int × DP => s.1 ≤ ns.length ∧ crashN s.2.1 (ns.drop s.1) (fls s.2.2) = crashL st0 D ∧ Ok most (fls s.2.2) ∧ names (fls s.2.2) = names D ∧ -9223372036854775808 ≤ s.2.1 ∧ s.2.1 < 9223372036854775808) (fun s => [(0, ptr b), (1, int s.2.1), (9, .slice a2 ns.length c2), (10, int ns.length), (11, int s.1)]) (fun s => [cl b 62 (driveC most m), mp strV pv m (pairs s.2.2), files s.2.2, sl 9 1 strC a2 c2 ns] ++ R) (fun s => ns.length - s.1) (0, st0, P) (⟨Nat.zero_le _, by rw [hL, List.drop_zero, hP], by rw [hP]; exact hok, by rw [hP], hlo, hhi0⟩) (by repeat constructor) (by repeat constructor) (fun s hs => ?_)
  obtain ⟨i, st, Q⟩ := s
  obtain ⟨hi, hcr, hokQ, hnm, hs1, hs2⟩ := hs
  dsimp only at hi hcr hokQ hnm hs1 hs2 ⊢
  refine Gs.seq ?_
  refine Gs.reg ?_
  refine Go.Sl.L.pu rfl rfl trivial (pu_lt rfl rfl) ?_
  refine Go.Sl.L.nil ?_
  refine Gs.then_n ?_
  refine Gs.seq ?_
  refine Gs.cond rfl (fun hc0 => ?_) (fun hc0 => ?_)
  · skip
    have hlt : i < ns.length := by have := of_decide_eq_true hc0; omega
    obtain ⟨k, hk⟩ : ∃ k, ns[i]? = some k := ⟨ns[i], by simp [hlt]⟩
    obtain rfl := hka (by rintro rfl; simp at hlt)
    have hmem : k ∈ names (fls Q) := by rw [hnm]; exact hperm.mem_iff.1 (List.mem_of_getElem? hk)
    obtain ⟨h1, h2⟩ | ⟨U, f, p, V, e0, e1, e2, e3, e4, -, -, e7, -⟩ := find_at (P := Q) hokQ.nd k
    · exact (lookF_none.1 h1 hmem).elim
    have hfm : f ∈ fls Q := by rw [e0]; simp
    have hf1 := hokQ.firm f hfm
    have hf2 := used_mem hfm
    have hr := hokQ.room
    have hh := hokQ.hi
    have hkeep : min (max st 0) ((f.b.length : Int) - f.s) = (lostF st f : Int) := by unfold lostF; omega
    have hk2 : lostF st f ≤ f.b.length - f.s := by unfold lostF; omega
    have hk3 : (lostF st f : Int) ≤ max st 0 := by omega
    have hn1 : fls (U ++ (crashF st f, p) :: V) = upd (fls Q) k (crashF st) := by rw [e4]; simp
    have hstep : crashN (st - lostF st f) (ns.drop (i + 1)) (upd (fls Q) k (crashF st)) = crashL st0 D := by
      rw [← hcr, List.drop_eq_getElem_cons hlt]
      have : ns[i] = k := by rw [List.getElem?_eq_getElem hlt] at hk; exact Option.some.inj hk
      rw [this, crashN_cons e2]
    have hok2 := hokQ.crash k st
    have hnm2 : names (upd (fls Q) k (crashF st)) = names D := by rw [names_crash, hnm]
    clear hcr
    refine Gs.skip ?_
    refine Gs.then_n ?_
    refine Gs.seq ?_
    refine Gs.block ?_
    refine Gs.seq ?_
    refine Gs.reg ?_
    refine Go.Sl.L.pu rfl rfl trivial (pu_ia se_66 rfl rfl (by omega) (by omega)) ?_
    refine Go.Sl.L.rd rfl rfl trivial (rd_ld na_9 rfl (Rdc.el0 (SlH.own (by repeat constructor)) hk rfl rfl)) ?_
    refine Go.Sl.L.pu rfl rfl trivial (pu_assign rfl) ?_
    refine Go.Sl.L.nil ?_
    refine Gs.then_n ?_
    refine Gs.seq ?_
    refine Gs.reg ?_
    refine Go.Sl.L.pu rfl rfl trivial (pu_move rfl) ?_
    refine Go.Sl.L.pu rfl rfl trivial (by first | exact pu_nil rfl | exact pu_nilF rfl) ?_
    refine Go.Sl.L.pu rfl rfl trivial (pu_fa fa_62_1 rfl) ?_
    refine Go.Sl.L.rd rfl rfl trivial (rd_ld na_60 rfl (Rdc.cl1 (by repeat constructor) rfl)) ?_
    refine Go.Sl.L.pu rfl rfl trivial (pu_move rfl) ?_
    refine Go.Sl.L.rd rfl rfl trivial (rd_look1 (k := k) Tryz.underlying60 kt_9 zvk_92 rfl rfl (by repeat constructor)) ?_
    rw [e3]
    rw [← e7 (crashF st f) e1]
    subst e0
    refine Gs.filOpen (U := U) (V := V) (f := f) (p := p) (by repeat constructor) fun fa fc => ?_
    refine Gs.slLen (E := 5) (sz := 1) (enc := byteC) (a := fa) (c := fc) (xs := f.b) (by repeat constructor) fun hlc => ?_
    refine Go.Sl.L.pu rfl rfl trivial (pu_assign rfl) ?_
    refine Go.Sl.L.nil ?_
    refine Gs.then_n ?_
    refine Gs.seq ?_
    refine Gs.regD mixed (by kernel_rfl) ?_
    refine Rg.pu 0 rfl rfl (by kernel_rfl) trivial (pu_move rfl) ?_
    refine Rg.pu 1 rfl rfl (by kernel_rfl) trivial (pu_max rfl rfl) ?_
    refine Rg.pu 2 rfl rfl (by kernel_rfl) trivial (pu_move rfl) ?_
    refine Rg.pu 3 rfl rfl (by kernel_rfl) trivial (by first | exact pu_nil rfl | exact pu_nilF rfl) ?_
    refine Rg.pu 4 rfl rfl (by kernel_rfl) trivial (pu_fa fa_91_0 rfl) ?_
    refine Rg.rd 5 rfl rfl (by kernel_rfl) trivial (rd_ld na_75 rfl (Rdc.cl1 (by repeat constructor) rfl)) ?_
    refine Rg.pu 6 rfl rfl (by kernel_rfl) trivial (pu_len Tryz.underlying75 rfl) ?_
    refine Rg.pu 7 rfl rfl (by kernel_rfl) trivial (pu_move rfl) ?_
    refine Rg.pu 8 rfl rfl (by kernel_rfl) trivial (by first | exact pu_nil rfl | exact pu_nilF rfl) ?_
    refine Rg.pu 9 rfl rfl (by kernel_rfl) trivial (pu_fa fa_91_1 rfl) ?_
    refine Rg.rd 10 rfl rfl (by kernel_rfl) trivial (rd_ld na_3 rfl (Rdc.cl1 (by repeat constructor) rfl)) ?_
    refine Rg.pu 11 rfl rfl (by kernel_rfl) trivial (by first | exact pu_subI rfl rfl rfl (by omega) (by omega) | exact pu_sub rfl rfl) ?_
    refine Rg.pu 12 rfl rfl (by kernel_rfl) trivial (pu_min rfl rfl) ?_
    refine Rg.pu 13 rfl rfl (by kernel_rfl) trivial (pu_assign rfl) ?_
    refine Rg.end (by kernel_rfl) ?_
    rw [hkeep]
    refine Gs.then_n ?_
    refine Gs.seq ?_
    refine Gs.reg ?_
    refine Go.Sl.L.pu rfl rfl trivial (pu_move rfl) ?_
    refine Go.Sl.L.pu rfl rfl trivial (pu_move rfl) ?_
    refine Go.Sl.L.pu rfl rfl trivial (by first | exact pu_subI rfl rfl rfl (by omega) (by omega) | exact pu_sub rfl rfl) ?_
    refine Go.Sl.L.pu rfl rfl trivial (pu_assign rfl) ?_
    refine Go.Sl.L.nil ?_
    refine Gs.then_n ?_
    refine Gs.seq ?_
    refine Gs.reg ?_
    refine Go.Sl.L.pu rfl rfl trivial (pu_move rfl) ?_
    refine Go.Sl.L.pu rfl rfl trivial (by first | exact pu_nil rfl | exact pu_nilF rfl) ?_
    refine Go.Sl.L.pu rfl rfl trivial (pu_fa fa_91_1 rfl) ?_
    refine Go.Sl.L.rd rfl rfl trivial (rd_ld na_3 rfl (Rdc.cl1 (by repeat constructor) rfl)) ?_
    refine Go.Sl.L.pu rfl rfl trivial (pu_move rfl) ?_
    refine Go.Sl.L.pu rfl rfl trivial (pu_addI (z := ((f.s + lostF st f : Nat) : Int)) rfl rfl (by omega) (by omega) (by omega)) ?_
    refine Go.Sl.L.pu rfl rfl trivial (by first | exact pu_nil rfl | exact pu_nilF rfl) ?_
    refine Go.Sl.L.pu rfl rfl trivial (pu_fa fa_91_1 rfl) ?_
    refine Go.Sl.L.ac0 rfl trivial (ac_st sz_3 rfl rfl (by repeat constructor) rfl rfl rfl rfl) ?_
    rintro _ _ rfl
    refine Go.Sl.L.nil ?_
    refine Gs.then_n ?_
    refine Gs.regD mixed (by kernel_rfl) ?_
    refine Rg.pu 0 rfl rfl (by kernel_rfl) trivial (pu_move rfl) ?_
    refine Rg.pu 1 rfl rfl (by kernel_rfl) trivial (pu_move rfl) ?_
    refine Rg.pu 2 rfl rfl (by kernel_rfl) trivial (by first | exact pu_nil rfl | exact pu_nilF rfl) ?_
    refine Rg.pu 3 rfl rfl (by kernel_rfl) trivial (pu_fa fa_91_0 rfl) ?_
    refine Rg.rd 4 rfl rfl (by kernel_rfl) trivial (rd_ld na_75 rfl (Rdc.cl1 (by repeat constructor) rfl)) ?_
    refine Rg.pu 5 rfl rfl (by kernel_rfl) trivial (pu_move rfl) ?_
    refine Rg.pu 6 rfl rfl (by kernel_rfl) trivial (by first | exact pu_nil rfl | exact pu_nilF rfl) ?_
    refine Rg.pu 7 rfl rfl (by kernel_rfl) trivial (pu_fa fa_91_1 rfl) ?_
    refine Rg.rd 8 rfl rfl (by kernel_rfl) trivial (rd_ld na_3 rfl (Rdc.cl1 (by repeat constructor) rfl)) ?_
    refine Rg.pu 9 rfl rfl (by kernel_rfl) trivial (pu_move rfl) ?_
    refine Rg.pu 10 rfl rfl (by kernel_rfl) trivial (by first | exact pu_nil rfl | exact pu_nilF rfl) ?_
    refine Rg.pu 11 rfl rfl (by kernel_rfl) trivial (pu_fa fa_91_1 rfl) ?_
    refine Rg.rd 12 rfl rfl (by kernel_rfl) trivial (rd_ld na_3 rfl (Rdc.cl1 (by repeat constructor) rfl)) ?_
    refine Rg.pu 13 rfl rfl (by kernel_rfl) trivial (pu_slice3H et_75 rfl rfl rfl (by omega) (by omega) (by omega)) ?_
    refine Rg.pu 14 rfl rfl (by kernel_rfl) trivial (by first | exact pu_nil rfl | exact pu_nilF rfl) ?_
    refine Rg.pu 15 rfl rfl (by kernel_rfl) trivial (pu_fa fa_91_0 rfl) ?_
    refine Rg.one (by kernel_rfl) (Stp.ac0 16 rfl rfl (by kernel_rfl) trivial (ac_st sz_75 rfl rfl (by repeat constructor) rfl rfl rfl rfl)  ?_)
    rintro _ _ rfl
    refine Rg.end (by kernel_rfl) ?_
    simp only [Int.toNat_natCast]
    refine Gs.slRoom (E := 5) (sz := 1) (enc := byteC) (a := fa) (c := fc) (xs := f.b) (f.s + lostF st f) (by omega) (by repeat constructor) ?_
    refine Gs.filClose (U := U) (V := V) (f := crashF st f) (p := p) (a := fa) (c := f.s + lostF st f) (by repeat constructor) (by simp [crashF]; omega) rfl rfl ?_
    refine Gs.blk_n ?_
    refine Gs.then_n ?_
    refine Gs.reg ?_
    refine Go.Sl.L.pu rfl rfl trivial (by first | exact pu_addI rfl rfl rfl (by omega) (by omega) | exact pu_add rfl rfl) ?_
    refine Go.Sl.L.pu rfl rfl trivial (pu_move rfl) ?_
    refine Go.Sl.L.nil ?_
    refine Gs.then_n ?_
    exact Gs.again1 (i + 1, st - lostF st f, U ++ (crashF st f, p) :: V) ⟨by show i + 1 ≤ ns.length; omega, by rw [hn1]; exact hstep, by rw [hn1]; exact hok2, by rw [hn1]; exact hnm2, by show -9223372036854775808 ≤ st - lostF st f; omega, by show st - lostF st f < 9223372036854775808; omega⟩ (by show ns.length - (i + 1) < ns.length - i; omega) (by repeat constructor) (by repeat constructor)
  · skip
    have hge : i = ns.length := by have := of_decide_eq_false hc0; omega
    have hend : fls Q = crashL st0 D := by rw [← hcr, hge, List.drop_length]; rfl
    refine Gs.exit ?_
    refine Gs.then_x ?_
    refine Gs.then_x ?_
    refine Gs.blk_hit ?_
    refine Gs.fin_n ?_
    refine Gs.drvClose (P := Q) (D := crashL st0 D) (by repeat constructor) hend (by rw [← hend]; exact hokQ) ?_
    exact Gs.fin0 Tryz.results26 _ (⟨rfl, rfl⟩) (by repeat constructor)
theorem crashNil_spec (k : Int) : Ct Tryz.prog 26 [.pointer none, int k] [] (fun v hs => v = .tuple #[] ∧ hs = []) := by
  refine Ct.intro Tryz.func26 rfl (by kernel_rfl) 62 Tryz.ntmps26 (Nat.le_of_ble_eq_true rfl) fun w0 R => ?_
  refine Gs.seq ?_
  refine Gs.reg ?_
  refine Go.Sl.L.pu rfl rfl trivial (pu_move rfl) ?_
  refine Go.Sl.L.ac rfl rfl trivial (as_call (namesNil_spec) (by repeat constructor) (by repeat constructor)) ?_
  rintro _ _ ⟨_, ⟨rfl, rfl⟩, rfl⟩
  rename_i RR
  refine Go.Sl.L.pu rfl rfl trivial (pu_len Tryz.underlying66 rfl) ?_
  refine Go.Sl.L.pu rfl rfl trivial (pu_move rfl) ?_
  refine Go.Sl.L.nil ?_
  refine Gs.then_n ?_
  refine Gs.block ?_
  refine Gs.loop1 (fun _ : Unit => True) (fun _ => [(10, int 0), (11, int 0)]) (fun _ => RR) (fun _ => 0) () (trivial) (by repeat constructor) (by repeat constructor) (fun i hi => ?_)
  refine Gs.seq ?_
  refine Gs.reg ?_
  refine Go.Sl.L.pu rfl rfl trivial (pu_lt rfl rfl) ?_
  refine Go.Sl.L.nil ?_
  refine Gs.then_n ?_
  refine Gs.seq ?_
  refine Gs.cond_f rfl ?_
  refine Gs.exit ?_
  refine Gs.then_x ?_
  refine Gs.then_x ?_
  refine Gs.blk_hit ?_
  refine Gs.fin_n ?_
  exact Gs.fin0 Tryz.results26 _ (⟨rfl, rfl⟩) (by repeat constructor)
end Go.Proofs.YtjaafkakeccniaaGreatDoor

