/- drive.named: which name may be, for names of ASCII; strings.ContainsRune at an ASCII rune by the kit's contract. -/
import Derived.Test.YtmfgemhjepagjaaDv
import Derived.Test.YtmfgemhjepagjaaStr
import Derived.Test.YtmfgemhjepagjaaLay
namespace Go.Proofs
open Go.Shelf
namespace Ytmfgemhjepagjaa
open Go Go.Sl Go.Gv Go.Dv Go.Bst Go.RowKit
set_option maxRecDepth 100000
theorem ofNat_toNat8 (c : UInt8) : (c.toNat : Int).toNat.toUInt8 = c := by
  rw [Int.toNat_natCast]
  exact UInt8.ofNat_toNat
theorem hasRune_spec (s : ByteArray) (c : UInt8) (h : c.toNat < 128) : Ct Try.prog 29 [.string s, .int .i32 c.toNat] [] (fun v hs => v = .bool (decide (0 ≤ Lib.indexByte s.data.toList c)) ∧ hs = []) :=
  Ct.ofBelow Try.func29 rfl (by kernel_rfl) (V := fun _ => .bool (decide (0 ≤ Lib.indexByte s.data.toList c))) (fun w0 w R st => by
    have := Any.strings_ContainsRune_ascii Try.laysCtRune s c.toNat w (by omega) (by omega)
    rw [ofNat_toNat8] at this
    exact this.mono fun e w' ⟨h1, h2⟩ => ⟨h1, by rw [h2]; exact Below.refl _ _⟩) (fun _ => ⟨rfl, rfl⟩)
def abc : List UInt8 := [97, 98, 99, 100, 101, 102, 103, 104, 105, 106, 107, 108, 109, 110, 111, 112, 113, 114, 115, 116, 117, 118, 119, 120, 121, 122, 48, 49, 50, 51, 52, 53, 54, 55, 56, 57, 46]
theorem abc_ok (c : UInt8) : decide (0 ≤ Lib.indexByte abc c) = okB c := by
  have h : ∀ k : Fin 256, decide (0 ≤ Lib.indexByte abc (UInt8.ofNat k.val)) = okB (UInt8.ofNat k.val) := by decide +kernel
  have := h ⟨c.toNat, c.toNat_lt⟩
  rwa [show UInt8.ofNat c.toNat = c from UInt8.ofNat_toNat] at this
theorem odd_spec (c : UInt8) (h : c.toNat < 128) : Ct Try.prog 28 [.int .i32 c.toNat] [] (fun v hs => v = .bool (!okB c) ∧ hs = []) := by
  refine Ct.intro Try.func28 rfl (by kernel_rfl) 6 Try.ntmps28 (Nat.le_of_ble_eq_true rfl) fun w0 R => ?_
  refine Gs.seq ?_
  refine Gs.reg ?_
  refine Go.Sl.L.pu rfl rfl trivial (pu_assign rfl) ?_
  refine Go.Sl.L.nil ?_
  refine Gs.then_n ?_
  refine Gs.seq ?_
  refine Gs.reg ?_
  refine Go.Sl.L.pu rfl rfl trivial (pu_move rfl) ?_
  refine Go.Sl.L.ac rfl rfl trivial (as_call (hasRune_spec ⟨abc.toArray⟩ c h) (by repeat constructor) (by repeat constructor)) ?_
  rintro _ _ ⟨_, ⟨rfl, rfl⟩, rfl⟩
  refine Go.Sl.L.pu rfl rfl trivial (pu_not rfl) ?_
  refine Go.Sl.L.pu rfl rfl trivial (pu_assign rfl) ?_
  refine Go.Sl.L.nil ?_
  refine Gs.then_n ?_
  refine Gs.ret ?_
  exact Gs.fin1 Try.results28 rfl _ (⟨by rw [← abc_ok c], rfl⟩) (by repeat constructor)
theorem decode_at {s : ByteArray} {i : Nat} (h : i < s.size) {c : UInt8} (hc : s.data.toList[i]? = some c) (ha : c.toNat < 128) : Utf8.decode s i = (c.toNat, 1) := by
  have e : s[i]'h = c := by
    have : s.data.toList[i]? = some (s.data[i]'h) := by simp
    rw [this] at hc; exact Option.some.inj hc
  have := decode_ascii s i h (by rw [e]; exact ha)
  rw [e] at this; exact this
theorem any_drop {p : UInt8 → Bool} {l : List UInt8} {i : Nat} {c : UInt8} (h : l[i]? = some c) : (l.drop i).any p = (p c || (l.drop (i + 1)).any p) := by
  obtain ⟨hl, e⟩ := List.getElem?_eq_some_iff.1 h
  rw [List.drop_eq_getElem_cons hl, List.any_cons, e]
theorem indexFunc_spec (p : UInt8 → Bool) (g : Nat) (s : ByteArray) (hs : s.size ≤ 1000000) (ha : asciiB s = true) (hg : ∀ c : UInt8, c.toNat < 128 → Ct Try.prog g [.int .i32 c.toNat] [] (fun v hs => v = .bool (p c) ∧ hs = [])) :
    Ct Try.prog 43 [.string s, .func (.func g) #[] #[], .bool true] [] (fun v hs => (∃ z : Int, v = int z ∧ decide (0 ≤ z) = s.data.toList.any p) ∧ hs = []) := by
  have hsz : s.size = s.data.toList.length := by rw [Array.length_toList]; rfl
  refine Ct.intro Try.func43 rfl (by kernel_rfl) 21 Try.ntmps43 (Nat.le_of_ble_eq_true rfl) fun w0 R => ?_
  refine Gs.seq ?_
  refine Gs.reg ?_
  refine Go.Sl.L.pu rfl rfl trivial (pu_assign rfl) ?_
  refine Go.Sl.L.nil ?_
  refine Gs.then_n ?_
  refine Gs.seq ?_
  refine Gs.seq ?_
  refine Gs.reg ?_
  refine Go.Sl.L.pu rfl rfl trivial (pu_move rfl) ?_
  refine Go.Sl.L.ac rfl rfl trivial (ac_rangeS Try.underlying9 rfl) ?_
  rintro _ _ ⟨r, rfl, rfl⟩
  refine Go.Sl.L.nil ?_
  refine Gs.then_n ?_
  refine Gs.block ?_
  refine Gs.loop1 (fun i : Nat => i ≤ s.size ∧ s.data.toList.any p = (s.data.toList.drop i).any p) (fun i => [(1, .func (.func g) #[] #[]), (2, .bool true), (10, .pointer (some ⟨r, 0, none⟩))]) (fun i => [sit r s i] ++ R) (fun i => s.size - i) 0 (⟨Nat.zero_le _, rfl⟩) (by repeat constructor) (by repeat constructor) (fun i ⟨hi, hd⟩ => ?_)
  refine Gs.seq ?_
  refine Gs.reg ?_
  refine Go.Sl.L.ac rfl rfl trivial (ac_nextS rfl (by repeat constructor)) ?_
  rintro _ _ (⟨hl, rfl, rfl⟩ | ⟨hl, rfl, rfl⟩)
  · skip
    refine Go.Sl.L.pu rfl rfl trivial (pu_extract rfl rfl) ?_
    refine Go.Sl.L.nil ?_
    refine Gs.then_n ?_
    refine Gs.seq ?_
    refine Gs.cond_f rfl ?_
    refine Gs.exit ?_
    refine Gs.then_x ?_
    refine Gs.then_x ?_
    refine Gs.blk_hit ?_
    refine Gs.then_n ?_
    refine Gs.seq ?_
    refine Gs.reg ?_
    refine Go.Sl.L.pu rfl rfl trivial (pu_assign rfl) ?_
    refine Go.Sl.L.nil ?_
    refine Gs.then_n ?_
    refine Gs.ret ?_
    exact Gs.fin1 Try.results43 rfl _ (⟨⟨_, rfl, by rw [hd, List.drop_eq_nil_of_le (by omega)]; rfl⟩, rfl⟩) (by repeat constructor)
  · skip
    obtain ⟨c, hc⟩ : ∃ c, s.data.toList[i]? = some c := ⟨s.data.toList[i]'(by omega), by simp⟩
    have hc1 : c.toNat < 128 := by
      have := List.all_eq_true.1 ha c (List.mem_of_getElem? hc)
      simpa using this
    rw [decode_at hl hc hc1]
    refine Go.Sl.L.pu rfl rfl trivial (pu_extract rfl rfl) ?_
    refine Go.Sl.L.nil ?_
    refine Gs.then_n ?_
    refine Gs.seq ?_
    refine Gs.cond_t rfl ?_
    refine Gs.skip ?_
    refine Gs.then_n ?_
    refine Gs.block ?_
    refine Gs.seq ?_
    refine Gs.reg ?_
    refine Go.Sl.L.pu rfl rfl trivial (pu_extract rfl rfl) ?_
    refine Go.Sl.L.pu rfl rfl trivial (pu_extract rfl rfl) ?_
    refine Go.Sl.L.pu rfl rfl trivial (pu_assign rfl) ?_
    refine Go.Sl.L.pu rfl rfl trivial (pu_assign rfl) ?_
    refine Go.Sl.L.nil ?_
    refine Gs.then_n ?_
    refine Gs.seq ?_
    refine Gs.reg ?_
    refine Go.Sl.L.pu rfl rfl trivial (pu_move rfl) ?_
    refine Go.Sl.L.pu rfl rfl trivial (pu_move rfl) ?_
    refine Go.Sl.L.ac rfl rfl trivial (as_callV rfl (hg c hc1) (by repeat constructor) (by repeat constructor)) ?_
    rintro _ _ ⟨_, ⟨rfl, rfl⟩, rfl⟩
    refine Go.Sl.L.pu rfl rfl trivial (pu_move rfl) ?_
    refine Go.Sl.L.pu rfl rfl trivial (pu_eqB Try.underlying4 rfl rfl) ?_
    refine Go.Sl.L.nil ?_
    refine Gs.then_n ?_
    refine Gs.cond rfl (fun hq => ?_) (fun hq => ?_)
    · skip
      have hp : p c = true := by simpa using hq
      refine Gs.seq ?_
      refine Gs.reg ?_
      refine Go.Sl.L.pu rfl rfl trivial (pu_move rfl) ?_
      refine Go.Sl.L.pu rfl rfl trivial (pu_assign rfl) ?_
      refine Go.Sl.L.nil ?_
      refine Gs.then_n ?_
      refine Gs.ret ?_
      refine Gs.blk_r ?_
      refine Gs.then_r ?_
      refine Gs.blk_r ?_
      refine Gs.then_r ?_
      exact Gs.fin1 Try.results43 rfl _ (⟨⟨_, rfl, by rw [hd, any_drop hc, hp]; simp⟩, rfl⟩) (by repeat constructor)
    · skip
      have hp : p c = false := by simpa using hq
      refine Gs.skip ?_
      refine Gs.blk_n ?_
      refine Gs.then_n ?_
      exact Gs.again1 (i + 1) ⟨by omega, by rw [hd, any_drop hc, hp]; rfl⟩ (by show s.size - (i + 1) < s.size - i; omega) (by repeat constructor) (by repeat constructor)
theorem containsFunc_spec (p : UInt8 → Bool) (g : Nat) (s : ByteArray) (hs : s.size ≤ 1000000) (ha : asciiB s = true) (hg : ∀ c : UInt8, c.toNat < 128 → Ct Try.prog g [.int .i32 c.toNat] [] (fun v hs => v = .bool (p c) ∧ hs = [])) :
    Ct Try.prog 30 [.string s, .func (.func g) #[] #[]] [] (fun v hs => v = .bool (s.data.toList.any p) ∧ hs = []) := by
  have hI : Ct Try.prog 35 [.string s, .func (.func g) #[] #[]] [] (fun v hs => (∃ z : Int, v = int z ∧ decide (0 ≤ z) = s.data.toList.any p) ∧ hs = []) := by
    refine Ct.intro Try.func35 rfl (by kernel_rfl) 8 Try.ntmps35 (Nat.le_of_ble_eq_true rfl) fun w0 R => ?_
    refine Gs.seq ?_
    refine Gs.reg ?_
    refine Go.Sl.L.pu rfl rfl trivial (pu_assign rfl) ?_
    refine Go.Sl.L.nil ?_
    refine Gs.then_n ?_
    refine Gs.seq ?_
    refine Gs.reg ?_
    refine Go.Sl.L.pu rfl rfl trivial (pu_move rfl) ?_
    refine Go.Sl.L.pu rfl rfl trivial (pu_move rfl) ?_
    refine Go.Sl.L.ac rfl rfl trivial (as_call (indexFunc_spec p g s hs ha hg) (by repeat constructor) (by repeat constructor)) ?_
    rintro _ _ ⟨_, ⟨⟨z, rfl, hz⟩, rfl⟩, rfl⟩
    refine Go.Sl.L.pu rfl rfl trivial (pu_assign rfl) ?_
    refine Go.Sl.L.nil ?_
    refine Gs.then_n ?_
    refine Gs.ret ?_
    exact Gs.fin1 Try.results35 rfl _ (⟨⟨z, rfl, hz⟩, rfl⟩) (by repeat constructor)
  refine Ct.intro Try.func30 rfl (by kernel_rfl) 9 Try.ntmps30 (Nat.le_of_ble_eq_true rfl) fun w0 R => ?_
  refine Gs.seq ?_
  refine Gs.reg ?_
  refine Go.Sl.L.pu rfl rfl trivial (pu_assign rfl) ?_
  refine Go.Sl.L.nil ?_
  refine Gs.then_n ?_
  refine Gs.seq ?_
  refine Gs.reg ?_
  refine Go.Sl.L.pu rfl rfl trivial (pu_move rfl) ?_
  refine Go.Sl.L.pu rfl rfl trivial (pu_move rfl) ?_
  refine Go.Sl.L.ac rfl rfl trivial (as_call (hI) (by repeat constructor) (by repeat constructor)) ?_
  rintro _ _ ⟨_, ⟨⟨z, rfl, hz⟩, rfl⟩, rfl⟩
  refine Go.Sl.L.pu rfl rfl trivial (pu_ge rfl rfl) ?_
  refine Go.Sl.L.pu rfl rfl trivial (pu_assign rfl) ?_
  refine Go.Sl.L.nil ?_
  refine Gs.then_n ?_
  refine Gs.ret ?_
  exact Gs.fin1 Try.results30 rfl _ (⟨by rw [← hz], rfl⟩) (by repeat constructor)
theorem named_spec (s : ByteArray) (ha : asciiB s = true) (hsz : s.size ≤ 9223372036854775807) : Ct Try.prog 23 [.string s] [] (fun v hs => v = .bool (namedB s) ∧ hs = []) := by
  refine Ct.intro Try.func23 rfl (by kernel_rfl) 18 Try.ntmps23 (Nat.le_of_ble_eq_true rfl) fun w0 R => ?_
  refine Gs.seq ?_
  refine Gs.reg ?_
  refine Go.Sl.L.pu rfl rfl trivial (pu_assign rfl) ?_
  refine Go.Sl.L.nil ?_
  refine Gs.then_n ?_
  refine Gs.seq ?_
  refine Gs.reg ?_
  refine Go.Sl.L.pu rfl rfl trivial (pu_assign rfl) ?_
  refine Go.Sl.L.nil ?_
  refine Gs.then_n ?_
  refine Gs.seq ?_
  refine Gs.reg ?_
  refine Go.Sl.L.pu rfl rfl trivial (pu_move rfl) ?_
  refine Go.Sl.L.pu rfl rfl trivial (pu_lenS Try.underlying9 rfl) ?_
  refine Go.Sl.L.pu rfl rfl trivial (pu_ge rfl rfl) ?_
  refine Go.Sl.L.puB rfl rfl trivial (pu_move rfl) (fun hg3 => ?_) (fun hg3 => ?_)
  · skip
    have hg := of_decide_eq_true hg3
    refine Go.Sl.L.pu rfl rfl ⟨_, rfl, rfl⟩ (pu_move rfl) ?_
    refine Go.Sl.L.pu rfl rfl ⟨_, rfl, rfl⟩ (pu_lenS Try.underlying9 rfl) ?_
    refine Go.Sl.L.pu rfl rfl ⟨_, rfl, rfl⟩ (pu_le rfl rfl) ?_
    refine Go.Sl.L.pu rfl rfl trivial (by first | exact pu_pick_t rfl rfl | exact pu_pick_f rfl rfl) ?_
    refine Go.Sl.L.puB rfl rfl trivial (pu_move rfl) (fun hg8 => ?_) (fun hg8 => ?_)
    · skip
      have hg8' := of_decide_eq_true hg8
      refine Go.Sl.L.pu rfl rfl ⟨_, rfl, rfl⟩ (pu_move rfl) ?_
      refine Go.Sl.L.pu rfl rfl ⟨_, rfl, rfl⟩ (pu_move rfl) ?_
      refine Go.Sl.L.ac rfl rfl ⟨_, rfl, rfl⟩ (as_call (containsFunc_spec (fun c => !okB c) _ s (by omega) ha odd_spec) (by repeat constructor) (by repeat constructor)) ?_
      rintro _ _ ⟨_, ⟨rfl, rfl⟩, rfl⟩
      refine Go.Sl.L.pu rfl rfl ⟨_, rfl, rfl⟩ (pu_not rfl) ?_
      refine Go.Sl.L.pu rfl rfl trivial (by first | exact pu_pick_t rfl rfl | exact pu_pick_f rfl rfl) ?_
      refine Go.Sl.L.pu rfl rfl trivial (pu_assign rfl) ?_
      refine Go.Sl.L.nil ?_
      refine Gs.then_n ?_
      refine Gs.ret ?_
      exact Gs.fin1 Try.results23 rfl _ (⟨by grind [namedB], rfl⟩) (by repeat constructor)
    · skip
      have hg8' := of_decide_eq_false hg8
      refine Go.Sl.L.off rfl rfl rfl rfl rfl rfl ?_
      refine Go.Sl.L.off rfl rfl rfl rfl rfl rfl ?_
      refine Go.Sl.L.off rfl rfl rfl rfl rfl rfl ?_
      refine Go.Sl.L.off rfl rfl rfl rfl rfl rfl ?_
      refine Go.Sl.L.pu rfl rfl trivial (by first | exact pu_pick_t rfl rfl | exact pu_pick_f rfl rfl) ?_
      refine Go.Sl.L.pu rfl rfl trivial (pu_assign rfl) ?_
      refine Go.Sl.L.nil ?_
      refine Gs.then_n ?_
      refine Gs.ret ?_
      exact Gs.fin1 Try.results23 rfl _ (⟨by grind [namedB], rfl⟩) (by repeat constructor)
  · skip
    have hg := of_decide_eq_false hg3
    refine Go.Sl.L.off rfl rfl rfl rfl rfl rfl ?_
    refine Go.Sl.L.off rfl rfl rfl rfl rfl rfl ?_
    refine Go.Sl.L.off rfl rfl rfl rfl rfl rfl ?_
    refine Go.Sl.L.pu rfl rfl trivial (by first | exact pu_pick_t rfl rfl | exact pu_pick_f rfl rfl) ?_
    refine Go.Sl.L.pu rfl rfl trivial (pu_move rfl) ?_
    refine Go.Sl.L.off rfl rfl rfl rfl rfl rfl ?_
    refine Go.Sl.L.off rfl rfl rfl rfl rfl rfl ?_
    refine Go.Sl.L.off rfl rfl rfl rfl rfl rfl ?_
    refine Go.Sl.L.off rfl rfl rfl rfl rfl rfl ?_
    refine Go.Sl.L.pu rfl rfl trivial (by first | exact pu_pick_t rfl rfl | exact pu_pick_f rfl rfl) ?_
    refine Go.Sl.L.pu rfl rfl trivial (pu_assign rfl) ?_
    refine Go.Sl.L.nil ?_
    refine Gs.then_n ?_
    refine Gs.ret ?_
    exact Gs.fin1 Try.results23 rfl _ (⟨by grind [namedB], rfl⟩) (by repeat constructor)
end Ytmfgemhjepagjaa
end Go.Proofs
