/- slices.Sort at strings, by the kit's contracts; drive.Names. -/
import Derived.Test.YtmfgemhjepagjaaSeqS
import Derived.Test.YtmfgemhjepagjaaDrv
import Derived.Test.YtmfgemhjepagjaaLay
namespace Go.Sl
open Go Go.Sort Go.Proofs
section
variable {α : Type} {w0 w : World} {L : List HProp} {E : Nat} {enc : α → Value} {b off c : Nat} {xs : List α}
theorem sl1_block (s : Sat w0 w (sl E 1 (fun x => [enc x]) (some ⟨b, off, none⟩) c xs :: L)) : ∃ cells, Sat w0 w (pt b (.cells cells E (0, 0)) :: L) ∧ w.heap[b]? = some (.cells cells E (0, 0)) ∧ xs.length ≤ c ∧ off + c ≤ cells.size ∧
    ∀ i x, xs[i]? = some x → cells[off + i]? = some (enc x) := by
  obtain ⟨h, le, h1, h2, d, rfl, hs, hl⟩ := s.heap
  rcases hs with ⟨h0, -, -⟩ | ⟨b', off', cells, hb, hp, h3, h4, h5⟩
  · cases h0
  · cases hb
    have s1 : Sat w0 w (pt b (.cells cells E (0, 0)) :: L) := ⟨s.os, s.tape, s.output, s.size, _, le, h1, h2, d, rfl, hp, hl⟩
    exact ⟨cells, s1, s1.pt, h3, by omega, fun i x hi => by have := h5 i x hi 0 (enc x) rfl; simpa using this⟩
variable [Inhabited α]
theorem sl1_holds (s : Sat w0 w (sl E 1 (fun x => [enc x]) (some ⟨b, off, none⟩) c xs :: L)) : Holds enc w b off xs.toArray ∧ b < w.heap.size := by
  obtain ⟨cells, -, hb, h3, h4, h5⟩ := sl1_block s
  refine ⟨fun j hj => ?_, (Array.getElem?_eq_some_iff.1 hb).1⟩
  simp only [List.size_toArray] at hj
  have hx : xs[j]? = some xs[j] := by simp [hj]
  have hc := h5 _ _ hx
  have e1 : xs.toArray[j]! = xs[j] := by rw [getElem!_pos _ _ (by simpa using hj)]; simp
  refine ⟨?_, by simp [World.frozen?, hb]⟩
  rw [e1]
  simpa [World.cell?, hb] using hc
theorem sl1_sorted {ys : List α} {n : Nat} {os : Array Obj} (hl : ys.length = xs.length) (s : Sat w0 w (sl E 1 (fun x => [enc x]) (some ⟨b, off, none⟩) c xs :: L)) :
    Sat w0 (grow (putRow enc (Sort.ahead w n) b off ys.toArray) os) (sl E 1 (fun x => [enc x]) (some ⟨b, off, none⟩) c ys :: L) := by
  obtain ⟨cells, s1, hb, h3, h4, h5⟩ := sl1_block s
  have hblt := (Array.getElem?_eq_some_iff.1 hb).1
  have hsz : (putRow enc (Sort.ahead w n) b off ys.toArray).heap.size = w.heap.size := by simp [putRow, mapBlock, Sort.ahead]
  have hnew : (grow (putRow enc (Sort.ahead w n) b off ys.toArray) os).heap[b]? = some (.cells (putCells enc off ys.toArray cells) E (0, 0)) := by
    rw [heap_grow_old _ _ (by rw [hsz]; exact hblt)]
    simp [putRow, mapBlock, Sort.ahead, Array.getElem?_modify, hb, onCells]
  have hold : ∀ k, k ≠ b → k < w.heap.size → (grow (putRow enc (Sort.ahead w n) b off ys.toArray) os).heap[k]? = w.heap[k]? := fun k hk hlt => by
    rw [heap_grow_old _ _ (by rw [hsz]; exact hlt)]
    have : b ≠ k := fun e => hk e.symm
    simp [putRow, mapBlock, Sort.ahead, Array.getElem?_modify, this]
  refine (s1.write (w' := grow (putRow enc (Sort.ahead w n) b off ys.toArray) os) rfl rfl rfl (by show w.heap.size ≤ ((putRow enc (Sort.ahead w n) b off ys.toArray).heap ++ os).size; rw [Array.size_append, hsz]; omega) hnew hold).ent fun hh hp => .inr ⟨b, off, _, rfl, hp, by omega, by simp [putCells]; omega, fun i y hi j v hj => ?_⟩
  have hil : i < ys.length := (List.getElem?_eq_some_iff.1 hi).1
  have hj0 : j = 0 ∧ v = enc y := by
    cases j with
    | zero => simp at hj; exact ⟨rfl, hj.symm⟩
    | succ j => simp at hj
  obtain ⟨rfl, rfl⟩ := hj0
  have hpos : off + i < cells.size := by omega
  simp only [putCells, Array.getElem?_mapIdx, Nat.mul_one, Nat.add_zero]
  rw [Array.getElem?_eq_getElem hpos]
  simp only [Option.map_some, List.size_toArray]
  rw [if_pos ⟨by omega, by omega⟩, Nat.add_sub_cancel_left]
  have e1 : ys.toArray[i]! = y := by
    rw [getElem!_pos _ _ (by simpa using hil)]
    simpa [hil] using hi
  rw [e1]
/-- The same slice, its elements told by other names. -/
theorem sl_map {α β : Type} {E sz : Nat} {enc : α → List Value} {enc' : β → List Value} {a : Option Addr} {c : Nat} {xs : List α} (f : α → β) (hf : ∀ x, enc x = enc' (f x)) : ∀ h, sl E sz enc a c xs h → sl E sz enc' a c (xs.map f) h := fun h x => by
  rcases x with ⟨rfl, rfl, rfl⟩ | ⟨b, off, cells, rfl, hp, h1, h2, h3⟩
  · exact .inl ⟨rfl, rfl, rfl⟩
  · refine .inr ⟨b, off, cells, rfl, hp, by simpa using h1, h2, fun i y hi j v hj => ?_⟩
    rw [List.getElem?_map] at hi
    obtain ⟨x, hx, rfl⟩ := Option.map_eq_some_iff.1 hi
    exact h3 i x hx j v (by rw [hf]; exact hj)
end
end Go.Sl
namespace Go.Proofs.Ytmfgemhjepagjaa
open Go Go.Sl Go.Gv Go.Kv Go.Dv Go.Bst Go.Sort
set_option maxRecDepth 100000
theorem sortS_spec (a : Option Addr) (c : Nat) (xs : List ByteArray) (hl : xs.length ≤ 1000) : Ct Try.prog 32 [.slice a xs.length c] [sl 9 1 strC a c xs]
    (fun v hs => v = .tuple #[] ∧ hs = [sl 9 1 strC a c (sortB xs)]) := by
  refine ⟨enters_of Try.func32 (by kernel_rfl) rfl _, fun w0 w R s => ?_⟩
  by_cases he : xs = []
  · subst he
    refine (Any.slices_Sort_string_none Try.laysSortS a c w).mono ?_
    rintro e w' ⟨rfl, rfl⟩
    exact ⟨_, _, rfl, ⟨rfl, rfl⟩, by rw [show sortB [] = [] by simp [sortB]]; exact s⟩
  · obtain ⟨b, off, ha, -⟩ := (SlH.own .hd : SlH w0 ([sl 9 1 strC a c xs] ++ R) 1 strC a xs) w s he
    subst ha
    have s1 : Sat w0 w (sl 9 1 (fun x : List UInt8 => [encStr x]) (some ⟨b, off, none⟩) c (xs.map fun s => s.data.toList) :: R) := Sat.ent s (sl_map (fun s : ByteArray => s.data.toList) fun x => by show [Value.string x] = [Value.string ⟨x.data.toList.toArray⟩]; rw [of_list])
    obtain ⟨hH, hb⟩ := sl1_holds s1
    have hS := Any.slices_Sort_string Try.laysSortS b off c (xs.map fun s => s.data.toList) w hH hb (by simp; omega)
    rw [List.length_map] at hS
    refine hS.mono ?_
    rintro e w' ⟨rfl, n, os, rfl⟩
    refine ⟨_, _, rfl, ⟨rfl, rfl⟩, ?_⟩
    have s2 := sl1_sorted (n := n) (os := os) (ys := (xs.map fun s => s.data.toList).mergeSort fun x y => decide (x ≤ y)) (by rw [List.length_mergeSort]) s1
    exact s2.ent (sl_map (fun l : List UInt8 => (⟨l.toArray⟩ : ByteArray)) fun x => rfl)
theorem sortedS_spec (b m : Nat) (es : List (ByteArray × Option Nat)) (hl : es.length ≤ 1000) :
    Ct Try.prog 26 [.func (.func 33) #[] #[.pointer (some ⟨b, 0, none⟩)]]
      [cl b 49 [.map (some m)], mp strV pv m es] (fun v hs => ∃ a c, v = .slice a (sortB (mkeys es)).length c ∧ hs = [sl 9 1 strC a c (sortB (mkeys es)), mp strV pv m es]) := by
  refine Ct.intro Try.func26 rfl (by kernel_rfl) 9 Try.ntmps26 (Nat.le_of_ble_eq_true rfl) fun w0 R => ?_
  refine Gs.seq ?_
  refine Gs.reg ?_
  refine Go.Sl.L.pu rfl rfl trivial (pu_assign rfl) ?_
  refine Go.Sl.L.nil ?_
  refine Gs.then_n ?_
  refine Gs.seq ?_
  refine Gs.reg ?_
  refine Go.Sl.L.pu rfl rfl trivial (pu_move rfl) ?_
  refine Go.Sl.L.ac rfl rfl trivial (as_call (s_collect_spec b m es hl) (by repeat constructor) (by repeat constructor)) ?_
  rintro _ _ ⟨_, ⟨xs, a, c, hp, rfl, rfl⟩, rfl⟩
  refine Go.Sl.L.pu rfl rfl trivial (pu_assign rfl) ?_
  refine Go.Sl.L.nil ?_
  have hxl : xs.length ≤ 1000 := by rw [hp.length_eq]; simp [mkeys]; exact hl
  have hss : sortB xs = sortB (mkeys es) := sortB_of_perm hp
  refine Gs.then_n ?_
  refine Gs.seq ?_
  refine Gs.reg ?_
  refine Go.Sl.L.pu rfl rfl trivial (pu_move rfl) ?_
  refine Go.Sl.L.ac rfl rfl trivial (as_call (sortS_spec a c xs hxl) (by repeat constructor) (by repeat constructor)) ?_
  rintro _ _ ⟨_, ⟨rfl, rfl⟩, rfl⟩
  refine Go.Sl.L.nil ?_
  rw [hss]
  refine Gs.then_n ?_
  refine Gs.seq ?_
  refine Gs.reg ?_
  refine Go.Sl.L.pu rfl rfl trivial (pu_move rfl) ?_
  refine Go.Sl.L.pu rfl rfl trivial (pu_assign rfl) ?_
  refine Go.Sl.L.nil ?_
  refine Gs.then_n ?_
  refine Gs.ret ?_
  exact Gs.fin1 Try.results26 rfl _ (⟨a, c, by rw [← hss, sortB_length], rfl⟩) (by repeat constructor)
theorem names_spec (b : Nat) (most : Int) (D : List Fl) (hD : D.length ≤ 1000) : Ct Try.prog 20 [ptr b] [drv b most D]
    (fun v hs => ∃ a c, v = .slice a (sortB (names D)).length c ∧ hs = [drv b most D, sl 9 1 strC a c (sortB (names D))]) := by
  refine Ct.intro Try.func20 rfl (by kernel_rfl) 11 Try.ntmps20 (Nat.le_of_ble_eq_true rfl) fun w0 R => ?_
  refine Gs.drvOpen (by repeat constructor) fun m P hP hok => ?_
  subst hP
  refine Gs.seq ?_
  refine Gs.reg ?_
  refine Go.Sl.L.pu rfl rfl trivial (pu_assign rfl) ?_
  refine Go.Sl.L.nil ?_
  refine Gs.then_n ?_
  refine Gs.seq ?_
  refine Gs.seq ?_
  refine Gs.reg ?_
  refine Go.Sl.L.pu rfl rfl trivial (pu_move rfl) ?_
  refine Go.Sl.L.pu rfl rfl trivial (pu_eqN Try.underlying24 rfl rfl) ?_
  refine Go.Sl.L.nil ?_
  refine Gs.then_n ?_
  refine Gs.cond_f rfl ?_
  refine Gs.skip ?_
  refine Gs.then_n ?_
  refine Gs.seq ?_
  refine Gs.reg ?_
  refine Go.Sl.L.pu rfl rfl trivial (pu_move rfl) ?_
  refine Go.Sl.L.pu rfl rfl trivial (by first | exact pu_nil rfl | exact pu_nilF rfl) ?_
  refine Go.Sl.L.pu rfl rfl trivial (pu_fa fa_51_1 rfl) ?_
  refine Go.Sl.L.rd rfl rfl trivial (rd_ld na_49 rfl (Rdc.cl1 (by repeat constructor) rfl)) ?_
  refine Go.Sl.L.ac rfl rfl trivial (as_call (s_keysFn_spec m) (by repeat constructor) (by repeat constructor)) ?_
  rintro _ _ ⟨_, ⟨kb, rfl, rfl⟩, rfl⟩
  refine Go.Sl.L.ac rfl rfl trivial (as_call (sortedS_spec kb m (pairs P) (by rw [length_pairs]; exact hD)) (by repeat constructor) (by repeat constructor)) ?_
  rintro _ _ ⟨_, ⟨a, c, rfl, rfl⟩, rfl⟩
  rw [mkeys_pairs]
  refine Go.Sl.L.pu rfl rfl trivial (pu_assign rfl) ?_
  refine Go.Sl.L.nil ?_
  refine Gs.then_n ?_
  refine Gs.ret ?_
  refine Gs.drvClose (P := P) (D := fls P) (by repeat constructor) rfl hok ?_
  exact Gs.fin1 Try.results20 rfl _ (⟨a, c, rfl, rfl⟩) (by repeat constructor)
theorem namesNil_spec : Ct Try.prog 20 [.pointer none] [] (fun v hs => v = .slice none 0 0 ∧ hs = []) := by
  refine Ct.intro Try.func20 rfl (by kernel_rfl) 11 Try.ntmps20 (Nat.le_of_ble_eq_true rfl) fun w0 R => ?_
  refine Gs.seq ?_
  refine Gs.reg ?_
  refine Go.Sl.L.pu rfl rfl trivial (pu_assign rfl) ?_
  refine Go.Sl.L.nil ?_
  refine Gs.then_n ?_
  refine Gs.seq ?_
  refine Gs.seq ?_
  refine Gs.reg ?_
  refine Go.Sl.L.pu rfl rfl trivial (pu_move rfl) ?_
  refine Go.Sl.L.pu rfl rfl trivial (pu_eqN Try.underlying24 rfl rfl) ?_
  refine Go.Sl.L.nil ?_
  refine Gs.then_n ?_
  refine Gs.cond_t rfl ?_
  refine Gs.seq ?_
  refine Gs.reg ?_
  refine Go.Sl.L.pu rfl rfl trivial (pu_assign rfl) ?_
  refine Go.Sl.L.nil ?_
  refine Gs.then_n ?_
  refine Gs.ret ?_
  refine Gs.then_r ?_
  exact Gs.fin1 Try.results20 rfl _ (⟨rfl, rfl⟩) (by repeat constructor)
end Go.Proofs.Ytmfgemhjepagjaa
