/- Sorts, by the kit's contracts: words, places, keys, posts; the words and keys of maps. -/
import Derived.Test.YtmbikfojljnnkaaGreatDoorIxO
import Derived.Test.YtmbikfojljnnkaaGreatDoorIxB
import Derived.Test.YtmbikfojljnnkaaGreatDoorMS
import Derived.Test.YtmbikfojljnnkaaGreatDoorBst
import Derived.Test.YtmbikfojljnnkaaGreatDoorMD
import Derived.Test.YtmbikfojljnnkaaGreatDoorLay
import Derived.Shelf.Sort.Plain
namespace Go.Sl
open Go Go.Sort Go.Proofs
section
variable {α : Type} {w0 w : World} {L : List HProp} {E : Nat} {enc : α → Value} {b off c : Nat} {xs : List α}
theorem sl1_block (s : Sat w0 w (sl E 1 (fun x => [enc x]) (some ⟨b, off, none⟩) c xs :: L)) : ∃ cells, Sat w0 w (pt b (.cells cells E (0, 0)) :: L) ∧ w.heap[b]? = some (.cells cells E (0, 0)) ∧ xs.length ≤ c ∧ off + c ≤ cells.size ∧
    ∀ i x, xs[i]? = some x → cells[off + i]? = some (enc x) := by
  obtain ⟨h, le, h1, h2, d, rfl, hs, hl⟩ := s.heap
  rcases hs with ⟨h0, -, -⟩ | ⟨b', off', cells, hb, hp, h3, h4, h5⟩
  · cases h0
  · cases hb
    have s1 : Sat w0 w (pt b (.cells cells E (0, 0)) :: L) := ⟨s.os, s.tape, s.output, s.size, _, le, h1, h2, d, rfl, hp, hl⟩
    exact ⟨cells, s1, s1.pt, h3, by omega, fun i x hi => by have := h5 i x hi 0 (enc x) rfl; simpa using this⟩
variable [Inhabited α]
theorem sl1_holds (s : Sat w0 w (sl E 1 (fun x => [enc x]) (some ⟨b, off, none⟩) c xs :: L)) : Holds enc w b off xs.toArray ∧ b < w.heap.size := by
  obtain ⟨cells, -, hb, h3, h4, h5⟩ := sl1_block s
  refine ⟨fun j hj => ?_, (Array.getElem?_eq_some_iff.1 hb).1⟩
  simp only [List.size_toArray] at hj
  have hx : xs[j]? = some xs[j] := by simp [hj]
  have hc := h5 _ _ hx
  have e1 : xs.toArray[j]! = xs[j] := by rw [getElem!_pos _ _ (by simpa using hj)]; simp
  refine ⟨?_, by simp [World.frozen?, hb]⟩
  rw [e1]
  simpa [World.cell?, hb] using hc
theorem sl1_sorted {ys : List α} {n : Nat} {os : Array Obj} (hl : ys.length = xs.length) (s : Sat w0 w (sl E 1 (fun x => [enc x]) (some ⟨b, off, none⟩) c xs :: L)) :
    Sat w0 (grow (putRow enc (Sort.ahead w n) b off ys.toArray) os) (sl E 1 (fun x => [enc x]) (some ⟨b, off, none⟩) c ys :: L) := by
  obtain ⟨cells, s1, hb, h3, h4, h5⟩ := sl1_block s
  have hblt := (Array.getElem?_eq_some_iff.1 hb).1
  have hsz : (putRow enc (Sort.ahead w n) b off ys.toArray).heap.size = w.heap.size := by simp [putRow, mapBlock, Sort.ahead]
  have hnew : (grow (putRow enc (Sort.ahead w n) b off ys.toArray) os).heap[b]? = some (.cells (putCells enc off ys.toArray cells) E (0, 0)) := by
    rw [heap_grow_old _ _ (by rw [hsz]; exact hblt)]
    simp [putRow, mapBlock, Sort.ahead, Array.getElem?_modify, hb, onCells]
  have hold : ∀ k, k ≠ b → k < w.heap.size → (grow (putRow enc (Sort.ahead w n) b off ys.toArray) os).heap[k]? = w.heap[k]? := fun k hk hlt => by
    rw [heap_grow_old _ _ (by rw [hsz]; exact hlt)]
    have : b ≠ k := fun e => hk e.symm
    simp [putRow, mapBlock, Sort.ahead, Array.getElem?_modify, this]
  refine (s1.write (w' := grow (putRow enc (Sort.ahead w n) b off ys.toArray) os) rfl rfl rfl (by show w.heap.size ≤ ((putRow enc (Sort.ahead w n) b off ys.toArray).heap ++ os).size; rw [Array.size_append, hsz]; omega) hnew hold).ent fun hh hp => .inr ⟨b, off, _, rfl, hp, by omega, by simp [putCells]; omega, fun i y hi j v hj => ?_⟩
  have hil : i < ys.length := (List.getElem?_eq_some_iff.1 hi).1
  have hj0 : j = 0 ∧ v = enc y := by
    cases j with
    | zero => simp at hj; exact ⟨rfl, hj.symm⟩
    | succ j => simp at hj
  obtain ⟨rfl, rfl⟩ := hj0
  have hpos : off + i < cells.size := by omega
  simp only [putCells, Array.getElem?_mapIdx, Nat.mul_one, Nat.add_zero]
  rw [Array.getElem?_eq_getElem hpos]
  simp only [Option.map_some, List.size_toArray]
  rw [if_pos ⟨by omega, by omega⟩, Nat.add_sub_cancel_left]
  have e1 : ys.toArray[i]! = y := by
    rw [getElem!_pos _ _ (by simpa using hil)]
    simpa [hil] using hi
  rw [e1]
/-- The same slice, its elements told by other names. -/
theorem sl_map {α β : Type} {E sz : Nat} {enc : α → List Value} {enc' : β → List Value} {a : Option Addr} {c : Nat} {xs : List α} (f : α → β) (hf : ∀ x, enc x = enc' (f x)) : ∀ h, sl E sz enc a c xs h → sl E sz enc' a c (xs.map f) h := fun h x => by
  rcases x with ⟨rfl, rfl, rfl⟩ | ⟨b, off, cells, rfl, hp, h1, h2, h3⟩
  · exact .inl ⟨rfl, rfl, rfl⟩
  · refine .inr ⟨b, off, cells, rfl, hp, by simpa using h1, h2, fun i y hi j v hj => ?_⟩
    rw [List.getElem?_map] at hi
    obtain ⟨x, hx, rfl⟩ := Option.map_eq_some_iff.1 hi
    exact h3 i x hx j v (by rw [hf]; exact hj)
end
end Go.Sl
namespace Go.Ix
open Go Go.Sl Go.Gv Go.Kv Go.Po
/-- Places, rising. -/
def sortI (l : List Int) : List Int := l.mergeSort fun x y => decide (x ≤ y)
theorem sortI_length {l : List Int} : (sortI l).length = l.length := List.length_mergeSort ..
theorem sortI_perm (l : List Int) : List.Perm (sortI l) l := List.mergeSort_perm ..
end Go.Ix
namespace Go.Proofs
open Go.Shelf
namespace YtmbikfojljnnkaaGreatDoor
open Go Go.Sl Go.Gv Go.Kv Go.Bst Go.Sort Go.Po Go.Ix
set_option maxRecDepth 100000
instance : Inhabited Key := ⟨⟨0, 0⟩⟩
instance : Inhabited PostV := ⟨⟨⟨0, 0⟩, ⟨none, [], 0⟩⟩⟩
theorem sortS_spec (a : Option Addr) (c : Nat) (xs : List ByteArray) (hl : xs.length ≤ 1000000) : Ct Tryz.prog 74 [.slice a xs.length c] [sl 9 1 strC a c xs]
    (fun v hs => v = .tuple #[] ∧ hs = [sl 9 1 strC a c (sortB xs)]) := by
  refine ⟨enters_of Tryz.func74 (by kernel_rfl) rfl _, fun w0 w R s => ?_⟩
  by_cases he : xs = []
  · subst he
    refine (Any.slices_Sort_string_none Tryz.laysSortS a c w).mono ?_
    rintro e w' ⟨rfl, rfl⟩
    exact ⟨_, _, rfl, ⟨rfl, rfl⟩, by rw [show sortB [] = [] by simp [sortB]]; exact s⟩
  · obtain ⟨b, off, ha, -⟩ := (SlH.own .hd : SlH w0 ([sl 9 1 strC a c xs] ++ R) 1 strC a xs) w s he
    subst ha
    have s1 : Sat w0 w (sl 9 1 (fun x : List UInt8 => [encStr x]) (some ⟨b, off, none⟩) c (xs.map fun s => s.data.toList) :: R) := Sat.ent s (sl_map (fun s : ByteArray => s.data.toList) fun x => by show [Value.string x] = [Value.string ⟨x.data.toList.toArray⟩]; rw [of_list])
    obtain ⟨hH, hb⟩ := sl1_holds s1
    have hS := Any.slices_Sort_string Tryz.laysSortS b off c (xs.map fun s => s.data.toList) w hH hb (by simp; omega)
    rw [List.length_map] at hS
    refine hS.mono ?_
    rintro e w' ⟨rfl, n, os, rfl⟩
    refine ⟨_, _, rfl, ⟨rfl, rfl⟩, ?_⟩
    have s2 := sl1_sorted (n := n) (os := os) (ys := (xs.map fun s => s.data.toList).mergeSort fun x y => decide (x ≤ y)) (by rw [List.length_mergeSort]) s1
    exact s2.ent (sl_map (fun l : List UInt8 => (⟨l.toArray⟩ : ByteArray)) fun x => rfl)
theorem sortI_spec (a : Option Addr) (c : Nat) (xs : List Int) (hl : xs.length ≤ 1000000000000) : Ct Tryz.prog 39 [.slice a xs.length c] [sl 3 1 intC a c xs]
    (fun v hs => v = .tuple #[] ∧ hs = [sl 3 1 intC a c (sortI xs)]) := by
  refine ⟨enters_of Tryz.func39 (by kernel_rfl) rfl _, fun w0 w R s => ?_⟩
  by_cases he : xs = []
  · subst he
    refine (Any.slices_Sort_int_none Tryz.laysSortI a c w).mono ?_
    rintro e w' ⟨rfl, rfl⟩
    exact ⟨_, _, rfl, ⟨rfl, rfl⟩, by rw [show sortI [] = [] from List.mergeSort_nil]; exact s⟩
  · obtain ⟨b, off, ha, -⟩ := (SlH.own .hd : SlH w0 ([sl 3 1 intC a c xs] ++ R) 1 intC a xs) w s he
    subst ha
    have s1 : Sat w0 w (sl 3 1 (fun x : Int => [Value.int .i64 x]) (some ⟨b, off, none⟩) c xs :: R) := s
    obtain ⟨hH, hb⟩ := sl1_holds s1
    have hS := Any.slices_Sort_int Tryz.laysSortI b off c xs w hH hb (by omega)
    refine hS.mono ?_
    rintro e w' ⟨rfl, n, os, rfl⟩
    exact ⟨_, _, rfl, ⟨rfl, rfl⟩, sl1_sorted (n := n) (os := os) (ys := xs.mergeSort fun x y => decide (x ≤ y)) (by rw [List.length_mergeSort]) s1⟩
def cfI (a b : Key) : Int := ordZ a b
theorem ltOf_cfI (x y : Key) : ltOf cfI x y = before x y := by
  unfold ltOf cfI; exact ordZ_lt
theorem swo_keyI : SWO (ltOf cfI) where
  irrefl x := by rw [ltOf_cfI]; exact before_irr
  trans x y z h1 h2 := by rw [ltOf_cfI] at *; exact before_trans h1 h2
  ntrans x y z h1 h2 := by rw [ltOf_cfI] at *; rw [before_not] at *; omega
theorem tot_keyI (x y : Key) (h1 : ltOf cfI x y = false) (h2 : ltOf cfI y x = false) : x = y := by
  rw [ltOf_cfI] at *; rw [before_not] at *
  cases x; cases y; simp at *; omega
theorem sortKI_spec (a : Option Addr) (c : Nat) (xs : List Key) (hl : xs.length ≤ 100000) (hn : xs.Nodup) : Ct Tryz.prog 92 [.slice a xs.length c, .func (.func 42) #[] #[]] [sl 31 2 keyC a c xs]
    (fun v hs => v = .tuple #[] ∧ hs = [sl 31 2 keyC a c (sortK xs)]) := by
  refine ⟨enters_of Tryz.func92 (by kernel_rfl) rfl _, fun w0 w R s => ?_⟩
  by_cases he : xs = []
  · subst he
    refine (AnyF.slices_SortFunc_none { Tryz.sortKeys with } a c (.func (.func 42) #[] #[]) w).mono ?_
    rintro e w' ⟨rfl, rfl⟩
    exact ⟨_, _, rfl, ⟨rfl, rfl⟩, s⟩
  · obtain ⟨b, off, ha, -⟩ := (SlH.own .hd : SlH w0 ([sl 31 2 keyC a c xs] ++ R) 2 keyC a xs) w s he
    subst ha
    obtain ⟨hH, hb⟩ := sl_holds ek_31 s
    have eg : ∀ args w, (callFunc 42 args).run Tryz.prog w = .ok (.enter 42 args) w := enters_of Tryz.func42 (by kernel_rfl) rfl
    have hS := AnyQ.slices_SortFunc_total (P := Tryz.prog) { Tryz.sortKeys with } 2 Tryz.isAgg31 Tryz.sizeOf31 keyC (fun _ => rfl) ek_31.one cfI swo_keyI 42 #[] b off c xs.toArray w eg
      (fun m os dk _ x y => (orderI_exact x.o x.q y.o y.q _).mono fun e w' ⟨h1, os', h2⟩ => ⟨h1, 0, os', h2⟩) hH hb (by simp; omega) tot_keyI
    refine hS.mono ?_
    rintro e w' ⟨rfl, n, os, rfl⟩
    refine ⟨_, _, rfl, ⟨rfl, rfl⟩, ?_⟩
    have hm : (xs.toArray.toList.mergeSort fun x y => !(ltOf cfI) y x) = sortK xs := by
      have e : (fun x y : Key => !(ltOf cfI) y x) = fun x y => !before y x := by funext x y; rw [ltOf_cfI]
      rw [e]; exact sort_merge xs hn
    rw [hm]
    exact sl_sorted ek_31 sortK_length s
def cfP (a b : PostV) : Int := ordZ a.k b.k
theorem ltOf_cfP (x y : PostV) : ltOf cfP x y = before x.k y.k := by
  unfold ltOf cfP; exact ordZ_lt
theorem swo_postI : SWO (ltOf cfP) where
  irrefl x := by rw [ltOf_cfP]; exact before_irr
  trans x y z h1 h2 := by rw [ltOf_cfP] at *; exact before_trans h1 h2
  ntrans x y z h1 h2 := by rw [ltOf_cfP] at *; rw [before_not] at *; omega
theorem sortPI_spec (a : Option Addr) (c : Nat) (xs : List PostV) (hl : xs.length ≤ 1000000000000) : Ct Tryz.prog 40 [.slice a xs.length c, .func (.func 41) #[] #[]] [sl 66 3 postC a c xs]
    (fun v hs => v = .tuple #[] ∧ ∃ ys, List.Perm ys xs ∧ (ys.Pairwise fun p q => before q.k p.k = false) ∧ hs = [sl 66 3 postC a c ys]) := by
  refine ⟨enters_of Tryz.func40 (by kernel_rfl) rfl _, fun w0 w R s => ?_⟩
  by_cases he : xs = []
  · subst he
    refine (AnyF.slices_SortFunc_none { Tryz.sortPosts with } a c (.func (.func 41) #[] #[]) w).mono ?_
    rintro e w' ⟨rfl, rfl⟩
    exact ⟨_, _, rfl, ⟨rfl, [], List.Perm.refl _, List.Pairwise.nil, rfl⟩, s⟩
  · obtain ⟨b, off, ha, -⟩ := (SlH.own .hd : SlH w0 ([sl 66 3 postC a c xs] ++ R) 3 postC a xs) w s he
    subst ha
    obtain ⟨hH, hb⟩ := sl_holds ek_66 s
    have eg : ∀ args w, (callFunc 41 args).run Tryz.prog w = .ok (.enter 41 args) w := enters_of Tryz.func41 (by kernel_rfl) rfl
    have hS := AnyQ.slices_SortFunc (P := Tryz.prog) { Tryz.sortPosts with } 3 Tryz.isAgg66 Tryz.sizeOf66 postC (fun _ => rfl) ek_66.one cfP swo_postI 41 #[] b off c xs.toArray w eg
      (fun m os dk _ x y => (prefix1_exact x.k.o x.k.q y.k.o y.k.q (.slice x.t.a x.t.xs.length x.t.c) (.slice y.t.a y.t.xs.length y.t.c) rfl rfl _).mono fun e w' ⟨h1, os', h2⟩ => ⟨h1, 0, os', h2⟩) hH hb (by simp; omega)
    refine hS.mono ?_
    rintro e w' ⟨rfl, d', n, os, ⟨hsz, -, hperm⟩, hso, rfl⟩
    have e1 : d'.extract 0 xs.toArray.size = d' := by rw [← hsz]; exact Array.extract_size
    rw [e1, Array.extract_size] at hperm
    have hlen : d'.toList.length = xs.length := by simpa using hsz
    refine ⟨_, _, rfl, ⟨rfl, d'.toList, by simpa using hperm, ?_, rfl⟩, ?_⟩
    · rw [List.pairwise_iff_getElem]
      intro i j hi hj hij
      have hi' : i < d'.size := by simpa using hi
      have hj' : j < d'.size := by simpa using hj
      have := hso i j (Nat.zero_le _) hij (by omega)
      rw [getElem!_pos d' j hj', getElem!_pos d' i hi', ltOf_cfP] at this
      simpa using this
    · have := sl_sorted (n := n) (os := os) (ys := d'.toList) ek_66 hlen s
      rw [Array.toArray_toList] at this
      exact this
theorem sortedT_spec (b m : Nat) (es : List (ByteArray × SlV Int)) (hl : es.length ≤ 100000) :
    Ct Tryz.prog 34 [.func (.func 75) #[] #[.pointer (some ⟨b, 0, none⟩)]]
      [cl b 76 [.map (some m)], mp strV slV m es] (fun v hs => ∃ a c, v = .slice a (sortB (mkeys es)).length c ∧ hs = [sl 9 1 strC a c (sortB (mkeys es)), mp strV slV m es]) := by
  refine Ct.intro Tryz.func34 rfl (by kernel_rfl) 9 Tryz.ntmps34 (Nat.le_of_ble_eq_true rfl) fun w0 R => ?_
  refine Gs.seq ?_
  refine Gs.reg ?_
  refine Go.Sl.L.pu rfl rfl trivial (pu_assign rfl) ?_
  refine Go.Sl.L.nil ?_
  refine Gs.then_n ?_
  refine Gs.seq ?_
  refine Gs.reg ?_
  refine Go.Sl.L.pu rfl rfl trivial (pu_move rfl) ?_
  refine Go.Sl.L.ac rfl rfl trivial (as_call (t_collect_spec b m es hl) (by repeat constructor) (by repeat constructor)) ?_
  rintro _ _ ⟨_, ⟨xs, a, c, hp, rfl, rfl⟩, rfl⟩
  refine Go.Sl.L.pu rfl rfl trivial (pu_assign rfl) ?_
  refine Go.Sl.L.nil ?_
  have hxl : xs.length ≤ 100000 := by rw [hp.length_eq]; simp [mkeys]; exact hl
  have hss : sortB xs = sortB (mkeys es) := sortB_of_perm hp
  refine Gs.then_n ?_
  refine Gs.seq ?_
  refine Gs.reg ?_
  refine Go.Sl.L.pu rfl rfl trivial (pu_move rfl) ?_
  refine Go.Sl.L.ac rfl rfl trivial (as_call (sortS_spec a c xs (by omega)) (by repeat constructor) (by repeat constructor)) ?_
  rintro _ _ ⟨_, ⟨rfl, rfl⟩, rfl⟩
  refine Go.Sl.L.nil ?_
  rw [hss]
  refine Gs.then_n ?_
  refine Gs.seq ?_
  refine Gs.reg ?_
  refine Go.Sl.L.pu rfl rfl trivial (pu_move rfl) ?_
  refine Go.Sl.L.pu rfl rfl trivial (pu_assign rfl) ?_
  refine Go.Sl.L.nil ?_
  refine Gs.then_n ?_
  refine Gs.ret ?_
  exact Gs.fin1 Tryz.results34 rfl _ (⟨a, c, by rw [← hss, sortB_length], rfl⟩) (by repeat constructor)
theorem sortedL_spec (b m : Nat) (es : List (ByteArray × SlV PostV)) (hl : es.length ≤ 100000) :
    Ct Tryz.prog 34 [.func (.func 94) #[] #[.pointer (some ⟨b, 0, none⟩)]]
      [cl b 69 [.map (some m)], mp strV slV m es] (fun v hs => ∃ a c, v = .slice a (sortB (mkeys es)).length c ∧ hs = [sl 9 1 strC a c (sortB (mkeys es)), mp strV slV m es]) := by
  refine Ct.intro Tryz.func34 rfl (by kernel_rfl) 9 Tryz.ntmps34 (Nat.le_of_ble_eq_true rfl) fun w0 R => ?_
  refine Gs.seq ?_
  refine Gs.reg ?_
  refine Go.Sl.L.pu rfl rfl trivial (pu_assign rfl) ?_
  refine Go.Sl.L.nil ?_
  refine Gs.then_n ?_
  refine Gs.seq ?_
  refine Gs.reg ?_
  refine Go.Sl.L.pu rfl rfl trivial (pu_move rfl) ?_
  refine Go.Sl.L.ac rfl rfl trivial (as_call (l_collect_spec b m es hl) (by repeat constructor) (by repeat constructor)) ?_
  rintro _ _ ⟨_, ⟨xs, a, c, hp, rfl, rfl⟩, rfl⟩
  refine Go.Sl.L.pu rfl rfl trivial (pu_assign rfl) ?_
  refine Go.Sl.L.nil ?_
  have hxl : xs.length ≤ 100000 := by rw [hp.length_eq]; simp [mkeys]; exact hl
  have hss : sortB xs = sortB (mkeys es) := sortB_of_perm hp
  refine Gs.then_n ?_
  refine Gs.seq ?_
  refine Gs.reg ?_
  refine Go.Sl.L.pu rfl rfl trivial (pu_move rfl) ?_
  refine Go.Sl.L.ac rfl rfl trivial (as_call (sortS_spec a c xs (by omega)) (by repeat constructor) (by repeat constructor)) ?_
  rintro _ _ ⟨_, ⟨rfl, rfl⟩, rfl⟩
  refine Go.Sl.L.nil ?_
  rw [hss]
  refine Gs.then_n ?_
  refine Gs.seq ?_
  refine Gs.reg ?_
  refine Go.Sl.L.pu rfl rfl trivial (pu_move rfl) ?_
  refine Go.Sl.L.pu rfl rfl trivial (pu_assign rfl) ?_
  refine Go.Sl.L.nil ?_
  refine Gs.then_n ?_
  refine Gs.ret ?_
  exact Gs.fin1 Tryz.results34 rfl _ (⟨a, c, by rw [← hss, sortB_length], rfl⟩) (by repeat constructor)
theorem sortedW_spec (b m : Nat) (es : List (Key × SlV ByteArray)) (hl : es.length ≤ 100000) (hn : (mkeys es).Nodup) :
    Ct Tryz.prog 51 [.func (.func 93) #[] #[.pointer (some ⟨b, 0, none⟩)], .func (.func 42) #[] #[]]
      [cl b 70 [.map (some m)], mp keyV slV m es] (fun v hs => ∃ a c, v = .slice a (sortK (mkeys es)).length c ∧ hs = [sl 31 2 keyC a c (sortK (mkeys es)), mp keyV slV m es]) := by
  refine Ct.intro Tryz.func51 rfl (by kernel_rfl) 12 Tryz.ntmps51 (Nat.le_of_ble_eq_true rfl) fun w0 R => ?_
  refine Gs.seq ?_
  refine Gs.reg ?_
  refine Go.Sl.L.pu rfl rfl trivial (pu_assign rfl) ?_
  refine Go.Sl.L.nil ?_
  refine Gs.then_n ?_
  refine Gs.seq ?_
  refine Gs.reg ?_
  refine Go.Sl.L.pu rfl rfl trivial (pu_move rfl) ?_
  refine Go.Sl.L.ac rfl rfl trivial (as_call (w_collect_spec b m es hl) (by repeat constructor) (by repeat constructor)) ?_
  rintro _ _ ⟨_, ⟨xs, a, c, hp, rfl, rfl⟩, rfl⟩
  refine Go.Sl.L.pu rfl rfl trivial (pu_assign rfl) ?_
  refine Go.Sl.L.nil ?_
  have hxl : xs.length ≤ 100000 := by rw [hp.length_eq]; simp [mkeys]; exact hl
  have hxn : xs.Nodup := hp.nodup_iff.2 hn
  have hss : sortK xs = sortK (mkeys es) := sortK_of hxn (sortK_asc hn) ((sortK_perm _).trans hp.symm)
  refine Gs.then_n ?_
  refine Gs.seq ?_
  refine Gs.reg ?_
  refine Go.Sl.L.pu rfl rfl trivial (pu_move rfl) ?_
  refine Go.Sl.L.pu rfl rfl trivial (pu_move rfl) ?_
  refine Go.Sl.L.ac rfl rfl trivial (as_call (sortKI_spec a c xs (by omega) hxn) (by repeat constructor) (by repeat constructor)) ?_
  rintro _ _ ⟨_, ⟨rfl, rfl⟩, rfl⟩
  refine Go.Sl.L.nil ?_
  rw [hss]
  refine Gs.then_n ?_
  refine Gs.seq ?_
  refine Gs.reg ?_
  refine Go.Sl.L.pu rfl rfl trivial (pu_move rfl) ?_
  refine Go.Sl.L.pu rfl rfl trivial (pu_assign rfl) ?_
  refine Go.Sl.L.nil ?_
  refine Gs.then_n ?_
  refine Gs.ret ?_
  exact Gs.fin1 Tryz.results51 rfl _ (⟨a, c, by rw [← hss, sortK_length], rfl⟩) (by repeat constructor)
theorem words_spec (x : Nat) (L : List (ByteArray × SlV PostV)) (W : List (Key × SlV ByteArray)) (hl : L.length ≤ 100000) :
    Ct Tryz.prog 26 [ptr x] [ixA x L W] (fun v hs => ∃ a c, v = .slice a (sortB (mkeys L)).length c ∧ hs = [ixA x L W, sl 9 1 strC a c (sortB (mkeys L))]) := by
  refine Ct.intro Tryz.func26 rfl (by kernel_rfl) 11 Tryz.ntmps26 (Nat.le_of_ble_eq_true rfl) fun w0 R => ?_
  refine Gs.ix fun ml mw S hL hW => ?_
  refine Gs.seq ?_
  refine Gs.reg ?_
  refine Go.Sl.L.pu rfl rfl trivial (pu_assign rfl) ?_
  refine Go.Sl.L.nil ?_
  refine Gs.then_n ?_
  refine Gs.seq ?_
  refine Gs.seq ?_
  refine Gs.reg ?_
  refine Go.Sl.L.pu rfl rfl trivial (pu_move rfl) ?_
  refine Go.Sl.L.pu rfl rfl trivial (pu_eqN Tryz.underlying25 rfl rfl) ?_
  refine Go.Sl.L.nil ?_
  refine Gs.then_n ?_
  refine Gs.cond_ff rfl rfl ?_
  refine Gs.skip ?_
  refine Gs.then_n ?_
  refine Gs.seq ?_
  refine Gs.reg ?_
  refine Go.Sl.L.pu rfl rfl trivial (pu_move rfl) ?_
  refine Go.Sl.L.pu rfl rfl trivial (by first | exact pu_nil rfl | exact pu_nilF rfl) ?_
  refine Go.Sl.L.pu rfl rfl trivial (pu_fa fa_72_0 rfl) ?_
  refine Go.Sl.L.rd rfl rfl trivial (rd_ld na_69 rfl (Rdc.cl1 (by repeat constructor) rfl)) ?_
  refine Go.Sl.L.ac rfl rfl trivial (as_call (l_keysFn_spec ml) (by repeat constructor) (by repeat constructor)) ?_
  rintro _ _ ⟨_, ⟨fb, rfl, rfl⟩, rfl⟩
  refine Go.Sl.L.ac rfl rfl trivial (as_call (sortedL_spec fb ml L hl) (by repeat constructor) (by repeat constructor)) ?_
  rintro _ _ ⟨_, ⟨sa, sc, rfl, rfl⟩, rfl⟩
  refine Go.Sl.L.pu rfl rfl trivial (pu_assign rfl) ?_
  refine Go.Sl.L.nil ?_
  refine Gs.then_n ?_
  refine Gs.ret ?_
  refine Gs.takes (As := [cl x 72 [.map (some ml), .map (some mw)], mp strV slV ml L, mp keyV slV mw W, S]) (by repeat constructor) (Gs.ixc hL hW ?_)
  exact Gs.fin1 Tryz.results26 rfl _ (⟨sa, sc, rfl, rfl⟩) (by repeat constructor)
theorem wordsN_spec : Ct Tryz.prog 26 [.pointer none] [] (fun v hs => v = .slice none 0 0 ∧ hs = []) := by
  refine Ct.intro Tryz.func26 rfl (by kernel_rfl) 11 Tryz.ntmps26 (Nat.le_of_ble_eq_true rfl) fun w0 R => ?_
  refine Gs.seq ?_
  refine Gs.reg ?_
  refine Go.Sl.L.pu rfl rfl trivial (pu_assign rfl) ?_
  refine Go.Sl.L.nil ?_
  refine Gs.then_n ?_
  refine Gs.seq ?_
  refine Gs.seq ?_
  refine Gs.reg ?_
  refine Go.Sl.L.pu rfl rfl trivial (pu_move rfl) ?_
  refine Go.Sl.L.pu rfl rfl trivial (pu_eqN Tryz.underlying25 rfl rfl) ?_
  refine Go.Sl.L.nil ?_
  refine Gs.then_n ?_
  refine Gs.cond_tt rfl rfl ?_
  refine Gs.seq ?_
  refine Gs.reg ?_
  refine Go.Sl.L.pu rfl rfl trivial (pu_assign rfl) ?_
  refine Go.Sl.L.nil ?_
  refine Gs.then_n ?_
  refine Gs.ret ?_
  refine Gs.then_r ?_
  exact Gs.fin1 Tryz.results26 rfl _ (⟨rfl, rfl⟩) (by repeat constructor)
theorem keys_spec (x : Nat) (L : List (ByteArray × SlV PostV)) (W : List (Key × SlV ByteArray)) (hl : W.length ≤ 100000) :
    Ct Tryz.prog 23 [ptr x] [ixA x L W] (fun v hs => ∃ a c, v = .slice a (sortK (mkeys W)).length c ∧ hs = [ixA x L W, sl 31 2 keyC a c (sortK (mkeys W))]) := by
  refine Ct.intro Tryz.func23 rfl (by kernel_rfl) 11 Tryz.ntmps23 (Nat.le_of_ble_eq_true rfl) fun w0 R => ?_
  refine Gs.ix fun ml mw S hL hW => ?_
  refine Gs.mpNodup (enck := keyV) (encv := (slV : SlV ByteArray → Value)) (b := mw) (m := W) (by repeat constructor) fun hn => ?_
  refine Gs.seq ?_
  refine Gs.reg ?_
  refine Go.Sl.L.pu rfl rfl trivial (pu_assign rfl) ?_
  refine Go.Sl.L.nil ?_
  refine Gs.then_n ?_
  refine Gs.seq ?_
  refine Gs.seq ?_
  refine Gs.reg ?_
  refine Go.Sl.L.pu rfl rfl trivial (pu_move rfl) ?_
  refine Go.Sl.L.pu rfl rfl trivial (pu_eqN Tryz.underlying25 rfl rfl) ?_
  refine Go.Sl.L.nil ?_
  refine Gs.then_n ?_
  refine Gs.cond_ff rfl rfl ?_
  refine Gs.skip ?_
  refine Gs.then_n ?_
  refine Gs.seq ?_
  refine Gs.reg ?_
  refine Go.Sl.L.pu rfl rfl trivial (pu_move rfl) ?_
  refine Go.Sl.L.pu rfl rfl trivial (by first | exact pu_nil rfl | exact pu_nilF rfl) ?_
  refine Go.Sl.L.pu rfl rfl trivial (pu_fa fa_72_1 rfl) ?_
  refine Go.Sl.L.rd rfl rfl trivial (rd_ld na_70 rfl (Rdc.cl1 (by repeat constructor) rfl)) ?_
  refine Go.Sl.L.ac rfl rfl trivial (as_call (w_keysFn_spec mw) (by repeat constructor) (by repeat constructor)) ?_
  rintro _ _ ⟨_, ⟨fb, rfl, rfl⟩, rfl⟩
  refine Go.Sl.L.ac rfl rfl trivial (as_call (sortedW_spec fb mw W hl hn) (by repeat constructor) (by repeat constructor)) ?_
  rintro _ _ ⟨_, ⟨sa, sc, rfl, rfl⟩, rfl⟩
  refine Go.Sl.L.pu rfl rfl trivial (pu_assign rfl) ?_
  refine Go.Sl.L.nil ?_
  refine Gs.then_n ?_
  refine Gs.ret ?_
  refine Gs.takes (As := [cl x 72 [.map (some ml), .map (some mw)], mp strV slV ml L, mp keyV slV mw W, S]) (by repeat constructor) (Gs.ixc hL hW ?_)
  exact Gs.fin1 Tryz.results23 rfl _ (⟨sa, sc, rfl, rfl⟩) (by repeat constructor)
theorem keysN_spec : Ct Tryz.prog 23 [.pointer none] [] (fun v hs => v = .slice none 0 0 ∧ hs = []) := by
  refine Ct.intro Tryz.func23 rfl (by kernel_rfl) 11 Tryz.ntmps23 (Nat.le_of_ble_eq_true rfl) fun w0 R => ?_
  refine Gs.seq ?_
  refine Gs.reg ?_
  refine Go.Sl.L.pu rfl rfl trivial (pu_assign rfl) ?_
  refine Go.Sl.L.nil ?_
  refine Gs.then_n ?_
  refine Gs.seq ?_
  refine Gs.seq ?_
  refine Gs.reg ?_
  refine Go.Sl.L.pu rfl rfl trivial (pu_move rfl) ?_
  refine Go.Sl.L.pu rfl rfl trivial (pu_eqN Tryz.underlying25 rfl rfl) ?_
  refine Go.Sl.L.nil ?_
  refine Gs.then_n ?_
  refine Gs.cond_tt rfl rfl ?_
  refine Gs.seq ?_
  refine Gs.reg ?_
  refine Go.Sl.L.pu rfl rfl trivial (pu_assign rfl) ?_
  refine Go.Sl.L.nil ?_
  refine Gs.then_n ?_
  refine Gs.ret ?_
  refine Gs.then_r ?_
  exact Gs.fin1 Tryz.results23 rfl _ (⟨rfl, rfl⟩) (by repeat constructor)
end YtmbikfojljnnkaaGreatDoor
end Go.Proofs
