/- What the closing leans on: part 8. -/
import Derived.Test.YtklgiidfompdpaaGreatDoorXg
import Derived.Test.YtklgiidfompdpaaGreatDoorXc
import Derived.Shelf.Sort.Plain
import Derived.Test.YtklgiidfompdpaaGreatDoorXf
import Derived.WalkKit
import Derived.BigCall
import Derived.Lib.OthersKept
namespace Go.Sl
open Go Go.Sort Go.Proofs
section
variable {α : Type} {w0 w : World} {L : List HProp} {E : Nat} {enc : α → Value} {b off c : Nat} {xs : List α}
theorem sl1_block (s : Sat w0 w (sl E 1 (fun x => [enc x]) (some ⟨b, off, none⟩) c xs :: L)) : ∃ cells, Sat w0 w (pt b (.cells cells E (0, 0)) :: L) ∧ w.heap[b]? = some (.cells cells E (0, 0)) ∧ xs.length ≤ c ∧ off + c ≤ cells.size ∧
    ∀ i x, xs[i]? = some x → cells[off + i]? = some (enc x) := by
  obtain ⟨h, le, h1, h2, d, rfl, hs, hl⟩ := s.heap
  rcases hs with ⟨h0, -, -⟩ | ⟨b', off', cells, hb, hp, h3, h4, h5⟩
  · cases h0
  · cases hb
    have s1 : Sat w0 w (pt b (.cells cells E (0, 0)) :: L) := ⟨s.os, s.tape, s.output, s.size, _, le, h1, h2, d, rfl, hp, hl⟩
    exact ⟨cells, s1, s1.pt, h3, by omega, fun i x hi => by have := h5 i x hi 0 (enc x) rfl; simpa using this⟩
variable [Inhabited α]
theorem sl1_holds (s : Sat w0 w (sl E 1 (fun x => [enc x]) (some ⟨b, off, none⟩) c xs :: L)) : Holds enc w b off xs.toArray ∧ b < w.heap.size := by
  obtain ⟨cells, -, hb, h3, h4, h5⟩ := sl1_block s
  refine ⟨fun j hj => ?_, (Array.getElem?_eq_some_iff.1 hb).1⟩
  simp only [List.size_toArray] at hj
  have hx : xs[j]? = some xs[j] := by simp [hj]
  have hc := h5 _ _ hx
  have e1 : xs.toArray[j]! = xs[j] := by rw [getElem!_pos _ _ (by simpa using hj)]; simp
  refine ⟨?_, by simp [World.frozen?, hb]⟩
  rw [e1]
  simpa [World.cell?, hb] using hc
theorem sl1_sorted {ys : List α} {n : Nat} {os : Array Obj} (hl : ys.length = xs.length) (s : Sat w0 w (sl E 1 (fun x => [enc x]) (some ⟨b, off, none⟩) c xs :: L)) :
    Sat w0 (grow (putRow enc (Sort.ahead w n) b off ys.toArray) os) (sl E 1 (fun x => [enc x]) (some ⟨b, off, none⟩) c ys :: L) := by
  obtain ⟨cells, s1, hb, h3, h4, h5⟩ := sl1_block s
  have hblt := (Array.getElem?_eq_some_iff.1 hb).1
  have hsz : (putRow enc (Sort.ahead w n) b off ys.toArray).heap.size = w.heap.size := by simp [putRow, mapBlock, Sort.ahead]
  have hnew : (grow (putRow enc (Sort.ahead w n) b off ys.toArray) os).heap[b]? = some (.cells (putCells enc off ys.toArray cells) E (0, 0)) := by
    rw [heap_grow_old _ _ (by rw [hsz]; exact hblt)]
    simp [putRow, mapBlock, Sort.ahead, Array.getElem?_modify, hb, onCells]
  have hold : ∀ k, k ≠ b → k < w.heap.size → (grow (putRow enc (Sort.ahead w n) b off ys.toArray) os).heap[k]? = w.heap[k]? := fun k hk hlt => by
    rw [heap_grow_old _ _ (by rw [hsz]; exact hlt)]
    have : b ≠ k := fun e => hk e.symm
    simp [putRow, mapBlock, Sort.ahead, Array.getElem?_modify, this]
  refine (s1.write (w' := grow (putRow enc (Sort.ahead w n) b off ys.toArray) os) rfl rfl rfl (by show w.heap.size ≤ ((putRow enc (Sort.ahead w n) b off ys.toArray).heap ++ os).size; rw [Array.size_append, hsz]; omega) hnew hold).ent fun hh hp => .inr ⟨b, off, _, rfl, hp, by omega, by simp [putCells]; omega, fun i y hi j v hj => ?_⟩
  have hil : i < ys.length := (List.getElem?_eq_some_iff.1 hi).1
  have hj0 : j = 0 ∧ v = enc y := by
    cases j with
    | zero => simp at hj; exact ⟨rfl, hj.symm⟩
    | succ j => simp at hj
  obtain ⟨rfl, rfl⟩ := hj0
  have hpos : off + i < cells.size := by omega
  simp only [putCells, Array.getElem?_mapIdx, Nat.mul_one, Nat.add_zero]
  rw [Array.getElem?_eq_getElem hpos]
  simp only [Option.map_some, List.size_toArray]
  rw [if_pos ⟨by omega, by omega⟩, Nat.add_sub_cancel_left]
  have e1 : ys.toArray[i]! = y := by
    rw [getElem!_pos _ _ (by simpa using hil)]
    simpa [hil] using hi
  rw [e1]
/-- The same slice, its elements told by other names. -/
theorem sl_map {α β : Type} {E sz : Nat} {enc : α → List Value} {enc' : β → List Value} {a : Option Addr} {c : Nat} {xs : List α} (f : α → β) (hf : ∀ x, enc x = enc' (f x)) : ∀ h, sl E sz enc a c xs h → sl E sz enc' a c (xs.map f) h := fun h x => by
  rcases x with ⟨rfl, rfl, rfl⟩ | ⟨b, off, cells, rfl, hp, h1, h2, h3⟩
  · exact .inl ⟨rfl, rfl, rfl⟩
  · refine .inr ⟨b, off, cells, rfl, hp, by simpa using h1, h2, fun i y hi j v hj => ?_⟩
    rw [List.getElem?_map] at hi
    obtain ⟨x, hx, rfl⟩ := Option.map_eq_some_iff.1 hi
    exact h3 i x hx j v (by rw [hf]; exact hj)
end
end Go.Sl
namespace Go.Ix
open Go Go.Sl Go.Gv Go.Kv Go.Po
/-- Places, rising. -/
def sortI (l : List Int) : List Int := l.mergeSort fun x y => decide (x ≤ y)
theorem sortI_length {l : List Int} : (sortI l).length = l.length := List.length_mergeSort ..
theorem sortI_perm (l : List Int) : List.Perm (sortI l) l := List.mergeSort_perm ..
end Go.Ix
namespace Go.Proofs
open Go.Shelf
namespace YtklgiidfompdpaaGreatDoor
open Go Go.Sl Go.Gv Go.Kv Go.Bst Go.Sort Go.Po Go.Ix
set_option maxRecDepth 100000
instance : Inhabited Key := ⟨⟨0, 0⟩⟩
instance : Inhabited PostV := ⟨⟨⟨0, 0⟩, ⟨none, [], 0⟩⟩⟩
theorem sortS_spec (a : Option Addr) (c : Nat) (xs : List ByteArray) (hl : xs.length ≤ 1000000) : Ct Tryz.prog 97 [.slice a xs.length c] [sl 9 1 strC a c xs]
    (fun v hs => v = .tuple #[] ∧ hs = [sl 9 1 strC a c (sortB xs)]) := by
  refine ⟨enters_of Tryz.func97 (by kernel_rfl) rfl _, fun w0 w R s => ?_⟩
  by_cases he : xs = []
  · subst he
    refine (Any.slices_Sort_string_none Tryz.laysSortS a c w).mono ?_
    rintro e w' ⟨rfl, rfl⟩
    exact ⟨_, _, rfl, ⟨rfl, rfl⟩, by rw [show sortB [] = [] by simp [sortB]]; exact s⟩
  · obtain ⟨b, off, ha, -⟩ := (SlH.own .hd : SlH w0 ([sl 9 1 strC a c xs] ++ R) 1 strC a xs) w s he
    subst ha
    have s1 : Sat w0 w (sl 9 1 (fun x : List UInt8 => [encStr x]) (some ⟨b, off, none⟩) c (xs.map fun s => s.data.toList) :: R) := Sat.ent s (sl_map (fun s : ByteArray => s.data.toList) fun x => by show [Value.string x] = [Value.string ⟨x.data.toList.toArray⟩]; rw [of_list])
    obtain ⟨hH, hb⟩ := sl1_holds s1
    have hS := Any.slices_Sort_string Tryz.laysSortS b off c (xs.map fun s => s.data.toList) w hH hb (by simp; omega)
    rw [List.length_map] at hS
    refine hS.mono ?_
    rintro e w' ⟨rfl, n, os, rfl⟩
    refine ⟨_, _, rfl, ⟨rfl, rfl⟩, ?_⟩
    have s2 := sl1_sorted (n := n) (os := os) (ys := (xs.map fun s => s.data.toList).mergeSort fun x y => decide (x ≤ y)) (by rw [List.length_mergeSort]) s1
    exact s2.ent (sl_map (fun l : List UInt8 => (⟨l.toArray⟩ : ByteArray)) fun x => rfl)
theorem sortI_spec (a : Option Addr) (c : Nat) (xs : List Int) (hl : xs.length ≤ 1000000000000) : Ct Tryz.prog 126 [.slice a xs.length c] [sl 3 1 intC a c xs]
    (fun v hs => v = .tuple #[] ∧ hs = [sl 3 1 intC a c (sortI xs)]) := by
  refine ⟨enters_of Tryz.func126 (by kernel_rfl) rfl _, fun w0 w R s => ?_⟩
  by_cases he : xs = []
  · subst he
    refine (Any.slices_Sort_int_none Tryz.laysSortI a c w).mono ?_
    rintro e w' ⟨rfl, rfl⟩
    exact ⟨_, _, rfl, ⟨rfl, rfl⟩, by rw [show sortI [] = [] from List.mergeSort_nil]; exact s⟩
  · obtain ⟨b, off, ha, -⟩ := (SlH.own .hd : SlH w0 ([sl 3 1 intC a c xs] ++ R) 1 intC a xs) w s he
    subst ha
    have s1 : Sat w0 w (sl 3 1 (fun x : Int => [Value.int .i64 x]) (some ⟨b, off, none⟩) c xs :: R) := s
    obtain ⟨hH, hb⟩ := sl1_holds s1
    have hS := Any.slices_Sort_int Tryz.laysSortI b off c xs w hH hb (by omega)
    refine hS.mono ?_
    rintro e w' ⟨rfl, n, os, rfl⟩
    exact ⟨_, _, rfl, ⟨rfl, rfl⟩, sl1_sorted (n := n) (os := os) (ys := xs.mergeSort fun x y => decide (x ≤ y)) (by rw [List.length_mergeSort]) s1⟩
def cfI (a b : Key) : Int := ordZ a b
theorem ltOf_cfI (x y : Key) : ltOf cfI x y = before x y := by
  unfold ltOf cfI; exact ordZ_lt
theorem swo_keyI : SWO (ltOf cfI) where
  irrefl x := by rw [ltOf_cfI]; exact before_irr
  trans x y z h1 h2 := by rw [ltOf_cfI] at *; exact before_trans h1 h2
  ntrans x y z h1 h2 := by rw [ltOf_cfI] at *; rw [before_not] at *; omega
theorem tot_keyI (x y : Key) (h1 : ltOf cfI x y = false) (h2 : ltOf cfI y x = false) : x = y := by
  rw [ltOf_cfI] at *; rw [before_not] at *
  cases x; cases y; simp at *; omega
theorem sortKI_spec (a : Option Addr) (c : Nat) (xs : List Key) (hl : xs.length ≤ 100000) (hn : xs.Nodup) : Ct Tryz.prog 135 [.slice a xs.length c, .func (.func 82) #[] #[]] [sl 28 2 keyC a c xs]
    (fun v hs => v = .tuple #[] ∧ hs = [sl 28 2 keyC a c (sortK xs)]) := by
  refine ⟨enters_of Tryz.func135 (by kernel_rfl) rfl _, fun w0 w R s => ?_⟩
  by_cases he : xs = []
  · subst he
    refine (AnyF.slices_SortFunc_none { Tryz.sortKeys with } a c (.func (.func 82) #[] #[]) w).mono ?_
    rintro e w' ⟨rfl, rfl⟩
    exact ⟨_, _, rfl, ⟨rfl, rfl⟩, s⟩
  · obtain ⟨b, off, ha, -⟩ := (SlH.own .hd : SlH w0 ([sl 28 2 keyC a c xs] ++ R) 2 keyC a xs) w s he
    subst ha
    obtain ⟨hH, hb⟩ := sl_holds ek_28 s
    have eg : ∀ args w, (callFunc 82 args).run Tryz.prog w = .ok (.enter 82 args) w := enters_of Tryz.func82 (by kernel_rfl) rfl
    have hS := AnyQ.slices_SortFunc_total (P := Tryz.prog) { Tryz.sortKeys with } 2 Tryz.isAgg28 Tryz.sizeOf28 keyC (fun _ => rfl) ek_28.one cfI swo_keyI 82 #[] b off c xs.toArray w eg
      (fun m os dk _ x y => (orderI_exact x.o x.q y.o y.q _).mono fun e w' ⟨h1, os', h2⟩ => ⟨h1, 0, os', h2⟩) hH hb (by simp; omega) tot_keyI
    refine hS.mono ?_
    rintro e w' ⟨rfl, n, os, rfl⟩
    refine ⟨_, _, rfl, ⟨rfl, rfl⟩, ?_⟩
    have hm : (xs.toArray.toList.mergeSort fun x y => !(ltOf cfI) y x) = sortK xs := by
      have e : (fun x y : Key => !(ltOf cfI) y x) = fun x y => !before y x := by funext x y; rw [ltOf_cfI]
      rw [e]; exact sort_merge xs hn
    rw [hm]
    exact sl_sorted ek_28 sortK_length s
def cfP (a b : PostV) : Int := ordZ a.k b.k
theorem ltOf_cfP (x y : PostV) : ltOf cfP x y = before x.k y.k := by
  unfold ltOf cfP; exact ordZ_lt
theorem swo_postI : SWO (ltOf cfP) where
  irrefl x := by rw [ltOf_cfP]; exact before_irr
  trans x y z h1 h2 := by rw [ltOf_cfP] at *; exact before_trans h1 h2
  ntrans x y z h1 h2 := by rw [ltOf_cfP] at *; rw [before_not] at *; omega
theorem sortPI_spec (a : Option Addr) (c : Nat) (xs : List PostV) (hl : xs.length ≤ 1000000000000) : Ct Tryz.prog 127 [.slice a xs.length c, .func (.func 128) #[] #[]] [sl 106 3 postC a c xs]
    (fun v hs => v = .tuple #[] ∧ ∃ ys, List.Perm ys xs ∧ (ys.Pairwise fun p q => before q.k p.k = false) ∧ hs = [sl 106 3 postC a c ys]) := by
  refine ⟨enters_of Tryz.func127 (by kernel_rfl) rfl _, fun w0 w R s => ?_⟩
  by_cases he : xs = []
  · subst he
    refine (AnyF.slices_SortFunc_none { Tryz.sortPosts with } a c (.func (.func 128) #[] #[]) w).mono ?_
    rintro e w' ⟨rfl, rfl⟩
    exact ⟨_, _, rfl, ⟨rfl, [], List.Perm.refl _, List.Pairwise.nil, rfl⟩, s⟩
  · obtain ⟨b, off, ha, -⟩ := (SlH.own .hd : SlH w0 ([sl 106 3 postC a c xs] ++ R) 3 postC a xs) w s he
    subst ha
    obtain ⟨hH, hb⟩ := sl_holds ek_106 s
    have eg : ∀ args w, (callFunc 128 args).run Tryz.prog w = .ok (.enter 128 args) w := enters_of Tryz.func128 (by kernel_rfl) rfl
    have hS := AnyQ.slices_SortFunc (P := Tryz.prog) { Tryz.sortPosts with } 3 Tryz.isAgg106 Tryz.sizeOf106 postC (fun _ => rfl) ek_106.one cfP swo_postI 128 #[] b off c xs.toArray w eg
      (fun m os dk _ x y => (prefix1_exact x.k.o x.k.q y.k.o y.k.q (.slice x.t.a x.t.xs.length x.t.c) (.slice y.t.a y.t.xs.length y.t.c) rfl rfl _).mono fun e w' ⟨h1, os', h2⟩ => ⟨h1, 0, os', h2⟩) hH hb (by simp; omega)
    refine hS.mono ?_
    rintro e w' ⟨rfl, d', n, os, ⟨hsz, -, hperm⟩, hso, rfl⟩
    have e1 : d'.extract 0 xs.toArray.size = d' := by rw [← hsz]; exact Array.extract_size
    rw [e1, Array.extract_size] at hperm
    have hlen : d'.toList.length = xs.length := by simpa using hsz
    refine ⟨_, _, rfl, ⟨rfl, d'.toList, by simpa using hperm, ?_, rfl⟩, ?_⟩
    · rw [List.pairwise_iff_getElem]
      intro i j hi hj hij
      have hi' : i < d'.size := by simpa using hi
      have hj' : j < d'.size := by simpa using hj
      have := hso i j (Nat.zero_le _) hij (by omega)
      rw [getElem!_pos d' j hj', getElem!_pos d' i hi', ltOf_cfP] at this
      simpa using this
    · have := sl_sorted (n := n) (os := os) (ys := d'.toList) ek_106 hlen s
      rw [Array.toArray_toList] at this
      exact this
theorem sortedT_spec (b m : Nat) (es : List (ByteArray × SlV Int)) (hl : es.length ≤ 100000) :
    Ct Tryz.prog 50 [.func (.func 98) #[] #[.pointer (some ⟨b, 0, none⟩)]]
      [cl b 96 [.map (some m)], mp strV slV m es] (fun v hs => ∃ a c, v = .slice a (sortB (mkeys es)).length c ∧ hs = [sl 9 1 strC a c (sortB (mkeys es)), mp strV slV m es]) := by
  refine Ct.intro Tryz.func50 rfl (by kernel_rfl) 9 Tryz.ntmps50 (Nat.le_of_ble_eq_true rfl) fun w0 R => ?_
  refine Gsr ?_
  refine Las rfl rfl ?_
  refine Lnt ?_
  refine Gsr ?_
  refine Lmv rfl rfl ?_
  refine Lac rfl rfl trivial (as_call (t_collect_spec b m es hl) (by repeat constructor) (by repeat constructor)) ?_
  rintro _ _ ⟨_, ⟨xs, a, c, hp, rfl, rfl⟩, rfl⟩
  refine Las rfl rfl ?_
  refine Lnil ?_
  have hxl : xs.length ≤ 100000 := by rw [hp.length_eq]; simp [mkeys]; exact hl
  have hss : sortB xs = sortB (mkeys es) := sortB_of_perm hp
  refine Gs.then_n ?_
  refine Gsr ?_
  refine Lmv rfl rfl ?_
  refine Lac rfl rfl trivial (as_call (sortS_spec a c xs (by omega)) (by repeat constructor) (by repeat constructor)) ?_
  rintro _ _ ⟨_, ⟨rfl, rfl⟩, rfl⟩
  refine Lnil ?_
  rw [hss]
  refine Gs.then_n ?_
  refine Gsr ?_
  refine Lmv rfl rfl ?_
  refine Las rfl rfl ?_
  refine Lnt ?_
  refine Gs.ret ?_
  exact Gs.fin1 Tryz.results50 rfl _ (⟨a, c, by rw [← hss, sortB_length], rfl⟩) (by repeat constructor)
theorem sortedL_spec (b m : Nat) (es : List (ByteArray × SlV PostV)) (hl : es.length ≤ 100000) :
    Ct Tryz.prog 50 [.func (.func 210) #[] #[.pointer (some ⟨b, 0, none⟩)]]
      [cl b 89 [.map (some m)], mp strV slV m es] (fun v hs => ∃ a c, v = .slice a (sortB (mkeys es)).length c ∧ hs = [sl 9 1 strC a c (sortB (mkeys es)), mp strV slV m es]) := by
  refine Ct.intro Tryz.func50 rfl (by kernel_rfl) 9 Tryz.ntmps50 (Nat.le_of_ble_eq_true rfl) fun w0 R => ?_
  refine Gsr ?_
  refine Las rfl rfl ?_
  refine Lnt ?_
  refine Gsr ?_
  refine Lmv rfl rfl ?_
  refine Lac rfl rfl trivial (as_call (l_collect_spec b m es hl) (by repeat constructor) (by repeat constructor)) ?_
  rintro _ _ ⟨_, ⟨xs, a, c, hp, rfl, rfl⟩, rfl⟩
  refine Las rfl rfl ?_
  refine Lnil ?_
  have hxl : xs.length ≤ 100000 := by rw [hp.length_eq]; simp [mkeys]; exact hl
  have hss : sortB xs = sortB (mkeys es) := sortB_of_perm hp
  refine Gs.then_n ?_
  refine Gsr ?_
  refine Lmv rfl rfl ?_
  refine Lac rfl rfl trivial (as_call (sortS_spec a c xs (by omega)) (by repeat constructor) (by repeat constructor)) ?_
  rintro _ _ ⟨_, ⟨rfl, rfl⟩, rfl⟩
  refine Lnil ?_
  rw [hss]
  refine Gs.then_n ?_
  refine Gsr ?_
  refine Lmv rfl rfl ?_
  refine Las rfl rfl ?_
  refine Lnt ?_
  refine Gs.ret ?_
  exact Gs.fin1 Tryz.results50 rfl _ (⟨a, c, by rw [← hss, sortB_length], rfl⟩) (by repeat constructor)
theorem sortedW_spec (b m : Nat) (es : List (Key × SlV ByteArray)) (hl : es.length ≤ 100000) (hn : (mkeys es).Nodup) :
    Ct Tryz.prog 80 [.func (.func 136) #[] #[.pointer (some ⟨b, 0, none⟩)], .func (.func 82) #[] #[]]
      [cl b 90 [.map (some m)], mp keyV slV m es] (fun v hs => ∃ a c, v = .slice a (sortK (mkeys es)).length c ∧ hs = [sl 28 2 keyC a c (sortK (mkeys es)), mp keyV slV m es]) := by
  refine Ct.intro Tryz.func80 rfl (by kernel_rfl) 12 Tryz.ntmps80 (Nat.le_of_ble_eq_true rfl) fun w0 R => ?_
  refine Gsr ?_
  refine Las rfl rfl ?_
  refine Lnt ?_
  refine Gsr ?_
  refine Lmv rfl rfl ?_
  refine Lac rfl rfl trivial (as_call (w_collect_spec b m es hl) (by repeat constructor) (by repeat constructor)) ?_
  rintro _ _ ⟨_, ⟨xs, a, c, hp, rfl, rfl⟩, rfl⟩
  refine Las rfl rfl ?_
  refine Lnil ?_
  have hxl : xs.length ≤ 100000 := by rw [hp.length_eq]; simp [mkeys]; exact hl
  have hxn : xs.Nodup := hp.nodup_iff.2 hn
  have hss : sortK xs = sortK (mkeys es) := sortK_of hxn (sortK_asc hn) ((sortK_perm _).trans hp.symm)
  refine Gs.then_n ?_
  refine Gsr ?_
  refine Lmv rfl rfl ?_
  refine Lmv rfl rfl ?_
  refine Lac rfl rfl trivial (as_call (sortKI_spec a c xs (by omega) hxn) (by repeat constructor) (by repeat constructor)) ?_
  rintro _ _ ⟨_, ⟨rfl, rfl⟩, rfl⟩
  refine Lnil ?_
  rw [hss]
  refine Gs.then_n ?_
  refine Gsr ?_
  refine Lmv rfl rfl ?_
  refine Las rfl rfl ?_
  refine Lnt ?_
  refine Gs.ret ?_
  exact Gs.fin1 Tryz.results80 rfl _ (⟨a, c, by rw [← hss, sortK_length], rfl⟩) (by repeat constructor)
theorem words_spec (x : Nat) (L : List (ByteArray × SlV PostV)) (W : List (Key × SlV ByteArray)) (hl : L.length ≤ 100000) :
    Ct Tryz.prog 124 [ptr x] [ixA x L W] (fun v hs => ∃ a c, v = .slice a (sortB (mkeys L)).length c ∧ hs = [ixA x L W, sl 9 1 strC a c (sortB (mkeys L))]) := by
  refine Ct.intro Tryz.func124 rfl (by kernel_rfl) 11 Tryz.ntmps124 (Nat.le_of_ble_eq_true rfl) fun w0 R => ?_
  refine Gs.ix fun ml mw S hL hW => ?_
  refine Gsr ?_
  refine Las rfl rfl ?_
  refine Lnt ?_
  refine Gs.seq ?_
  refine Gsr ?_
  refine Lmv rfl rfl ?_
  refine Lpu rfl rfl trivial (pu_eqN Tryz.underlying72 rfl rfl) ?_
  refine Lnt ?_
  refine Gs.cond_ff rfl rfl ?_
  refine Gs.skip ?_
  refine Gs.then_n ?_
  refine Gsr ?_
  refine Lmv rfl rfl ?_
  refine Lpu rfl rfl trivial (by first | exact pu_nil rfl | exact pu_nilF rfl) ?_
  refine Lpu rfl rfl trivial (pu_fa fa_92_0 rfl) ?_
  refine Lrd rfl rfl trivial (rd_ld na_89 rfl (Rdc.cl1 (by repeat constructor) rfl)) ?_
  refine Lac rfl rfl trivial (as_call (l_keysFn_spec ml) (by repeat constructor) (by repeat constructor)) ?_
  rintro _ _ ⟨_, ⟨fb, rfl, rfl⟩, rfl⟩
  refine Lac rfl rfl trivial (as_call (sortedL_spec fb ml L hl) (by repeat constructor) (by repeat constructor)) ?_
  rintro _ _ ⟨_, ⟨sa, sc, rfl, rfl⟩, rfl⟩
  refine Las rfl rfl ?_
  refine Lnt ?_
  refine Gs.ret ?_
  refine Gs.takes (As := [cl x 92 [.map (some ml), .map (some mw)], mp strV slV ml L, mp keyV slV mw W, S]) (by repeat constructor) (Gs.ixc hL hW ?_)
  exact Gs.fin1 Tryz.results124 rfl _ (⟨sa, sc, rfl, rfl⟩) (by repeat constructor)
theorem keys_spec (x : Nat) (L : List (ByteArray × SlV PostV)) (W : List (Key × SlV ByteArray)) (hl : W.length ≤ 100000) :
    Ct Tryz.prog 44 [ptr x] [ixA x L W] (fun v hs => ∃ a c, v = .slice a (sortK (mkeys W)).length c ∧ hs = [ixA x L W, sl 28 2 keyC a c (sortK (mkeys W))]) := by
  refine Ct.intro Tryz.func44 rfl (by kernel_rfl) 11 Tryz.ntmps44 (Nat.le_of_ble_eq_true rfl) fun w0 R => ?_
  refine Gs.ix fun ml mw S hL hW => ?_
  refine Gs.mpNodup (enck := keyV) (encv := (slV : SlV ByteArray → Value)) (b := mw) (m := W) (by repeat constructor) fun hn => ?_
  refine Gsr ?_
  refine Las rfl rfl ?_
  refine Lnt ?_
  refine Gs.seq ?_
  refine Gsr ?_
  refine Lmv rfl rfl ?_
  refine Lpu rfl rfl trivial (pu_eqN Tryz.underlying72 rfl rfl) ?_
  refine Lnt ?_
  refine Gs.cond_ff rfl rfl ?_
  refine Gs.skip ?_
  refine Gs.then_n ?_
  refine Gsr ?_
  refine Lmv rfl rfl ?_
  refine Lpu rfl rfl trivial (by first | exact pu_nil rfl | exact pu_nilF rfl) ?_
  refine Lpu rfl rfl trivial (pu_fa fa_92_1 rfl) ?_
  refine Lrd rfl rfl trivial (rd_ld na_90 rfl (Rdc.cl1 (by repeat constructor) rfl)) ?_
  refine Lac rfl rfl trivial (as_call (w_keysFn_spec mw) (by repeat constructor) (by repeat constructor)) ?_
  rintro _ _ ⟨_, ⟨fb, rfl, rfl⟩, rfl⟩
  refine Lac rfl rfl trivial (as_call (sortedW_spec fb mw W hl hn) (by repeat constructor) (by repeat constructor)) ?_
  rintro _ _ ⟨_, ⟨sa, sc, rfl, rfl⟩, rfl⟩
  refine Las rfl rfl ?_
  refine Lnt ?_
  refine Gs.ret ?_
  refine Gs.takes (As := [cl x 92 [.map (some ml), .map (some mw)], mp strV slV ml L, mp keyV slV mw W, S]) (by repeat constructor) (Gs.ixc hL hW ?_)
  exact Gs.fin1 Tryz.results44 rfl _ (⟨sa, sc, rfl, rfl⟩) (by repeat constructor)
end YtklgiidfompdpaaGreatDoor
end Go.Proofs
namespace Go.Proofs
open Go.Shelf
namespace YtklgiidfompdpaaGreatDoor
open Go Go.Sl Go.Gv
def Tabs (h0 : Hp) : Prop := ∀ w, Hp.le h0 w → Lib.Utf8Tabs (Tryz.laysValid_ren.g 3) (Tryz.laysValid_ren.g 4) w
def validS (s : ByteArray) : Bool := Lib.validD s.data.toList
theorem valid_spec {h0 : Hp} (T : Tabs h0) (s : ByteArray) (hs : s.size ≤ 9223372036854775807) : Ct Tryz.prog 105 [.string s] [ro h0] (fun v hs => v = .bool (validS s) ∧ hs = [ro h0]) :=
  Ct.ofBelow Tryz.func105 rfl (by kernel_rfl) (V := fun _ => .bool (validS s)) (fun w0 w R st => Any.utf8_ValidString Tryz.laysValid s w hs (T w (Sat.ro st))) (fun _ => ⟨rfl, rfl⟩)
end YtklgiidfompdpaaGreatDoor
end Go.Proofs
namespace Go.Proofs.YtklgiidfompdpaaGreatDoor
open Go Go.Sl Go.Gv
set_option maxRecDepth 100000
def inB (i m : Int) : Bool := decide (0 ≤ i) && decide (i ≤ m)
def stampB (w c : Int) : Bool := inB w 1099511627776 && inB c 65535
def textB (s : ByteArray) : Bool := decide ((s.size : Int) ≤ 120) && validS s
def keyB (k : Key) : Bool := decide (0 ≤ k.o) && decide (k.o < 8) && decide (1 ≤ k.q) && decide (k.q ≤ 1023)
def recB (r : Rec) : Bool := keyB r.key && stampB r.w r.c && textB r.t
theorem wall_spec (i : Int) : Ct Tryz.prog 140 [int i] [] (fun v hs => v = .bool (inB i 1099511627776) ∧ hs = []) := by
  refine Ct.intro Tryz.func140 rfl (by kernel_rfl) 9 Tryz.ntmps140 (Nat.le_of_ble_eq_true rfl) fun w0 R => ?_
  refine Gsr ?_
  refine Las rfl rfl ?_
  refine Lnt ?_
  refine Gsr ?_
  refine Lmv rfl rfl ?_
  refine Lpu rfl rfl trivial (pu_ge rfl rfl) ?_
  refine LpuB rfl rfl trivial (pu_move rfl) (fun hg2 => ?_) (fun hg2 => ?_)
  ·
   have hg2' := of_decide_eq_true hg2
   refine Lpu rfl rfl ⟨_, rfl, rfl⟩ (pu_move rfl) ?_
   refine Lpu rfl rfl ⟨_, rfl, rfl⟩ (pu_le rfl rfl) ?_
   refine Lpu rfl rfl trivial (by first | exact pu_pick_t rfl rfl | exact pu_pick_f rfl rfl) ?_
   refine Las rfl rfl ?_
   refine Lnt ?_
   refine Gs.ret ?_
   exact Gs.fin1 Tryz.results140 rfl _ (⟨by simp [inB, hg2'], rfl⟩) (by repeat constructor)
  ·
   have hg2' := of_decide_eq_false hg2
   refine Loff rfl rfl rfl rfl rfl rfl ?_
   refine Loff rfl rfl rfl rfl rfl rfl ?_
   refine Lpu rfl rfl trivial (by first | exact pu_pick_t rfl rfl | exact pu_pick_f rfl rfl) ?_
   refine Las rfl rfl ?_
   refine Lnt ?_
   refine Gs.ret ?_
   exact Gs.fin1 Tryz.results140 rfl _ (⟨by simp [inB, hg2'], rfl⟩) (by repeat constructor)
theorem stampMay_spec (w c : Int) : Ct Tryz.prog 91 [.agg #[int w, int c]] [] (fun v hs => v = .bool (stampB w c) ∧ hs = []) := by
  refine Ct.intro Tryz.func91 rfl (by kernel_rfl) 16 Tryz.ntmps91 (Nat.le_of_ble_eq_true rfl) fun w0 R => ?_
  refine Gsr ?_
  refine Lac rfl rfl trivial (ac_box rfl rfl) ?_
  rintro _ _ ⟨b1, rfl, rfl⟩
  refine Las rfl rfl ?_
  refine Lnt ?_
  refine Gsr ?_
  refine Lpu rfl rfl trivial (pu_fa fa_30_0 rfl) ?_
  refine Lrd rfl rfl trivial (rd_ld na_3 rfl (Rdc.cl1 (by repeat constructor) rfl)) ?_
  refine Lac rfl rfl trivial (as_call (wall_spec _) (by repeat constructor) (by repeat constructor)) ?_
  rintro _ _ ⟨_, ⟨rfl, rfl⟩, rfl⟩
  refine LpuB rfl rfl trivial (pu_move rfl) (fun hg3 => ?_) (fun hg3 => ?_)
  ·
   refine Lpu rfl rfl ⟨_, rfl, rfl⟩ (pu_fa fa_30_1 rfl) ?_
   refine Lrd rfl rfl ⟨_, rfl, rfl⟩ (rd_ld na_3 rfl (Rdc.cl1 (by repeat constructor) rfl)) ?_
   refine Lpu rfl rfl ⟨_, rfl, rfl⟩ (pu_ge rfl rfl) ?_
   refine Lpu rfl rfl trivial (by first | exact pu_pick_t rfl rfl | exact pu_pick_f rfl rfl) ?_
   refine LpuB rfl rfl trivial (pu_move rfl) (fun hg8 => ?_) (fun hg8 => ?_)
   ·
    refine Lpu rfl rfl ⟨_, rfl, rfl⟩ (pu_fa fa_30_1 rfl) ?_
    refine Lrd rfl rfl ⟨_, rfl, rfl⟩ (rd_ld na_3 rfl (Rdc.cl1 (by repeat constructor) rfl)) ?_
    refine Lpu rfl rfl ⟨_, rfl, rfl⟩ (pu_le rfl rfl) ?_
    refine Lpu rfl rfl trivial (by first | exact pu_pick_t rfl rfl | exact pu_pick_f rfl rfl) ?_
    refine Las rfl rfl ?_
    refine Lnt ?_
    refine Gs.ret ?_
    exact Gs.fin1 Tryz.results91 rfl _ (⟨by grind [stampB, inB], rfl⟩) (by repeat constructor)
   ·
    refine Loff rfl rfl rfl rfl rfl rfl ?_
    refine Loff rfl rfl rfl rfl rfl rfl ?_
    refine Loff rfl rfl rfl rfl rfl rfl ?_
    refine Lpu rfl rfl trivial (by first | exact pu_pick_t rfl rfl | exact pu_pick_f rfl rfl) ?_
    refine Las rfl rfl ?_
    refine Lnt ?_
    refine Gs.ret ?_
    exact Gs.fin1 Tryz.results91 rfl _ (⟨by grind [stampB, inB], rfl⟩) (by repeat constructor)
  ·
   refine Loff rfl rfl rfl rfl rfl rfl ?_
   refine Loff rfl rfl rfl rfl rfl rfl ?_
   refine Loff rfl rfl rfl rfl rfl rfl ?_
   refine Lpu rfl rfl trivial (by first | exact pu_pick_t rfl rfl | exact pu_pick_f rfl rfl) ?_
   refine Lmv rfl rfl ?_
   refine Loff rfl rfl rfl rfl rfl rfl ?_
   refine Loff rfl rfl rfl rfl rfl rfl ?_
   refine Loff rfl rfl rfl rfl rfl rfl ?_
   refine Lpu rfl rfl trivial (by first | exact pu_pick_t rfl rfl | exact pu_pick_f rfl rfl) ?_
   refine Las rfl rfl ?_
   refine Lnt ?_
   refine Gs.ret ?_
   exact Gs.fin1 Tryz.results91 rfl _ (⟨by grind [stampB, inB], rfl⟩) (by repeat constructor)
theorem textMay_spec {h0 : Hp} (T : Tabs h0) (s : ByteArray) : Ct Tryz.prog 92 [.string s] [ro h0] (fun v hs => v = .bool (textB s) ∧ hs = [ro h0]) := by
  refine Ct.intro Tryz.func92 rfl (by kernel_rfl) 10 Tryz.ntmps92 (Nat.le_of_ble_eq_true rfl) fun w0 R => ?_
  refine Gsr ?_
  refine Las rfl rfl ?_
  refine Lnt ?_
  refine Gsr ?_
  refine Lmv rfl rfl ?_
  refine Lpu rfl rfl trivial (pu_lenS Tryz.underlying9 rfl) ?_
  refine Lpu rfl rfl trivial (pu_le rfl rfl) ?_
  refine LpuB rfl rfl trivial (pu_move rfl) (fun hg3 => ?_) (fun hg3 => ?_)
  ·
   have hg := of_decide_eq_true hg3
   refine Lpu rfl rfl ⟨_, rfl, rfl⟩ (pu_move rfl) ?_
   refine Lac rfl rfl ⟨_, rfl, rfl⟩ (as_call (valid_spec T s (by omega)) (by repeat constructor) (by repeat constructor)) ?_
   rintro _ _ ⟨_, ⟨rfl, rfl⟩, rfl⟩
   refine Lpu rfl rfl trivial (by first | exact pu_pick_t rfl rfl | exact pu_pick_f rfl rfl) ?_
   refine Las rfl rfl ?_
   refine Lnt ?_
   refine Gs.ret ?_
   exact Gs.fin1 Tryz.results92 rfl _ (⟨by simp [textB, hg], rfl⟩) (by repeat constructor)
  ·
   have hg := of_decide_eq_false hg3
   refine Loff rfl rfl rfl rfl rfl rfl ?_
   refine Loff rfl rfl rfl rfl rfl rfl ?_
   refine Lpu rfl rfl trivial (by first | exact pu_pick_t rfl rfl | exact pu_pick_f rfl rfl) ?_
   refine Las rfl rfl ?_
   refine Lnt ?_
   refine Gs.ret ?_
   exact Gs.fin1 Tryz.results92 rfl _ (⟨by simp [textB, hg], rfl⟩) (by repeat constructor)
theorem recMay_spec {h0 : Hp} (T : Tabs h0) (r : Rec) : Ct Tryz.prog 48 [recV r] [ro h0] (fun v hs => v = .bool (recB r) ∧ hs = [ro h0]) := by
  refine Ct.intro Tryz.func48 rfl (by kernel_rfl) 35 Tryz.ntmps48 (Nat.le_of_ble_eq_true rfl) fun w0 R => ?_
  refine Gsr ?_
  refine Lac rfl rfl trivial (ac_box rfl rfl) ?_
  rintro _ _ ⟨b1, rfl, rfl⟩
  refine Las rfl rfl ?_
  refine Lnt ?_
  refine Gsr ?_
  refine Lpu rfl rfl trivial (pu_fa fa_32_0 rfl) ?_
  refine Lpu rfl rfl trivial (pu_fa fa_28_0 rfl) ?_
  refine Lrd rfl rfl trivial (rd_ld na_3 rfl (Rdc.cl1 (by repeat constructor) rfl)) ?_
  refine Lpu rfl rfl trivial (pu_ge rfl rfl) ?_
  refine LpuB rfl rfl trivial (pu_move rfl) (fun hg4 => ?_) (fun hg4 => ?_)
  ·
   refine Lpu rfl rfl ⟨_, rfl, rfl⟩ (pu_fa fa_32_0 rfl) ?_
   refine Lpu rfl rfl ⟨_, rfl, rfl⟩ (pu_fa fa_28_0 rfl) ?_
   refine Lrd rfl rfl ⟨_, rfl, rfl⟩ (rd_ld na_3 rfl (Rdc.cl1 (by repeat constructor) rfl)) ?_
   refine Lpu rfl rfl ⟨_, rfl, rfl⟩ (pu_lt rfl rfl) ?_
   refine Lpu rfl rfl trivial (by first | exact pu_pick_t rfl rfl | exact pu_pick_f rfl rfl) ?_
   refine LpuB rfl rfl trivial (pu_move rfl) (fun hg10 => ?_) (fun hg10 => ?_)
   ·
    refine Lpu rfl rfl ⟨_, rfl, rfl⟩ (pu_fa fa_32_0 rfl) ?_
    refine Lpu rfl rfl ⟨_, rfl, rfl⟩ (pu_fa fa_28_1 rfl) ?_
    refine Lrd rfl rfl ⟨_, rfl, rfl⟩ (rd_ld na_3 rfl (Rdc.cl1 (by repeat constructor) rfl)) ?_
    refine Lpu rfl rfl ⟨_, rfl, rfl⟩ (pu_ge rfl rfl) ?_
    refine Lpu rfl rfl trivial (by first | exact pu_pick_t rfl rfl | exact pu_pick_f rfl rfl) ?_
    refine LpuB rfl rfl trivial (pu_move rfl) (fun hg16 => ?_) (fun hg16 => ?_)
    ·
     refine Lpu rfl rfl ⟨_, rfl, rfl⟩ (pu_fa fa_32_0 rfl) ?_
     refine Lpu rfl rfl ⟨_, rfl, rfl⟩ (pu_fa fa_28_1 rfl) ?_
     refine Lrd rfl rfl ⟨_, rfl, rfl⟩ (rd_ld na_3 rfl (Rdc.cl1 (by repeat constructor) rfl)) ?_
     refine Lpu rfl rfl ⟨_, rfl, rfl⟩ (pu_le rfl rfl) ?_
     refine Lpu rfl rfl trivial (by first | exact pu_pick_t rfl rfl | exact pu_pick_f rfl rfl) ?_
     refine LpuB rfl rfl trivial (pu_move rfl) (fun hg22 => ?_) (fun hg22 => ?_)
     ·
      refine Lpu rfl rfl ⟨_, rfl, rfl⟩ (pu_fa fa_32_1 rfl) ?_
      refine Lrd rfl rfl ⟨_, rfl, rfl⟩ (rd_lda ag_30 rfl (Rdc.cl 2 (by repeat constructor) rfl) rfl) ?_
      refine Lac rfl rfl ⟨_, rfl, rfl⟩ (as_call (stampMay_spec _ _) (by repeat constructor) (by repeat constructor)) ?_
      rintro _ _ ⟨_, ⟨rfl, rfl⟩, rfl⟩
      refine Lpu rfl rfl trivial (by first | exact pu_pick_t rfl rfl | exact pu_pick_f rfl rfl) ?_
      refine LpuB rfl rfl trivial (pu_move rfl) (fun hg27 => ?_) (fun hg27 => ?_)
      ·
       refine Lpu rfl rfl ⟨_, rfl, rfl⟩ (pu_fa fa_32_2 rfl) ?_
       refine Lrd rfl rfl ⟨_, rfl, rfl⟩ (rd_ld na_9 rfl (Rdc.cl1 (by repeat constructor) rfl)) ?_
       refine Lac rfl rfl ⟨_, rfl, rfl⟩ (as_call (textMay_spec T _) (by repeat constructor) (by repeat constructor)) ?_
       rintro _ _ ⟨_, ⟨rfl, rfl⟩, rfl⟩
       refine Lpu rfl rfl trivial (by first | exact pu_pick_t rfl rfl | exact pu_pick_f rfl rfl) ?_
       refine Las rfl rfl ?_
       refine Lnt ?_
       refine Gs.ret ?_
       exact Gs.fin1 Tryz.results48 rfl _ (⟨by grind [recB, keyB, Rec.key], rfl⟩) (by repeat constructor)
      ·
       refine Loff rfl rfl rfl rfl rfl rfl ?_
       refine Loff rfl rfl rfl rfl rfl rfl ?_
       refine Loff rfl rfl rfl rfl rfl rfl ?_
       refine Lpu rfl rfl trivial (by first | exact pu_pick_t rfl rfl | exact pu_pick_f rfl rfl) ?_
       refine Las rfl rfl ?_
       refine Lnt ?_
       refine Gs.ret ?_
       exact Gs.fin1 Tryz.results48 rfl _ (⟨by grind [recB, keyB, Rec.key], rfl⟩) (by repeat constructor)
     ·
      refine Loff rfl rfl rfl rfl rfl rfl ?_
      refine Loff rfl rfl rfl rfl rfl rfl ?_
      refine Loff rfl rfl rfl rfl rfl rfl ?_
      refine Lpu rfl rfl trivial (by first | exact pu_pick_t rfl rfl | exact pu_pick_f rfl rfl) ?_
      refine Lmv rfl rfl ?_
      refine Loff rfl rfl rfl rfl rfl rfl ?_
      refine Loff rfl rfl rfl rfl rfl rfl ?_
      refine Loff rfl rfl rfl rfl rfl rfl ?_
      refine Lpu rfl rfl trivial (by first | exact pu_pick_t rfl rfl | exact pu_pick_f rfl rfl) ?_
      refine Las rfl rfl ?_
      refine Lnt ?_
      refine Gs.ret ?_
      exact Gs.fin1 Tryz.results48 rfl _ (⟨by grind [recB, keyB, Rec.key], rfl⟩) (by repeat constructor)
    ·
     refine Loff rfl rfl rfl rfl rfl rfl ?_
     refine Loff rfl rfl rfl rfl rfl rfl ?_
     refine Loff rfl rfl rfl rfl rfl rfl ?_
     refine Loff rfl rfl rfl rfl rfl rfl ?_
     refine Lpu rfl rfl trivial (by first | exact pu_pick_t rfl rfl | exact pu_pick_f rfl rfl) ?_
     refine Lmv rfl rfl ?_
     refine Loff rfl rfl rfl rfl rfl rfl ?_
     refine Loff rfl rfl rfl rfl rfl rfl ?_
     refine Loff rfl rfl rfl rfl rfl rfl ?_
     refine Lpu rfl rfl trivial (by first | exact pu_pick_t rfl rfl | exact pu_pick_f rfl rfl) ?_
     refine Lmv rfl rfl ?_
     refine Loff rfl rfl rfl rfl rfl rfl ?_
     refine Loff rfl rfl rfl rfl rfl rfl ?_
     refine Loff rfl rfl rfl rfl rfl rfl ?_
     refine Lpu rfl rfl trivial (by first | exact pu_pick_t rfl rfl | exact pu_pick_f rfl rfl) ?_
     refine Las rfl rfl ?_
     refine Lnt ?_
     refine Gs.ret ?_
     exact Gs.fin1 Tryz.results48 rfl _ (⟨by grind [recB, keyB, Rec.key], rfl⟩) (by repeat constructor)
   ·
    refine Loff rfl rfl rfl rfl rfl rfl ?_
    refine Loff rfl rfl rfl rfl rfl rfl ?_
    refine Loff rfl rfl rfl rfl rfl rfl ?_
    refine Loff rfl rfl rfl rfl rfl rfl ?_
    refine Lpu rfl rfl trivial (by first | exact pu_pick_t rfl rfl | exact pu_pick_f rfl rfl) ?_
    refine Lmv rfl rfl ?_
    refine Loff rfl rfl rfl rfl rfl rfl ?_
    refine Loff rfl rfl rfl rfl rfl rfl ?_
    refine Loff rfl rfl rfl rfl rfl rfl ?_
    refine Loff rfl rfl rfl rfl rfl rfl ?_
    refine Lpu rfl rfl trivial (by first | exact pu_pick_t rfl rfl | exact pu_pick_f rfl rfl) ?_
    refine Lmv rfl rfl ?_
    refine Loff rfl rfl rfl rfl rfl rfl ?_
    refine Loff rfl rfl rfl rfl rfl rfl ?_
    refine Loff rfl rfl rfl rfl rfl rfl ?_
    refine Lpu rfl rfl trivial (by first | exact pu_pick_t rfl rfl | exact pu_pick_f rfl rfl) ?_
    refine Lmv rfl rfl ?_
    refine Loff rfl rfl rfl rfl rfl rfl ?_
    refine Loff rfl rfl rfl rfl rfl rfl ?_
    refine Loff rfl rfl rfl rfl rfl rfl ?_
    refine Lpu rfl rfl trivial (by first | exact pu_pick_t rfl rfl | exact pu_pick_f rfl rfl) ?_
    refine Las rfl rfl ?_
    refine Lnt ?_
    refine Gs.ret ?_
    exact Gs.fin1 Tryz.results48 rfl _ (⟨by grind [recB, keyB, Rec.key], rfl⟩) (by repeat constructor)
  ·
   refine Loff rfl rfl rfl rfl rfl rfl ?_
   refine Loff rfl rfl rfl rfl rfl rfl ?_
   refine Loff rfl rfl rfl rfl rfl rfl ?_
   refine Loff rfl rfl rfl rfl rfl rfl ?_
   refine Lpu rfl rfl trivial (by first | exact pu_pick_t rfl rfl | exact pu_pick_f rfl rfl) ?_
   refine Lmv rfl rfl ?_
   refine Loff rfl rfl rfl rfl rfl rfl ?_
   refine Loff rfl rfl rfl rfl rfl rfl ?_
   refine Loff rfl rfl rfl rfl rfl rfl ?_
   refine Loff rfl rfl rfl rfl rfl rfl ?_
   refine Lpu rfl rfl trivial (by first | exact pu_pick_t rfl rfl | exact pu_pick_f rfl rfl) ?_
   refine Lmv rfl rfl ?_
   refine Loff rfl rfl rfl rfl rfl rfl ?_
   refine Loff rfl rfl rfl rfl rfl rfl ?_
   refine Loff rfl rfl rfl rfl rfl rfl ?_
   refine Loff rfl rfl rfl rfl rfl rfl ?_
   refine Lpu rfl rfl trivial (by first | exact pu_pick_t rfl rfl | exact pu_pick_f rfl rfl) ?_
   refine Lmv rfl rfl ?_
   refine Loff rfl rfl rfl rfl rfl rfl ?_
   refine Loff rfl rfl rfl rfl rfl rfl ?_
   refine Loff rfl rfl rfl rfl rfl rfl ?_
   refine Lpu rfl rfl trivial (by first | exact pu_pick_t rfl rfl | exact pu_pick_f rfl rfl) ?_
   refine Lmv rfl rfl ?_
   refine Loff rfl rfl rfl rfl rfl rfl ?_
   refine Loff rfl rfl rfl rfl rfl rfl ?_
   refine Loff rfl rfl rfl rfl rfl rfl ?_
   refine Lpu rfl rfl trivial (by first | exact pu_pick_t rfl rfl | exact pu_pick_f rfl rfl) ?_
   refine Las rfl rfl ?_
   refine Lnt ?_
   refine Gs.ret ?_
   exact Gs.fin1 Tryz.results48 rfl _ (⟨by grind [recB, keyB, Rec.key], rfl⟩) (by repeat constructor)
end Go.Proofs.YtklgiidfompdpaaGreatDoor
namespace Go.Proofs
open Go.Shelf
set_option maxRecDepth 100000
def Tryz.laysWR_ren : Go.Shelf.Ren := ⟨fun | 168 => 142 | 240 => 182 | 242 => 183 | 276 => 238 | 278 => 239 | n => n, fun | 0 => 0 | 3 => 3 | 4 => 4 | 5 => 5 | 9 => 9 | 20 => 20 | 21 => 21 | 37 => 174 | 46 => 185 | 51 => 193 | 70 => 173 | 72 => 176 | 75 => 178 | 80 => 181 | 164 => 268 | n => n, fun  | n => n⟩
theorem Tryz.laysWR : Go.Proofs.Lays.n168 Tryz.prog Tryz.laysWR_ren := {
  mixed := by kernel_rfl
  f168 := Tryz.func142.trans (congrArg some (by kernel_rfl))
  f240 := Tryz.func182.trans (congrArg some (by kernel_rfl))
  f242 := Tryz.func183.trans (congrArg some (by kernel_rfl))
  f276 := Tryz.func238.trans (congrArg some (by kernel_rfl))
  f278 := Tryz.func239.trans (congrArg some (by kernel_rfl))
  t0 := Tryz.underlying0
  a0 := Tryz.isAgg0
  z0 := Tryz.sizeOf0
  v0 := Tryz.zeroValue0
  t3 := Tryz.underlying3
  a3 := Tryz.isAgg3
  z3 := Tryz.sizeOf3
  v3 := Tryz.zeroValue3
  t4 := Tryz.underlying4
  a4 := Tryz.isAgg4
  z4 := Tryz.sizeOf4
  v4 := Tryz.zeroValue4
  t5 := Tryz.underlying5
  a5 := Tryz.isAgg5
  z5 := Tryz.sizeOf5
  v5 := Tryz.zeroValue5
  t9 := Tryz.underlying9
  a9 := Tryz.isAgg9
  z9 := Tryz.sizeOf9
  v9 := Tryz.zeroValue9
  t20 := Tryz.underlying20
  a20 := Tryz.isAgg20
  z20 := Tryz.sizeOf20
  v20 := Tryz.zeroValue20
  t21 := Tryz.underlying21
  a21 := Tryz.isAgg21
  z21 := Tryz.sizeOf21
  v21 := Tryz.zeroValue21
  t37 := Tryz.underlying174
  a37 := Tryz.isAgg174
  z37 := Tryz.sizeOf174
  v37 := Tryz.zeroValue174
  t46 := Tryz.underlying185
  a46 := Tryz.isAgg185
  z46 := Tryz.sizeOf185
  v46 := Tryz.zeroValue185
  t51 := Tryz.underlying193
  a51 := Tryz.isAgg193
  z51 := Tryz.sizeOf193
  v51 := Tryz.zeroValue193
  t70 := Tryz.underlying173
  a70 := Tryz.isAgg173
  z70 := Tryz.sizeOf173
  v70 := Tryz.zeroValue173
  t72 := Tryz.underlying176
  a72 := Tryz.isAgg176
  z72 := Tryz.sizeOf176
  v72 := Tryz.zeroValue176
  t75 := Tryz.underlying178
  a75 := Tryz.isAgg178
  z75 := Tryz.sizeOf178
  v75 := Tryz.zeroValue178
  t164 := Tryz.underlying268
  a164 := Tryz.isAgg268
  z164 := Tryz.sizeOf268
  v164 := Tryz.zeroValue268
}
end Go.Proofs
namespace Go.Proofs
open Go.RowKit Go.Shelf
namespace YtklgiidfompdpaaGreatDoor
/-- A text in small letters, from a place on. -/
def lowF (s : ByteArray) : Nat → Nat → List UInt8
  | 0, _ => []
  | fuel + 1, pos => if pos < s.size then Lib.encodeRune (Lib.toLowerU (Utf8.decode s pos).1) ++ lowF s fuel (pos + (Utf8.decode s pos).2) else []
def normB (s : ByteArray) : ByteArray := if validS s then ⟨(lowF s s.size 0).toArray⟩ else ⟨#[]⟩
theorem width_pos (s : ByteArray) (pos : Nat) (h : pos < s.size) : 1 ≤ (Utf8.decode s pos).2 := by
  by_cases ha : (s[pos]'h).toNat < 128
  · rw [decode_ascii s pos h ha]
    exact Nat.le_refl _
  · exact (decode_high s pos h (by omega)).2
theorem lowF_end (s : ByteArray) (fuel pos : Nat) (h : ¬ pos < s.size) : lowF s fuel pos = [] := by
  cases fuel with
  | zero => rfl
  | succ f => simp [lowF, h]
theorem bextra : Builder.Extra Tryz.prog Tryz.laysWR_ren where
  sizeBuilder := by kernel_rfl
  liesBuilder := by kernel_rfl
  t5 := Tryz.underlying5
  a5 := Tryz.isAgg5
  z5 := Tryz.sizeOf5
  v5 := Tryz.zeroValue5
  infoByte := by kernel_rfl
  cellsByte := by kernel_rfl
  sizeByte := by kernel_rfl
  neB5 := by decide
theorem bextra2 : Builder.Extra Tryz.prog Tryz.laysBS_ren where
  sizeBuilder := by kernel_rfl
  liesBuilder := by kernel_rfl
  t5 := Tryz.underlying5
  a5 := Tryz.isAgg5
  z5 := Tryz.sizeOf5
  v5 := Tryz.zeroValue5
  infoByte := by kernel_rfl
  cellsByte := by kernel_rfl
  sizeByte := by kernel_rfl
  neB5 := by decide
theorem writeRune_c (B b : Nat) (bs : List Value) (r : Int) (hr0 : -2147483648 ≤ r) (hr1 : r ≤ 2147483647) (w : World) (h : Lib.IsBuilderF 176 5 B b bs w) (hlen : bs.length + 4 ≤ 140737488355328) (hBw : B ≤ w.heap.size) :
    Calls Tryz.prog 142 #[.pointer (some ⟨b, 0, none⟩), .int .i32 r] w fun e w' => e = .returned (.tuple #[.int .i64 (Lib.runeCells r).length, .nilIface]) ∧ (Lib.BuilderAtF 176 5 B b (.pointer (some ⟨b, 0, none⟩)) (bs ++ Lib.runeCells r) w' ∧ Below B w w' ∧ Lib.OthersKept 5 (some b) w w') :=
  Any.Builder_WriteRune_k Tryz.laysWR bextra B b bs r hr0 hr1 w h hlen hBw
theorem string_c (B b : Nat) (l : List UInt8) (w : World) (h : Lib.IsBuilderF 176 5 B b (Lib.byteCells l) w) (hBw : B ≤ w.heap.size) :
    Calls Tryz.prog 143 #[.pointer (some ⟨b, 0, none⟩)] w fun e w' => e = .returned (.string ⟨l.toArray⟩) ∧ (Lib.IsBuilderF 176 5 B b (Lib.byteCells l) w' ∧ Below B w w') :=
  Any.Builder_String_any_f Tryz.laysBS bextra2 B b l w h hBw
theorem lower_c (r : Int) (w : World) (hV : Lib.CaseVar (Tryz.laysLower_ren.g 13) Lib.caseA w) :
    Calls Tryz.prog 109 #[.int .i32 r] w fun e w' => e = .returned (.int .i32 (Lib.toLowerU r)) ∧ ∃ q, w' = w.drewN q :=
  Any.unicode_ToLower_laid Tryz.laysLower r w hV
theorem caseVar_below {g : Nat} {T : Array Lib.CaseRow} {w w' : World} (h : Lib.CaseVar g T w) (hb : Below w.heap.size w w') : Lib.CaseVar g T w' := by
  have k : ∀ {a : Addr} {v : Value}, w.cell? a = some v → w'.cell? a = some v := fun {a v} hc => (hb.cell (World.block_lt_of_cell? w a hc)).trans hc
  obtain ⟨R, oR, cap, h1, h2⟩ := h
  exact ⟨R, oR, cap, k h1, fun i hi => ⟨k (h2 i hi).1, k (h2 i hi).2.1, k (h2 i hi).2.2.1, k (h2 i hi).2.2.2.1, k (h2 i hi).2.2.2.2⟩⟩
theorem valid_c (s : ByteArray) (w : World) (hs : s.size ≤ 9223372036854775807) (hT : Lib.Utf8Tabs (Tryz.laysValid_ren.g 3) (Tryz.laysValid_ren.g 4) w) :
    Calls Tryz.prog 105 #[.string s] w fun e w' => e = .returned (.bool (validS s)) ∧ Below w.heap.size w w' := Any.utf8_ValidString Tryz.laysValid s w hs hT
theorem low_range (r : Int) (h0 : -2147483648 ≤ r) (h1 : r ≤ 2147483647) : -2147483648 ≤ Lib.toLowerU r ∧ Lib.toLowerU r ≤ 2147483647 := by
  rw [← toLowerW_caseA]
  unfold Lib.toLowerW
  split
  · split <;> omega
  · unfold Lib.toW
    split
    · unfold RowKit.wrap32; omega
    · omega
set_option maxHeartbeats 4000000 in
set_option maxRecDepth 1000000 in
theorem norm_walk (s : ByteArray) (w : World) (hs : s.size ≤ 35184372088832) (hT : Lib.Utf8Tabs (Tryz.laysValid_ren.g 3) (Tryz.laysValid_ren.g 4) w) (hC : Lib.CaseVar (Tryz.laysLower_ren.g 13) Lib.caseA w) :
    Calls Tryz.prog 95 #[.string s] w fun e w' => e = .returned (.string (normB s)) ∧ Below w.heap.size w w' := by
  have cV := valid_c s w (by omega) hT
  cases hv : validS s with
  | false =>
    rw [hv] at cV
    have hn : normB s = ⟨#[]⟩ := by unfold normB; rw [hv]; rfl
    rw [hn]
    go_enter Tryz.func95, Tryz.ntmps95
    go_wp2_with (go_at_call 105; refine cV.mono ?_)
    rintro e W1 ⟨rfl, b1⟩
    go_wp2
    go_ret
    exact ⟨rfl, b1⟩
  | true =>
    rw [hv] at cV
    have hn : normB s = ⟨(lowF s s.size 0).toArray⟩ := by unfold normB; rw [hv]; rfl
    rw [hn]
    go_enter Tryz.func95, Tryz.ntmps95
    go_wp2_with (go_at_call 105; refine cV.mono ?_)
    rintro e W0 ⟨rfl, b0⟩
    have hC0 := caseVar_below hC b0
    go_wp2
    go_loopw [] (fun wr => ∃ (pos fuel : Nat) (acc : List UInt8), Lib.IsBuilderF 176 5 W0.heap.size W0.heap.size (Lib.byteCells acc) wr ∧ wr.heap[W0.heap.size + 1]? = some (.stringIter s pos) ∧ Below W0.heap.size W0 wr ∧ acc ++ lowF s fuel pos = lowF s s.size 0 ∧ s.size ≤ pos + fuel ∧ acc.length ≤ 4 * pos) (fun wr => s.size - wr.iterPos (W0.heap.size + 1))
    case atStart =>
      refine ⟨0, s.size, [], (Lib.IsBuilderF.of (Lib.fresh_isBuilder 176 5 W0)).alloc _, ?_, ((Below.refl _ W0).alloc (Nat.le_refl _) _).alloc (by simp) _, rfl, by omega, by simp⟩
      have := World.iter_heap (W0.alloc (.cells #[.pointer none, .slice none 0 0] 176)) s 0
      simpa using this
    case round =>
      obtain ⟨pos, fuel, acc, hI, hit, hbw, hacc, hfu, hal⟩ := hrel
      have hsz : W0.heap.size + 1 < wr.heap.size := (Array.getElem?_eq_some_iff.1 hit).1
      by_cases hp : pos < s.size
      · have hnx : ∀ ty, (Instr.next (.pointer (some ⟨W0.heap.size + 1, 0, none⟩)) true ty).run Tryz.prog wr = _ := fun ty => Lib.run_next_any_at wr (W0.heap.size + 1) s pos ty hit hp
        have hwd := width_pos s pos hp
        have hd1 := decode_le s pos
        have hI2 := hI.iterAt hit (pos + (Utf8.decode s pos).2)
        have hit2 := Lib.iterAt_heap wr (W0.heap.size + 1) s pos (pos + (Utf8.decode s pos).2) hit
        have hbw2 := Lib.below_iterAt hbw (k := W0.heap.size + 1) (by omega) s (pos + (Utf8.decode s pos).2)
        have hsz2 : W0.heap.size ≤ (wr.iterAt (W0.heap.size + 1) s (pos + (Utf8.decode s pos).2)).heap.size := by rw [Lib.iterAt_size]; omega
        have hCr := caseVar_below hC0 hbw2
        obtain ⟨f, rfl⟩ : ∃ f, fuel = f + 1 := ⟨fuel - 1, by omega⟩
        have cL := lower_c ((Utf8.decode s pos).1 : Int) _ hCr
        go_wp2_with (go_at_call 109; refine cL.mono ?_)
        rintro e W1 ⟨rfl, q, rfl⟩
        have hI3 : Lib.IsBuilderF 176 5 W0.heap.size W0.heap.size (Lib.byteCells acc) ((wr.iterAt (W0.heap.size + 1) s (pos + (Utf8.decode s pos).2)).drewN q) := hI2
        have hit3 : ((wr.iterAt (W0.heap.size + 1) s (pos + (Utf8.decode s pos).2)).drewN q).heap[W0.heap.size + 1]? = some (.stringIter s (pos + (Utf8.decode s pos).2)) := hit2
        have hbw3 : Below W0.heap.size W0 ((wr.iterAt (W0.heap.size + 1) s (pos + (Utf8.decode s pos).2)).drewN q) := ⟨hbw2.os, hbw2.tape, hbw2.output, hbw2.size, hbw2.block⟩
        have hlo := low_range ((Utf8.decode s pos).1 : Int) (by omega) (by omega)
        go_wp2_with (go_at_call 142; refine (writeRune_c W0.heap.size W0.heap.size _ _ hlo.1 hlo.2 _ hI3 (by rw [Lib.byteCells_length]; omega) hsz2).mono ?_)
        rintro e W2 ⟨rfl, h1, b1, k1⟩
        go_wp2
        go_roundw
        case rel =>
          have hl4 := Lib.runeCells_le (Lib.toLowerU ((Utf8.decode s pos).1 : Int))
          rw [Lib.runeCells_length] at hl4
          refine ⟨pos + (Utf8.decode s pos).2, f, acc ++ Lib.encodeRune (Lib.toLowerU (Utf8.decode s pos).1), ?_, k1.iter hit3 (by omega), hbw3.trans b1, ?_, by omega, by simp; omega⟩
          · rw [Lib.byteCells_append, Lib.byteCells_encodeRune]; exact Or.inr h1
          · rw [← hacc]; simp [lowF, hp]
        case measure =>
          simp only [World.iterPos, k1.iter hit3 (by omega), hit]
          omega
      · have hnx : ∀ ty, (Instr.next (.pointer (some ⟨W0.heap.size + 1, 0, none⟩)) true ty).run Tryz.prog wr = _ := fun ty => Lib.run_next_end_at wr (W0.heap.size + 1) s pos ty hit hp
        go_wp2_with (go_at_call 143; refine (string_c W0.heap.size W0.heap.size acc _ hI (by omega)).mono ?_)
        rintro e W1 ⟨rfl, _, b1⟩
        go_wp2
        go_ret
        rw [lowF_end s fuel pos hp, List.append_nil] at hacc
        subst hacc
        exact ⟨rfl, b0.trans ((hbw.trans b1).mono b0.size)⟩
end YtklgiidfompdpaaGreatDoor
end Go.Proofs
namespace Go.Sl
open Go
/-- A block that was laid anew. -/
theorem Sat.fresh {w0 w w' : World} {L : List HProp} {A : Nat} {o : Obj} (s : Sat w0 w L) (hb : RowKit.Below w.heap.size w w') (h : w'.heap[A]? = some o) (hA : w.heap.size ≤ A) : Sat w0 w' (Sl.pt A o :: L) := by
  have s' := s.same hb.os hb.tape hb.output hb.size hb.block
  obtain ⟨k, le, l⟩ := s.heap
  have hn : k A = none := by
    cases hk : k A with
    | none => rfl
    | some x => have := (Array.getElem?_eq_some_iff.1 (le A x hk)).1; omega
  refine ⟨s'.os, s'.tape, s'.output, s'.size, Hp.un (fun c => if c = A then some o else none) k, ?_, _, k, ?_, rfl, ⟨by simp, fun c hc => by simp [hc]⟩, l⟩
  · intro c x hx
    by_cases hc : c = A
    · subst hc; simp [Hp.un] at hx; rw [← hx]; exact h
    · simp only [Hp.un, hc, if_false] at hx
      have := le c x hx
      rw [hb.block c (Array.getElem?_eq_some_iff.1 this).1]; exact this
  · intro c
    by_cases hc : c = A
    · subst hc; exact .inr hn
    · exact .inl (by simp [hc])
end Go.Sl
namespace Go.Proofs
open Go.RowKit Go.Shelf
namespace YtklgiidfompdpaaGreatDoor
open Go Go.Sl Go.Gv Go.Po Go.Ix
set_option maxRecDepth 100000
/-- The library's tables, as laid. -/
def TabX (h0 : Hp) : Prop := Tabs h0 ∧ ∀ w, Hp.le h0 w → Lib.TabIs Tryz.prog w "unicode.properties" .u8 Lib.propertiesTab ∧ Lib.RVar (Tryz.laysLetter_ren.g 8) Lib.letterT w ∧ Lib.RVar (Tryz.laysDigit_ren.g 5) Lib.digitT w ∧ Lib.CaseVar (Tryz.laysLower_ren.g 13) Lib.caseA w
theorem TabX.mono {h0 h1 : Hp} (T : TabX h0) (h : ∀ b o, h0 b = some o → h1 b = some o) : TabX h1 :=
  ⟨fun w hw => T.1 w fun b o e => hw b o (h b o e), fun w hw => T.2 w fun b o e => hw b o (h b o e)⟩
theorem isLetter_ct {h0 : Hp} (T : TabX h0) (r : Int) (hlo : -2147483648 ≤ r) (hhi : r ≤ 2147483647) : Ct Tryz.prog 107 [.int .i32 r] [ro h0] (fun v hs => v = .bool (Lib.isLetterU r) ∧ hs = [ro h0]) :=
  Ct.ofBelow Tryz.func107 rfl (by kernel_rfl) (V := fun _ => .bool (Lib.isLetterU r)) (fun w0 w R st => Any.unicode_IsLetter_all Tryz.laysLetter (by kernel_rfl) r w hlo hhi (T.2 w (Sat.ro st)).1 (T.2 w (Sat.ro st)).2.1) (fun _ => ⟨rfl, rfl⟩)
theorem isDigit_ct {h0 : Hp} (T : TabX h0) (r : Int) (hlo : -2147483648 ≤ r) (hhi : r ≤ 2147483647) : Ct Tryz.prog 108 [.int .i32 r] [ro h0] (fun v hs => v = .bool (Lib.isDigitU r) ∧ hs = [ro h0]) :=
  Ct.ofBelow Tryz.func108 rfl (by kernel_rfl) (V := fun _ => .bool (Lib.isDigitU r)) (fun w0 w R st => Any.unicode_IsDigit_all Tryz.laysDigit r w hlo hhi (T.2 w (Sat.ro st)).2.2.1) (fun _ => ⟨rfl, rfl⟩)
def letB (r : Int) : Bool := Lib.isLetterU r || Lib.isDigitU r
theorem letter_spec {h0 : Hp} (T : TabX h0) (r : Int) (hlo : -2147483648 ≤ r) (hhi : r ≤ 2147483647) : Ct Tryz.prog 141 [.int .i32 r] [ro h0] (fun v hs => v = .bool (letB r) ∧ hs = [ro h0]) := by
  refine Ct.intro Tryz.func141 rfl (by kernel_rfl) 9 Tryz.ntmps141 (Nat.le_of_ble_eq_true rfl) fun w0 R => ?_
  refine Gsr ?_
  refine Las rfl rfl ?_
  refine Lnt ?_
  refine Gsr ?_
  refine Lmv rfl rfl ?_
  refine Lac rfl rfl trivial (as_call (isLetter_ct T r hlo hhi) (by repeat constructor) (by repeat constructor)) ?_
  rintro _ _ ⟨_, ⟨rfl, rfl⟩, rfl⟩
  refine LpuB rfl rfl trivial (pu_move rfl) (fun hg2 => ?_) (fun hg2 => ?_)
  ·
   refine Loff rfl rfl rfl rfl rfl rfl ?_
   refine Loff rfl rfl rfl rfl rfl rfl ?_
   refine Lpu rfl rfl trivial (by first | exact pu_pick_t rfl rfl | exact pu_pick_f rfl rfl) ?_
   refine Las rfl rfl ?_
   refine Lnt ?_
   refine Gs.ret ?_
   exact Gs.fin1 Tryz.results141 rfl _ (⟨by simp [letB, hg2], rfl⟩) (by repeat constructor)
  ·
   refine Lpu rfl rfl ⟨_, rfl, rfl⟩ (pu_move rfl) ?_
   refine Lac rfl rfl ⟨_, rfl, rfl⟩ (as_call (isDigit_ct T r hlo hhi) (by repeat constructor) (by repeat constructor)) ?_
   rintro _ _ ⟨_, ⟨rfl, rfl⟩, rfl⟩
   refine Lpu rfl rfl trivial (by first | exact pu_pick_t rfl rfl | exact pu_pick_f rfl rfl) ?_
   refine Las rfl rfl ?_
   refine Lnt ?_
   refine Gs.ret ?_
   exact Gs.fin1 Tryz.results141 rfl _ (⟨by simp [letB, hg2], rfl⟩) (by repeat constructor)
theorem other_spec {h0 : Hp} (T : TabX h0) (r : Int) (hlo : -2147483648 ≤ r) (hhi : r ≤ 2147483647) : Ct Tryz.prog 94 [.int .i32 r] [ro h0] (fun v hs => v = .bool (!letB r) ∧ hs = [ro h0]) := by
  refine Ct.intro Tryz.func94 rfl (by kernel_rfl) 6 Tryz.ntmps94 (Nat.le_of_ble_eq_true rfl) fun w0 R => ?_
  refine Gsr ?_
  refine Las rfl rfl ?_
  refine Lnt ?_
  refine Gsr ?_
  refine Lmv rfl rfl ?_
  refine Lac rfl rfl trivial (as_call (letter_spec T r hlo hhi) (by repeat constructor) (by repeat constructor)) ?_
  rintro _ _ ⟨_, ⟨rfl, rfl⟩, rfl⟩
  refine Lpu rfl rfl trivial (pu_not rfl) ?_
  refine Las rfl rfl ?_
  refine Lnt ?_
  refine Gs.ret ?_
  exact Gs.fin1 Tryz.results94 rfl _ (⟨rfl, rfl⟩) (by repeat constructor)
def notW (x : Nat) : Bool := !letB (x : Int)
theorem other_pays {h0 : Hp} (T : TabX h0) {w : World} (hw : Hp.le h0 w) : PredGrows Tryz.prog 94 #[] notW w := by
  intro W x hx hb
  have hle : ∀ b o, h0 b = some o → whole W b = some o := fun b o e => by
    have h1 := hw b o e
    show W.heap[b]? = some o
    rw [hb.block b (Array.getElem?_eq_some_iff.1 h1).1]; exact h1
  refine ((other_spec (T.mono hle) (x : Int) (by omega) (by omega)).calls W W [] (Sat.start W)).mono ?_
  rintro e w' ⟨v, hs, he, ⟨hv, hhs⟩, hsat⟩
  subst hv; subst hhs
  exact ⟨he, Sat.below hsat⟩
theorem fields_spec {h0 : Hp} (T : TabX h0) (s : ByteArray) (hs : s.size ≤ 4294967296) : Ct Tryz.prog 93 [.string s, .func (.func 94) #[] #[]] [ro h0]
    (fun v hs => ∃ a c, v = .slice a (Lib.goFieldsP notW s).length c ∧ hs = [ro h0, sl 9 1 strC a c (Lib.goFieldsP notW s)]) := by
  refine ⟨enters_of Tryz.func93 (by kernel_rfl) rfl _, fun w0 w R st => ?_⟩
  refine (Any.strings_FieldsFunc_grows Tryz.laysFF 94 #[] (enters_of Tryz.func94 (by kernel_rfl) rfl) notW s w hs (other_pays T (Sat.ro st)) (by kernel_rfl) (by kernel_rfl)).mono ?_
  rintro e w' ⟨A, rfl, hA, hown, hb⟩
  obtain ⟨h1, h2⟩ := hown
  rcases h2 with ⟨h, -⟩ | ⟨g, cap, cur, hv, hg, hc, hn, hm, hsz, htk⟩
  · cases h
  · cases hv
    refine ⟨_, _, rfl, ⟨some ⟨A, 0, none⟩, _, rfl, rfl⟩, ?_⟩
    have s2 := (Sat.fresh st hb hc hA).ent (sl_new (E := 9) (sz := 1) (enc := strC) (c := (Lib.goFieldsP notW s).length) (xs := Lib.goFieldsP notW s) (Nat.le_refl _) (by omega) (fun i x hi j v hj => ?_))
    · exact Ent.sat (.cons (.tl .hd) (.cons .hd .refl)) s2
    · have hj0 : j = 0 ∧ v = .string x := by
        cases j with
        | zero => simp at hj; exact ⟨rfl, hj.symm⟩
        | succ j => simp at hj
      obtain ⟨rfl, rfl⟩ := hj0
      have hil := (List.getElem?_eq_some_iff.1 hi).1
      have : (cur.toList.take ((Lib.goFieldsP notW s).length * 1))[i]? = some (.string x) := by rw [htk, List.getElem?_map, hi]; rfl
      rw [List.getElem?_take, if_pos (by omega)] at this
      simpa using this
theorem norm_spec {h0 : Hp} (T : TabX h0) (s : ByteArray) (hs : s.size ≤ 35184372088832) : Ct Tryz.prog 95 [.string s] [ro h0] (fun v hs => v = .string (normB s) ∧ hs = [ro h0]) :=
  Ct.ofBelow Tryz.func95 rfl (by kernel_rfl) (V := fun _ => .string (normB s)) (fun w0 w R st => norm_walk s w hs (T.1 w (Sat.ro st)) (T.2 w (Sat.ro st)).2.2.2) (fun _ => ⟨rfl, rfl⟩)
theorem spans_len (p : Nat → Bool) (s : ByteArray) : ∀ (f pos : Nat) (st : Option Nat) (acc : List (Nat × Nat)), (Lib.spansFromP p s f pos st acc).1.length ≤ acc.length + f
  | 0, _, _, acc => by simp [Lib.spansFromP]
  | f + 1, pos, st, acc => by
    unfold Lib.spansFromP
    split
    · split
      · split
        · refine Nat.le_trans (spans_len p s f _ _ _) ?_; simp; omega
        · refine Nat.le_trans (spans_len p s f _ _ _) ?_; omega
      · split <;> (refine Nat.le_trans (spans_len p s f _ _ _) ?_; omega)
    · simp
theorem fields_len (p : Nat → Bool) (s : ByteArray) : (Lib.goFieldsP p s).length ≤ s.size + 1 := by
  have := spans_len p s s.size 0 none []
  unfold Lib.goFieldsP Lib.spansOfP Lib.closeSpans
  rw [List.length_map]
  split
  · rw [List.length_append]; simp at this ⊢; omega
  · simp at this; omega
theorem fields_size {p : Nat → Bool} {s w : ByteArray} (h : w ∈ Lib.goFieldsP p s) : w.size ≤ s.size := by
  obtain ⟨x, -, rfl⟩ := List.mem_map.1 h
  rw [ByteArray.size_extract]; omega
/-- A text's words, and where they stand. -/
def wordsB (s : ByteArray) : List ByteArray := if textB s then (Lib.goFieldsP notW s).map normB else []
def toksOf (l : List ByteArray) (i : Nat) : List WordP := (l.zipIdx i).map fun p => (p.1, (p.2 : Int))
def toksV (s : ByteArray) : List WordP := toksOf (wordsB s) 0
theorem toks_snoc (l : List ByteArray) (w : ByteArray) (i : Nat) : toksOf (l ++ [w]) i = toksOf l i ++ [(w, ((i + l.length : Nat) : Int))] := by
  unfold toksOf; rw [List.zipIdx_append, List.map_append]; simp
theorem toks_length (l : List ByteArray) (i : Nat) : (toksOf l i).length = l.length := by unfold toksOf; simp
theorem words_len (s : ByteArray) : (wordsB s).length ≤ 121 := by
  unfold wordsB; split
  · rename_i h
    have := fields_len notW s
    simp only [textB, Bool.and_eq_true, decide_eq_true_eq] at h
    rw [List.length_map]; omega
  · exact Nat.zero_le _
theorem of_spec {h0 : Hp} (T : TabX h0) (s : ByteArray) : Ct Tryz.prog 49 [.string s] [ro h0] (fun v hs => ∃ a c, v = .slice a (toksV s).length c ∧ hs = [ro h0, sl 98 2 wordC a c (toksV s)]) := by
  refine Ct.intro Tryz.func49 rfl (by kernel_rfl) 26 Tryz.ntmps49 (Nat.le_of_ble_eq_true rfl) fun w0 R => ?_
  refine Gsr ?_
  refine Las rfl rfl ?_
  refine Lnt ?_
  refine Gs.seq ?_
  refine Gsr ?_
  refine Lmv rfl rfl ?_
  refine Lac rfl rfl trivial (as_call (textMay_spec T.1 s) (by repeat constructor) (by repeat constructor)) ?_
  rintro _ _ ⟨_, ⟨rfl, rfl⟩, rfl⟩
  refine Lpu rfl rfl trivial (pu_not rfl) ?_
  refine Lnt ?_
  refine Gs.cond rfl (fun hc0 => ?_) (fun hc0 => ?_)
  ·
   have hno : toksV s = [] := by unfold toksV wordsB; rw [not_t hc0]; rfl
   refine Gsr ?_
   refine Las rfl rfl ?_
   refine Lnt ?_
   refine Gs.ret ?_
   refine Gs.then_r ?_
   refine Gs.slNil 98 2 wordC ?_
   exact Gs.fin1 Tryz.results49 rfl _ (⟨none, 0, by rw [hno]; rfl, by rw [hno]⟩) (by repeat constructor)
  ·
   have hyes : wordsB s = (Lib.goFieldsP notW s).map normB := if_pos (not_f hc0)
   have hsz : s.size ≤ 120 := by have := not_f hc0; simp only [textB, Bool.and_eq_true, decide_eq_true_eq] at this; omega
   have hfl := fields_len notW s
   refine Gs.skip ?_
   refine Gs.then_n ?_
   refine Gsr ?_
   refine Las rfl rfl ?_
   refine Lnil ?_
   refine Gs.slNil 98 2 wordC ?_
   refine Gs.then_n ?_
   refine Gs.seq ?_
   refine Gsr ?_
   refine Lmv rfl rfl ?_
   refine Lac rfl rfl trivial (as_call (fields_spec T s (by omega)) (by repeat constructor) (by repeat constructor)) ?_
   rintro _ _ ⟨_, ⟨fa, fc, rfl, rfl⟩, rfl⟩
   refine Lpu rfl rfl trivial (pu_len Tryz.underlying23 rfl) ?_
   refine Lmv rfl rfl ?_
   refine Lnil ?_
   refine Gs.slAddr (xs := Lib.goFieldsP notW s) (SlH.own (E := 9) (enc := strC) (a := fa) (c := fc) (by repeat constructor)) fun fb fo hfa => ?_
   refine Gs.then_n ?_
   refine Gs.block ?_
   refine Gs.loop1 (fun s1 : Nat × (Option Addr × Nat) × List WordP => s1.1 ≤ (Lib.goFieldsP notW s).length ∧ s1.2.2 = toksOf (((Lib.goFieldsP notW s).take s1.1).map normB) 0) (fun s1 => [(3, .slice s1.2.1.1 s1.2.2.length s1.2.1.2), (10, .slice fa (Lib.goFieldsP notW s).length fc), (11, int (Lib.goFieldsP notW s).length), (12, int s1.1)]) (fun s1 => [ro h0, sl 9 1 strC fa fc (Lib.goFieldsP notW s), sl 98 2 wordC s1.2.1.1 s1.2.1.2 s1.2.2] ++ R) (fun s1 => (Lib.goFieldsP notW s).length - s1.1) (0, (none, 0), []) (⟨Nat.zero_le _, rfl⟩) (by repeat constructor) (by repeat constructor) (fun s1 hs => ?_)
   obtain ⟨i, ⟨ka, kc⟩, K⟩ := s1
   obtain ⟨hi, hK⟩ := hs
   dsimp only at hi hK ⊢
   have hKl : K.length ≤ 121 := by rw [hK, toks_length, List.length_map, List.length_take]; omega
   refine Gsr ?_
   refine Lpu rfl rfl trivial (pu_lt rfl rfl) ?_
   refine Lnt ?_
   refine Gs.seq ?_
   refine Gs.cond rfl (fun hc1 => ?_) (fun hc1 => ?_)
   ·
    have hlt : i < (Lib.goFieldsP notW s).length := by have := of_decide_eq_true hc1; omega
    obtain ⟨w, hw⟩ : ∃ x, (Lib.goFieldsP notW s)[i]? = some x := ⟨(Lib.goFieldsP notW s)[i], by simp [hlt]⟩
    obtain rfl := hfa (by intro e; rw [e] at hw; simp at hw)
    have hwz := fields_size (List.mem_of_getElem? hw)
    have hin : K ++ [(normB w, (i : Int))] = toksOf (((Lib.goFieldsP notW s).take (i + 1)).map normB) 0 := by
      have hl : (((Lib.goFieldsP notW s).take i).map normB).length = i := by rw [List.length_map, List.length_take]; omega
      rw [List.take_add_one, hw, List.map_append, show (some w).toList.map normB = [normB w] from rfl, toks_snoc, hl, Nat.zero_add, hK]
    refine Gs.skip ?_
    refine Gs.then_n ?_
    refine Gs.seq ?_
    refine Gs.block ?_
    refine Gsr ?_
    refine Lmv rfl rfl ?_
    refine Lpu rfl rfl trivial (pu_ia se_23 rfl rfl (by omega) (by omega)) ?_
    refine Lrd rfl rfl trivial (rd_ld na_9 rfl (Rdc.el0 (SlH.own (xs := Lib.goFieldsP notW s) (E := 9) (c := fc) (by repeat constructor)) hw rfl rfl)) ?_
    refine Las rfl rfl ?_
    refine Las rfl rfl ?_
    refine Lnt ?_
    refine Gs.reg ?_
    refine Lmv rfl rfl ?_
    refine Lmv rfl rfl ?_
    refine Lac rfl rfl trivial (as_call (norm_spec T w (by omega)) (by repeat constructor) (by repeat constructor)) ?_
    rintro _ _ ⟨_, ⟨rfl, rfl⟩, rfl⟩
    refine Lmv rfl rfl ?_
    refine Lpu rfl rfl trivial (pu_build bd_98 (by repeat constructor) rfl) ?_
    refine Lac rfl rfl trivial (ac_lit encC_98 ([(normB w, (i : Int))]) et_83 ek_98 rfl (by repeat constructor) rfl rfl (by decide)) ?_
    rintro _ _ ⟨a22, rfl, rfl⟩
    refine Lac rfl rfl trivial (ac_append (xs := K) (ys := [(normB w, (i : Int))]) et_83 ek_98 rfl rfl (by repeat constructor) (SrcH.sl Tryz.underlying83 ek_98 (SlH.own (by repeat constructor))) (by first | omega | (simp; omega)) (by first | omega | (simp; omega))) ?_
    rintro _ _ ⟨a23, c23, rfl, rfl⟩
    refine Las rfl rfl ?_
    refine Lnil ?_
    refine Gs.blk_n ?_
    refine Gs.then_n ?_
    refine Gs.reg ?_
    refine Lpu rfl rfl trivial (by first | exact pu_addI rfl rfl rfl (by omega) (by omega) | exact pu_add rfl rfl) ?_
    refine Lmv rfl rfl ?_
    refine Lnt ?_
    exact Gs.again1 (i + 1, (a23, c23), K ++ [(normB w, (i : Int))]) ⟨by show i + 1 ≤ _; omega, hin⟩ (by show _ - (i + 1) < _ - i; omega) (by repeat constructor) (by repeat constructor)
   ·
    have hge : i = (Lib.goFieldsP notW s).length := by have := of_decide_eq_false hc1; omega
    rw [hge, List.take_length, ← hyes] at hK
    have hK2 : K = toksV s := hK
    subst hK2
    refine Gs.exit ?_
    refine Gs.then_x ?_
    refine Gs.then_x ?_
    refine Gs.blk_hit ?_
    refine Gs.then_n ?_
    refine Gsr ?_
    refine Lmv rfl rfl ?_
    refine Las rfl rfl ?_
    refine Lnt ?_
    refine Gs.ret ?_
    exact Gs.fin1 Tryz.results49 rfl _ (⟨ka, kc, rfl, rfl⟩) (by repeat constructor)
end YtklgiidfompdpaaGreatDoor
end Go.Proofs
namespace Go.Ix
open Go Go.Sl Go.Gv Go.Kv Go.Po Go.Bst
def posStep (m : List (ByteArray × List Int)) (p : WordP) : List (ByteArray × List Int) := mput m p.1 ((mget m p.1).getD [] ++ [p.2])
def posL (T : List WordP) : List (ByteArray × List Int) := T.foldl posStep []
def putW (k : Key) (m : PL) (e : ByteArray × List Int) : PL := mput m e.1 (putP ((mget m e.1).getD []) (k, e.2))
theorem filter_two {α : Type} {f g : α → Bool} (h : ∀ x, f x = true → g x = true → False) : ∀ L : List α, (L.filter f).length + (L.filter g).length ≤ L.length
  | [] => Nat.le_refl _
  | x :: L => by
    have ih := filter_two h L
    have := h x
    rw [List.filter_cons, List.filter_cons]
    cases hf : f x <;> cases hg : g x <;> simp_all <;> omega
theorem putP_le (L : List PostP) (x : PostP) : (putP L x).length ≤ L.length + 1 := by
  unfold putP
  split
  · split
    · have := filter_two (f := fun y : PostP => before y.1 x.1) (g := fun y : PostP => before x.1 y.1) (fun y h1 h2 => by have := before_asymm h1; simp_all) L
      simp only [List.length_append, List.length_cons, List.length_nil]; omega
    · omega
  · exact Nat.zero_le _
theorem putP_sub {L : List PostP} {x p : PostP} (h : p ∈ putP L x) : p = x ∨ p ∈ L := by
  unfold putP at h
  split at h
  · split at h
    · simp only [List.mem_append, List.mem_filter, List.mem_cons, List.not_mem_nil, or_false] at h
      rcases h with (h | h) | h
      · exact .inr h.1
      · exact .inl h
      · exact .inr h.1
    · exact .inr h
  · cases h
section
variable {α : Type}
theorem del_none {κ : Type} [DecidableEq κ] : ∀ {m : List (κ × α)} {k : κ}, mget m k = none → mdel m k = m
  | [], _, _ => rfl
  | (j, u) :: m, k, h => by
    unfold mget at h
    split at h
    · cases h
    · rename_i e; unfold mdel; rw [if_neg e, del_none h]
theorem take_del {κ : Type} [DecidableEq κ] {f : κ × α → HProp} : ∀ {m : List (κ × α)} {k : κ} {v : α}, mget m k = some v → Take (f (k, v)) (m.map f) ((mdel m k).map f)
  | [], _, _, h => by cases h
  | (j, u) :: m, k, v, h => by
    unfold mget at h; unfold mdel
    split at h
    · rename_i e; cases h; subst e; rw [if_pos rfl]; exact .hd
    · rename_i e; rw [if_neg e]; exact .tl (take_del h)
theorem take_put {κ : Type} [DecidableEq κ] {f : κ × α → HProp} : ∀ {m : List (κ × α)} {k : κ} {v : α}, Take (f (k, v)) ((mput m k v).map f) ((mdel m k).map f)
  | [], _, _ => .hd
  | (j, u) :: m, k, v => by
    unfold mput mdel
    split
    · rename_i e; subst e; exact .hd
    · exact .tl take_put
theorem mput_len {κ : Type} [DecidableEq κ] (m : List (κ × α)) (k : κ) (v : α) : (mput m k v).length ≤ m.length + 1 := by
  induction m with
  | nil => exact Nat.le_refl _
  | cons p m ih =>
    obtain ⟨j, u⟩ := p
    unfold mput
    split
    · simp
    · simp only [List.length_cons]; omega
end
end Go.Ix
namespace Go.Proofs.YtklgiidfompdpaaGreatDoor
open Go Go.Sl Go.Gv Go.Kv Go.Po Go.Ix Go.Bst
set_option maxRecDepth 100000
/-- The answer of a put; what it makes. -/
def putN (W : PW) (r : Rec) : Int := if recB r then (if (mget W r.key).isSome then 6 else 0) else 2
def PutI (r : Rec) (T : List WordP) (s s' : PL × PW) : Prop :=
  if putN s.2 r = 0 then ∃ es, List.Perm es (posL T) ∧ s' = (es.foldl (putW r.key) s.1, mput s.2 r.key (sortB (mkeys (posL T)))) else s' = s
/-- The places of a word that is being counted, in memory. -/
abbrev atM (p : ByteArray × SlV Int) : HProp := sl 3 1 intC p.2.a p.2.c p.2.xs
theorem Gs.atTake {w0 : World} {n : Nat} {env : Env} {H : List HProp} {X : Act → World → Prop} {M : List (ByteArray × SlV Int)} (w : ByteArray) (g : Gs w0 n env (atM (w, (mget M w).getD slZ) :: big ((mdel M w).map atM) :: H) X) : Gs w0 n env (big (M.map atM) :: H) X := by
  cases h : mget M w with
  | some s => rw [h] at g; exact Gs.bigTake (take_del h) g
  | none =>
    rw [h, del_none h] at g
    exact Gs.slNil 3 1 intC g
theorem RdW.put {S : HProp} {W : List (Key × SlV ByteArray)} (h : RdW S W) {k : Key} {a : Option Addr} {c : Nat} {ws : List ByteArray} (hl : ws.length ≤ 1000) : RdW (two S (sl 9 1 strC a c ws)) (mput W k ⟨a, ws, c⟩) := fun p hp => by
  rcases mem_put hp with rfl | hp
  · exact ⟨Srd.two2 Srd.own, hl⟩
  · exact ⟨Srd.two1 (h p hp).1, (h p hp).2⟩
theorem put_spec {h0 : Hp} (T : TabX h0) (x : Nat) (L : List (ByteArray × SlV PostV)) (W : List (Key × SlV ByteArray)) (r : Rec) (hlen : ∀ p ∈ L, p.2.xs.length ≤ 800) :
    Ct Tryz.prog 34 [ptr x, recV r] [ixA x L W, ro h0] (fun v hs => ∃ L' W', v = int (putN (plW W) r) ∧ PutI r (toksV r.t) (plL L, plW W) (plL L', plW W') ∧ hs = [ixA x L' W', ro h0]) := by
  refine Ct.intro Tryz.func34 rfl (by kernel_rfl) 81 Tryz.ntmps34 (Nat.le_of_ble_eq_true rfl) fun w0 R => ?_
  refine Gsr ?_
  refine Lac rfl rfl trivial (ac_box rfl rfl) ?_
  rintro _ _ ⟨rb, rfl, rfl⟩
  refine Las rfl rfl ?_
  refine Lnt ?_
  refine Gs.seq ?_
  refine Gsr ?_
  refine Lmv rfl rfl ?_
  refine Lpu rfl rfl trivial (pu_eqN Tryz.underlying72 rfl rfl) ?_
  refine Lnt ?_
  refine Gs.cond_ff rfl rfl ?_
  refine Gs.skip ?_
  refine Gs.then_n ?_
  refine Gs.seq ?_
  refine Gsr ?_
  refine Lrd rfl rfl trivial (rd_lda ag_32 rfl (Rdc.cl 5 (by repeat constructor) rfl) rfl) ?_
  refine Lac rfl rfl trivial (as_call (recMay_spec T.1 r) (by repeat constructor) (by repeat constructor)) ?_
  rintro _ _ ⟨_, ⟨rfl, rfl⟩, rfl⟩
  refine Lpu rfl rfl trivial (pu_not rfl) ?_
  refine Lnt ?_
  refine Gs.cond rfl (fun hc1 => ?_) (fun hc1 => ?_)
  ·
   have hno : putN (plW W) r = 2 := by unfold putN; rw [not_t hc1]; rfl
   refine Gsr ?_
   refine Las rfl rfl ?_
   refine Lnt ?_
   refine Gs.ret ?_
   refine Gs.then_r ?_
   exact Gs.fin1 Tryz.results34 rfl _ (⟨L, W, by rw [hno], by unfold PutI; rw [if_neg (by rw [hno]; decide)], rfl⟩) (by repeat constructor)
  ·
   have hmay := not_f hc1
   refine Gs.takes (As := [ixA x L W]) (by repeat constructor) (Gs.ix fun ml mw S hL hW => ?_)
   refine Gs.skip ?_
   refine Gs.then_n ?_
   refine Gs.seq ?_
   refine Gs.seq ?_
   refine Gs.regD mixed (by kernel_rfl) ?_
   refine Rg.pu 0 rfl rfl (by kernel_rfl) trivial (pu_move rfl) ?_
   refine Rg.pu 1 rfl rfl (by kernel_rfl) trivial (by first | exact pu_nil rfl | exact pu_nilF rfl) ?_
   refine Rg.pu 2 rfl rfl (by kernel_rfl) trivial (pu_fa fa_92_1 rfl) ?_
   refine Rg.rd 3 rfl rfl (by kernel_rfl) trivial (rd_ld na_90 rfl (Rdc.cl1 (by repeat constructor) rfl)) ?_
   refine Rg.pu 4 rfl rfl (by kernel_rfl) trivial (pu_fa fa_32_0 rfl) ?_
   refine Rg.rd 5 rfl rfl (by kernel_rfl) trivial (rd_lda ag_28 rfl (Rdc.cl 2 (by repeat constructor) rfl) rfl) ?_
   refine Rg.rd 6 rfl rfl (by kernel_rfl) trivial (rd_look2 (k := r.key) Tryz.underlying90 kt_28 zvk_23 rfl rfl (by repeat constructor)) ?_
   refine Rg.pu 7 rfl rfl (by kernel_rfl) trivial (pu_move rfl) ?_
   refine Rg.pu 8 rfl rfl (by kernel_rfl) trivial (pu_extract rfl rfl) ?_
   refine Rg.pu 9 rfl rfl (by kernel_rfl) trivial (pu_extract rfl rfl) ?_
   refine Rg.pu 10 rfl rfl (by kernel_rfl) trivial (pu_assign rfl) ?_
   refine Rg.pu 11 rfl rfl (by kernel_rfl) trivial (pu_assign rfl) ?_
   refine Rg.end (by kernel_rfl) ?_
   refine Gs.then_n ?_
   refine Gsr ?_
   refine Lmv rfl rfl ?_
   refine Lnt ?_
   refine Gs.cond rfl (fun hc2 => ?_) (fun hc2 => ?_)
   ·
    have hno : putN (plW W) r = 6 := by
      unfold putN; rw [if_pos hmay, plW, mm_get]
      cases h : mget W r.key with
      | none => rw [h] at hc2; cases hc2
      | some s => rfl
    refine Gsr ?_
    refine Las rfl rfl ?_
    refine Lnt ?_
    refine Gs.ret ?_
    refine Gs.then_r ?_
    refine Gs.takes (As := [cl x 92 [.map (some ml), .map (some mw)], mp strV slV ml L, mp keyV slV mw W, S]) (by repeat constructor) (Gs.ixc hL hW ?_)
    exact Gs.fin1 Tryz.results34 rfl _ (⟨L, W, by rw [hno], by unfold PutI; rw [if_neg (by rw [hno]; decide)], rfl⟩) (by repeat constructor)
   ·
    have hyes : putN (plW W) r = 0 := by
      unfold putN; rw [if_pos hmay, plW, mm_get]
      cases h : mget W r.key with
      | none => rfl
      | some s => rw [h] at hc2; cases hc2
    refine Gs.skip ?_
    refine Gs.then_n ?_
    refine Gsr ?_
    refine Lac rfl rfl trivial (ac_mkmap enck_9 encv_99) ?_
    rintro _ _ ⟨m, rfl, rfl⟩
    refine Las rfl rfl ?_
    refine Lnt ?_
    refine Gs.seq ?_
    refine Gsr ?_
    refine Lpu rfl rfl trivial (pu_fa fa_32_2 rfl) ?_
    refine Lrd rfl rfl trivial (rd_ld na_9 rfl (Rdc.cl1 (by repeat constructor) rfl)) ?_
    refine Lac rfl rfl trivial (as_call (of_spec T r.t) (by repeat constructor) (by repeat constructor)) ?_
    rintro _ _ ⟨_, ⟨ta, tc, rfl, rfl⟩, rfl⟩
    refine Lpu rfl rfl trivial (pu_len Tryz.underlying83 rfl) ?_
    refine Lmv rfl rfl ?_
    refine Lnil ?_
    have htl : (toksV r.t).length ≤ 121 := by rw [toksV, toks_length]; exact words_len _
    refine Gs.slAddr (xs := toksV r.t) (SlH.own (E := 98) (enc := wordC) (a := ta) (c := tc) (by repeat constructor)) fun tb tof hta => ?_
    refine Gs.bigNil ?_
    refine Gs.then_n ?_
    refine Gs.block ?_
    refine Gs.loop1 (fun s : Nat × List (ByteArray × SlV Int) => s.1 ≤ (toksV r.t).length ∧ mm (fun s => s.xs) s.2 = posL ((toksV r.t).take s.1) ∧ s.2.length ≤ s.1 ∧ ∀ p ∈ s.2, p.2.xs.length ≤ s.1) (fun s => [(0, ptr x), (3, ptr rb), (7, .map (some m)), (31, .slice ta (toksV r.t).length tc), (32, int (toksV r.t).length), (33, int s.1)]) (fun s => [cl rb 32 (recC r), cl x 92 [.map (some ml), .map (some mw)], mp strV slV ml L, mp keyV slV mw W, S, ro h0, sl 98 2 wordC ta tc (toksV r.t), mp strV slV m s.2, big (s.2.map atM)] ++ R) (fun s => (toksV r.t).length - s.1) (0, []) (⟨Nat.zero_le _, rfl, Nat.zero_le _, fun _ h => by cases h⟩) (by repeat constructor) (by repeat constructor) (fun s hs => ?_)
    obtain ⟨i, M⟩ := s
    obtain ⟨hi, hM, hMl, hMb⟩ := hs
    dsimp only at hi hM hMl hMb ⊢
    refine Gsr ?_
    refine Lpu rfl rfl trivial (pu_lt rfl rfl) ?_
    refine Lnt ?_
    refine Gs.seq ?_
    refine Gs.cond rfl (fun hc3 => ?_) (fun hc3 => ?_)
    ·
     have hlt : i < (toksV r.t).length := by have := of_decide_eq_true hc3; omega
     obtain ⟨p, hp⟩ : ∃ z, (toksV r.t)[i]? = some z := ⟨(toksV r.t)[i], by simp [hlt]⟩
     obtain rfl := hta (by rintro h; rw [h] at hlt; simp at hlt)
     have hnx := fold_take posStep [] hp
     rw [show ((toksV r.t).take i).foldl posStep [] = mm (fun s => s.xs) M from hM.symm] at hnx
     have hgl : ((mget M p.1).getD (slZ : SlV Int)).xs.length ≤ i := by
       cases h : mget M p.1 with
       | none => exact Nat.zero_le _
       | some s => exact hMb (p.1, s) (mget_mem h)
     refine Gs.skip ?_
     refine Gs.then_n ?_
     refine Gs.seq ?_
     refine Gs.block ?_
     refine Gsr ?_
     refine Lpu rfl rfl trivial (pu_ia se_83 rfl rfl (by omega) (by omega)) ?_
     refine Lrd rfl rfl trivial (rd_lda ag_98 rfl (Rdc.el0 (SlH.own (xs := toksV r.t) (E := 98) (enc := wordC) (sz := 2) (by repeat constructor)) hp rfl rfl) rfl) ?_
     refine Lac rfl rfl trivial (ac_alloc zv_98 rfl) ?_
     rintro _ _ ⟨wb, rfl, rfl⟩
     refine Lac0 rfl trivial (ac_st sz_98 rfl rfl (by repeat constructor) rfl rfl rfl rfl) ?_
     rintro _ _ rfl
     refine Lnt ?_
     refine Gs.takes (As := [big (M.map atM)]) (by repeat constructor) (Gs.atTake p.1 ?_)
     refine Gs.regD mixed (by kernel_rfl) ?_
     refine Rg.pu 0 rfl rfl (by kernel_rfl) trivial (pu_move rfl) ?_
     refine Rg.pu 1 rfl rfl (by kernel_rfl) trivial (pu_fa fa_98_0 rfl) ?_
     refine Rg.rd 2 rfl rfl (by kernel_rfl) trivial (rd_ld na_9 rfl (Rdc.cl1 (by repeat constructor) rfl)) ?_
     refine Rg.pu 3 rfl rfl (by kernel_rfl) trivial (pu_move rfl) ?_
     refine Rg.pu 4 rfl rfl (by kernel_rfl) trivial (pu_fa fa_98_0 rfl) ?_
     refine Rg.rd 5 rfl rfl (by kernel_rfl) trivial (rd_ld na_9 rfl (Rdc.cl1 (by repeat constructor) rfl)) ?_
     refine Rg.rd 6 rfl rfl (by kernel_rfl) trivial (rd_look1 Tryz.underlying96 kt_9 zvk_99 rfl rfl (by repeat constructor)) ?_
     refine Rg.pu 7 rfl rfl (by kernel_rfl) trivial (pu_fa fa_98_1 rfl) ?_
     refine Rg.rd 8 rfl rfl (by kernel_rfl) trivial (rd_ld na_3 rfl (Rdc.cl1 (by repeat constructor) rfl)) ?_
     refine Rg.one (by kernel_rfl) (Stp.acK 9 rfl rfl (by kernel_rfl) trivial (ac_lit encC_3 ([p.2]) et_99 ek_3 rfl (by repeat constructor) rfl rfl (by decide)) (by rintro _ _ ⟨a46, rfl, rfl⟩ w s; first | exact s.drop | exact s | exact Ent.sat (by repeat constructor) s) ?_)
     rintro _ _ ⟨a46, rfl, rfl⟩
     refine Rg.one (by kernel_rfl) (Stp.acR 10 [2] rfl rfl (by kernel_rfl) trivial (ac_append (xs := ((mget M p.1).getD (slZ : SlV Int)).xs) (ys := [p.2]) et_99 ek_3 rfl rfl (by repeat constructor) (SrcH.sl Tryz.underlying99 ek_3 (SlH.own (by repeat constructor))) (by first | omega | (simp; omega)) (by first | omega | (simp; omega))) (by rintro _ _ ⟨a47, c47, rfl, rfl⟩; exact (Reads.cons rfl rfl rfl trivial rfl (rd_ld na_9 rfl (Rdc.cl1 (by repeat constructor) rfl)) Reads.nil)) ?_)
     rintro _ _ ⟨a47, c47, rfl, rfl⟩
     refine Rg.one (by kernel_rfl) (Stp.ac0 11 rfl rfl (by kernel_rfl) trivial (ac_put (encv := slV) (k := p.1) (v := (⟨a47, ((mget M p.1).getD (slZ : SlV Int)).xs ++ [p.2], c47⟩ : SlV Int)) Tryz.underlying96 kt_9 rfl rfl rfl (by repeat constructor))  ?_)
     rintro _ _ rfl
     refine Rg.end (by kernel_rfl) ?_
     refine Gs.takes (As := [atM (p.1, (⟨a47, ((mget M p.1).getD (slZ : SlV Int)).xs ++ [p.2], c47⟩ : SlV Int)), big ((mdel M p.1).map atM)]) (by repeat constructor) (Gs.bigBack take_put ?_)
     have hM2 : mm (fun s => s.xs) (mput M p.1 (⟨a47, ((mget M p.1).getD (slZ : SlV Int)).xs ++ [p.2], c47⟩ : SlV Int)) = posL ((toksV r.t).take (i + 1)) := by
       rw [posL, hnx, mm_put, posStep, mm_get]
       congr 2
       cases mget M p.1 <;> rfl
     have hl2 := mput_len M p.1 (⟨a47, ((mget M p.1).getD (slZ : SlV Int)).xs ++ [p.2], c47⟩ : SlV Int)
     have hb2 : ∀ q ∈ mput M p.1 (⟨a47, ((mget M p.1).getD (slZ : SlV Int)).xs ++ [p.2], c47⟩ : SlV Int), q.2.xs.length ≤ i + 1 := fun q hq => by
       rcases mem_put hq with rfl | hq
       · simp only [List.length_append, List.length_cons, List.length_nil]; omega
       · have := hMb q hq; omega
     refine Gs.blk_n ?_
     refine Gs.then_n ?_
     refine Gs.reg ?_
     refine Lpu rfl rfl trivial (by first | exact pu_addI rfl rfl rfl (by omega) (by omega) | exact pu_add rfl rfl) ?_
     refine Lmv rfl rfl ?_
     refine Lnt ?_
     exact Gs.again1 (i + 1, mput M p.1 (⟨a47, ((mget M p.1).getD (slZ : SlV Int)).xs ++ [p.2], c47⟩ : SlV Int)) ⟨hlt, hM2, Nat.le_trans hl2 (Nat.succ_le_succ hMl), hb2⟩ (by show (toksV r.t).length - (i + 1) < (toksV r.t).length - i; omega) (by repeat constructor) (by repeat constructor)
    ·
     have hge : i = (toksV r.t).length := by have := of_decide_eq_false hc3; omega
     rw [hge, List.take_length] at hM
     refine Gs.exit ?_
     refine Gs.then_x ?_
     refine Gs.then_x ?_
     refine Gs.blk_hit ?_
     refine Gs.then_n ?_
     refine Gs.seq ?_
     refine Gs.regD mixed (by kernel_rfl) ?_
     refine Rg.pu 0 rfl rfl (by kernel_rfl) trivial (pu_move rfl) ?_
     refine Rg.pu 1 rfl rfl (by kernel_rfl) trivial (by first | exact pu_nil rfl | exact pu_nilF rfl) ?_
     refine Rg.pu 2 rfl rfl (by kernel_rfl) trivial (pu_fa fa_92_1 rfl) ?_
     refine Rg.rd 3 rfl rfl (by kernel_rfl) trivial (rd_ld na_90 rfl (Rdc.cl1 (by repeat constructor) rfl)) ?_
     refine Rg.pu 4 rfl rfl (by kernel_rfl) trivial (pu_fa fa_32_0 rfl) ?_
     refine Rg.rd 5 rfl rfl (by kernel_rfl) trivial (rd_lda ag_28 rfl (Rdc.cl 2 (by repeat constructor) rfl) rfl) ?_
     refine Rg.pu 6 rfl rfl (by kernel_rfl) trivial (pu_move rfl) ?_
     refine Rg.one (by kernel_rfl) (Stp.acR 7 [3, 5] rfl rfl (by kernel_rfl) trivial (as_call (t_keysFn_spec m) (by repeat constructor) (by repeat constructor)) (by rintro _ _ ⟨_, ⟨fb, rfl, rfl⟩, rfl⟩; exact (Reads.cons rfl rfl rfl trivial rfl (rd_ld na_90 rfl (Rdc.cl1 (by repeat constructor) rfl)) (Reads.cons rfl rfl rfl trivial rfl (rd_lda ag_28 rfl (Rdc.cl 2 (by repeat constructor) rfl) rfl) Reads.nil))) ?_)
     rintro _ _ ⟨_, ⟨fb, rfl, rfl⟩, rfl⟩
     refine Rg.one (by kernel_rfl) (Stp.acR 8 [3, 5] rfl rfl (by kernel_rfl) trivial (as_call (sortedT_spec fb m M (by omega)) (by repeat constructor) (by repeat constructor)) (by rintro _ _ ⟨_, ⟨sa, sc, rfl, rfl⟩, rfl⟩; exact (Reads.cons rfl rfl rfl trivial rfl (rd_ld na_90 rfl (Rdc.cl1 (by repeat constructor) rfl)) (Reads.cons rfl rfl rfl trivial rfl (rd_lda ag_28 rfl (Rdc.cl 2 (by repeat constructor) rfl) rfl) Reads.nil))) ?_)
     rintro _ _ ⟨_, ⟨sa, sc, rfl, rfl⟩, rfl⟩
     refine Rg.one (by kernel_rfl) (Stp.ac0 9 rfl rfl (by kernel_rfl) trivial (ac_put (encv := slV) (k := r.key) (v := (⟨sa, sortB (mkeys M), sc⟩ : SlV ByteArray)) Tryz.underlying90 kt_28 rfl rfl rfl (by repeat constructor))  ?_)
     rintro _ _ rfl
     refine Rg.end (by kernel_rfl) ?_
     have hkM : mkeys M = mkeys (posL (toksV r.t)) := by rw [← hM]; simp [mm, mkeys]
     have hsl : (sortB (mkeys M)).length ≤ 1000 := by rw [sortB_length]; simp [mkeys]; omega
     have hW2 := hW.put (k := r.key) (a := sa) (c := sc) hsl
     have hpW : plW (mput W r.key ⟨sa, sortB (mkeys M), sc⟩) = mput (plW W) r.key (sortB (mkeys (posL (toksV r.t)))) := by rw [plW, mm_put, hkM]; rfl
     refine Gs.takes (As := [S, sl 9 1 strC sa sc (sortB (mkeys M))]) (by repeat constructor) (Gs.toTwo ?_)
     refine Gs.then_n ?_
     refine Gs.seq ?_
     refine Gsr ?_
     refine Lmv rfl rfl ?_
     refine Lac rfl rfl trivial (ac_range (enck := strV) (encv := slV) Tryz.underlying96 rfl (by repeat constructor)) ?_
     rintro _ _ ⟨ri, rfl, rfl⟩
     refine Lnt ?_
     refine Gs.block ?_
     refine Gs.loop1 (fun s : List (ByteArray × SlV Int) × List (ByteArray × SlV Int) × Option (ByteArray × SlV Int) × List (ByteArray × SlV PostV) × HProp => List.Perm (s.1 ++ s.2.1) M ∧ plL s.2.2.2.1 = (mm (fun s : SlV Int => s.xs) s.1).foldl (putW r.key) (plL L) ∧ RdL s.2.2.2.2 s.2.2.2.1 ∧ RdW s.2.2.2.2 (mput W r.key ⟨sa, sortB (mkeys M), sc⟩) ∧ ∀ p ∈ s.2.2.2.1, p.2.xs.length ≤ 800 + s.1.length) (fun s => [(0, ptr x), (3, ptr rb), (59, ptr ri)]) (fun s => [itr strV slV ri m M s.2.1 s.2.2.1, cl x 92 [.map (some ml), .map (some mw)], mp strV slV ml s.2.2.2.1, mp keyV slV mw (mput W r.key ⟨sa, sortB (mkeys M), sc⟩), s.2.2.2.2, big (M.map atM), cl rb 32 (recC r), ro h0] ++ R) (fun s => s.2.1.length) ([], M, none, L, two S (sl 9 1 strC sa sc (sortB (mkeys M)))) (⟨List.Perm.refl _, rfl, hL.l, hW2, fun p hp => hlen p hp⟩) (by repeat constructor) (by repeat constructor) (fun s hs => ?_)
     obtain ⟨pre, left, last, L1, S1⟩ := s
     obtain ⟨hs, hst, hL1, hW1, hb1⟩ := hs
     dsimp only at hs hst hL1 hW1 hb1 ⊢
     refine Gsr ?_
     refine Lac rfl rfl trivial (ac_next rfl (by repeat constructor)) ?_
     rintro _ _ (⟨hl, rfl, rfl⟩ | ⟨j, e, he, rfl, rfl⟩)
     ·
      have hl' : left = [] := hl
      subst hl'
      rw [List.append_nil] at hs
      refine Lpu rfl rfl trivial (pu_extract rfl rfl) ?_
      refine Lnt ?_
      refine Gs.seq ?_
      refine Gs.cond_f rfl ?_
      refine Gs.exit ?_
      refine Gs.then_x ?_
      refine Gs.then_x ?_
      refine Gs.blk_hit ?_
      refine Gs.then_n ?_
      refine Gsr ?_
      refine Las rfl rfl ?_
      refine Lnt ?_
      refine Gs.ret ?_
      refine Gs.takes (As := [cl x 92 [.map (some ml), .map (some mw)], mp strV slV ml L1, mp keyV slV mw (mput W r.key ⟨sa, sortB (mkeys M), sc⟩), S1]) (by repeat constructor) (Gs.ixc hL1 hW1 ?_)
      exact Gs.fin1 Tryz.results34 rfl _ (⟨L1, mput W r.key ⟨sa, sortB (mkeys M), sc⟩, by rw [hyes], by unfold PutI; rw [if_pos hyes, hst, hpW]; exact ⟨mm (fun s : SlV Int => s.xs) pre, by rw [← hM]; exact hs.map _, rfl⟩, rfl⟩) (by repeat constructor)
     ·
      have hjl := (List.getElem?_eq_some_iff.1 he).1
      have hperm : List.Perm ((pre ++ [e]) ++ left.eraseIdx j) M := by
        refine List.Perm.trans ?_ hs
        rw [List.append_assoc]
        exact List.Perm.append_left pre (l_erase_perm he)
      have hlt : (left.eraseIdx j).length < left.length := by
        rw [List.length_eraseIdx_of_lt hjl]; omega
      have hpl : pre.length + left.length = M.length := by have := hs.length_eq; simpa using this
      have heM : e ∈ M := hs.subset (List.mem_append_right _ (List.mem_of_getElem? he))
      have hU : Srd (big (M.map atM)) 1 intC e.2.a e.2.xs := Srd.bigs Srd.own (List.mem_map.2 ⟨e, heM, rfl⟩)
      have heb := hMb e heM
      have hrd := lisT_rd hL1 e.1
      have hll : (lisT L1 e.1).xs.length ≤ 800 + pre.length := by
        unfold lisT
        cases h : mget L1 e.1 with
        | none => exact Nat.zero_le _
        | some s => exact hb1 (e.1, s) (mget_mem h)
      refine Lpu rfl rfl trivial (pu_extract rfl rfl) ?_
      refine Lnt ?_
      refine Gs.seq ?_
      refine Gs.cond_t rfl ?_
      refine Gs.skip ?_
      refine Gs.then_n ?_
      refine Gs.block ?_
      refine Gsr ?_
      refine Lrd rfl rfl trivial (ac_entry rfl (by repeat constructor)) ?_
      refine Lpu rfl rfl trivial (pu_extract rfl rfl) ?_
      refine Lpu rfl rfl trivial (pu_extract rfl rfl) ?_
      refine Las rfl rfl ?_
      refine Las rfl rfl ?_
      refine Lnt ?_
      refine Gs.regD mixed (by kernel_rfl) ?_
      refine Rg.pu 0 rfl rfl (by kernel_rfl) trivial (pu_move rfl) ?_
      refine Rg.pu 1 rfl rfl (by kernel_rfl) trivial (by first | exact pu_nil rfl | exact pu_nilF rfl) ?_
      refine Rg.pu 2 rfl rfl (by kernel_rfl) trivial (pu_fa fa_92_0 rfl) ?_
      refine Rg.rd 3 rfl rfl (by kernel_rfl) trivial (rd_ld na_89 rfl (Rdc.cl1 (by repeat constructor) rfl)) ?_
      refine Rg.pu 4 rfl rfl (by kernel_rfl) trivial (pu_move rfl) ?_
      refine Rg.pu 5 rfl rfl (by kernel_rfl) trivial (pu_move rfl) ?_
      refine Rg.pu 6 rfl rfl (by kernel_rfl) trivial (by first | exact pu_nil rfl | exact pu_nilF rfl) ?_
      refine Rg.pu 7 rfl rfl (by kernel_rfl) trivial (pu_fa fa_92_0 rfl) ?_
      refine Rg.rd 8 rfl rfl (by kernel_rfl) trivial (rd_ld na_89 rfl (Rdc.cl1 (by repeat constructor) rfl)) ?_
      refine Rg.pu 9 rfl rfl (by kernel_rfl) trivial (pu_move rfl) ?_
      refine Rg.rd 10 rfl rfl (by kernel_rfl) trivial (rd_look1 Tryz.underlying89 kt_9 zvk_94 rfl rfl (by repeat constructor)) ?_
      refine Rg.pu 11 rfl rfl (by kernel_rfl) trivial (pu_fa fa_32_0 rfl) ?_
      refine Rg.rd 12 rfl rfl (by kernel_rfl) trivial (rd_lda ag_28 rfl (Rdc.cl 2 (by repeat constructor) rfl) rfl) ?_
      refine Rg.pu 13 rfl rfl (by kernel_rfl) trivial (pu_move rfl) ?_
      refine Rg.pu 14 rfl rfl (by kernel_rfl) trivial (pu_build bd_106 (by repeat constructor) rfl) ?_
      refine Rg.one (by kernel_rfl) (Stp.acR 15 [3] rfl rfl (by kernel_rfl) trivial (as_call (Ct.two (pput_spec (S := two S1 (big (M.map atM))) (a := (lisT L1 e.1).a) (c := (lisT L1 e.1).c) (ps := (lisT L1 e.1).xs) (p := ⟨r.key, e.2⟩) hrd.1.l hrd.2 (Srd.two2 hU) (by dsimp only; omega)) (by rintro _ _ ⟨_, _, _, _, _, rfl⟩; exact ⟨_, rfl⟩)) (by repeat constructor) (by repeat constructor)) (by rintro _ _ ⟨_, ⟨_, ⟨da, dc, qs, rfl, hq, ⟨⟩⟩, rfl⟩, rfl⟩; exact (Reads.cons rfl rfl rfl trivial rfl (rd_ld na_89 rfl (Rdc.cl1 (by repeat constructor) rfl)) Reads.nil)) ?_)
      rintro _ _ ⟨_, ⟨_, ⟨da, dc, qs, rfl, hq, ⟨⟩⟩, rfl⟩, rfl⟩
      refine Rg.one (by kernel_rfl) (Stp.ac0 16 rfl rfl (by kernel_rfl) trivial (ac_put (encv := slV) (k := e.1) (v := (⟨da, qs, dc⟩ : SlV PostV)) Tryz.underlying89 kt_9 rfl rfl rfl (by repeat constructor))  ?_)
      rintro _ _ rfl
      refine Rg.end (by kernel_rfl) ?_
      have hqe : plain1 qs = putP ((mget (plL L1) e.1).getD []) (r.key, e.2.xs) := by rw [hq, plL_get]; rfl
      have hql : qs.length ≤ 800 + (pre.length + 1) := by
        have h1 := congrArg List.length hqe
        have h2 := putP_le ((mget (plL L1) e.1).getD []) (r.key, e.2.xs)
        rw [plL_get] at h1 h2
        simp only [List.length_map] at h1 h2
        omega
      have hqb : ∀ q ∈ qs, q.t.xs.length ≤ 1000 := fun q hqm => by
        have : q.p ∈ plain1 qs := List.mem_map.2 ⟨q, hqm, rfl⟩
        rw [hqe] at this
        rcases putP_sub this with h | h
        · have h2 : q.t.xs = e.2.xs := congrArg Prod.snd h
          rw [h2]; omega
        · rw [plL_get] at h
          obtain ⟨y, hy, hye⟩ := List.mem_map.1 h
          have h2 : y.t.xs = q.t.xs := congrArg Prod.snd hye
          rw [← h2]; exact hL1.at e.1 y hy
      have hL3 := hL1.put (w := e.1) (a := da) (c := dc) hqb (by omega)
      have hpl3 : plL (mput L1 e.1 ⟨da, qs, dc⟩) = (mm (fun s : SlV Int => s.xs) (pre ++ [e])).foldl (putW r.key) (plL L) := by
        rw [mm, List.map_append, List.foldl_append, ← mm, ← hst, plL, mm_put, ← plL]
        show mput (plL L1) e.1 (plain1 qs) = _
        rw [hqe]; rfl
      have hb3 : ∀ p ∈ mput L1 e.1 ⟨da, qs, dc⟩, p.2.xs.length ≤ 800 + (pre ++ [e]).length := fun p hp => by
        rw [List.length_append]
        rcases mem_put hp with rfl | hp
        · exact hql
        · have := hb1 p hp; simp; omega
      refine Gs.blk_n ?_
      refine Gs.then_n ?_
      exact Gs.takes (As := [S1, plO da dc qs]) (by repeat constructor) (Gs.toTwo (Gs.again1 (pre ++ [e], left.eraseIdx j, some e, mput L1 e.1 ⟨da, qs, dc⟩, two S1 (plO da dc qs)) ⟨hperm, hpl3, hL3, hW1.l, hb3⟩ hlt (by repeat constructor) (by repeat constructor)))
end Go.Proofs.YtklgiidfompdpaaGreatDoor
namespace Go.Ix
open Go Go.Sl Go.Gv Go.Kv Go.Po Go.Bst
def preB (s w : ByteArray) : Bool := Lib.hasPrefix s.data.toList w.data.toList
abbrev PM : Type := List (Key × List Int)
def catP (M : PM) (p : PostP) : PM := mput M p.1 ((mget M p.1).getD [] ++ p.2)
def preStep (w : ByteArray) (P : PL) (M : PM) (s : ByteArray) : PM := if preB s w then ((mget P s).getD []).foldl catP M else M
def prefM (w : ByteArray) (P : PL) : PM := (sortB (mkeys P)).foldl (preStep w P) []
theorem take_erase {α : Type} {f : α → HProp} : ∀ {l : List α} {j : Nat} {e : α}, l[j]? = some e → Take (f e) (l.map f) ((l.eraseIdx j).map f)
  | [], _, _, h => by cases h
  | x :: l, 0, e, h => by cases h; exact .hd
  | x :: l, j + 1, e, h => .tl (take_erase (by simpa using h))
end Go.Ix
namespace Go.Sl
open Go
variable {w0 w : World} {M : List HProp}
theorem Sat.bigPerm {L L' : List HProp} (p : List.Perm L L') : ∀ {M : List HProp}, Sat w0 w (Sl.big L :: M) → Sat w0 w (Sl.big L' :: M) := by
  induction p with
  | nil => exact fun s => s
  | cons x p ih => exact fun s => Sat.bigBack .hd ((ih ((Sat.bigTake .hd s).take (.tl .hd))).take (.tl .hd))
  | swap x y l => exact fun s => Sat.bigBack (.tl .hd) (Sat.bigTake .hd s)
  | trans p q ih1 ih2 => exact fun s => ih2 (ih1 s)
theorem Gs.bigPerm {n : Nat} {env : Env} {X : Act → World → Prop} {L L' : List HProp} (p : List.Perm L L') (g : Gs w0 n env (Sl.big L' :: M) X) : Gs w0 n env (Sl.big L :: M) X := fun a w e s => g a w e (s.bigPerm p)
end Go.Sl
namespace Go.Proofs.YtklgiidfompdpaaGreatDoor
open Go Go.Sl Go.Gv Go.Kv Go.Po Go.Ix Go.Bst
set_option maxRecDepth 100000
abbrev atK {κ : Type} (p : κ × SlV Int) : HProp := sl 3 1 intC p.2.a p.2.c p.2.xs
theorem Gs.atTakeK {κ : Type} [DecidableEq κ] {w0 : World} {n : Nat} {env : Env} {H : List HProp} {X : Act → World → Prop} {M : List (κ × SlV Int)} (w : κ) (g : Gs w0 n env (atK (w, (mget M w).getD slZ) :: big ((mdel M w).map atK) :: H) X) : Gs w0 n env (big (M.map atK) :: H) X := by
  cases h : mget M w with
  | some s => rw [h] at g; exact Gs.bigTake (take_del h) g
  | none =>
    rw [h, del_none h] at g
    exact Gs.slNil 3 1 intC g
theorem hasPrefix_spec (s p : ByteArray) : Ct Tryz.prog 125 [.string s, .string p] [] (fun v hs => v = .bool (preB s p) ∧ hs = []) := by
  refine ⟨enters_of Tryz.func125 (by kernel_rfl) rfl _, fun w0 w R st => ?_⟩
  refine (Any.strings_HasPrefix Tryz.laysHP s p w).mono ?_
  rintro e w' ⟨rfl, rfl⟩
  exact ⟨_, _, rfl, ⟨rfl, rfl⟩, st⟩
/-- A key and its places, told as a posting. -/
abbrev srtP (e : Key × SlV Int) : PostV := ⟨e.1, ⟨e.2.a, sortI e.2.xs, e.2.c⟩⟩
theorem prefix_spec (x : Nat) (L : List (ByteArray × SlV PostV)) (W : List (Key × SlV ByteArray)) (q : ByteArray) (hl : L.length ≤ 100000) :
    Ct Tryz.prog 72 [ptr x, .string q] [ixA x L W] (fun v hs => ∃ a' c' qs, v = .slice a' qs.length c' ∧ List.Perm (plain1 qs) (mm sortI (prefM q (plL L))) ∧ (qs.Pairwise fun p q => before q.k p.k = false) ∧ hs = [ixA x L W, plO a' c' qs]) := by
  refine Ct.intro Tryz.func72 rfl (by kernel_rfl) 65 Tryz.ntmps72 (Nat.le_of_ble_eq_true rfl) fun w0 R => ?_
  refine Gsr ?_
  refine Las rfl rfl ?_
  refine Lnt ?_
  refine Gsr ?_
  refine Lac rfl rfl trivial (ac_mkmap enck_28 encv_99) ?_
  rintro _ _ ⟨m, rfl, rfl⟩
  refine Las rfl rfl ?_
  refine Lnt ?_
  refine Gs.seq ?_
  refine Gsr ?_
  refine Lmv rfl rfl ?_
  refine Lac rfl rfl trivial (as_call (words_spec x L W hl) (by repeat constructor) (by repeat constructor)) ?_
  rintro _ _ ⟨_, ⟨wa, wc, rfl, rfl⟩, rfl⟩
  refine Lpu rfl rfl trivial (pu_len Tryz.underlying23 rfl) ?_
  refine Lmv rfl rfl ?_
  refine Lnil ?_
  have hkl : mkeys (plL L) = mkeys L := by simp [plL, mm, mkeys]
  obtain ⟨ws, hws⟩ : ∃ ws, ws = sortB (mkeys L) := ⟨_, rfl⟩
  rw [← hws]
  have hwl : ws.length ≤ 100000 := by rw [hws, sortB_length]; simp [mkeys]; exact hl
  refine Gs.slAddr (xs := ws) (SlH.own (E := 9) (enc := strC) (a := wa) (c := wc) (by repeat constructor)) fun wb wo hwa => ?_
  refine Gs.bigNil ?_
  refine Gs.takes (As := [ixA x L W]) (by repeat constructor) (Gs.ix fun ml mw S hL hW => ?_)
  refine Gs.then_n ?_
  refine Gs.block ?_
  refine Gs.loop1 (fun s : Nat × List (Key × SlV Int) => s.1 ≤ ws.length ∧ mm (fun s => s.xs) s.2 = (ws.take s.1).foldl (preStep q (plL L)) [] ∧ s.2.length ≤ 1000 * s.1 ∧ ∀ p ∈ s.2, p.2.xs.length ≤ 1000000 * s.1) (fun s => [(0, ptr x), (1, .string q), (5, .map (some m)), (15, .slice wa ws.length wc), (16, int ws.length), (17, int s.1)]) (fun s => [cl x 92 [.map (some ml), .map (some mw)], mp strV slV ml L, mp keyV slV mw W, S, sl 9 1 strC wa wc ws, mp keyV slV m s.2, big (s.2.map atK)] ++ R) (fun s => ws.length - s.1) (0, []) (⟨Nat.zero_le _, rfl, Nat.zero_le _, fun _ h => by cases h⟩) (by repeat constructor) (by repeat constructor) (fun s hs => ?_)
  obtain ⟨i, M⟩ := s
  obtain ⟨hi, hM, hMl, hMb⟩ := hs
  dsimp only at hi hM hMl hMb ⊢
  refine Gsr ?_
  refine Lpu rfl rfl trivial (pu_lt rfl rfl) ?_
  refine Lnt ?_
  refine Gs.seq ?_
  refine Gs.cond rfl (fun hc0 => ?_) (fun hc0 => ?_)
  ·
   have hlt : i < ws.length := by have := of_decide_eq_true hc0; omega
   obtain ⟨sw, hsw⟩ : ∃ z, ws[i]? = some z := ⟨ws[i], by simp [hlt]⟩
   obtain rfl := hwa (by rintro h; rw [h] at hlt; simp at hlt)
   have hnx := fold_take (preStep q (plL L)) [] hsw
   rw [← hM] at hnx
   refine Gs.skip ?_
   refine Gs.then_n ?_
   refine Gs.seq ?_
   refine Gs.block ?_
   refine Gsr ?_
   refine Lpu rfl rfl trivial (pu_ia se_23 rfl rfl (by omega) (by omega)) ?_
   refine Lrd rfl rfl trivial (rd_ld na_9 rfl (Rdc.el0 (SlH.own (xs := ws) (E := 9) (enc := strC) (sz := 1) (by repeat constructor)) hsw rfl rfl)) ?_
   refine Las rfl rfl ?_
   refine Lnt ?_
   refine Gs.seq ?_
   refine Gsr ?_
   refine Lmv rfl rfl ?_
   refine Lmv rfl rfl ?_
   refine Lac rfl rfl trivial (as_call (hasPrefix_spec sw q) (by repeat constructor) (by repeat constructor)) ?_
   rintro _ _ ⟨_, ⟨rfl, rfl⟩, rfl⟩
   refine Lpu rfl rfl trivial (pu_not rfl) ?_
   refine Lnt ?_
   refine Gs.cond rfl (fun hc1 => ?_) (fun hc1 => ?_)
   ·
    have hsame : mm (fun s : SlV Int => s.xs) M = (ws.take (i + 1)).foldl (preStep q (plL L)) [] := by
      rw [hnx, preStep, if_neg (by rw [not_t hc1]; decide)]
    have hl2 : M.length ≤ 1000 * (i + 1) := by omega
    have hb2 : ∀ p ∈ M, p.2.xs.length ≤ 1000000 * (i + 1) := fun p hp => by have := hMb p hp; omega
    refine Gs.exit ?_
    refine Gs.then_x ?_
    refine Gs.blk_hit ?_
    refine Gs.then_n ?_
    refine Gs.reg ?_
    refine Lpu rfl rfl trivial (by first | exact pu_addI rfl rfl rfl (by omega) (by omega) | exact pu_add rfl rfl) ?_
    refine Lmv rfl rfl ?_
    refine Lnt ?_
    first | exact Gs.again1 (i + 1, M) ⟨hlt, hsame, hl2, hb2⟩ (by show ws.length - (i + 1) < ws.length - i; omega) (by repeat constructor) (by repeat constructor) | exact Gs.again1 (i + 1, M1) ⟨hlt, hsame, hl2, hb2⟩ (by show ws.length - (i + 1) < ws.length - i; omega) (by repeat constructor) (by repeat constructor)
   ·
    have hpre := not_f hc1
    obtain ⟨la, lxs, lc, hlT⟩ : ∃ a xs c, lisT L sw = ⟨a, xs, c⟩ := ⟨_, _, _, rfl⟩
    have hrd := lisT_rd hL sw
    rw [preStep, if_pos hpre, plL_get] at hnx
    rw [hlT] at hrd hnx
    dsimp only at hrd hnx
    have hrl := hrd.2
    refine Gs.slAddr (xs := lxs) (hrd.1.1.h (by repeat constructor)) fun pb po hpa => ?_
    refine Gs.skip ?_
    refine Gs.then_n ?_
    refine Gsr ?_
    refine Lmv rfl rfl ?_
    refine Lpu rfl rfl trivial (by first | exact pu_nil rfl | exact pu_nilF rfl) ?_
    refine Lpu rfl rfl trivial (pu_fa fa_92_0 rfl) ?_
    refine Lrd rfl rfl trivial (rd_ld na_89 rfl (Rdc.cl1 (by repeat constructor) rfl)) ?_
    refine Lmv rfl rfl ?_
    refine Lrd rfl rfl trivial (rd_look1 Tryz.underlying89 kt_9 zvk_94 rfl rfl (by repeat constructor)) ?_
    rw [show (mget L sw).getD (slZ : SlV PostV) = ⟨la, lxs, lc⟩ from hlT]
    refine Lpu rfl rfl trivial (pu_len Tryz.underlying94 rfl) ?_
    refine Lmv rfl rfl ?_
    refine Lnt ?_
    refine Gs.block ?_
    refine Gs.loop1 (fun s : Nat × List (Key × SlV Int) => s.1 ≤ lxs.length ∧ mm (fun s => s.xs) s.2 = ((plain1 lxs).take s.1).foldl catP (mm (fun s : SlV Int => s.xs) M) ∧ s.2.length ≤ 1000 * i + s.1 ∧ ∀ p ∈ s.2, p.2.xs.length ≤ 1000000 * i + 1000 * s.1) (fun s => [(0, ptr x), (1, .string q), (5, .map (some m)), (15, .slice (some ⟨wb, wo, none⟩) ws.length wc), (16, int ws.length), (17, int i), (30, .slice la lxs.length lc), (31, int lxs.length), (32, int s.1)]) (fun s => [cl x 92 [.map (some ml), .map (some mw)], mp strV slV ml L, mp keyV slV mw W, S, sl 9 1 strC (some ⟨wb, wo, none⟩) wc ws, mp keyV slV m s.2, big (s.2.map atK)] ++ R) (fun s => lxs.length - s.1) (0, M) (⟨Nat.zero_le _, rfl, hMl, hMb⟩) (by repeat constructor) (by repeat constructor) (fun s hs1 => ?_)
    obtain ⟨j, M1⟩ := s
    obtain ⟨hj, hM1, hMl1, hMb1⟩ := hs1
    dsimp only at hj hM1 hMl1 hMb1 ⊢
    refine Gsr ?_
    refine Lpu rfl rfl trivial (pu_lt rfl rfl) ?_
    refine Lnt ?_
    refine Gs.seq ?_
    refine Gs.cond rfl (fun hc2 => ?_) (fun hc2 => ?_)
    ·
     have hlt2 : j < lxs.length := by have := of_decide_eq_true hc2; omega
     obtain ⟨p, hp⟩ : ∃ z, lxs[j]? = some z := ⟨lxs[j], by simp [hlt2]⟩
     obtain rfl := hpa (by rintro h; rw [h] at hlt2; simp at hlt2)
     have hnx2 := fold_take catP (mm (fun s : SlV Int => s.xs) M) (show (plain1 lxs)[j]? = some p.p by rw [List.getElem?_map, hp]; rfl)
     rw [← hM1] at hnx2
     obtain ⟨hpt, hptl⟩ := hrd.1.2 p (List.mem_of_getElem? hp)
     have hgl : ((mget M1 p.k).getD (slZ : SlV Int)).xs.length ≤ 1000000 * i + 1000 * j := by
       cases h : mget M1 p.k with
       | none => exact Nat.zero_le _
       | some s => exact hMb1 (p.k, s) (mget_mem h)
     refine Gs.skip ?_
     refine Gs.then_n ?_
     refine Gs.seq ?_
     refine Gs.block ?_
     refine Gsr ?_
     refine Lpu rfl rfl trivial (pu_ia se_94 rfl rfl (by omega) (by omega)) ?_
     refine Lrd rfl rfl trivial (rd_lda ag_106 rfl (Rdc.el0 (hrd.1.1.h (by repeat constructor)) hp rfl rfl) rfl) ?_
     refine Lac rfl rfl trivial (ac_alloc zv_106 rfl) ?_
     rintro _ _ ⟨cb, rfl, rfl⟩
     refine Lac0 rfl trivial (ac_st sz_106 rfl rfl (by repeat constructor) rfl rfl rfl rfl) ?_
     rintro _ _ rfl
     refine Lnt ?_
     refine Gs.takes (As := [big (M1.map atK)]) (by repeat constructor) (Gs.atTakeK p.k ?_)
     refine Gs.reg ?_
     refine Lmv rfl rfl ?_
     refine Lpu rfl rfl trivial (pu_fa fa_106_0 rfl) ?_
     refine Lrd rfl rfl trivial (rd_lda ag_28 rfl (Rdc.cl 2 (by repeat constructor) rfl) rfl) ?_
     refine Lpu rfl rfl trivial (pu_fa fa_106_1 rfl) ?_
     refine Lrd rfl rfl trivial (rd_ld na_99 rfl (Rdc.cl1 (by repeat constructor) rfl)) ?_
     refine Lac rfl rfl trivial (ac_mapEntry (enck := keyV) (encv := slV) (m := M1) (k := p.k) (z := (slZ : SlV Int)) Tryz.underlying158 kt_28 zvk_99 rfl rfl (by repeat constructor)) ?_
     rintro _ _ ⟨st, rfl, rfl⟩
     refine Lpu rfl rfl trivial (pu_extract rfl rfl) ?_
     refine Lac rfl rfl trivial (ac_append (xs := ((mget M1 p.k).getD (slZ : SlV Int)).xs) et_99 ek_3 rfl rfl (by repeat constructor) (SrcH.sl Tryz.underlying99 ek_3 (hpt.h (by repeat constructor))) (by omega) (by omega)) ?_
     rintro _ _ ⟨aa, ac', rfl, rfl⟩
     refine Lpu rfl rfl trivial (pu_extract rfl rfl) ?_
     refine Lac0 rfl trivial (ac_entryStore (enck := keyV) (encv := slV) (m := M1) (k := p.k) (z := (slZ : SlV Int)) (v := (⟨aa, ((mget M1 p.k).getD (slZ : SlV Int)).xs ++ p.t.xs, ac'⟩ : SlV Int)) rfl rfl rfl (by repeat constructor)) ?_
     rintro _ _ rfl
     refine Lnil ?_
     refine Gs.takes (As := [atK (p.k, (⟨aa, ((mget M1 p.k).getD (slZ : SlV Int)).xs ++ p.t.xs, ac'⟩ : SlV Int)), big ((mdel M1 p.k).map atK)]) (by repeat constructor) (Gs.bigBack take_put ?_)
     have hM3 : mm (fun s => s.xs) (mput M1 p.k (⟨aa, ((mget M1 p.k).getD (slZ : SlV Int)).xs ++ p.t.xs, ac'⟩ : SlV Int)) = ((plain1 lxs).take (j + 1)).foldl catP (mm (fun s : SlV Int => s.xs) M) := by
       rw [hnx2, mm_put, catP, mm_get]
       congr 1
       show _ = ((mget M1 p.k).map fun s => s.xs).getD [] ++ p.t.xs
       cases mget M1 p.k <;> rfl
     have hl3 := mput_len M1 p.k (⟨aa, ((mget M1 p.k).getD (slZ : SlV Int)).xs ++ p.t.xs, ac'⟩ : SlV Int)
     have hb3 : ∀ q ∈ mput M1 p.k (⟨aa, ((mget M1 p.k).getD (slZ : SlV Int)).xs ++ p.t.xs, ac'⟩ : SlV Int), q.2.xs.length ≤ 1000000 * i + 1000 * (j + 1) := fun q hq => by
       rcases mem_put hq with rfl | hq
       · simp only [List.length_append]; omega
       · have := hMb1 q hq; omega
     refine Gs.blk_n ?_
     refine Gs.then_n ?_
     refine Gs.reg ?_
     refine Lpu rfl rfl trivial (by first | exact pu_addI rfl rfl rfl (by omega) (by omega) | exact pu_add rfl rfl) ?_
     refine Lmv rfl rfl ?_
     refine Lnt ?_
     exact Gs.again1 (j + 1, mput M1 p.k (⟨aa, ((mget M1 p.k).getD (slZ : SlV Int)).xs ++ p.t.xs, ac'⟩ : SlV Int)) ⟨hlt2, hM3, Nat.le_trans hl3 (by omega), hb3⟩ (by show lxs.length - (j + 1) < lxs.length - j; omega) (by repeat constructor) (by repeat constructor)
    ·
     have hge2 : j = lxs.length := by have := of_decide_eq_false hc2; omega
     have hsame : mm (fun s : SlV Int => s.xs) M1 = (ws.take (i + 1)).foldl (preStep q (plL L)) [] := by
       rw [hnx, hM1, List.take_of_length_le (by rw [List.length_map]; omega)]
     have hl2 : M1.length ≤ 1000 * (i + 1) := by omega
     have hb2 : ∀ p ∈ M1, p.2.xs.length ≤ 1000000 * (i + 1) := fun p hp => by have := hMb1 p hp; omega
     refine Gs.exit ?_
     refine Gs.then_x ?_
     refine Gs.then_x ?_
     refine Gs.blk_hit ?_
     refine Gs.blk_n ?_
     refine Gs.then_n ?_
     refine Gs.reg ?_
     refine Lpu rfl rfl trivial (by first | exact pu_addI rfl rfl rfl (by omega) (by omega) | exact pu_add rfl rfl) ?_
     refine Lmv rfl rfl ?_
     refine Lnt ?_
     first | exact Gs.again1 (i + 1, M) ⟨hlt, hsame, hl2, hb2⟩ (by show ws.length - (i + 1) < ws.length - i; omega) (by repeat constructor) (by repeat constructor) | exact Gs.again1 (i + 1, M1) ⟨hlt, hsame, hl2, hb2⟩ (by show ws.length - (i + 1) < ws.length - i; omega) (by repeat constructor) (by repeat constructor)
  ·
   have hge : i = ws.length := by have := of_decide_eq_false hc0; omega
   rw [hge, List.take_length] at hM
   refine Gs.exit ?_
   refine Gs.then_x ?_
   refine Gs.then_x ?_
   refine Gs.blk_hit ?_
   refine Gs.then_n ?_
   refine Gsr ?_
   refine Las rfl rfl ?_
   refine Lnt ?_
   refine Gs.seq ?_
   refine Gs.seq ?_
   refine Gs.bigNil (Gs.slNil 106 3 postC ?_)
   have hMle : M.length ≤ 100000000 := by omega
   have hMb' : ∀ p ∈ M, p.2.xs.length ≤ 100000000000 := fun p hp => by have := hMb p hp; omega
   refine Gs.reg ?_
   refine Lmv rfl rfl ?_
   refine Lac rfl rfl trivial (ac_range (enck := keyV) (encv := slV) Tryz.underlying158 rfl (by repeat constructor)) ?_
   rintro _ _ ⟨ri, rfl, rfl⟩
   refine Lnt ?_
   refine Gs.block ?_
   refine Gs.loop1 (fun s : (Option Addr × Nat) × List (Key × SlV Int) × List (Key × SlV Int) × Option (Key × SlV Int) => List.Perm (s.2.1 ++ s.2.2.1) M) (fun s => [(0, ptr x), (1, .string q), (10, .slice s.1.1 (s.2.1.map srtP).length s.1.2), (48, ptr ri)]) (fun s => [itr keyV slV ri m M s.2.2.1 s.2.2.2, cl x 92 [.map (some ml), .map (some mw)], mp strV slV ml L, mp keyV slV mw W, S, sl 106 3 postC s.1.1 s.1.2 (s.2.1.map srtP), big (s.2.2.1.map atK), big ((s.2.1.map srtP).map atO)] ++ R) (fun s => s.2.2.1.length) ((none, 0), [], M, none) (List.Perm.refl _) (by repeat constructor) (by repeat constructor) (fun s hs => ?_)
   obtain ⟨⟨oa, oc⟩, pre, left, last⟩ := s
   dsimp only at hs ⊢
   refine Gsr ?_
   refine Lac rfl rfl trivial (ac_next rfl (by repeat constructor)) ?_
   rintro _ _ (⟨hl, rfl, rfl⟩ | ⟨j, e, he, rfl, rfl⟩)
   ·
    have hl' : left = [] := hl
    subst hl'
    rw [List.append_nil] at hs
    have hpm := hs.length_eq
    refine Lpu rfl rfl trivial (pu_extract rfl rfl) ?_
    refine Lnt ?_
    refine Gs.seq ?_
    refine Gs.cond_f rfl ?_
    refine Gs.exit ?_
    refine Gs.then_x ?_
    refine Gs.then_x ?_
    refine Gs.blk_hit ?_
    refine Gs.then_n ?_
    refine Gsr ?_
    refine Lmv rfl rfl ?_
    refine Lac rfl rfl trivial (as_call (sortPI_spec oa oc (pre.map srtP) (by simp; omega)) (by repeat constructor) (by repeat constructor)) ?_
    rintro _ _ ⟨_, ⟨rfl, ys, hys, hpw, rfl⟩, rfl⟩
    refine Lnil ?_
    refine Gs.takes (As := [big ((pre.map srtP).map atO)]) (by repeat constructor) (Gs.bigPerm (hys.symm.map atO) ?_)
    refine Gs.takes (As := [sl 106 3 postC oa oc ys, big (ys.map atO)]) (by repeat constructor) (Gs.toTwo ?_)
    have hpe : List.Perm (plain1 ys) (mm sortI (prefM q (plL L))) := by
      refine (hys.map PostV.p).trans ?_
      rw [prefM, hkl, ← hws, ← hM]
      have : (pre.map srtP).map PostV.p = mm sortI (mm (fun s : SlV Int => s.xs) pre) := by simp [mm, PostV.p]
      rw [this]
      exact (hs.map _).map _
    refine Gs.then_n ?_
    refine Gsr ?_
    refine Lmv rfl rfl ?_
    refine Las rfl rfl ?_
    refine Lnt ?_
    refine Gs.ret ?_
    refine Gs.takes (As := [cl x 92 [.map (some ml), .map (some mw)], mp strV slV ml L, mp keyV slV mw W, S]) (by repeat constructor) (Gs.ixc hL hW ?_)
    exact Gs.fin1 Tryz.results72 rfl _ (⟨oa, oc, ys, by rw [hys.length_eq], hpe, hpw, rfl⟩) (by repeat constructor)
   ·
    have hjl := (List.getElem?_eq_some_iff.1 he).1
    have hperm : List.Perm ((pre ++ [e]) ++ left.eraseIdx j) M := by
      refine List.Perm.trans ?_ hs
      rw [List.append_assoc]
      exact List.Perm.append_left pre (l_erase_perm he)
    have hlt : (left.eraseIdx j).length < left.length := by
      rw [List.length_eraseIdx_of_lt hjl]; omega
    have hpl : pre.length + left.length = M.length := by have := hs.length_eq; simpa using this
    have heM : e ∈ M := hs.subset (List.mem_append_right _ (List.mem_of_getElem? he))
    have heb := hMb' e heM
    refine Lpu rfl rfl trivial (pu_extract rfl rfl) ?_
    refine Lnt ?_
    refine Gs.seq ?_
    refine Gs.cond_t rfl ?_
    refine Gs.skip ?_
    refine Gs.then_n ?_
    refine Gs.block ?_
    refine Gsr ?_
    refine Lrd rfl rfl trivial (ac_entry rfl (by repeat constructor)) ?_
    refine Lpu rfl rfl trivial (pu_extract rfl rfl) ?_
    refine Lpu rfl rfl trivial (pu_extract rfl rfl) ?_
    refine Lac rfl rfl trivial (ac_alloc zv_28 rfl) ?_
    rintro _ _ ⟨kb, rfl, rfl⟩
    refine Lac0 rfl trivial (ac_st sz_28 rfl rfl (by repeat constructor) rfl rfl rfl rfl) ?_
    rintro _ _ rfl
    refine Las rfl rfl ?_
    refine Lnil ?_
    refine Gs.takes (As := [big (left.map atK)]) (by repeat constructor) (Gs.bigTake (take_erase he) ?_)
    refine Gs.then_n ?_
    refine Gsr ?_
    refine Lmv rfl rfl ?_
    refine Lac rfl rfl trivial (as_call (sortI_spec e.2.a e.2.c e.2.xs (by omega)) (by repeat constructor) (by repeat constructor)) ?_
    rintro _ _ ⟨_, ⟨rfl, rfl⟩, rfl⟩
    refine Lnil ?_
    rw [show (slV e.2 : Value) = slV (srtP e).t by show Value.slice _ _ _ = Value.slice _ (sortI e.2.xs).length _; rw [sortI_length]]
    refine Gs.then_n ?_
    refine Gs.reg ?_
    refine Lmv rfl rfl ?_
    refine Lrd rfl rfl trivial (rd_lda ag_28 rfl (Rdc.cl 2 (by repeat constructor) rfl) rfl) ?_
    refine Lmv rfl rfl ?_
    refine Lpu rfl rfl trivial (pu_build bd_106 (by repeat constructor) rfl) ?_
    refine Lac rfl rfl trivial (ac_lit encC_106 ([srtP e]) et_94 ek_106 rfl (by repeat constructor) rfl rfl (by decide)) ?_
    rintro _ _ ⟨a60, rfl, rfl⟩
    refine Lac rfl rfl trivial (ac_append (xs := pre.map srtP) (ys := [srtP e]) et_94 ek_106 rfl rfl (by repeat constructor) (SrcH.sl Tryz.underlying94 ek_106 (SlH.own (by repeat constructor))) (by first | omega | (simp; omega)) (by first | omega | (simp; omega))) ?_
    rintro _ _ ⟨a61, c61, rfl, rfl⟩
    refine Las rfl rfl ?_
    refine Lnil ?_
    rw [show pre.map srtP ++ [srtP e] = (pre ++ [e]).map srtP by simp]
    refine Gs.takes (As := [atO (srtP e), big ((pre.map srtP).map atO)]) (by repeat constructor) (Gs.bigBack take_snoc ?_)
    rw [show (pre.map srtP).map atO ++ [atO (srtP e)] = ((pre ++ [e]).map srtP).map atO by simp]
    refine Gs.blk_n ?_
    refine Gs.then_n ?_
    exact Gs.again1 ((a61, c61), pre ++ [e], left.eraseIdx j, some e) hperm hlt (by repeat constructor) (by repeat constructor)
end Go.Proofs.YtklgiidfompdpaaGreatDoor
namespace Go.Ix
open Go Go.Sl Go.Gv Go.Kv Go.Po Go.Bst
end Go.Ix
namespace Go.Sl
open Go Go.Kv
section
variable {P : Program} {n : Nat} {w0 : World} {env : Env} {H : List HProp} {κ ν : Type}
end
end Go.Sl
namespace Go.Proofs.YtklgiidfompdpaaGreatDoor
open Go Go.Sl Go.Gv Go.Kv Go.Po Go.Ix Go.Bst
set_option maxRecDepth 100000
end Go.Proofs.YtklgiidfompdpaaGreatDoor
