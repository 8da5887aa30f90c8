/- A drive of up to five files behind a crash: plain. -/
import Derived.Test.YtmfgemhjepagjaaDvm
namespace Go.Dv
open Go Go.Kv Go.Bst
theorem lookF_upd {D : List Fl} {m n : ByteArray} {g : Fl → Fl} (hg : ∀ f, (g f).n = f.n) : lookF (upd D m g) n = if n = m then (lookF D n).map g else lookF D n := by
  induction D with
  | nil => simp [lookF, upd]
  | cons x D ih =>
    simp only [lookF, upd, List.map_cons, List.find?_cons] at ih ⊢
    by_cases hx : x.n = m
    · simp only [hx, if_true, hg]
      by_cases hn : n = m
      · subst hn; simp
      · have : ¬ m = n := fun e => hn e.symm
        simp only [this, decide_false, hn, if_false] at ih ⊢; exact ih
    · simp only [hx, if_false]
      by_cases hxn : x.n = n
      · have : ¬ n = m := fun e => hx (hxn.trans e)
        simp [hxn, this]
      · simp only [hxn, decide_false]; exact ih
theorem crashN_other {n : ByteArray} : ∀ (ns : List ByteArray) (st : Int) (D : List Fl), n ∉ ns → lookF (crashN st ns D) n = lookF D n
  | [], _, _, _ => rfl
  | m :: ms, st, D, h => by
    simp only [List.mem_cons, not_or] at h
    simp only [crashN]
    cases hl : lookF D m with
    | none => exact crashN_other ms st D h.2
    | some f =>
      dsimp only
      rw [crashN_other ms _ _ h.2, lookF_upd (g := crashF st) (fun _ => rfl), if_neg h.1]
def lostAt (D : List Fl) (st : Int) (n : ByteArray) : Int := match lookF D n with
  | some f => lostF st f
  | none => 0
def leftN (D : List Fl) : Int → List ByteArray → Int
  | st, [] => st
  | st, n :: ns => leftN D (st - lostAt D st n) ns
theorem leftN_snoc (D : List Fl) (n : ByteArray) : ∀ (ns : List ByteArray) (st : Int), leftN D st (ns ++ [n]) = leftN D st ns - lostAt D (leftN D st ns) n
  | [], _ => rfl
  | m :: ms, st => by simp only [List.cons_append, leftN]; exact leftN_snoc D n ms _
theorem leftN_upd {D : List Fl} {m : ByteArray} {g : Fl → Fl} (hg : ∀ f, (g f).n = f.n) : ∀ (ns : List ByteArray) (st : Int), m ∉ ns → leftN (upd D m g) st ns = leftN D st ns
  | [], _, _ => rfl
  | n :: ns, st, h => by
    simp only [List.mem_cons, not_or] at h
    have e : lostAt (upd D m g) st n = lostAt D st n := by unfold lostAt; rw [lookF_upd hg, if_neg (fun e => h.1 e.symm)]
    simp only [leftN, e]
    exact leftN_upd hg ns _ h.2
theorem crashN_at : ∀ (ns : List ByteArray) (st : Int) (D : List Fl), ns.Nodup → (∀ n ∈ ns, ∃ f, lookF D n = some f) → ∀ (i : Nat) (n : ByteArray), ns[i]? = some n → lookF (crashN st ns D) n = (lookF D n).map (crashF (leftN D st (ns.take i)))
  | [], _, _, _, _, _, _, h => by simp at h
  | m :: ms, st, D, hn, hall, i, n, h => by
    obtain ⟨f, hf⟩ := hall m (by simp)
    simp only [List.nodup_cons] at hn
    rw [crashN_cons hf]
    cases i with
    | zero =>
      simp at h; subst h
      rw [crashN_other ms _ _ hn.1, lookF_upd (g := crashF st) (fun _ => rfl), if_pos rfl]; rfl
    | succ i =>
      simp only [List.getElem?_cons_succ] at h
      have hnm : n ≠ m := fun e => hn.1 (e ▸ List.mem_of_getElem? h)
      have hall' : ∀ k ∈ ms, ∃ f', lookF (upd D m (crashF st)) k = some f' := fun k hk => by
        rw [lookF_upd (g := crashF st) (fun _ => rfl), if_neg (fun e : k = m => hn.1 (e ▸ hk))]; exact hall k (by simp [hk])
      rw [crashN_at ms _ _ hn.2 hall' i n h, lookF_upd (g := crashF st) (fun _ => rfl), if_neg hnm]
      simp only [List.take_succ_cons, leftN]
      rw [leftN_upd (g := crashF st) (fun _ => rfl) _ _ (fun hm => hn.1 (List.mem_of_mem_take hm))]
      congr 2
      unfold lostAt; rw [hf]
theorem names_crashN : ∀ (ns : List ByteArray) (st : Int) (D : List Fl), names (crashN st ns D) = names D
  | [], _, _ => rfl
  | m :: ms, st, D => by
    simp only [crashN]
    cases lookF D m with
    | none => exact names_crashN ms _ _
    | some f => dsimp only; rw [names_crashN ms, names_crash]
/-! ### Five names -/
abbrev nms5 : List ByteArray := [⟨#[97]⟩, ⟨#[98]⟩, ⟨#[99]⟩, ⟨#[100]⟩, ⟨#[101]⟩]
def nm (i : Nat) : ByteArray := nms5.getD i ⟨#[]⟩
theorem nm_at {i n : Nat} (h : i < n) (hn : n ≤ 5) : (nms5.take n)[i]? = some (nm i) := by
  rw [List.getElem?_take, if_pos h]
  have : i < nms5.length := by show i < 5; omega
  simp only [nm, List.getD_eq_getElem?_getD, List.getElem?_eq_getElem this, Option.getD_some]
theorem nm_ok {i : Nat} (h : i < 5) : asciiB (nm i) = true ∧ namedB (nm i) = true ∧ (nm i).size ≤ 9223372036854775807 := by
  have : ∀ i : Fin 5, asciiB (nm i.val) = true ∧ namedB (nm i.val) = true ∧ (nm i.val).size ≤ 9223372036854775807 := by decide
  exact this ⟨i, h⟩
theorem nm_inj {i j : Nat} (hi : i < 5) (hj : j < 5) (h : nm i = nm j) : i = j := by
  have : ∀ i j : Fin 5, nm i.val = nm j.val → i = j := by decide
  exact congrArg Fin.val (this ⟨i, hi⟩ ⟨j, hj⟩ h)
section five
variable (F L : Nat → List UInt8)
def FL (i : Nat) : Fl := ⟨nm i, F i ++ L i, (F i).length⟩
def Ds (n j : Nat) : List Fl := (List.range' j (n - j)).reverse.map (FL F L)
def sumL (j k : Nat) : Nat := ((List.range' j k).map fun i => (L i).length).sum
theorem Ds_end (n : Nat) : Ds F L n n = [] := by simp [Ds]
theorem Ds_snoc {n j : Nat} (h : j < n) : Ds F L n j = Ds F L n (j + 1) ++ [FL F L j] := by
  unfold Ds
  rw [show n - j = (n - (j + 1)) + 1 by omega, List.range'_succ]
  simp
theorem Ds_names (n j : Nat) : names (Ds F L n j) = (List.range' j (n - j)).reverse.map nm := by simp [names, Ds, FL, Function.comp_def]
theorem Ds_none {n j : Nat} (hn : n ≤ 5) (hj : j < n) : lookF (Ds F L n (j + 1)) (nm j) = none := by
  rw [lookF_none, Ds_names]
  intro h
  obtain ⟨i, hi, e⟩ := List.mem_map.1 h
  rw [List.mem_reverse, List.mem_range'_1] at hi
  have := nm_inj (by omega) (by omega) e
  omega
theorem Ds_look {n j i : Nat} (hn : n ≤ 5) (hj : j ≤ i) (hi : i < n) : lookF (Ds F L n j) (nm i) = some (FL F L i) := by
  have hm : FL F L i ∈ Ds F L n j := by
    unfold Ds
    exact List.mem_map_of_mem (by rw [List.mem_reverse, List.mem_range'_1]; omega)
  refine lookF_mem ?_ hm
  rw [Ds_names]
  rw [((List.reverse_perm (List.range' j (n - j))).map nm).nodup_iff]
  refine List.pairwise_map.2 (List.Pairwise.imp_of_mem (fun hx hy hne e => ?_) (List.nodup_range' (s := j) (n := n - j)))
  rw [List.mem_range'_1] at hx hy
  exact hne (nm_inj (by omega) (by omega) e)
theorem sumL_succ (j k : Nat) : sumL L j (k + 1) = sumL L j k + (L (j + k)).length := by
  unfold sumL; rw [List.range'_concat]; simp
theorem sumL_cons (j k : Nat) : sumL L j (k + 1) = (L j).length + sumL L (j + 1) k := by
  unfold sumL; rw [List.range'_succ]; simp
theorem Ds_sort {n : Nat} (hn : n ≤ 5) : sortB (names (Ds F L n 0)) = nms5.take n := by
  have e : nms5.take n = (List.range' 0 n).map nm := by
    have : ∀ n : Fin 6, nms5.take n.val = (List.range' 0 n.val).map nm := by decide
    exact this ⟨n, by omega⟩
  rw [Ds_names, Nat.sub_zero]
  refine sortB_eq ?_ ?_
  · rw [e]; exact (List.reverse_perm _).map _
  · refine List.Pairwise.sublist (List.take_sublist n nms5) ?_
    decide
theorem Ds_used {n : Nat} : ∀ (k j : Nat), n - j = k → j ≤ n → used (Ds F L n j) = sumL F j (n - j) + sumL L j (n - j)
  | 0, j, h, hj => by
    obtain rfl : j = n := by omega
    rw [Ds_end, Nat.sub_self]; simp [used, sumL]
  | k + 1, j, h, hj => by
    have ih := Ds_used (n := n) k (j + 1) (by omega) (by omega)
    rw [Ds_snoc F L (by omega), used_app, ih, show n - j = (n - (j + 1)) + 1 by omega, sumL_cons, sumL_cons]
    simp only [used, FL, List.map_cons, List.map_nil, List.sum_cons, List.sum_nil, List.length_append]; omega
theorem take_succ_nm {i n : Nat} (h : i < n) (hn : n ≤ 5) : (nms5.take n).take (i + 1) = (nms5.take n).take i ++ [nm i] := by
  rw [List.take_add_one, nm_at h hn]; rfl
theorem Ds_left {n : Nat} (hn : n ≤ 5) (st : Nat) : ∀ i, i ≤ n → leftN (Ds F L n 0) st ((nms5.take n).take i) = ((st - sumL L 0 i : Nat) : Int)
  | 0, _ => by simp [leftN, sumL]
  | i + 1, h => by
    have ih := Ds_left hn st i (by omega)
    rw [take_succ_nm (by omega) hn, leftN_snoc, ih, sumL_succ, Nat.zero_add]
    unfold lostAt
    rw [Ds_look F L hn (Nat.zero_le _) (by omega)]
    simp only [lostF, FL, List.length_append]
    omega
theorem Ds_after {n : Nat} (hn : n ≤ 5) (st : Nat) {i : Nat} (h : i < n) : lookF (crashL st (Ds F L n 0)) (nm i) = some (crashF ((st - sumL L 0 i : Nat) : Int) (FL F L i)) := by
  unfold crashL
  rw [Ds_sort F L hn]
  have hnd : (nms5.take n).Nodup := List.Nodup.sublist (List.take_sublist n nms5) (by decide)
  have hall : ∀ k ∈ nms5.take n, ∃ f, lookF (Ds F L n 0) k = some f := fun k hk => by
    obtain ⟨j, hj⟩ := List.mem_iff_getElem?.1 hk
    have hlt : j < n := by have := (List.getElem?_eq_some_iff.1 hj).1; rw [List.length_take] at this; omega
    rw [nm_at hlt hn] at hj
    rw [← Option.some.inj hj]
    exact ⟨_, Ds_look F L hn (Nat.zero_le _) hlt⟩
  rw [crashN_at _ _ _ hnd hall i _ (nm_at h hn), Ds_look F L hn (Nat.zero_le _) h, Ds_left F L hn st i (by omega)]; rfl
theorem Ds_bytes (st i : Nat) : (crashF ((st - sumL L 0 i : Nat) : Int) (FL F L i)).b = F i ++ (L i).take (min (st - sumL L 0 i) (L i).length) := by
  have hl : lostF ((st - sumL L 0 i : Nat) : Int) (FL F L i) = min (st - sumL L 0 i) (L i).length := by simp only [lostF, FL, List.length_append]; omega
  simp only [crashF, hl]
  simp only [FL]
  rw [List.take_length_add_append]
theorem Ds_safe (st i : Nat) : (crashF ((st - sumL L 0 i : Nat) : Int) (FL F L i)).b.length = (crashF ((st - sumL L 0 i : Nat) : Int) (FL F L i)).s := by
  have hl : lostF ((st - sumL L 0 i : Nat) : Int) (FL F L i) = min (st - sumL L 0 i) (L i).length := by simp only [lostF, FL, List.length_append]; omega
  simp only [crashF, hl]
  simp only [FL, List.length_take, List.length_append]
  omega
theorem Ds_usedAfter {n : Nat} (hn : n ≤ 5) (st : Nat) (hok : (names (Ds F L n 0)).Nodup) : used (crashL st (Ds F L n 0)) = sumL F 0 n + min st (sumL L 0 n) := by
  have hnm : names (crashL st (Ds F L n 0)) = names (Ds F L n 0) := names_crashN _ _ _
  have hp : List.Perm (nms5.take n) (names (crashL st (Ds F L n 0))) := by rw [hnm, ← Ds_sort F L hn]; exact sortB_perm _
  rw [← lenOf_sum (by rw [hnm]; exact hok) hp]
  have : ∀ i, i ≤ n → (((nms5.take n).take i).map (lenOf (crashL st (Ds F L n 0)))).sum = sumL F 0 i + min st (sumL L 0 i) := by
    intro i
    induction i with
    | zero => intro _; simp [sumL]
    | succ i ih =>
      intro h
      rw [take_succ_nm (by omega) hn, List.map_append, List.sum_append, ih (by omega), sumL_succ, sumL_succ, Nat.zero_add]
      have e : lenOf (crashL st (Ds F L n 0)) (nm i) = (F i).length + min (st - sumL L 0 i) (L i).length := by
        unfold lenOf
        rw [Ds_after F L hn st (by omega)]
        dsimp only
        rw [Ds_bytes F L st, List.length_append, List.length_take]; omega
      simp only [List.map_cons, List.map_nil, List.sum_cons, List.sum_nil, e]
      omega
  have h := this n (Nat.le_refl _)
  rwa [List.take_of_length_le (by rw [List.length_take]; omega)] at h
end five
/-! ### The last file -/
section last
variable {X : List Fl} {n : ByteArray}
theorem last_look (h : lookF X n = none) (f : Fl) (hf : f.n = n) : lookF (X ++ [f]) n = some f := by
  unfold lookF at h ⊢
  rw [List.find?_append, h]; simp [hf]
theorem last_upd (h : lookF X n = none) (f : Fl) (hf : f.n = n) (g : Fl → Fl) : upd (X ++ [f]) n g = X ++ [g f] := by
  have hne : ∀ x ∈ X, x.n ≠ n := fun x hx e => lookF_none.1 h (e ▸ List.mem_map_of_mem hx)
  simp only [upd, List.map_append, List.map_cons, List.map_nil, hf, if_true]
  congr 1
  conv => rhs; rw [← List.map_id X]
  exact List.map_congr_left fun x hx => by simp [hne x hx]
theorem last_new (h : lookF X n = none) {most : Int} {bs : List UInt8} (hm : namedB n = true) (hr : (used X : Int) + bs.length ≤ most) : appE most X n bs = 0 ∧ appL most X n bs = X ++ [⟨n, bs, 0⟩] := by
  have e : appE most X n bs = 0 := by simp only [appE, hm, if_true]; rw [if_neg (by omega)]
  exact ⟨e, by simp [appL, e, appD, h]⟩
theorem last_more (h : lookF X n = none) {most : Int} {b bs : List UInt8} {s : Nat} (hm : namedB n = true) (hr : (used X : Int) + b.length + bs.length ≤ most) : appE most (X ++ [⟨n, b, s⟩]) n bs = 0 ∧ appL most (X ++ [⟨n, b, s⟩]) n bs = X ++ [⟨n, b ++ bs, s⟩] := by
  have e : appE most (X ++ [⟨n, b, s⟩]) n bs = 0 := by simp only [appE, hm, if_true]; rw [if_neg (by rw [used_app]; simp only [used, List.map_cons, List.map_nil, List.sum_cons, List.sum_nil] at hr ⊢; omega)]
  exact ⟨e, by simp only [appL, e, if_true, appD, last_look h ⟨n, b, s⟩ rfl, Option.isSome_some]; exact last_upd h ⟨n, b, s⟩ rfl _⟩
theorem last_sync (h : lookF X n = none) {b : List UInt8} {s : Nat} : allB (X ++ [⟨n, b, s⟩]) [n] = true ∧ syncL (X ++ [⟨n, b, s⟩]) [n] = X ++ [⟨n, b, b.length⟩] := by
  refine ⟨by simp [allB, last_look h ⟨n, b, s⟩ rfl], ?_⟩
  have hne : ∀ x ∈ X, ¬ n = x.n := fun x hx e => lookF_none.1 h (e ▸ List.mem_map_of_mem hx)
  simp only [syncL, List.map_append, List.map_cons, List.map_nil, List.any_cons, List.any_nil, Bool.or_false, decide_true, if_true]
  congr 1
  conv => rhs; rw [← List.map_id X]
  exact List.map_congr_left fun x hx => by simp [hne x hx]
end last
end Go.Dv
