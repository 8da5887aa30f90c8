/- What the closing leans on: part 9. -/
import Derived.Test.YtklgiidfompdpaaGreatDoorWh
import Derived.Test.YtklgiidfompdpaaGreatDoorWc
import Derived.Test.YtklgiidfompdpaaGreatDoorWb
import Derived.Lib.MapLaws
import Derived.Lib.ValidLaws
import Derived.Laws.Cover4
import Derived.Laws.IdiomStrings
import Derived.Shelf.Strings.FuncGrows
import Derived.Shelf.Strconv.Itoa3
import Derived.Shelf.Strings.OnBuilder
import Derived.Test.YtklgiidfompdpaaGreatDoorProg
namespace Go.Qu
open Go Go.Sl Go.Gv Go.Ix
theorem size_pos (d : Nat) (a : AskV) : 1 ≤ sizeA d a := by cases d <;> simp [sizeA]
theorem sum_len (d : Nat) (l : List AskV) : l.length ≤ (l.map (sizeA d)).sum := by
 induction l with
 | nil => exact Nat.le_refl _
 | cons a l ih => have := size_pos d a; simp only [List.map_cons, List.sum_cons, List.length_cons]; omega
theorem sum_take {l : List AskV} {f : AskV → Nat} {i : Nat} {x : AskV} (h : l[i]? = some x) : ((l.take (i + 1)).map f).sum = ((l.take i).map f).sum + f x := by
 rw [List.take_add_one, h, List.map_append, List.sum_append]; simp
theorem mem_take {l : List AskV} {p : AskV → Prop} {i : Nat} {x : AskV} (h : l[i]? = some x) (h1 : ∀ y ∈ l.take i, p y) (h2 : p x) : ∀ y ∈ l.take (i + 1), p y := fun y hy => by
 rw [List.take_add_one, h] at hy
 rcases List.mem_append.1 hy with hy | hy
 · exact h1 y hy
 · simp at hy; subst hy; exact h2
theorem deep_le : ∀ (d : Nat) (a : AskV), deepA d a ≤ d
 | 0, _ => Nat.le_refl _
 | d + 1, a => by
   have h : ∀ (l : List Nat) (m : Nat), m ≤ d → (∀ x ∈ l, x ≤ d) → l.foldl max m ≤ d := fun l => by
     induction l with
     | nil => exact fun m hm _ => hm
     | cons x l ih => exact fun m hm hl => ih (max m x) (Nat.max_le.2 ⟨hm, hl x (by simp)⟩) fun y hy => hl y (by simp [hy])
   have := h (a.ss.map (deepA d)) 0 (Nat.zero_le _) fun x hx => by
     obtain ⟨y, -, rfl⟩ := List.mem_map.1 hx
     exact deep_le d y
   simp only [deepA]; omega
theorem deep_fold (d : Nat) (l : List AskV) : (l.map (deepA d)).foldl max 0 ≤ d := by
 have h : ∀ (l : List Nat) (m : Nat), m ≤ d → (∀ x ∈ l, x ≤ d) → l.foldl max m ≤ d := fun l => by
   induction l with
   | nil => exact fun m hm _ => hm
   | cons x l ih => exact fun m hm hl => ih (max m x) (Nat.max_le.2 ⟨hm, hl x (by simp)⟩) fun y hy => hl y (by simp [hy])
 exact h _ 0 (Nat.zero_le _) fun x hx => by
   obtain ⟨y, -, rfl⟩ := List.mem_map.1 hx
   exact deep_le d y
theorem deep_take {d : Nat} {l : List AskV} {i : Nat} {y : AskV} (h : l[i]? = some y) : ((l.take (i + 1)).map (deepA d)).foldl max 0 = max (((l.take i).map (deepA d)).foldl max 0) (deepA d y) := by
 rw [List.take_add_one, h, List.map_append, List.foldl_append]; rfl
theorem max_cast (a b : Nat) : max ((a : Nat) : Int) ((b : Nat) : Int) = ((max a b : Nat) : Int) := by omega
theorem terms_le : ∀ (d : Nat) (a : AskV), FewA d a → termsA d a ≤ 30 * sizeA d a
 | 0, _, h => h.elim
 | d + 1, a, ⟨h1, h2, h3, h4⟩ => by
   simp only [termsA, sizeA]
   by_cases he : a.ss = []
   · rw [if_pos he]; have : max a.ws.length 1 ≤ 30 := Nat.max_le.2 ⟨h1, by decide⟩
     omega
   · rw [if_neg he]
     have h : ∀ l : List AskV, (∀ x ∈ l, FewA d x) → (l.map (termsA d)).sum ≤ 30 * (l.map (sizeA d)).sum := fun l => by
       induction l with
       | nil => exact fun _ => Nat.le_refl _
       | cons x l ih => intro hl; have e1 := ih fun y hy => hl y (by simp [hy]); have e2 := terms_le d x (hl x (by simp)); simp only [List.map_cons, List.sum_cons]; omega
     have := h a.ss h4; omega
end Go.Qu
namespace Go.Proofs.YtklgiidfompdpaaGreatDoor
open Go Go.Sl Go.Gv Go.Kv Go.Po Go.Ix Go.Qu
set_option maxRecDepth 100000
theorem greatTexts_spec {S : HProp} {a : Option Addr} {c : Nat} {xs : List ByteArray} (hS : Srd S 1 strC a xs) (hl : xs.length ≤ 9223372036854775807) (k z : Int) :
   Ct Tryz.prog 46 [.slice a xs.length c, int k, int z] [S] (fun v hs => (∃ b : Bool, v = .bool b ∧ (b = false → xs.length ≤ k ∧ ∀ w ∈ xs, (w.size : Int) ≤ z)) ∧ hs = [S]) := by
 refine Cti Tryz.func46 (by kernel_rfl) 31 Tryz.ntmps46 rfl rfl fun w0 R => ?_
 refine Gs.slAddr (hS.h (by repeat constructor)) fun ab ao ha => ?_
 refine Gsr (Las rfl rfl (Lnt (Gs.seq (Gsr (Las rfl rfl (Lnt (Gs.block (Gs.loop1 (fun i : Nat => i ≤ xs.length ∧ ∀ w ∈ xs.take i, (w.size : Int) ≤ z) (fun i => [(0, .slice a xs.length c), (1, int k), (2, int z), (7, int i)]) (fun i => [S] ++ R) (fun i => xs.length - i) 0 (⟨Nat.zero_le _, fun w hw => by cases hw⟩) (by repeat constructor) (by repeat constructor) (fun i ⟨hi, hz⟩ => ?_)))))))))
 refine Gs.seq (Gsr (Lmv rfl rfl (Lmv rfl rfl (Lq rfl (pu_len Tryz.underlying23 rfl) (Lq rfl (pu_lt rfl rfl) (LpuB rfl rfl trivial (pu_move rfl) (fun hg4 => ?_) (fun hg4 => ?_)))))))
 ·
  have hlt : i < xs.length := by have := of_decide_eq_true hg4; omega
  obtain ⟨x, hx⟩ : ∃ x, xs[i]? = some x := ⟨xs[i], by simp [hlt]⟩
  obtain rfl := ha (by rintro rfl; simp at hlt)
  refine Lpu rfl rfl ⟨_, rfl, rfl⟩ (pu_move rfl) (Lpu rfl rfl ⟨_, rfl, rfl⟩ (pu_len Tryz.underlying23 rfl) (Lpu rfl rfl ⟨_, rfl, rfl⟩ (pu_move rfl) (Lpu rfl rfl ⟨_, rfl, rfl⟩ (pu_le rfl rfl) (Lpk rfl rfl rfl (Lnt (Gs.cond rfl (fun hc0 => ?_) (fun hc0 => ?_)))))))
  ·
   refine Gs.skip (Gn (Gs.seq (Gs.block (Gsr (Lmv rfl rfl (Lmv rfl rfl (Lq rfl (pu_ia se_23 rfl rfl (by omega) (by omega)) (Lr rfl (rd_ld na_9 rfl (Rdc.el0 (hS.h (by repeat constructor)) hx rfl rfl)) ?_))))))))
   refine Lq rfl (pu_lenS Tryz.underlying9 rfl) (Lmv rfl rfl (Lq rfl (pu_gt rfl rfl) (Lnt (Gs.cond rfl (fun hc1 => ?_) (fun hc1 => ?_)))))
   ·
    refine Gsr (Las rfl rfl (Lnt (Gs.ret (Gs.blk_r (Gr (Gr (Gs.blk_r (Gr ?_))))))))
    exact Gs.fin1 Tryz.results46 rfl _ (⟨⟨true, rfl, fun h => by cases h⟩, rfl⟩) (by repeat constructor)
   have hxz : (x.size : Int) ≤ z := by have := of_decide_eq_false hc1; omega
   refine Gs.skip (Gs.blk_n (Gn (Gs.reg (Lmv rfl rfl (Lq rfl (by first | exact pu_addI rfl rfl rfl (by omega) (by omega) | exact pu_add rfl rfl) ?_)))))
   refine Las rfl rfl (Lnt ?_)
   exact Gs.again1 (i + 1) ⟨by omega, fun w hw => by
     rw [List.take_add_one, hx] at hw
     rcases List.mem_append.1 hw with hw | hw
     · exact hz w hw
     · simp at hw; subst hw; exact hxz⟩ (by omega) (by repeat constructor) (by repeat constructor)
  refine Gs.exit (Gx (Gx (Gs.blk_hit (Gn (Gsr (Lmv rfl rfl (Lq rfl (pu_len Tryz.underlying23 rfl) (Lmv rfl rfl (Lq rfl (pu_gt rfl rfl) (Las rfl rfl (Lnt ?_)))))))))))
  refine Gs.ret ?_
  exact Gs.fin1 Tryz.results46 rfl _ (⟨⟨_, rfl, fun h => by have := of_decide_eq_false h; exact ⟨by omega, by first | exact hall | exact absurd (by omega) (of_decide_eq_false hc0)⟩⟩, rfl⟩) (by repeat constructor)
 have hge : i = xs.length := by have := of_decide_eq_false hg4; omega
 have hall : ∀ w ∈ xs, (w.size : Int) ≤ z := by rw [hge, List.take_length] at hz; exact hz
 refine Lof rfl (Lof rfl (Lof rfl (Lof rfl (Lpk rfl rfl rfl (Lnt (Gs.cond_f rfl (Gs.exit (Gx (Gx (Gs.blk_hit (Gn ?_)))))))))))
 refine Gsr (Lmv rfl rfl (Lq rfl (pu_len Tryz.underlying23 rfl) (Lmv rfl rfl (Lq rfl (pu_gt rfl rfl) (Las rfl rfl (Lnt (Gs.ret ?_)))))))
 exact Gs.fin1 Tryz.results46 rfl _ (⟨⟨_, rfl, fun h => by have := of_decide_eq_false h; exact ⟨by omega, by first | exact hall | exact absurd (by omega) (of_decide_eq_false hc0)⟩⟩, rfl⟩) (by repeat constructor)
theorem parts_spec {S : HProp} : ∀ (d : Nat) {a : Option Addr} {c : Nat} {xs : List AskV} (hS : Srd S 4 askC a xs) (hA : ∀ x ∈ xs, ARd S x) (hl : xs.length ≤ maxLen) (most : Int) (h0 : -1 ≤ most) (h1 : most ≤ 60) (hd : d ≤ 1000),
   Ct Tryz.prog 29 [.slice a xs.length c, int most, int ((d : Int) - 1)] [S] (fun v hs => (∃ n : Int, v = int n ∧ 0 ≤ n ∧ n ≤ most + 1 ∧ (n ≤ most → (∀ x ∈ xs, FewA d x) ∧ (((xs.map (sizeA d)).sum : Nat) : Int) ≤ n)) ∧ hs = [S])
 | 0, a, c, xs, hS, hA, hl, most, h0, h1, hd => by
   refine Cti Tryz.func29 (by kernel_rfl) 48 Tryz.ntmps29 rfl rfl fun w0 R => ?_
   refine Gsr (Las rfl rfl (Lnt (Gsr (Las rfl rfl (Lnt (Gs.seq (Gsr (Lmv rfl rfl (Lq rfl (pu_lt rfl rfl) (Lnt (Gs.cond_tt rfl (by decide) ?_)))))))))))
   refine Gsr (Lmv rfl rfl (Lq rfl (pu_addI (z := most + 1) rfl rfl rfl (by omega) (by omega)) ?_))
   refine Las rfl rfl (Lnt (Gs.ret (Gr ?_)))
   exact Gs.fin1 Tryz.results29 rfl _ (⟨⟨most + 1, rfl, by omega, Int.le_refl _, fun h => by omega⟩, rfl⟩) (by repeat constructor)
 | d + 1, a, c, xs, hS, hA, hl, most, h0, h1, hd => by
   have ih := @parts_spec S d
   have hmx : maxLen = 9223372036854775807 := by decide
   refine Cti Tryz.func29 (by kernel_rfl) 48 Tryz.ntmps29 rfl rfl fun w0 R => ?_
   refine Gs.slAddr (hS.h (by repeat constructor)) fun ab ao ha => ?_
   refine Gsr (Las rfl rfl (Lnt (Gsr (Las rfl rfl (Lnt (Gs.seq (Gsr (Lmv rfl rfl (Lq rfl (pu_lt rfl rfl) (Lnt (Gs.cond_ff rfl (decide_eq_false (by omega)) ?_)))))))))))
   refine Gs.skip (Gn (Gs.seq (Gsr (Las rfl rfl (Lnt (Gs.block (Gs.loop1 (fun s : Nat × Int => s.1 ≤ xs.length ∧ 0 ≤ s.2 ∧ s.2 ≤ most + 1 ∧ (s.2 ≤ most → (∀ x ∈ xs.take s.1, FewA (d + 1) x) ∧ ((((xs.take s.1).map (sizeA (d + 1))).sum : Nat) : Int) ≤ s.2)) (fun s => [(0, .slice a xs.length c), (1, int most), (2, int (((d + 1 : Nat) : Int) - 1)), (7, int s.2), (8, int s.1)]) (fun s => [S] ++ R) (fun s => xs.length - s.1) (0, 0) (⟨Nat.zero_le _, by decide, by show (0 : Int) ≤ most + 1; omega, fun _ => ⟨(fun x hx => by cases hx), Int.le_refl _⟩⟩) (by repeat constructor) (by repeat constructor) (fun s hs => ?_))))))))
   obtain ⟨i, n⟩ := s
   obtain ⟨hi, hn0, hn1, hn⟩ := hs
   dsimp only at hi hn0 hn1 hn ⊢
   refine Gs.seq (Gsr (Lmv rfl rfl (Lmv rfl rfl (Lq rfl (pu_len Tryz.underlying24 rfl) (Lq rfl (pu_lt rfl rfl) (LpuB rfl rfl trivial (pu_move rfl) (fun hg4 => ?_) (fun hg4 => ?_)))))))
   ·
    have hlt : i < xs.length := by have := of_decide_eq_true hg4; omega
    obtain ⟨x, hx⟩ : ∃ x, xs[i]? = some x := ⟨xs[i], by simp [hlt]⟩
    obtain rfl := ha (by rintro rfl; simp at hlt)
    have hxm := List.mem_of_getElem? hx
    have hxa := hA x hxm
    have hxl := hxa.l
    refine Lpu rfl rfl ⟨_, rfl, rfl⟩ (pu_move rfl) (Lpu rfl rfl ⟨_, rfl, rfl⟩ (pu_move rfl) (Lpu rfl rfl ⟨_, rfl, rfl⟩ (pu_le rfl rfl) (Lpk rfl rfl rfl (Lnt (Gs.cond rfl (fun hc1 => ?_) (fun hc1 => ?_))))))
    ·
     have hnm : n ≤ most := of_decide_eq_true hc1
     obtain ⟨hfw, hsz⟩ := hn hnm
     refine Gs.skip (Gn (Gs.seq (Gs.block (Gs.seq (Gsr (Lmv rfl rfl (Lmv rfl rfl (Lq rfl (pu_ia se_24 rfl rfl (by omega) (by omega)) (Lq rfl (pu_fa fa_26_2 rfl) (Lr rfl (rd_ld na_23 rfl (Rdc.elp 1 (f := 2) (hS.h (by repeat constructor)) hx rfl rfl)) ?_))))))))))
     refine La rfl (asC (greatTexts_spec hxa.w (by have h : x.w.xs.length ≤ maxLen := hxl.1; omega) 30 100)) ?_
     rintro _ _ ⟨_, ⟨⟨gt, rfl, hgt⟩, rfl⟩, rfl⟩
     refine Lnt (Gs.cond rfl (fun hc2 => ?_) (fun hc2 => ?_))
     ·
      refine Gsr (Lmv rfl rfl (Lq rfl (pu_addI (z := most + 1) rfl rfl rfl (by omega) (by omega)) ?_))
      refine Las rfl rfl (Lnt (Gs.ret (Gr (Gs.blk_r (Gr (Gr (Gs.blk_r (Gr ?_))))))))
      exact Gs.fin1 Tryz.results29 rfl _ (⟨⟨most + 1, rfl, by omega, Int.le_refl _, fun h => by omega⟩, rfl⟩) (by repeat constructor)
     obtain ⟨hw1, hw2⟩ := hgt hc2
     refine Gs.skip (Gn (Gs.reg (Lmv rfl rfl (Lq rfl (pu_addI (z := n + 1) rfl rfl rfl (by omega) (by omega)) ?_))))
     refine Lmv rfl rfl (Lmv rfl rfl (Lq rfl (pu_ia se_24 rfl rfl (by omega) (by omega)) (Lq rfl (pu_fa fa_26_3 rfl) (Lr rfl (rd_ld na_24 rfl (Rdc.elp 1 (f := 3) (hS.h (by repeat constructor)) hx rfl rfl)) ?_))))
     refine Lmv rfl rfl (Lmv rfl rfl (Lq rfl (pu_subI (z := most - n) rfl rfl rfl (by omega) (by omega)) ?_))
     refine Lq rfl (pu_subI (z := most - n - 1) rfl rfl rfl (by omega) (by omega)) ?_
     refine Lmv rfl rfl (Lq rfl (pu_subI (z := (d : Int) - 1) rfl rfl (by omega) (by omega) (by omega)) ?_)
     refine La rfl (asC (ih hxa.s hxa.sub hxl.2 (most - n - 1) (by omega) (by omega) (by omega))) ?_
     rintro _ _ ⟨_, ⟨⟨m, rfl, hm0, hm1, hm⟩, rfl⟩, rfl⟩
     refine Lq rfl (pu_addI (z := n + 1 + m) rfl rfl rfl (by omega) (by omega)) ?_
     refine Las rfl rfl (Lnil (Gs.blk_n (Gn (Gs.reg (Lmv rfl rfl (Lq rfl (by first | exact pu_addI rfl rfl rfl (by omega) (by omega) | exact pu_add rfl rfl) ?_))))))
     refine Las rfl rfl (Lnt ?_)
     exact Gs.again1 (i + 1, n + 1 + m) ⟨hlt, by show 0 ≤ n + 1 + m; omega, by show n + 1 + m ≤ most + 1; omega, fun h => by
       have h' : n + 1 + m ≤ most := h
       obtain ⟨g1, g2⟩ := hm (by omega)
       have hsl := sum_len d x.ss
       refine ⟨mem_take hx hfw ⟨(show x.w.xs.length ≤ 30 by omega), fun w hw => by have := hw2 w hw; omega, by omega, g1⟩, ?_⟩
       show ((((xs.take (i + 1)).map (sizeA (d + 1))).sum : Nat) : Int) ≤ n + 1 + m
       rw [sum_take hx]
       show (((((xs.take i).map (sizeA (d + 1))).sum + (1 + (x.ss.map (sizeA d)).sum)) : Nat) : Int) ≤ n + 1 + m
       omega⟩ (by show xs.length - (i + 1) < xs.length - i; omega) (by repeat constructor) (by repeat constructor)
    refine Gs.exit (Gx (Gx (Gs.blk_hit (Gn (Gsr (Lmv rfl rfl (Las rfl rfl (Lnt (Gs.ret ?_)))))))))
    exact Gs.fin1 Tryz.results29 rfl _ (⟨⟨n, rfl, hn0, hn1, by first | exact hall | exact fun h => absurd h (of_decide_eq_false hc1)⟩, rfl⟩) (by repeat constructor)
   have hge : i = xs.length := by have := of_decide_eq_false hg4; omega
   have hall : n ≤ most → (∀ x ∈ xs, FewA (d + 1) x) ∧ (((xs.map (sizeA (d + 1))).sum : Nat) : Int) ≤ n := by rw [hge, List.take_length] at hn; exact hn
   refine Lof rfl (Lof rfl (Lof rfl (Lpk rfl rfl rfl (Lnt (Gs.cond_f rfl (Gs.exit (Gx (Gx (Gs.blk_hit (Gn (Gsr ?_)))))))))))
   refine Lmv rfl rfl (Las rfl rfl (Lnt (Gs.ret ?_)))
   exact Gs.fin1 Tryz.results29 rfl _ (⟨⟨n, rfl, hn0, hn1, by first | exact hall | exact fun h => absurd h (of_decide_eq_false hc1)⟩, rfl⟩) (by repeat constructor)
theorem partsL_spec {L : List HProp} (d : Nat) {a : Option Addr} {c : Nat} {xs : List AskV} (hS : Srd (big L) 4 askC a xs) (hA : ∀ x ∈ xs, ARd (big L) x) (hl : xs.length ≤ maxLen) (most : Int) (h0 : -1 ≤ most) (h1 : most ≤ 60) (hd : d ≤ 1000) :
   Ct Tryz.prog 29 [.slice a xs.length c, int most, int ((d : Int) - 1)] L (fun v hs => (∃ n : Int, v = int n ∧ 0 ≤ n ∧ n ≤ most + 1 ∧ (n ≤ most → (∀ x ∈ xs, FewA d x) ∧ (((xs.map (sizeA d)).sum : Nat) : Int) ≤ n)) ∧ hs = L) :=
 (Ct.bigs (parts_spec (c := c) d hS hA hl most h0 h1 hd) fun v hs hh => ⟨[], hh.2⟩).mono fun v hs ⟨r, ⟨e1, e2⟩, e3⟩ => ⟨e1, by cases e2; rw [e3, List.append_nil]⟩
theorem greatAsk_spec {S : HProp} {x : AskV} (hx : ARd S x) :
   Ct Tryz.prog 8 [askV x] [S] (fun v hs => (∃ b : Bool, v = .bool b ∧ (b = false → FewA 13 x ∧ sizeA 13 x ≤ 60)) ∧ hs = [S]) := by
 refine Cti Tryz.func8 (by kernel_rfl) 7 Tryz.ntmps8 rfl rfl fun w0 R => ?_
 refine Gsr (La rfl (ac_box rfl rfl) ?_)
 rintro _ _ ⟨xb, rfl, rfl⟩
 refine Las rfl rfl (Lnt (Gsr (Lr rfl (rd_lda ag_26 rfl (Rdc.cl 4 (by repeat constructor) rfl) rfl) ?_)))
 refine La rfl (ac_lit encC_26 ([x]) et_24 ek_26 rfl (by repeat constructor) rfl rfl (by decide)) ?_
 rintro _ _ ⟨a4, rfl, rfl⟩
 refine La rfl (asC (partsL_spec (L := [sl 26 4 askC (some ⟨a4, 0, none⟩) 1 [x], S]) 13 (xs := [x]) (Srd.bigs (A := sl 26 4 askC (some ⟨a4, 0, none⟩) 1 [x]) Srd.own (by simp)) (fun y hy => by simp only [List.mem_singleton] at hy; subst hy; exact hx.bigs (by simp)) (by show 1 ≤ maxLen; decide) 60 (by decide) (by decide) (by decide))) ?_
 rintro _ _ ⟨_, ⟨⟨n, rfl, hn0, hn1, hn⟩, rfl⟩, rfl⟩
 refine Lq rfl (pu_gt rfl rfl) (Las rfl rfl (Lnt (Gs.ret ?_)))
 exact Gs.fin1 Tryz.results8 rfl _ (⟨⟨_, rfl, fun h => by
   obtain ⟨g1, g2⟩ := hn (by have := of_decide_eq_false h; omega)
   refine ⟨g1 x (by simp), ?_⟩
   have h3 : (([x] : List AskV).map (sizeA 13)).sum = sizeA 13 x := by simp
   rw [h3] at g2
   have := of_decide_eq_false h
   omega⟩, rfl⟩) (by repeat constructor)
theorem deep14_spec {S : HProp} : ∀ (d : Nat) {x : AskV} (hA : ARd S x) (hF : FewA d x) (hd : d ≤ 1000),
   Ct Tryz.prog 56 [askV x] [S] (fun v hs => v = int (deepA d x : Nat) ∧ hs = [S])
 | 0, x, hA, hF, hd => hF.elim
 | d + 1, x, hA, hF, hd => by
   have ih := @deep14_spec S d
   obtain ⟨hf1, hf2, hf3, hf4⟩ := hF
   obtain ⟨v0, hv0⟩ : ∃ z, z = deepA (d + 1) x := ⟨_, rfl⟩
   have hvd : v0 = (x.ss.map (deepA d)).foldl max 0 + 1 := hv0
   have hdf := deep_fold d x.ss
   rw [← hv0]
   refine Cti Tryz.func56 (by kernel_rfl) 22 Tryz.ntmps56 rfl rfl fun w0 R => ?_
   refine Gs.slAddr (hA.s.h (by repeat constructor)) fun ab ao ha => ?_
   refine Gsr (La rfl (ac_box rfl rfl) ?_)
   rintro _ _ ⟨xb, rfl, rfl⟩
   refine Las rfl rfl (Lnt (Gsr (Las rfl rfl (Lnt (Gs.seq (Gsr (Las rfl rfl (Lnt (Gs.block (Gs.loop1 (fun i : Nat => i ≤ x.ss.length) (fun i => [(1, ptr xb), (3, int (((x.ss.take i).map (deepA d)).foldl max 0 : Nat)), (4, int i)]) (fun i => [cl xb 26 (askC x), S] ++ R) (fun i => x.ss.length - i) 0 (Nat.zero_le _) (by repeat constructor) (by repeat constructor) (fun i hi => ?_)))))))))))
   refine Gs.seq (Gsr (Lmv rfl rfl (Lq rfl (pu_fa fa_26_3 rfl) (Lr rfl (rd_ld na_24 rfl (Rdc.cl1 (by repeat constructor) rfl)) ?_))))
   refine Lq rfl (pu_len Tryz.underlying24 rfl) (Lq rfl (pu_lt rfl rfl) (Lnt (Gs.cond rfl (fun hc0 => ?_) (fun hc0 => ?_))))
   ·
    have hlt : i < x.ss.length := by have := of_decide_eq_true hc0; omega
    obtain ⟨y, hy⟩ : ∃ y, x.ss[i]? = some y := ⟨x.ss[i], by simp [hlt]⟩
    have hsa := ha (fun e => by rw [e] at hlt; exact Nat.not_lt_zero _ hlt)
    have hs := hA.s
    rw [hsa] at hs
    have hym := List.mem_of_getElem? hy
    have hbd := deep_le d y
    refine Gs.skip (Gn (Gs.seq (Gs.block (Gs.reg (Lmv rfl rfl (Lq rfl (pu_fa fa_26_3 rfl) (Lr rfl (rd_ld na_24 rfl (Rdc.cl1 (by repeat constructor) rfl)) ?_)))))))
    rw [hsa]
    refine Lmv rfl rfl (Lq rfl (pu_ia se_24 rfl rfl (by omega) (by omega)) (Lr rfl (rd_lda ag_26 rfl (Rdc.el0 (hs.h (by repeat constructor)) hy rfl rfl) rfl) ?_))
    refine La rfl (asC (ih (hA.sub y hym) (hf4 y hym) (by omega))) ?_
    rintro _ _ ⟨_, ⟨rfl, rfl⟩, rfl⟩
    refine Lq rfl (pu_max rfl rfl) ?_
    rw [max_cast, ← deep_take hy]
    refine Las rfl rfl (Lnil (Gs.blk_n (Gn (Gs.reg (Lmv rfl rfl (Lq rfl (pu_addI (z := ((i + 1 : Nat) : Int)) rfl rfl (by omega) (by omega) (by omega)) ?_))))))
    refine Las rfl rfl (Lnt ?_)
    exact Ag (i + 1) (by omega) (by omega)
   have hge : i = x.ss.length := by have := of_decide_eq_false hc0; omega
   rw [hge, List.take_length]
   refine Gs.exit (Gx (Gx (Gs.blk_hit (Gn (Gsr (Lmv rfl rfl (Lq rfl (pu_addI (z := ((v0 : Nat) : Int)) rfl rfl (by omega) (by omega) (by omega)) ?_)))))))
   refine Las rfl rfl (Lnt (Gs.ret ?_))
   exact Gs.fin1 Tryz.results56 rfl _ (⟨rfl, rfl⟩) (by repeat constructor)
theorem deepA_spec {S : HProp} : ∀ (d : Nat) {x : AskV} (hA : ARd S x) (hF : FewA d x) (hd : d ≤ 1000),
   Ct Tryz.prog 67 [askV x] [S] (fun v hs => v = int (deepA d x : Nat) ∧ hs = [S])
 | 0, x, hA, hF, hd => hF.elim
 | d + 1, x, hA, hF, hd => by
   have ih := @deepA_spec S d
   obtain ⟨hf1, hf2, hf3, hf4⟩ := hF
   obtain ⟨v0, hv0⟩ : ∃ z, z = deepA (d + 1) x := ⟨_, rfl⟩
   have hvd : v0 = (x.ss.map (deepA d)).foldl max 0 + 1 := hv0
   have hdf := deep_fold d x.ss
   rw [← hv0]
   refine Cti Tryz.func67 (by kernel_rfl) 20 Tryz.ntmps67 rfl rfl fun w0 R => ?_
   refine Gs.slAddr (hA.s.h (by repeat constructor)) fun ab ao ha => ?_
   refine Gsr (La rfl (ac_box rfl rfl) ?_)
   rintro _ _ ⟨xb, rfl, rfl⟩
   refine Las rfl rfl (Lnt (Gsr (Las rfl rfl (Lnt (Gs.seq (Gsr (Lq rfl (pu_fa fa_26_3 rfl) (Lr rfl (rd_ld na_24 rfl (Rdc.cl1 (by repeat constructor) rfl)) ?_))))))))
   refine Lq rfl (pu_len Tryz.underlying24 rfl) (Lmv rfl rfl (Lnt (Gs.block (Gs.loop1 (fun i : Nat => i ≤ x.ss.length) (fun i => [(1, ptr xb), (3, int (((x.ss.take i).map (deepA d)).foldl max 0 : Nat)), (7, .slice x.sa x.ss.length x.sc), (8, int x.ss.length), (9, int i)]) (fun i => [cl xb 26 (askC x), S] ++ R) (fun i => x.ss.length - i) 0 (Nat.zero_le _) (by repeat constructor) (by repeat constructor) (fun i hi => ?_)))))
   refine Gsr (Lq rfl (pu_lt rfl rfl) (Lnt (Gs.seq (Gs.cond rfl (fun hc0 => ?_) (fun hc0 => ?_)))))
   ·
    have hlt : i < x.ss.length := by have := of_decide_eq_true hc0; omega
    obtain ⟨y, hy⟩ : ∃ y, x.ss[i]? = some y := ⟨x.ss[i], by simp [hlt]⟩
    have hsa := ha (fun e => by rw [e] at hlt; exact Nat.not_lt_zero _ hlt)
    have hs := hA.s
    rw [hsa] at hs
    have hym := List.mem_of_getElem? hy
    have hbd := deep_le d y
    rw [hsa]
    refine Gs.skip (Gn (Gs.seq (Gs.block (Gsr (Lq rfl (pu_ia se_24 rfl rfl (by omega) (by omega)) (Lr rfl (rd_lda ag_26 rfl (Rdc.el0 (hs.h (by repeat constructor)) hy rfl rfl) rfl) ?_))))))
    refine La rfl (ac_alloc zv_26 rfl) ?_
    rintro _ _ ⟨vb, rfl, rfl⟩
    refine Lac0 rfl trivial (ac_st sz_26 rfl rfl (by repeat constructor) rfl rfl rfl rfl) ?_
    rintro _ _ rfl
    refine Lnt (Gs.reg (Lmv rfl rfl (Lr rfl (rd_lda ag_26 rfl (Rdc.cl 4 (by repeat constructor) rfl) rfl) ?_)))
    refine La rfl (asC (ih (hA.sub y hym) (hf4 y hym) (by omega))) ?_
    rintro _ _ ⟨_, ⟨rfl, rfl⟩, rfl⟩
    refine Lq rfl (pu_max rfl rfl) ?_
    rw [max_cast, ← deep_take hy]
    refine Las rfl rfl (Lnil (Gs.blk_n (Gn (Gs.reg (Lq rfl (pu_addI (z := ((i + 1 : Nat) : Int)) rfl rfl (by omega) (by omega) (by omega)) ?_)))))
    refine Lmv rfl rfl (Lnt ?_)
    rw [← hsa]
    exact Ag (i + 1) (by omega) (by omega)
   have hge : i = x.ss.length := by have := of_decide_eq_false hc0; omega
   rw [hge, List.take_length]
   refine Gs.exit (Gx (Gx (Gs.blk_hit (Gn (Gsr (Lmv rfl rfl (Lq rfl (pu_addI (z := ((v0 : Nat) : Int)) rfl rfl (by omega) (by omega) (by omega)) ?_)))))))
   refine Las rfl rfl (Lnt (Gs.ret ?_))
   exact Gs.fin1 Tryz.results67 rfl _ (⟨rfl, rfl⟩) (by repeat constructor)
end Go.Proofs.YtklgiidfompdpaaGreatDoor
namespace Go.Qu
open Go Go.Sl Go.Gv Go.Ix
theorem part_le {l : List AskV} {f : AskV → Nat} {i : Nat} {y : AskV} (h : l[i]? = some y) : ((l.take i).map f).sum + f y ≤ (l.map f).sum := by
 rw [← sum_take h]
 have e : l = l.take (i + 1) ++ l.drop (i + 1) := (List.take_append_drop _ _).symm
 have : (l.map f).sum = ((l.take (i + 1)).map f).sum + ((l.drop (i + 1)).map f).sum := by rw [← List.sum_append, ← List.map_append, ← e]
 omega
theorem terms_part (d : Nat) (l : List AskV) (hl : ∀ x ∈ l, FewA d x) : (l.map (termsA d)).sum ≤ 30 * (l.map (sizeA d)).sum := by
 induction l with
 | nil => exact Nat.le_refl _
 | cons x l ih =>
   have e1 := ih fun y hy => hl y (by simp [hy])
   have e2 := terms_le d x (hl x (by simp))
   simp only [List.map_cons, List.sum_cons]; omega
end Go.Qu
namespace Go.Proofs.YtklgiidfompdpaaGreatDoor
open Go Go.Sl Go.Gv Go.Kv Go.Po Go.Ix Go.Qu
set_option maxRecDepth 100000
theorem terms14_spec {S : HProp} : ∀ (d : Nat) {x : AskV} (hA : ARd S x) (hF : FewA d x) (hz : sizeA d x ≤ 1000),
   Ct Tryz.prog 57 [askV x] [S] (fun v hs => v = int (termsA d x : Nat) ∧ hs = [S])
 | 0, x, hA, hF, hz => hF.elim
 | d + 1, x, hA, hF, hz => by
   have ih := @terms14_spec S d
   have htl := terms_le (d + 1) x hF
   obtain ⟨hf1, hf2, hf3, hf4⟩ := hF
   obtain ⟨v0, hv0⟩ : ∃ z, z = termsA (d + 1) x := ⟨_, rfl⟩
   have hvd : v0 = if x.ss = [] then max x.ws.length 1 else (x.ss.map (termsA d)).sum := hv0
   have hsz : 1 + (x.ss.map (sizeA d)).sum ≤ 1000 := hz
   have hsl := sum_len d x.ss
   rw [← hv0] at htl ⊢
   refine Cti Tryz.func57 (by kernel_rfl) 29 Tryz.ntmps57 rfl rfl fun w0 R => ?_
   refine Gs.slAddr (hA.s.h (by repeat constructor)) fun ab ao ha => ?_
   refine Gsr (La rfl (ac_box rfl rfl) ?_)
   rintro _ _ ⟨xb, rfl, rfl⟩
   refine Las rfl rfl (Lnt (Gs.seq (Gsr (Lq rfl (pu_fa fa_26_3 rfl) (Lr rfl (rd_ld na_24 rfl (Rdc.cl1 (by repeat constructor) rfl)) ?_)))))
   refine Lq rfl (pu_len Tryz.underlying24 rfl) (Lq rfl (pu_eq rfl rfl) (Lnt (Gs.cond rfl (fun hc0 => ?_) (fun hc0 => ?_))))
   ·
    have he : x.ss = [] := by have := of_decide_eq_true hc0; exact List.length_eq_zero_iff.1 (by omega)
    rw [if_pos he] at hvd
    refine Gsr (Lq rfl (pu_fa fa_26_2 rfl) (Lr rfl (rd_ld na_23 rfl (Rdc.cl1 (by repeat constructor) rfl)) ?_))
    refine Lq rfl (pu_len Tryz.underlying23 rfl) (Lq rfl (pu_max rfl rfl) ?_)
    rw [show max ((x.w.xs.length : Nat) : Int) (1 : Int) = ((v0 : Nat) : Int) by rw [hvd]; show max ((x.w.xs.length : Nat) : Int) (1 : Int) = ((max x.w.xs.length 1 : Nat) : Int); omega]
    refine Las rfl rfl (Lnt (Gs.ret (Gr ?_)))
    exact Gs.fin1 Tryz.results57 rfl _ (⟨rfl, rfl⟩) (by repeat constructor)
   have he : ¬ x.ss = [] := fun e => by have := of_decide_eq_false hc0; rw [e] at this; exact this rfl
   rw [if_neg he] at hvd
   have hsa := ha he
   have hs := hA.s
   rw [hsa] at hs
   refine Gs.skip (Gn (Gsr (Las rfl rfl (Lnt (Gs.seq (Gsr (Las rfl rfl (Lnt (Gs.block (Gs.loop1 (fun i : Nat => i ≤ x.ss.length) (fun i => [(1, ptr xb), (3, int (((x.ss.take i).map (termsA d)).sum : Nat)), (4, int i)]) (fun i => [cl xb 26 (askC x), S] ++ R) (fun i => x.ss.length - i) 0 (Nat.zero_le _) (by repeat constructor) (by repeat constructor) (fun i hi => ?_)))))))))))
   refine Gs.seq (Gsr (Lmv rfl rfl (Lq rfl (pu_fa fa_26_3 rfl) (Lr rfl (rd_ld na_24 rfl (Rdc.cl1 (by repeat constructor) rfl)) ?_))))
   refine Lq rfl (pu_len Tryz.underlying24 rfl) (Lq rfl (pu_lt rfl rfl) (Lnt (Gs.cond rfl (fun hc1 => ?_) (fun hc1 => ?_))))
   ·
    have hlt : i < x.ss.length := by have := of_decide_eq_true hc1; omega
    obtain ⟨y, hy⟩ : ∃ y, x.ss[i]? = some y := ⟨x.ss[i], by simp [hlt]⟩
    have hym := List.mem_of_getElem? hy
    have hyt := terms_le d y (hf4 y hym)
    have hpt := part_le hy (f := sizeA d)
    have hpm := terms_part d (x.ss.take i) (fun z hz => hf4 z (List.mem_of_mem_take hz))
    refine Gs.skip (Gn (Gs.seq (Gs.block (Gs.reg (Lmv rfl rfl (Lq rfl (pu_fa fa_26_3 rfl) (Lr rfl (rd_ld na_24 rfl (Rdc.cl1 (by repeat constructor) rfl)) ?_)))))))
    rw [hsa]
    refine Lmv rfl rfl (Lq rfl (pu_ia se_24 rfl rfl (by omega) (by omega)) (Lr rfl (rd_lda ag_26 rfl (Rdc.el0 (hs.h (by repeat constructor)) hy rfl rfl) rfl) ?_))
    refine La rfl (asC (ih (hA.sub y hym) (hf4 y hym) (by omega))) ?_
    rintro _ _ ⟨_, ⟨rfl, rfl⟩, rfl⟩
    refine Lq rfl (pu_addI (z := ((((x.ss.take (i + 1)).map (termsA d)).sum : Nat) : Int)) rfl rfl (by rw [sum_take hy]; omega) (by omega) (by omega)) ?_
    refine Las rfl rfl (Lnil (Gs.blk_n (Gn (Gs.reg (Lmv rfl rfl (Lq rfl (pu_addI (z := ((i + 1 : Nat) : Int)) rfl rfl (by omega) (by omega) (by omega)) ?_))))))
    refine Las rfl rfl (Lnt ?_)
    exact Ag (i + 1) (by omega) (by omega)
   have hge : i = x.ss.length := by have := of_decide_eq_false hc1; omega
   rw [hge, List.take_length, ← hvd]
   refine Gs.exit (Gx (Gx (Gs.blk_hit (Gn (Gsr (Lmv rfl rfl (Las rfl rfl (Lnt (Gs.ret ?_)))))))))
   exact Gs.fin1 Tryz.results57 rfl _ (⟨rfl, rfl⟩) (by repeat constructor)
theorem termsA_spec {S : HProp} : ∀ (d : Nat) {x : AskV} (hA : ARd S x) (hF : FewA d x) (hz : sizeA d x ≤ 1000),
   Ct Tryz.prog 68 [askV x] [S] (fun v hs => v = int (termsA d x : Nat) ∧ hs = [S])
 | 0, x, hA, hF, hz => hF.elim
 | d + 1, x, hA, hF, hz => by
   have ih := @termsA_spec S d
   have htl := terms_le (d + 1) x hF
   obtain ⟨hf1, hf2, hf3, hf4⟩ := hF
   obtain ⟨v0, hv0⟩ : ∃ z, z = termsA (d + 1) x := ⟨_, rfl⟩
   have hvd : v0 = if x.ss = [] then max x.ws.length 1 else (x.ss.map (termsA d)).sum := hv0
   have hsz : 1 + (x.ss.map (sizeA d)).sum ≤ 1000 := hz
   have hsl := sum_len d x.ss
   rw [← hv0] at htl ⊢
   refine Cti Tryz.func68 (by kernel_rfl) 27 Tryz.ntmps68 rfl rfl fun w0 R => ?_
   refine Gs.slAddr (hA.s.h (by repeat constructor)) fun ab ao ha => ?_
   refine Gsr (La rfl (ac_box rfl rfl) ?_)
   rintro _ _ ⟨xb, rfl, rfl⟩
   refine Las rfl rfl (Lnt (Gs.seq (Gsr (Lq rfl (pu_fa fa_26_3 rfl) (Lr rfl (rd_ld na_24 rfl (Rdc.cl1 (by repeat constructor) rfl)) ?_)))))
   refine Lq rfl (pu_len Tryz.underlying24 rfl) (Lq rfl (pu_eq rfl rfl) (Lnt (Gs.cond rfl (fun hc0 => ?_) (fun hc0 => ?_))))
   ·
    have he : x.ss = [] := by have := of_decide_eq_true hc0; exact List.length_eq_zero_iff.1 (by omega)
    rw [if_pos he] at hvd
    refine Gsr (Lq rfl (pu_fa fa_26_2 rfl) (Lr rfl (rd_ld na_23 rfl (Rdc.cl1 (by repeat constructor) rfl)) ?_))
    refine Lq rfl (pu_len Tryz.underlying23 rfl) (Lq rfl (pu_max rfl rfl) ?_)
    rw [show max ((x.w.xs.length : Nat) : Int) (1 : Int) = ((v0 : Nat) : Int) by rw [hvd]; show max ((x.w.xs.length : Nat) : Int) (1 : Int) = ((max x.w.xs.length 1 : Nat) : Int); omega]
    refine Las rfl rfl (Lnt (Gs.ret (Gr ?_)))
    exact Gs.fin1 Tryz.results68 rfl _ (⟨rfl, rfl⟩) (by repeat constructor)
   have he : ¬ x.ss = [] := fun e => by have := of_decide_eq_false hc0; rw [e] at this; exact this rfl
   rw [if_neg he] at hvd
   have hsa := ha he
   have hs := hA.s
   rw [hsa] at hs
   refine Gs.skip (Gn (Gsr (Las rfl rfl (Lnt (Gs.seq (Gsr (Lq rfl (pu_fa fa_26_3 rfl) (Lr rfl (rd_ld na_24 rfl (Rdc.cl1 (by repeat constructor) rfl)) ?_))))))))
   refine Lq rfl (pu_len Tryz.underlying24 rfl) (Lmv rfl rfl (Lnt (Gs.block (Gs.loop1 (fun i : Nat => i ≤ x.ss.length) (fun i => [(1, ptr xb), (3, int (((x.ss.take i).map (termsA d)).sum : Nat)), (15, .slice x.sa x.ss.length x.sc), (16, int x.ss.length), (17, int i)]) (fun i => [cl xb 26 (askC x), S] ++ R) (fun i => x.ss.length - i) 0 (Nat.zero_le _) (by repeat constructor) (by repeat constructor) (fun i hi => ?_)))))
   refine Gsr (Lq rfl (pu_lt rfl rfl) (Lnt (Gs.seq (Gs.cond rfl (fun hc1 => ?_) (fun hc1 => ?_)))))
   ·
    have hlt : i < x.ss.length := by have := of_decide_eq_true hc1; omega
    obtain ⟨y, hy⟩ : ∃ y, x.ss[i]? = some y := ⟨x.ss[i], by simp [hlt]⟩
    have hym := List.mem_of_getElem? hy
    have hyt := terms_le d y (hf4 y hym)
    have hpt := part_le hy (f := sizeA d)
    rw [hsa]
    have hpm := terms_part d (x.ss.take i) (fun z hz => hf4 z (List.mem_of_mem_take hz))
    refine Gs.skip (Gn (Gs.seq (Gs.block (Gsr (Lq rfl (pu_ia se_24 rfl rfl (by omega) (by omega)) (Lr rfl (rd_lda ag_26 rfl (Rdc.el0 (hs.h (by repeat constructor)) hy rfl rfl) rfl) ?_))))))
    refine La rfl (ac_alloc zv_26 rfl) ?_
    rintro _ _ ⟨vb, rfl, rfl⟩
    refine Lac0 rfl trivial (ac_st sz_26 rfl rfl (by repeat constructor) rfl rfl rfl rfl) ?_
    rintro _ _ rfl
    refine Lnt (Gs.reg (Lmv rfl rfl (Lr rfl (rd_lda ag_26 rfl (Rdc.cl 4 (by repeat constructor) rfl) rfl) ?_)))
    refine La rfl (asC (ih (hA.sub y hym) (hf4 y hym) (by omega))) ?_
    rintro _ _ ⟨_, ⟨rfl, rfl⟩, rfl⟩
    refine Lq rfl (pu_addI (z := ((((x.ss.take (i + 1)).map (termsA d)).sum : Nat) : Int)) rfl rfl (by rw [sum_take hy]; omega) (by omega) (by omega)) ?_
    refine Las rfl rfl (Lnil (Gs.blk_n (Gn (Gs.reg (Lq rfl (pu_addI (z := ((i + 1 : Nat) : Int)) rfl rfl (by omega) (by omega) (by omega)) ?_)))))
    refine Lmv rfl rfl (Lnt ?_)
    rw [← hsa]
    exact Ag (i + 1) (by omega) (by omega)
   have hge : i = x.ss.length := by have := of_decide_eq_false hc1; omega
   rw [hge, List.take_length, ← hvd]
   refine Gs.exit (Gx (Gx (Gs.blk_hit (Gn (Gsr (Lmv rfl rfl (Las rfl rfl (Lnt (Gs.ret ?_)))))))))
   exact Gs.fin1 Tryz.results68 rfl _ (⟨rfl, rfl⟩) (by repeat constructor)
end Go.Proofs.YtklgiidfompdpaaGreatDoor
namespace Go.Ix
open Go Go.Lib
theorem decodeN_local {n n' b0 b1 b2 b3 c1 c2 c3 : Nat} (h : ¬ ((decodeN n b0 b1 b2 b3).1 = 65533 ∧ (decodeN n b0 b1 b2 b3).2 = 1)) (hn : (decodeN n b0 b1 b2 b3).2 ≤ n')
   (h1 : 2 ≤ (decodeN n b0 b1 b2 b3).2 → c1 = b1) (h2 : 3 ≤ (decodeN n b0 b1 b2 b3).2 → c2 = b2) (h3 : 4 ≤ (decodeN n b0 b1 b2 b3).2 → c3 = b3) : decodeN n' b0 c1 c2 c3 = decodeN n b0 b1 b2 b3 := by
 rcases decodeN_shape n b0 b1 b2 b3 with ⟨c, e⟩ | ⟨x1, x2, x3, xv, e⟩ | ⟨x1, x2, x3, x4, xv, xs, e⟩ | ⟨x1, x2, x3, x4, x5, xv, xw, e⟩ | e
 · rw [e]; unfold decodeN; rw [if_pos c]
 · rw [e] at hn h1 ⊢
   dsimp only at hn h1
   obtain rfl := h1 (by omega)
   unfold decodeN
   rw [if_neg (by omega), if_pos (by omega), if_pos (by omega)]
 · rw [e] at hn h1 h2 ⊢
   dsimp only at hn h1 h2
   obtain rfl := h1 (by omega)
   obtain rfl := h2 (by omega)
   unfold decodeN
   rw [if_neg (by omega), if_neg (by omega), if_pos (by omega), if_pos (by omega)]
 · rw [e] at hn h1 h2 h3 ⊢
   dsimp only at hn h1 h2 h3
   obtain rfl := h1 (by omega)
   obtain rfl := h2 (by omega)
   obtain rfl := h3 (by omega)
   unfold decodeN
   rw [if_neg (by omega), if_neg (by omega), if_neg (by omega), if_pos (by omega), if_pos (by omega)]
 · rw [e] at h; exact (h ⟨rfl, rfl⟩).elim
abbrev Chk : Type := Nat × List UInt8
def Chunk (p : Chk) : Prop := p.2 ≠ [] ∧ decodeL p.2 = (p.1, p.2.length) ∧ ¬ (p.1 = 65533 ∧ p.2.length = 1)
theorem getD_app {c t : List UInt8} {i : Nat} (h : i < c.length) : (c ++ t).getD i 0 = c.getD i 0 := by
 rw [List.getD_eq_getElem?_getD, List.getD_eq_getElem?_getD, List.getElem?_append_left h]
theorem Chunk.head {p : Chk} (h : Chunk p) (t : List UInt8) : decodeL (p.2 ++ t) = (p.1, p.2.length) := by
 obtain ⟨h1, h2, h3⟩ := h
 have hl : 0 < p.2.length := List.length_pos_iff.2 h1
 rw [← h2]
 have e2 := h2
 rw [decodeL_N] at e2
 rw [decodeL_N, decodeL_N, getD_app hl]
 refine decodeN_local (by rw [e2]; exact h3) (by rw [e2, List.length_append]; dsimp only; omega) (fun h => ?_) (fun h => ?_) (fun h => ?_)
 all_goals (rw [e2] at h; dsimp only at h; rw [getD_app (by omega)])
theorem chunks_of : ∀ (n : Nat) (l : List UInt8), l.length ≤ n → validD l = true → ∃ ps : List Chk, (∀ p ∈ ps, Chunk p) ∧ ps.flatMap (·.2) = l
 | 0, l, h, _ => ⟨[], fun _ hp => (by cases hp), by rw [List.length_eq_zero_iff.1 (Nat.le_zero.1 h)]; rfl⟩
 | n + 1, l, h, hv => by
   by_cases hne : l = []
   · exact ⟨[], fun _ hp => (by cases hp), by rw [hne]; rfl⟩
   · rw [validD_step l hne] at hv
     split at hv
     · cases hv
     · rename_i hb
       have hw := decodeL_width l
       have hle := decodeL_le l hne
       have hkl : (l.take (decodeL l).2).length = (decodeL l).2 := by rw [List.length_take]; omega
       have hg : ∀ i, i < (decodeL l).2 → (l.take (decodeL l).2).getD i 0 = l.getD i 0 := fun i hi => by
         rw [List.getD_eq_getElem?_getD, List.getD_eq_getElem?_getD, List.getElem?_take, if_pos hi]
       have hd : decodeL (l.take (decodeL l).2) = decodeL l := by
         have e2 := decodeL_N l
         rw [decodeL_N (l.take (decodeL l).2), hg 0 (by omega), hkl]
         rw [e2]
         refine decodeN_local (by rw [← e2]; exact hb) (by rw [← e2]; exact Nat.le_refl _) (fun h => ?_) (fun h => ?_) (fun h => ?_)
         all_goals (rw [← e2] at h; rw [← e2, hg _ (by omega)])
       obtain ⟨ps, h1, h2⟩ := chunks_of n (l.drop (decodeL l).2) (by rw [List.length_drop]; omega) hv
       refine ⟨((decodeL l).1, l.take (decodeL l).2) :: ps, fun p hp => ?_, ?_⟩
       · rcases List.mem_cons.1 hp with rfl | hp
         · refine ⟨fun e => ?_, by rw [hd, hkl], by rw [hkl]; exact hb⟩
           have := congrArg List.length e
           rw [hkl, List.length_nil] at this; omega
         · exact h1 p hp
       · rw [List.flatMap_cons, h2]; exact List.take_append_drop _ _
abbrev flat (ps : List Chk) : List UInt8 := ps.flatMap (·.2)
def strC' (ps : List Chk) : ByteArray := ⟨(flat ps).toArray⟩
theorem str_data (ps : List Chk) : (strC' ps).data.toList = flat ps := by simp [strC']
theorem str_size (ps : List Chk) : (strC' ps).size = (flat ps).length := by rw [← str_data]; simp
theorem flat_app (a b : List Chk) : flat (a ++ b) = flat a ++ flat b := List.flatMap_append
theorem decode_drop (s : ByteArray) (pos : Nat) : Utf8.decode s pos = decodeL (s.data.toList.drop pos) := by
 rw [decode_N, decodeL_N]
 simp only [List.length_drop, List.getD_eq_getElem?_getD, List.getElem?_drop, Nat.add_zero]
theorem decode_str (pre rest : List Chk) {p : Chk} (h : Chunk p) : Utf8.decode (strC' (pre ++ p :: rest)) (flat pre).length = (p.1, p.2.length) := by
 rw [decode_drop, str_data, flat_app, List.drop_left]
 exact h.head (flat rest)
theorem flat_lt (pre rest : List Chk) {p : Chk} (h : Chunk p) : (flat pre).length < (strC' (pre ++ p :: rest)).size := by
 have hl : 0 < p.2.length := List.length_pos_iff.2 h.1
 rw [str_size, flat_app, List.length_append]
 show _ < _ + (p.2 ++ flat rest).length
 rw [List.length_append]; omega
theorem flat_len {ps : List Chk} (h : ∀ p ∈ ps, Chunk p) : ps.length ≤ (flat ps).length := by
 induction ps with
 | nil => exact Nat.zero_le _
 | cons p ps ih =>
   have hl : 0 < p.2.length := List.length_pos_iff.2 (h p List.mem_cons_self).1
   have := ih fun q hq => h q (List.mem_cons_of_mem _ hq)
   show ps.length + 1 ≤ (p.2 ++ flat ps).length
   rw [List.length_append]; omega
theorem valid_str {ps : List Chk} (h : ∀ p ∈ ps, Chunk p) : validD (flat ps) = true := by
 induction ps with
 | nil => rfl
 | cons p ps ih =>
   have hp := h p List.mem_cons_self
   have e := hp.head (flat ps)
   show validD (p.2 ++ flat ps) = true
   rw [validD_step _ (by simp [hp.1]), e, if_neg hp.2.2, List.drop_left]
   exact ih fun q hq => h q (List.mem_cons_of_mem _ hq)
theorem enc_chunk {p : Chk} (h : Chunk p) : encodeRune (p.1 : Int) = p.2 := by
 have := encode_decode p.2 h.1 (by rw [h.2.1]; exact h.2.2)
 rw [h.2.1] at this
 rw [this, List.take_length]
theorem runes_str : ∀ (rest pre : List Chk) (f : Nat) (acc : Array Value), (∀ p ∈ rest, Chunk p) → rest.length ≤ f →
   Conv.runesFrom (strC' (pre ++ rest)) f (flat pre).length acc = acc ++ (rest.map fun p => Value.int .i32 (p.1 : Int)).toArray
 | [], pre, f, acc, _, _ => by
   have hn : ¬ (flat pre).length < (strC' (pre ++ [])).size := by rw [str_size, List.append_nil]; omega
   cases f with
   | zero => simp [Conv.runesFrom]
   | succ f => rw [Conv.runesFrom, if_neg hn]; simp
 | p :: rest, pre, 0, acc, _, hf => by simp at hf
 | p :: rest, pre, f + 1, acc, h, hf => by
   have hp := h p List.mem_cons_self
   rw [Conv.runesFrom, if_pos (flat_lt pre rest hp)]
   simp only [decode_str pre rest hp]
   have e1 : (flat pre).length + p.2.length = (flat (pre ++ [p])).length := by rw [flat_app, List.length_append]; simp [flat]
   have e2 : strC' (pre ++ p :: rest) = strC' ((pre ++ [p]) ++ rest) := by simp
   rw [e1, e2, runes_str rest (pre ++ [p]) f _ (fun q hq => h q (List.mem_cons_of_mem _ hq)) (by simpa using hf)]
   simp
def fc (q : Nat → Bool) (cur : List Chk) : List Chk → List (List Chk)
 | [] => if cur = [] then [] else [cur]
 | x :: rest => if q x.1 then (if cur = [] then fc q [] rest else cur :: fc q [] rest) else fc q (cur ++ [x]) rest
theorem extract_str (pre cur rest : List Chk) : (strC' (pre ++ cur ++ rest)).extract (flat pre).length (flat (pre ++ cur)).length = strC' cur := by
 have e : ((strC' (pre ++ cur ++ rest)).extract (flat pre).length (flat (pre ++ cur)).length).data.toList = (strC' cur).data.toList := by
   rw [Lib.extract_data, str_data, str_data, flat_app (pre ++ cur) rest, flat_app pre cur, List.append_assoc, List.drop_left, List.length_append, Nat.add_sub_cancel_left, List.take_left]
 generalize (strC' (pre ++ cur ++ rest)).extract (flat pre).length (flat (pre ++ cur)).length = t at e
 cases t
 unfold strC' at e ⊢
 exact congrArg _ (Array.toList_inj.1 e)
theorem spans_str (q : Nat → Bool) : ∀ (rest pre cur : List Chk) (f : Nat) (acc : List (Nat × Nat)) (s : ByteArray), s = strC' (pre ++ cur ++ rest) → (∀ p ∈ rest, Chunk p) → rest.length ≤ f →
   (closeSpans s (spansFromP q s f (flat (pre ++ cur)).length (if cur = [] then none else some (flat pre).length) acc)).map (fun x => s.extract x.1 x.2) = acc.map (fun x => s.extract x.1 x.2) ++ (fc q cur rest).map strC'
 | [], pre, cur, f, acc, s, hs, _, _ => by
   have hn : ¬ (flat (pre ++ cur)).length < s.size := by rw [hs, str_size, List.append_nil]; omega
   rw [spansFromP_end q s f _ _ acc hn]
   unfold closeSpans fc
   by_cases hc : cur = []
   · rw [if_pos hc, if_pos hc]; simp
   · rw [if_neg hc, if_neg hc]
     have e : s.size = (flat (pre ++ cur)).length := by rw [hs, str_size, List.append_nil]
     simp only [List.map_append, List.map_cons, List.map_nil]
     rw [e, hs, extract_str]
 | x :: rest, pre, cur, 0, acc, s, _, _, hf => by simp at hf
 | x :: rest, pre, cur, f + 1, acc, s, hs, h, hf => by
   have hp := h x List.mem_cons_self
   have hr : ∀ p ∈ rest, Chunk p := fun p hq => h p (List.mem_cons_of_mem _ hq)
   have hpos : (flat (pre ++ cur)).length < s.size := by rw [hs]; exact flat_lt (pre ++ cur) rest hp
   have hdec : Utf8.decode s (flat (pre ++ cur)).length = (x.1, x.2.length) := by rw [hs]; exact decode_str (pre ++ cur) rest hp
   have hf' : rest.length ≤ f := by simpa using hf
   have e1 : (flat (pre ++ cur)).length + x.2.length = (flat (pre ++ cur ++ [x])).length := by rw [flat_app (pre ++ cur), List.length_append]; simp [flat]
   have st : ∀ st', spansFromP q s (f + 1) (flat (pre ++ cur)).length st' acc = if q x.1 then (match st' with
       | some a => spansFromP q s f (flat (pre ++ cur ++ [x])).length none (acc ++ [(a, (flat (pre ++ cur)).length)])
       | none => spansFromP q s f (flat (pre ++ cur ++ [x])).length none acc) else (match st' with
       | some a => spansFromP q s f (flat (pre ++ cur ++ [x])).length (some a) acc
       | none => spansFromP q s f (flat (pre ++ cur ++ [x])).length (some (flat (pre ++ cur)).length) acc) := fun st' => by
     cases st' <;> (rw [spansFromP, if_pos hpos, hdec]; simp only; rw [e1])
   rw [st]
   cases hq : q x.1 with
   | true =>
     rw [if_pos rfl]
     have hfc : fc q cur (x :: rest) = if cur = [] then fc q [] rest else cur :: fc q [] rest := by rw [fc, if_pos hq]
     rw [hfc]
     by_cases hc : cur = []
     · rw [if_pos hc, if_pos hc]
       have ih := spans_str q rest (pre ++ cur ++ [x]) [] f acc s (by rw [hs]; simp) hr hf'
       rw [if_pos rfl, List.append_nil] at ih
       exact ih
     · rw [if_neg hc, if_neg hc]
       have ih := spans_str q rest (pre ++ cur ++ [x]) [] f (acc ++ [((flat pre).length, (flat (pre ++ cur)).length)]) s (by rw [hs]; simp) hr hf'
       rw [if_pos rfl, List.append_nil] at ih
       refine ih.trans ?_
       have ex : s.extract (flat pre).length (flat (pre ++ cur)).length = strC' cur := by rw [hs]; exact extract_str pre cur (x :: rest)
       simp only [List.map_append, List.map_cons, List.map_nil]
       rw [ex]; simp
   | false =>
     rw [if_neg (by decide)]
     have hfc : fc q cur (x :: rest) = fc q (cur ++ [x]) rest := by rw [fc, if_neg (by rw [hq]; decide)]
     rw [hfc]
     have ih := spans_str q rest pre (cur ++ [x]) f acc s (by rw [hs]; simp) hr hf'
     rw [if_neg (by simp), ← List.append_assoc] at ih
     by_cases hc : cur = []
     · rw [if_pos hc]
       have e2 : (flat (pre ++ cur)).length = (flat pre).length := by rw [hc, List.append_nil]
       simp only
       rw [e2]; exact ih
     · rw [if_neg hc]; exact ih
theorem fields_str (q : Nat → Bool) {ps : List Chk} (h : ∀ p ∈ ps, Chunk p) : goFieldsP q (strC' ps) = (fc q [] ps).map strC' := by
 have := spans_str q ps [] [] (strC' ps).size [] (strC' ps) rfl h (by rw [str_size]; exact flat_len h)
 rw [if_pos rfl] at this
 unfold goFieldsP spansOfP
 simpa using this
theorem fc_mem (q : Nat → Bool) : ∀ (rest cur : List Chk), (∀ p ∈ rest, Chunk p) → (∀ p ∈ cur, Chunk p) → ∀ l ∈ fc q cur rest, ∀ p ∈ l, Chunk p
 | [], cur, _, hc, l, hl, p, hp => by
   unfold fc at hl
   split at hl
   · cases hl
   · rw [List.mem_singleton.1 hl] at hp; exact hc p hp
 | x :: rest, cur, h, hc, l, hl, p, hp => by
   have hr : ∀ p ∈ rest, Chunk p := fun p hq => h p (List.mem_cons_of_mem _ hq)
   unfold fc at hl
   split at hl
   · split at hl
     · exact fc_mem q rest [] hr (fun _ h => by cases h) l hl p hp
     · rcases List.mem_cons.1 hl with rfl | hl
       · exact hc p hp
       · exact fc_mem q rest [] hr (fun _ h => by cases h) l hl p hp
   · exact fc_mem q rest (cur ++ [x]) hr (fun p hp => by
       rcases List.mem_append.1 hp with hp | hp
       · exact hc p hp
       · rw [List.mem_singleton.1 hp]; exact h x List.mem_cons_self) l hl p hp
end Go.Ix
namespace Go.Proofs.YtklgiidfompdpaaGreatDoor
open Go Go.Sl Go.Gv Go.Kv Go.Po Go.Ix
theorem chunks_str {s : ByteArray} (h : validS s = true) : ∃ ps : List Chk, (∀ p ∈ ps, Chunk p) ∧ s = strC' ps := by
 obtain ⟨ps, h1, h2⟩ := chunks_of s.data.toList.length s.data.toList (Nat.le_refl _) h
 refine ⟨ps, h1, ?_⟩
 have : s.data.toList = (strC' ps).data.toList := by rw [str_data]; exact h2.symm
 cases s
 unfold strC' at this ⊢
 exact congrArg _ (Array.toList_inj.1 this)
theorem valid_strC {ps : List Chk} (h : ∀ p ∈ ps, Chunk p) : validS (strC' ps) = true := by unfold validS; rw [str_data]; exact valid_str h
theorem lowF_str : ∀ (rest pre : List Chk) (f : Nat), (∀ p ∈ rest, Chunk p) → rest.length ≤ f → lowF (strC' (pre ++ rest)) f (flat pre).length = rest.flatMap fun p => Lib.encodeRune (Lib.toLowerU (p.1 : Int))
 | [], pre, f, _, _ => by rw [lowF_end _ _ _ (by rw [str_size, List.append_nil]; omega)]; rfl
 | p :: rest, pre, 0, _, hf => by simp at hf
 | p :: rest, pre, f + 1, h, hf => by
   have hp := h p List.mem_cons_self
   rw [lowF, if_pos (flat_lt pre rest hp), decode_str pre rest hp]
   have e1 : (flat pre).length + p.2.length = (flat (pre ++ [p])).length := by rw [flat_app, List.length_append]; simp [flat]
   have e2 : strC' (pre ++ p :: rest) = strC' ((pre ++ [p]) ++ rest) := by simp
   simp only
   rw [e1, e2, lowF_str rest (pre ++ [p]) f (fun q hq => h q (List.mem_cons_of_mem _ hq)) (by simpa using hf), List.flatMap_cons]
def lowC (c : List Chk) : ByteArray := ⟨(c.flatMap fun p => Lib.encodeRune (Lib.toLowerU (p.1 : Int))).toArray⟩
theorem norm_str {c : List Chk} (h : ∀ p ∈ c, Chunk p) : normB (strC' c) = lowC c := by
 unfold normB
 rw [valid_strC h, if_pos rfl]
 have := lowF_str c [] (strC' c).size h (by rw [str_size]; exact flat_len h)
 unfold lowC
 rw [← this]; rfl
theorem words_str {ps : List Chk} (h : ∀ p ∈ ps, Chunk p) (hs : textB (strC' ps) = true) : wordsB (strC' ps) = (fc notW [] ps).map lowC := by
 unfold wordsB
 rw [if_pos hs, fields_str notW h, List.map_map]
 exact List.map_congr_left fun l hl => norm_str (fc_mem notW ps [] h (fun _ h => by cases h) l hl)
end Go.Proofs.YtklgiidfompdpaaGreatDoor
namespace Go.Sl
open Go
abbrev runeC (r : Int) : List Value := [.int .i32 r]
section
variable {P : Program} {w0 : World} {env : Env} {H : List HProp} {d : Option Tmp} {x : Operand} {src dst e ty : TypeId} {pos : String} {af : Array Edge} {g : Option (Nat × Bool)}
theorem ac_s2r {s : ByteArray} {rs : List Int} (hs : P.underlying src = some .string) (hd : P.underlying dst = some (.slice e)) (he : P.underlying e = some (.int .i32)) (hx : ev env x = some (.string s))
   (hr : Conv.runesFrom s s.size 0 #[] = (rs.map fun r => Value.int .i32 r).toArray) (hl : rs.length ≤ 70368744177664) :
   Ac P ⟨d, .convert src dst x, ty, pos, af, g⟩ w0 env H (fun v H' => ∃ b c, v = .slice (some ⟨b, 0, none⟩) rs.length c ∧ H' = sl e 1 runeC (some ⟨b, 0, none⟩) c rs :: H) := Ac.of_run fun ρ w r s' => by
 have hrun := run_runes_of_string w src dst e s hs hd he (by rw [hr]; simpa using hl)
 rw [hr] at hrun
 have hge := grownCap_ge w rs.length 0 e
 simp only [List.size_toArray, List.length_map] at hrun
 refine ⟨_, _, _, run_v (s := convert src dst (ρ x)) (by rw [r.eval hx]; exact hrun), ⟨w.heap.size, _, rfl, rfl⟩, ?_⟩
 have sat1 : Sat w0 w.drew H := s'.drew
 refine (sat1.alloc _).ent (sl_new hge (by simp; omega) fun i y hi j v hv => ?_)
 have hlt := (List.getElem?_eq_some_iff.1 hi).1
 cases j with
 | zero =>
   simp only [runeC, List.getElem?_cons_zero, Option.some.injEq] at hv
   rw [Array.getElem?_append_left (by simp; omega)]
   simp [hi, hv]
 | succ j => simp [runeC] at hv
theorem rd_r2s {a : Option Addr} {n c : Nat} {rs : List Int} (hs : P.underlying src = some (.slice e)) (he : P.underlying e = some (.int .i32)) (hd : P.underlying dst = some .string) (hx : ev env x = some (.slice a n c)) (hn : n = rs.length) (S : SlH w0 H 1 runeC a rs) :
   Rd P ⟨d, .convert src dst x, ty, pos, af, g⟩ w0 env H (.string (runesBytes rs)) := fun ρ w r s => by
 subst hn
 refine run_v (s := convert src dst (ρ x)) ?_
 rw [r.eval hx, run_convert_runes_string w src dst e _ _ _ hs he hd]
 by_cases hne : rs = []
 · subst hne
   cases a with
   | none => rfl
   | some a => exact run_runesToString w a 0 c [] rfl
 · obtain ⟨b, off, rfl, h⟩ := S w s hne
   refine run_runesToString w ⟨b, off, none⟩ rs.length c rs ?_
   have h2 := loadCells_run (P := P) (w := w) (b := b) (o := off) (rs.map fun r => Value.int .i32 r) 0 #[] (fun j v hv => by
     rw [List.getElem?_map] at hv
     obtain ⟨y, hy, rfl⟩ := Option.map_eq_some_iff.1 hv
     have := h j y hy 0 (.int .i32 y) rfl
     simpa using this)
   rw [List.length_map] at h2
   unfold loadCells
   rw [h2]; simp
end
end Go.Sl
namespace Go.Ix
open Go Go.Lib
theorem encode_eq (v : Int) : (Utf8.encode v).data.toList = encodeRune v := by
 have hb : ∀ (n : Nat) (z : Int), z.toNat = n → (UInt8.ofNat n : UInt8) = z.toNat.toUInt8 := fun n z h => by rw [h]
 unfold encodeRune encodeRuneZ Utf8.encode
 by_cases hv : Utf8.valid v = true
 · simp only [hv, if_true]
   unfold Utf8.valid at hv
   simp at hv
   by_cases h1 : v.toNat < 128
   · have c1 : 0 ≤ v ∧ v ≤ 127 := by omega
     rw [if_pos h1, if_pos c1]; rfl
   · have c1 : ¬ (0 ≤ v ∧ v ≤ 127) := by omega
     rw [if_neg h1, if_neg c1]
     by_cases h2 : v.toNat < 2048
     · have c2 : 128 ≤ v ∧ v ≤ 2047 := by omega
       rw [if_pos h2, if_pos c2, hb _ (192 + v / 64) (by omega), hb _ (128 + v % 64) (by omega)]; rfl
     · have c2 : ¬ (128 ≤ v ∧ v ≤ 2047) := by omega
       rw [if_neg h2, if_neg c2]
       by_cases h3 : v.toNat < 65536
       · have c3 : (2048 ≤ v ∧ v < 55296) ∨ (57343 < v ∧ v ≤ 65535) := by omega
         rw [if_pos h3, if_pos c3, hb _ (224 + v / 4096) (by omega), hb _ (128 + v / 64 % 64) (by omega), hb _ (128 + v % 64) (by omega)]; rfl
       · have c3 : ¬ ((2048 ≤ v ∧ v < 55296) ∨ (57343 < v ∧ v ≤ 65535)) := by omega
         have c4 : 65536 ≤ v ∧ v ≤ 1114111 := by omega
         rw [if_neg h3, if_neg c3, if_pos c4, hb _ (240 + v / 262144) (by omega), hb _ (128 + v / 4096 % 64) (by omega), hb _ (128 + v / 64 % 64) (by omega), hb _ (128 + v % 64) (by omega)]; rfl
 · have hv' : Utf8.valid v = false := by simpa using hv
   simp only [hv', Bool.false_eq_true, if_false]
   unfold Utf8.valid at hv'
   simp at hv'
   have c1 : ¬ (0 ≤ v ∧ v ≤ 127) := by omega
   have c2 : ¬ (128 ≤ v ∧ v ≤ 2047) := by omega
   have c3 : ¬ ((2048 ≤ v ∧ v < 55296) ∨ (57343 < v ∧ v ≤ 65535)) := by omega
   have c4 : ¬ (65536 ≤ v ∧ v ≤ 1114111) := by omega
   rw [if_neg c1, if_neg c2, if_neg c3, if_neg c4]
   decide
theorem runesBytes_flat : ∀ (rs : List Int), (runesBytes rs).data.toList = rs.flatMap encodeRune := by
 have h : ∀ (rs : List Int) (s : ByteArray), (rs.foldl (fun r n => r ++ Utf8.encode n) s).data.toList = s.data.toList ++ rs.flatMap encodeRune := by
   intro rs
   induction rs with
   | nil => intro s; simp
   | cons r rs ih => intro s; rw [List.foldl_cons, ih, List.flatMap_cons, ← encode_eq]; simp
 intro rs
 unfold runesBytes
 rw [h]; rfl
theorem bytes_ext {s t : ByteArray} (h : s.data.toList = t.data.toList) : s = t := by
 cases s; cases t; exact congrArg _ (Array.toList_inj.1 h)
theorem runesBytes_str {c : List Chk} (h : ∀ p ∈ c, Chunk p) : runesBytes (c.map fun p => (p.1 : Int)) = strC' c := by
 apply bytes_ext
 rw [runesBytes_flat, str_data, List.flatMap_map]
 induction c with
 | nil => rfl
 | cons p c ih =>
   have e := ih fun q hq => h q (List.mem_cons_of_mem _ hq)
   rw [List.flatMap_cons, e, enc_chunk (h p List.mem_cons_self)]
   rfl
end Go.Ix
namespace Go.Proofs.YtklgiidfompdpaaGreatDoor
open Go Go.Sl Go.Gv Go.Kv Go.Po Go.Ix
set_option maxRecDepth 100000
abbrev encC_21 : Int → List Value := runeC
theorem ek_21 : EncOk 1 runeC := ⟨fun _ => rfl, fun x v hv => by
 simp only [runeC, List.mem_cons, List.not_mem_nil, or_false] at hv
 rcases hv with rfl; rfl⟩
theorem runesBytes_low (c : List Chk) : runesBytes (c.map fun p => Lib.toLowerU (p.1 : Int)) = lowC c := by
 apply bytes_ext
 rw [runesBytes_flat, List.flatMap_map]; simp [lowC]
abbrev ints (c : List Chk) : List Int := c.map fun p => (p.1 : Int)
theorem runes1_spec {h0 : Hp} (T : TabX h0) {c : List Chk} (hc : ∀ p ∈ c, Chunk p) (hl : c.length ≤ 1000) (hb : (strC' c).size ≤ 100000) :
   Ct Tryz.prog 60 [.string (strC' c)] [ro h0] (fun v hs => ∃ b k, v = .slice (some ⟨b, 0, none⟩) c.length k ∧ hs = [ro h0, sl 21 1 runeC (some ⟨b, 0, none⟩) k (ints c)]) := by
 have hr : Conv.runesFrom (strC' c) (strC' c).size 0 #[] = ((ints c).map fun r => Value.int .i32 r).toArray := by
   have := runes_str c [] (strC' c).size #[] hc (by rw [str_size]; exact flat_len hc)
   rw [List.nil_append] at this
   refine this.trans ?_
   simp [ints, Function.comp_def]
 have hil : (ints c).length = c.length := by simp
 refine Cti Tryz.func60 (by kernel_rfl) 8 Tryz.ntmps60 rfl rfl fun w0 R => ?_
 refine Gsr (Las rfl rfl (Lnt (Gs.seq (Gsr (Lmv rfl rfl (La rfl (asC (valid_spec T.1 (strC' c) (by omega))) ?_))))))
 rintro _ _ ⟨_, ⟨rfl, rfl⟩, rfl⟩
 rw [valid_strC hc]
 refine Lq rfl (pu_not rfl) (Lnt (Gs.cond_ff rfl rfl (Gs.skip (Gn (Gsr (Lmv rfl rfl (La rfl (ac_s2r (rs := ints c) Tryz.underlying9 Tryz.underlying112 Tryz.underlying21 rfl hr (by rw [hil]; omega)) ?_)))))))
 rintro _ _ ⟨b, k, rfl, rfl⟩
 refine Las rfl rfl (Lnt (Gs.ret ?_))
 exact Gs.fin1 Tryz.results60 rfl _ (⟨b, k, by rw [hil], rfl⟩) (by repeat constructor)
theorem letter1_spec {h0 : Hp} (T : TabX h0) (r : Int) (hlo : -2147483648 ≤ r) (hhi : r ≤ 2147483647) : Ct Tryz.prog 61 [.int .i32 r] [ro h0] (fun v hs => v = .bool (letB r) ∧ hs = [ro h0]) := by
 refine Cti Tryz.func61 (by kernel_rfl) 9 Tryz.ntmps61 rfl rfl fun w0 R => ?_
 refine Gsr (Las rfl rfl (Lnt (Gsr (Lmv rfl rfl (La rfl (asC (isLetter_ct T r hlo hhi)) ?_)))))
 rintro _ _ ⟨_, ⟨rfl, rfl⟩, rfl⟩
 refine LpuB rfl rfl trivial (pu_move rfl) (fun hg2 => ?_) (fun hg2 => ?_)
 ·
  refine Lof rfl (Lof rfl (Lpk rfl rfl rfl (Las rfl rfl (Lnt (Gs.ret ?_)))))
  exact Gs.fin1 Tryz.results61 rfl _ (⟨by simp [letB, hg2], rfl⟩) (by repeat constructor)
 refine Lpu rfl rfl ⟨_, rfl, rfl⟩ (pu_move rfl) (Lac rfl rfl ⟨_, rfl, rfl⟩ (asC (isDigit_ct T r hlo hhi)) ?_)
 rintro _ _ ⟨_, ⟨rfl, rfl⟩, rfl⟩
 refine Lpk rfl rfl rfl (Las rfl rfl (Lnt (Gs.ret ?_)))
 exact Gs.fin1 Tryz.results61 rfl _ (⟨by simp [letB, hg2], rfl⟩) (by repeat constructor)
theorem lower_ct {h0 : Hp} (T : TabX h0) (r : Int) : Ct Tryz.prog 109 [.int .i32 r] [ro h0] (fun v hs => v = .int .i32 (Lib.toLowerU r) ∧ hs = [ro h0]) :=
 ⟨enters_of Tryz.func109 (by kernel_rfl) rfl _, fun w0 w R s => (lower_c r w (T.2 w (Sat.ro s)).2.2.2).mono fun e w' ⟨he, k, hw⟩ => by
   subst hw
   exact ⟨_, _, he, ⟨rfl, rfl⟩, s.same rfl rfl rfl (Nat.le_refl _) fun _ _ => rfl⟩⟩
theorem norm1_spec {h0 : Hp} (T : TabX h0) {c : List Chk} (hc : ∀ p ∈ c, Chunk p) (hl : c.length ≤ 1000) (hb : (strC' c).size ≤ 100000) :
   Ct Tryz.prog 62 [.string (strC' c)] [ro h0] (fun v hs => v = .string (lowC c) ∧ hs = [ro h0]) := by
 refine Cti Tryz.func62 (by kernel_rfl) 23 Tryz.ntmps62 rfl rfl fun w0 R => ?_
 refine Gsr (Las rfl rfl (Lnt (Gsr (Lmv rfl rfl (La rfl (asC (runes1_spec T hc hl hb)) ?_)))))
 rintro _ _ ⟨_, ⟨b, k, rfl, rfl⟩, rfl⟩
 refine Las rfl rfl (Lnt (Gs.seq (Gsr (Las rfl rfl (Lnt (Gs.block (Gs.loop1 (fun i : Nat => i ≤ c.length) (fun i => [(3, .slice (some ⟨b, 0, none⟩) c.length k), (4, int i)]) (fun i => [ro h0, sl 21 1 runeC (some ⟨b, 0, none⟩) k ((c.take i).map (fun p => Lib.toLowerU (p.1 : Int)) ++ ints (c.drop i))] ++ R) (fun i => c.length - i) 0 (Nat.zero_le _) (by repeat constructor) (by repeat constructor) (fun i hi => ?_))))))))
 refine Gs.seq (Gsr (Lmv rfl rfl (Lmv rfl rfl (Lq rfl (pu_len Tryz.underlying112 rfl) (Lq rfl (pu_lt rfl rfl) (Lnt (Gs.cond rfl (fun hc0 => ?_) (fun hc0 => ?_))))))))
 ·
  have hlt : i < c.length := by have := of_decide_eq_true hc0; omega
  obtain ⟨p, hp⟩ : ∃ z, c[i]? = some z := ⟨c[i], by simp [hlt]⟩
  have hat : ((c.take i).map (fun p => Lib.toLowerU (p.1 : Int)) ++ ints (c.drop i))[i]? = some (p.1 : Int) := by
    rw [List.getElem?_append_right (by simp; omega)]
    simp only [List.length_map, List.length_take, Nat.min_eq_left hi, Nat.sub_self, ints, List.getElem?_map, List.getElem?_drop, Nat.add_zero, hp, Option.map_some]
  have hset : ((c.take i).map (fun p => Lib.toLowerU (p.1 : Int)) ++ ints (c.drop i)).set i (Lib.toLowerU (p.1 : Int)) = (c.take (i + 1)).map (fun p => Lib.toLowerU (p.1 : Int)) ++ ints (c.drop (i + 1)) := by
    have e1 : c.drop i = p :: c.drop (i + 1) := by rw [List.drop_eq_getElem_cons hlt, (List.getElem?_eq_some_iff.1 hp).2]
    rw [List.set_append_right _ _ (by simp; omega), e1, List.take_add_one, hp]
    simp [Nat.min_eq_left hi]
  refine Gs.skip (Gn (Gs.seq (Gs.block (Gs.reg (Lmv rfl rfl (Lmv rfl rfl (Lmv rfl rfl (Lmv rfl rfl (Lq rfl (pu_ia se_112 rfl rfl (by omega) (by omega)) (Lr rfl (rd_ld na_21 rfl (Rdc.el0 (SlH.own (xs := (c.take i).map (fun p => Lib.toLowerU (p.1 : Int)) ++ ints (c.drop i)) (E := 21) (enc := runeC) (sz := 1) (by repeat constructor)) hat rfl rfl)) ?_))))))))))
  refine La rfl (asC (lower_ct T (p.1 : Int))) ?_
  rintro _ _ ⟨_, ⟨rfl, rfl⟩, rfl⟩
  refine Lq rfl (pu_ia se_112 rfl rfl (by omega) (by omega)) (Lac0 rfl trivial (ac_stE (enc := runeC) (xs := (c.take i).map (fun p => Lib.toLowerU (p.1 : Int)) ++ ints (c.drop i)) (i := i) (x0 := (p.1 : Int)) (y0 := Lib.toLowerU (p.1 : Int)) (vs := runeC (Lib.toLowerU (p.1 : Int))) (fo := 0) sz_21 ek_21 rfl rfl (by repeat constructor) rfl rfl rfl hat rfl rfl) ?_)
  rintro _ _ rfl
  refine Lnil ?_
  rw [hset]
  refine Gs.blk_n (Gn (Gs.reg (Lmv rfl rfl (Lq rfl (by first | exact pu_addI rfl rfl rfl (by omega) (by omega) | exact pu_add rfl rfl) ?_))))
  refine Las rfl rfl (Lnt ?_)
  exact Ag (i + 1) hlt (by omega)
 have hge : i = c.length := by have := of_decide_eq_false hc0; omega
 refine Gs.exit (Gx (Gx (Gs.blk_hit (Gn (Gsr (Lmv rfl rfl ?_))))))
 refine Lr rfl (rd_r2s (rs := c.map fun p => Lib.toLowerU (p.1 : Int)) Tryz.underlying112 Tryz.underlying21 Tryz.underlying9 rfl (by simp) (by
 have e : (c.take i).map (fun p => Lib.toLowerU (p.1 : Int)) ++ ints (c.drop i) = c.map fun p => Lib.toLowerU (p.1 : Int) := by rw [hge, List.take_length, List.drop_length]; simp
 rw [← e]; exact SlH.own (E := 21) (c := k) (by repeat constructor))) ?_
 refine Las rfl rfl (Lnil ?_)
 rw [runesBytes_low]
 refine Gn (Gs.ret ?_)
 exact Gs.fin1 Tryz.results62 rfl _ (⟨rfl, rfl⟩) (by repeat constructor)
end Go.Proofs.YtklgiidfompdpaaGreatDoor
namespace Go.Proofs.YtklgiidfompdpaaGreatDoor
open Go Go.Sl Go.Gv Go.Kv Go.Po Go.Ix
set_option maxRecDepth 100000
structure InvO (ps : List Chk) (i f : Nat) (W : List ByteArray) : Prop where
 fi : f ≤ i
 il : i ≤ ps.length + 1
 wl : W.length ≤ i
 go : i ≤ ps.length → W ++ (fc notW ((ps.take i).drop f) (ps.drop i)).map lowC = (fc notW [] ps).map lowC
 fin : i = ps.length + 1 → W = (fc notW [] ps).map lowC
theorem InvO.start (ps : List Chk) : InvO ps 0 0 [] := ⟨Nat.le_refl _, Nat.zero_le _, Nat.le_refl _, fun _ => rfl, fun h => by omega⟩
theorem cur_len {ps : List Chk} {i f : Nat} (h : i ≤ ps.length) : ((ps.take i).drop f).length = i - f := by rw [List.length_drop, List.length_take]; omega
theorem cur_nil {ps : List Chk} {i f : Nat} (h : i ≤ ps.length) (hf : f ≤ i) : (ps.take i).drop f = [] ↔ f = i := by
 rw [← List.length_eq_zero_iff, cur_len h]; omega
theorem InvO.letter {ps : List Chk} {i f : Nat} {W : List ByteArray} (h : InvO ps i f W) {x : Chk} (hx : ps[i]? = some x) (hl : letB (x.1 : Int) = true) : InvO ps (i + 1) f W := by
 have hlt := (List.getElem?_eq_some_iff.1 hx).1
 have hxe := (List.getElem?_eq_some_iff.1 hx).2
 have hg := h.go (by omega)
 have hq : notW x.1 = false := by unfold notW; rw [hl]; rfl
 refine ⟨Nat.le_succ_of_le h.fi, by omega, Nat.le_succ_of_le h.wl, fun _ => ?_, fun e => by omega⟩
 rw [List.drop_eq_getElem_cons hlt, hxe, fc, if_neg (by rw [hq]; decide)] at hg
 rw [List.take_add_one, hx, List.drop_append_of_le_length (by rw [List.length_take]; have := h.fi; omega)]
 exact hg
theorem InvO.cut {ps : List Chk} {i f : Nat} {W : List ByteArray} (h : InvO ps i f W) (hi : i ≤ ps.length) (hl : ∀ x, ps[i]? = some x → letB (x.1 : Int) = false) :
   (f < i → InvO ps (i + 1) (i + 1) (W ++ [lowC ((ps.take i).drop f)])) ∧ (f = i → InvO ps (i + 1) (i + 1) W) := by
 have hg := h.go hi
 have hwl := h.wl
 have hnil := cur_nil hi h.fi
 by_cases hlt : i < ps.length
 · have hx : ps[i]? = some ps[i] := by simp [hlt]
   have hq : notW ps[i].1 = true := by unfold notW; rw [hl _ hx]; rfl
   rw [List.drop_eq_getElem_cons hlt, fc, if_pos hq] at hg
   have hd : (ps.take (i + 1)).drop (i + 1) = [] := by rw [List.drop_eq_nil_iff, List.length_take]; omega
   refine ⟨fun hf => ⟨Nat.le_refl _, by omega, by rw [List.length_append]; simp; omega, fun _ => ?_, fun e => by omega⟩, fun hf => ⟨Nat.le_refl _, by omega, by omega, fun _ => ?_, fun e => by omega⟩⟩
   · rw [if_neg (fun e => by have := hnil.1 e; omega)] at hg
     rw [hd, List.append_assoc]; exact hg
   · rw [if_pos (hnil.2 hf)] at hg
     rw [hd]; exact hg
 · have hie : i = ps.length := by omega
   rw [show ps.drop i = [] by rw [hie, List.drop_length], fc] at hg
   refine ⟨fun hf => ⟨Nat.le_refl _, by omega, by rw [List.length_append]; simp; omega, fun e => by omega, fun _ => ?_⟩, fun hf => ⟨Nat.le_refl _, by omega, by omega, fun e => by omega, fun _ => ?_⟩⟩
   · rw [if_neg (fun e => by have := hnil.1 e; omega)] at hg
     exact hg
   · rw [if_pos (hnil.2 hf)] at hg
     simpa using hg
theorem letB_32 : letB 32 = false := by kernel_rfl
theorem flat_sub (ps : List Chk) (i f : Nat) : (strC' ((ps.take i).drop f)).size ≤ (strC' ps).size := by
 rw [str_size, str_size]
 have h1 : flat ps = flat (ps.take i) ++ flat (ps.drop i) := by rw [← flat_app, List.take_append_drop]
 have h2 : flat (ps.take i) = flat ((ps.take i).take f) ++ flat ((ps.take i).drop f) := by rw [← flat_app, List.take_append_drop]
 rw [h1, h2]; simp only [List.length_append]; omega
theorem chunk_rune {p : Chk} (h : Chunk p) : p.1 ≤ 1114111 := by
 have := Lib.decodeL_rune p.2
 rw [h.2.1] at this; exact this
theorem of1_spec {h0 : Hp} (T : TabX h0) (s : ByteArray) : Ct Tryz.prog 39 [.string s] [ro h0] (fun v hs => ∃ a c, v = .slice a (toksV s).length c ∧ hs = [ro h0, sl 98 2 wordC a c (toksV s)]) := by
 refine Cti Tryz.func39 (by kernel_rfl) 43 Tryz.ntmps39 rfl rfl fun w0 R => ?_
 refine Gsr (Las rfl rfl (Lnt (Gsr (Las rfl rfl (Lnt (Gs.seq (Gsr (Lmv rfl rfl (La rfl (asC (textMay1_spec T.1 s)) ?_)))))))))
 rintro _ _ ⟨_, ⟨rfl, rfl⟩, rfl⟩
 refine Lq rfl (pu_not rfl) (Lnt (Gs.cond rfl (fun hc0 => ?_) (fun hc0 => ?_)))
 ·
  have hno : toksV s = [] := by unfold toksV wordsB; rw [not_t hc0]; rfl
  refine Gsr (Las rfl rfl (Lnt (Gs.ret (Gr (Gs.slNil 98 2 wordC ?_)))))
  exact Gs.fin1 Tryz.results39 rfl _ (⟨none, 0, by rw [hno]; rfl, by rw [hno]⟩) (by repeat constructor)
 have htx := not_f hc0
 have hsv : validS s = true := by unfold textB at htx; simp only [Bool.and_eq_true] at htx; exact htx.2
 have hsz : s.size ≤ 120 := by unfold textB at htx; simp only [Bool.and_eq_true, decide_eq_true_eq] at htx; omega
 obtain ⟨ps, hps, rfl⟩ := chunks_str hsv
 have hpl : ps.length ≤ 120 := by have := flat_len hps; rw [str_size] at hsz; omega
 have hW : wordsB (strC' ps) = (fc notW [] ps).map lowC := words_str hps htx
 refine Gs.skip (Gn (Gsr (Lmv rfl rfl (La rfl (asC (runes1_spec T hps (by omega) (by omega))) ?_))))
 rintro _ _ ⟨_, ⟨lb, lk, rfl, rfl⟩, rfl⟩
 rw [show ps.length = (ints ps).length by simp]
 refine La rfl (ac_lit encC_21 ([(32 : Int)]) et_112 ek_21 rfl (by repeat constructor) rfl rfl (by decide)) ?_
 rintro _ _ ⟨a12, rfl, rfl⟩
 refine La rfl (ac_append (xs := ints ps) (ys := [(32 : Int)]) et_112 ek_21 rfl rfl (by repeat constructor) (SrcH.sl Tryz.underlying112 ek_21 (SlH.own (by repeat constructor))) (by first | omega | (simp; omega)) (by first | omega | (simp; omega))) ?_
 rintro _ _ ⟨a13, c13, rfl, rfl⟩
 refine Las rfl rfl (Lnil ?_)
 have hll : (ints ps ++ [(32 : Int)]).length = ps.length + 1 := by simp
 refine Gs.slLen (E := 21) (sz := 1) (enc := runeC) (a := a13) (c := c13) (xs := ints ps ++ [(32 : Int)]) (by repeat constructor) fun hlc => ?_
 refine Gs.slAddr (xs := ints ps ++ [(32 : Int)]) (SlH.own (E := 21) (enc := runeC) (a := a13) (c := c13) (by repeat constructor)) fun zb zo hza => ?_
 obtain rfl := hza (by simp)
 refine Gs.slNil 98 2 wordC (Gn (Gsr (Las rfl rfl (Lnt (Gs.seq (Gsr (Las rfl rfl (Lnt (Gs.block (Gs.loop1 (fun s : Nat × Nat × (Option Addr × Nat) × List ByteArray => InvO ps s.1 s.2.1 s.2.2.2) (fun s => [(3, .slice s.2.2.1.1 (toksOf s.2.2.2 0).length s.2.2.1.2), (4, .slice (some ⟨zb, zo, none⟩) (ints ps ++ [(32 : Int)]).length c13), (5, int s.2.1), (6, int s.1)]) (fun s => [ro h0, sl 21 1 runeC (some ⟨zb, zo, none⟩) c13 (ints ps ++ [(32 : Int)]), sl 98 2 wordC s.2.2.1.1 s.2.2.1.2 (toksOf s.2.2.2 0)] ++ R) (fun s => ps.length + 1 - s.1) (0, 0, (none, 0), []) (InvO.start ps) (by repeat constructor) (by repeat constructor) (fun s hs => ?_)))))))))))
 obtain ⟨i, f, ⟨oa, oc⟩, W⟩ := s
 dsimp only at hs ⊢
 have hfi := hs.fi
 have hil := hs.il
 have hwl := hs.wl
 have htl : (toksOf W 0).length = W.length := toks_length W 0
 refine Gs.seq (Gsr (Lmv rfl rfl (Lmv rfl rfl (Lq rfl (pu_len Tryz.underlying112 rfl) (Lq rfl (pu_lt rfl rfl) (Lnt (Gs.cond rfl (fun hc1 => ?_) (fun hc1 => ?_))))))))
 ·
  have hlt : i < ps.length + 1 := by have := of_decide_eq_true hc1; omega
  obtain ⟨r, hr⟩ : ∃ r, (ints ps ++ [(32 : Int)])[i]? = some r := ⟨(ints ps ++ [(32 : Int)])[i]'(by omega), by simp⟩
  have hrr : 0 ≤ r ∧ r ≤ 1114111 ∧ (∀ x, ps[i]? = some x → r = (x.1 : Int)) ∧ (i = ps.length → r = 32) := by
    by_cases hi : i < ps.length
    · rw [List.getElem?_append_left (by simp; exact hi)] at hr
      have hx : ps[i]? = some ps[i] := by simp [hi]
      simp only [ints, List.getElem?_map, hx, Option.map_some, Option.some.injEq] at hr
      have := chunk_rune (hps _ (List.getElem_mem hi))
      exact ⟨by omega, by omega, fun x h => by rw [hx] at h; cases h; exact hr.symm, fun e => by omega⟩
    · have hie : i = ps.length := by omega
      rw [List.getElem?_append_right (by simp; omega)] at hr
      simp [hie] at hr
      exact ⟨by omega, by omega, fun x h => by have := (List.getElem?_eq_some_iff.1 h).1; omega, fun _ => hr.symm⟩
  refine Gs.skip (Gn (Gs.seq (Gs.block (Gs.seq (Gsr (Lmv rfl rfl (Lmv rfl rfl (Lq rfl (pu_ia se_112 rfl rfl (by omega) (by omega)) (Lr rfl (rd_ld na_21 rfl (Rdc.el0 (SlH.own (xs := ints ps ++ [(32 : Int)]) (E := 21) (enc := runeC) (sz := 1) (by repeat constructor)) hr rfl rfl)) ?_)))))))))
  refine La rfl (asC (letter1_spec T r (by omega) (by omega))) ?_
  rintro _ _ ⟨_, ⟨rfl, rfl⟩, rfl⟩
  refine Lnt (Gs.cond rfl (fun hc2 => ?_) (fun hc2 => ?_))
  ·
   have hi : i < ps.length := by
     rcases (by omega : i < ps.length ∨ i = ps.length) with h | h
     · exact h
     · have hc2' : letB r = true := hc2
       rw [hrr.2.2.2 h, letB_32] at hc2'; cases hc2'
   have hInvL : InvO ps (i + 1) f W := hs.letter (x := ps[i]) (by simp [hi]) (by rw [← hrr.2.2.1 ps[i] (by simp [hi])]; exact hc2)
   refine Gs.exit (Gx (Gs.blk_hit (Gn (Gs.reg (Lmv rfl rfl (Lq rfl (by first | exact pu_addI rfl rfl rfl (by omega) (by omega) | exact pu_add rfl rfl) ?_))))))
   refine Las rfl rfl (Lnt ?_)
   first | exact Ag (i + 1, f, (oa, oc), W) hInvL (by show ps.length + 1 - (i + 1) < ps.length + 1 - i; omega) | exact Ag (i + 1, i + 1, (a39, c39), W ++ [lowC ((ps.take i).drop f)]) hInvW (by show ps.length + 1 - (i + 1) < ps.length + 1 - i; omega) | exact Ag (i + 1, i + 1, (oa, oc), W) hInvN (by show ps.length + 1 - (i + 1) < ps.length + 1 - i; omega)
  have hiN : i ≤ ps.length := by omega
  obtain ⟨hcw, hcn⟩ := hs.cut hiN fun x hx => by rw [← hrr.2.2.1 x hx]; exact hc2
  have hcur : ∀ p ∈ (ps.take i).drop f, Chunk p := fun p hp => hps p (List.mem_of_mem_take (List.mem_of_mem_drop hp))
  have hcl := cur_len (f := f) hiN
  have hcs := flat_sub ps i f
  have hcut : ((ints ps ++ [(32 : Int)]).take i).drop f = ints ((ps.take i).drop f) := by
    rw [List.take_append_of_le_length (by simp; exact hiN)]; simp [ints]
  refine Gs.skip (Gn (Gs.seq (Gsr (Lmv rfl rfl (Lmv rfl rfl (Lq rfl (pu_gt rfl rfl) (Lnt (Gs.cond rfl (fun hc3 => ?_) (fun hc3 => ?_)))))))))
  ·
   have hf : f < i := by have := of_decide_eq_true hc3; omega
   have hInvW := hcw hf
   refine Gs.reg (Lmv rfl rfl (Lmv rfl rfl (Lmv rfl rfl (Lmv rfl rfl (Lq rfl (pu_slice et_112 rfl rfl rfl (by omega) (by omega) (by omega)) (Lr rfl (rd_r2s (rs := ints ((ps.take i).drop f)) Tryz.underlying112 Tryz.underlying21 Tryz.underlying9 rfl (by rw [List.length_map, hcl]; simp) (by rw [← hcut]; exact SlH.cut (SlH.own (E := 21) (by repeat constructor)) f i c13 (.inl hlc))) ?_))))))
   rw [runesBytes_str hcur]
   refine La rfl (asC (norm1_spec T hcur (by omega) (by omega))) ?_
   rintro _ _ ⟨_, ⟨rfl, rfl⟩, rfl⟩
   refine Lmv rfl rfl (Lq rfl (pu_len Tryz.underlying83 rfl) (Lq rfl (pu_build bd_98 (by repeat constructor) rfl) ?_))
   refine La rfl (ac_lit encC_98 ([(lowC ((ps.take i).drop f), ((toksOf W 0).length : Int))]) et_83 ek_98 rfl (by repeat constructor) rfl rfl (by decide)) ?_
   rintro _ _ ⟨a38, rfl, rfl⟩
   refine La rfl (ac_append (xs := toksOf W 0) (ys := [(lowC ((ps.take i).drop f), ((toksOf W 0).length : Int))]) et_83 ek_98 rfl rfl (by repeat constructor) (SrcH.sl Tryz.underlying83 ek_98 (SlH.own (by repeat constructor))) (by first | omega | (simp; omega)) (by first | omega | (simp; omega))) ?_
   rintro _ _ ⟨a39, c39, rfl, rfl⟩
   refine Las rfl rfl (Lnil ?_)
   rw [show toksOf W 0 ++ [(lowC ((ps.take i).drop f), ((toksOf W 0).length : Int))] = toksOf (W ++ [lowC ((ps.take i).drop f)]) 0 by rw [toks_snoc, toks_length, Nat.zero_add]]
   refine Gn (Gs.reg (Lmv rfl rfl (Lq rfl (by first | exact pu_addI rfl rfl rfl (by omega) (by omega) | exact pu_add rfl rfl) ?_)))
   refine Las rfl rfl (Lnil (Gs.blk_n (Gn (Gs.reg (Lmv rfl rfl (Lq rfl (by first | exact pu_addI rfl rfl rfl (by omega) (by omega) | exact pu_add rfl rfl) ?_))))))
   refine Las rfl rfl (Lnt ?_)
   first | exact Ag (i + 1, f, (oa, oc), W) hInvL (by show ps.length + 1 - (i + 1) < ps.length + 1 - i; omega) | exact Ag (i + 1, i + 1, (a39, c39), W ++ [lowC ((ps.take i).drop f)]) hInvW (by show ps.length + 1 - (i + 1) < ps.length + 1 - i; omega) | exact Ag (i + 1, i + 1, (oa, oc), W) hInvN (by show ps.length + 1 - (i + 1) < ps.length + 1 - i; omega)
  have hf : f = i := by have := of_decide_eq_false hc3; omega
  have hInvN := hcn hf
  refine Gs.skip (Gn (Gs.reg (Lmv rfl rfl (Lq rfl (by first | exact pu_addI rfl rfl rfl (by omega) (by omega) | exact pu_add rfl rfl) ?_))))
  refine Las rfl rfl (Lnil (Gs.blk_n (Gn (Gs.reg (Lmv rfl rfl (Lq rfl (by first | exact pu_addI rfl rfl rfl (by omega) (by omega) | exact pu_add rfl rfl) ?_))))))
  refine Las rfl rfl (Lnt ?_)
  first | exact Ag (i + 1, f, (oa, oc), W) hInvL (by show ps.length + 1 - (i + 1) < ps.length + 1 - i; omega) | exact Ag (i + 1, i + 1, (a39, c39), W ++ [lowC ((ps.take i).drop f)]) hInvW (by show ps.length + 1 - (i + 1) < ps.length + 1 - i; omega) | exact Ag (i + 1, i + 1, (oa, oc), W) hInvN (by show ps.length + 1 - (i + 1) < ps.length + 1 - i; omega)
 have hfin : i = ps.length + 1 := by have := of_decide_eq_false hc1; omega
 have hWf : toksOf W 0 = toksV (strC' ps) := by unfold toksV; rw [hW, hs.fin hfin]
 rw [hWf]
 refine Gs.exit (Gx (Gx (Gs.blk_hit (Gn (Gsr (Lmv rfl rfl (Las rfl rfl (Lnt (Gs.ret ?_)))))))))
 exact Gs.fin1 Tryz.results39 rfl _ (⟨oa, oc, rfl, rfl⟩) (by repeat constructor)
end Go.Proofs.YtklgiidfompdpaaGreatDoor
namespace Go.Proofs
open Go.Shelf
def Tryz.laysCF_ren : Go.Shelf.Ren := ⟨fun | 17 => 207 | 15 => 252 | 20 => 271 | n => n, fun | 9 => 9 | 23 => 114 | 4 => 4 | 3 => 3 | 0 => 0 | 21 => 21 | n => n, fun | n => n⟩
theorem Tryz.laysCF : Go.Proofs.LaysGw.n17 Tryz.prog Tryz.laysCF_ren := {
 mixed := by kernel_rfl
 f15 := Tryz.func252.trans (congrArg some (by kernel_rfl))
 f17 := Tryz.func207.trans (congrArg some (by kernel_rfl))
 f20 := Tryz.func271.trans (congrArg some (by kernel_rfl))
 t0 := Tryz.underlying0
 a0 := Tryz.isAgg0
 z0 := Tryz.sizeOf0
 v0 := Tryz.zeroValue0
 i0 := by kernel_rfl
 t3 := Tryz.underlying3
 a3 := Tryz.isAgg3
 z3 := Tryz.sizeOf3
 v3 := Tryz.zeroValue3
 i3 := by kernel_rfl
 t4 := Tryz.underlying4
 a4 := Tryz.isAgg4
 z4 := Tryz.sizeOf4
 v4 := Tryz.zeroValue4
 i4 := by kernel_rfl
 t9 := Tryz.underlying9
 a9 := Tryz.isAgg9
 z9 := Tryz.sizeOf9
 v9 := Tryz.zeroValue9
 i9 := by kernel_rfl
 t21 := Tryz.underlying21
 a21 := Tryz.isAgg21
 z21 := Tryz.sizeOf21
 v21 := Tryz.zeroValue21
 i21 := by kernel_rfl
 t23 := Tryz.underlying114
 a23 := Tryz.isAgg114
 z23 := Tryz.sizeOf114
 v23 := Tryz.zeroValue114
 i23 := by kernel_rfl }
def Tryz.laysItoa_ren : Go.Shelf.Ren := ⟨fun | 171 => 155 | 243 => 201 | 246 => 249 | 283 => 265 | 284 => 266 | 285 => 267 | 286 => 268 | 129 => 194 | 317 => 275 | 318 => 276 | 319 => 277 | 320 => 278 | 337 => 279 | 338 => 280 | n => n, fun | 3 => 3 | 9 => 9 | 2 => 2 | 4 => 4 | 171 => 298 | 0 => 0 | 53 => 229 | 37 => 174 | 5 => 5 | 173 => 300 | 212 => 309 | 51 => 193 | 20 => 20 | 213 => 310 | 46 => 185 | 232 => 311 | 233 => 312 | n => n, fun | 17 => 6 | 18 => 8 | 19 => 9 | n => n⟩
theorem Tryz.laysItoa : Go.Proofs.LaysM.n171 Tryz.prog Tryz.laysItoa_ren := {
 mixed := by kernel_rfl
 f129 := Tryz.func194.trans (congrArg some (by kernel_rfl))
 f171 := Tryz.func155.trans (congrArg some (by kernel_rfl))
 f243 := Tryz.func201.trans (congrArg some (by kernel_rfl))
 f246 := Tryz.func249.trans (congrArg some (by kernel_rfl))
 f283 := Tryz.func265.trans (congrArg some (by kernel_rfl))
 f284 := Tryz.func266.trans (congrArg some (by kernel_rfl))
 f285 := Tryz.func267.trans (congrArg some (by kernel_rfl))
 f286 := Tryz.func268.trans (congrArg some (by kernel_rfl))
 f317 := Tryz.func275.trans (congrArg some (by kernel_rfl))
 f318 := Tryz.func276.trans (congrArg some (by kernel_rfl))
 f319 := Tryz.func277.trans (congrArg some (by kernel_rfl))
 f320 := Tryz.func278.trans (congrArg some (by kernel_rfl))
 f337 := Tryz.func279.trans (congrArg some (by kernel_rfl))
 f338 := Tryz.func280.trans (congrArg some (by kernel_rfl))
 t0 := Tryz.underlying0
 a0 := Tryz.isAgg0
 z0 := Tryz.sizeOf0
 v0 := Tryz.zeroValue0
 t2 := Tryz.underlying2
 a2 := Tryz.isAgg2
 z2 := Tryz.sizeOf2
 v2 := Tryz.zeroValue2
 t3 := Tryz.underlying3
 a3 := Tryz.isAgg3
 z3 := Tryz.sizeOf3
 v3 := Tryz.zeroValue3
 t4 := Tryz.underlying4
 a4 := Tryz.isAgg4
 z4 := Tryz.sizeOf4
 v4 := Tryz.zeroValue4
 t5 := Tryz.underlying5
 a5 := Tryz.isAgg5
 z5 := Tryz.sizeOf5
 v5 := Tryz.zeroValue5
 t9 := Tryz.underlying9
 a9 := Tryz.isAgg9
 z9 := Tryz.sizeOf9
 v9 := Tryz.zeroValue9
 t20 := Tryz.underlying20
 a20 := Tryz.isAgg20
 z20 := Tryz.sizeOf20
 v20 := Tryz.zeroValue20
 t37 := Tryz.underlying174
 a37 := Tryz.isAgg174
 z37 := Tryz.sizeOf174
 v37 := Tryz.zeroValue174
 t46 := Tryz.underlying185
 a46 := Tryz.isAgg185
 z46 := Tryz.sizeOf185
 v46 := Tryz.zeroValue185
 t51 := Tryz.underlying193
 a51 := Tryz.isAgg193
 z51 := Tryz.sizeOf193
 v51 := Tryz.zeroValue193
 t53 := Tryz.underlying229
 a53 := Tryz.isAgg229
 z53 := Tryz.sizeOf229
 v53 := Tryz.zeroValue229
 t171 := Tryz.underlying298
 a171 := Tryz.isAgg298
 z171 := Tryz.sizeOf298
 v171 := Tryz.zeroValue298
 t173 := Tryz.underlying300
 a173 := Tryz.isAgg300
 z173 := Tryz.sizeOf300
 v173 := Tryz.zeroValue300
 t212 := Tryz.underlying309
 a212 := Tryz.isAgg309
 z212 := Tryz.sizeOf309
 v212 := Tryz.zeroValue309
 t213 := Tryz.underlying310
 a213 := Tryz.isAgg310
 z213 := Tryz.sizeOf310
 t232 := Tryz.underlying311
 a232 := Tryz.isAgg311
 z232 := Tryz.sizeOf311
 v232 := Tryz.zeroValue311
 t233 := Tryz.underlying312
 a233 := Tryz.isAgg312
 z233 := Tryz.sizeOf312
 v233 := Tryz.zeroValue312
 g17 := by kernel_rfl
 g18 := by kernel_rfl
 g19 := by kernel_rfl
 i0 := by kernel_rfl
 i2 := by kernel_rfl
 i3 := by kernel_rfl
 i4 := by kernel_rfl
 i5 := by kernel_rfl
 i9 := by kernel_rfl
 i20 := by kernel_rfl
 i37 := by kernel_rfl
 i46 := by kernel_rfl
 i51 := by kernel_rfl
 i53 := by kernel_rfl
 i171 := by kernel_rfl
 i173 := by kernel_rfl
 i212 := by kernel_rfl
 i232 := by kernel_rfl
 i233 := by kernel_rfl
 m17 := by kernel_rfl
 m18 := by kernel_rfl
 m19 := by kernel_rfl }
def Tryz.laysJoin_ren : Go.Shelf.Ren := ⟨fun | 156 => 156 | 165 => 202 | 166 => 203 | 169 => 143 | 240 => 182 | 241 => 250 | 276 => 238 | 277 => 269 | n => n, fun | 31 => 23 | 9 => 9 | 3 => 3 | 4 => 4 | 0 => 0 | 20 => 20 | 72 => 176 | 76 => 179 | 70 => 173 | 37 => 174 | 75 => 178 | 127 => 220 | 164 => 268 | 5 => 5 | 80 => 181 | n => n, fun | n => n⟩
theorem Tryz.laysJoin : Go.Proofs.Lays.n156 Tryz.prog Tryz.laysJoin_ren := {
 mixed := by kernel_rfl
 f156 := Tryz.func156.trans (congrArg some (by kernel_rfl))
 f165 := Tryz.func202.trans (congrArg some (by kernel_rfl))
 f166 := Tryz.func203.trans (congrArg some (by kernel_rfl))
 f169 := Tryz.func143.trans (congrArg some (by kernel_rfl))
 f240 := Tryz.func182.trans (congrArg some (by kernel_rfl))
 f241 := Tryz.func250.trans (congrArg some (by kernel_rfl))
 f276 := Tryz.func238.trans (congrArg some (by kernel_rfl))
 f277 := Tryz.func269.trans (congrArg some (by kernel_rfl))
 t0 := Tryz.underlying0
 a0 := Tryz.isAgg0
 z0 := Tryz.sizeOf0
 v0 := Tryz.zeroValue0
 t3 := Tryz.underlying3
 a3 := Tryz.isAgg3
 z3 := Tryz.sizeOf3
 v3 := Tryz.zeroValue3
 t4 := Tryz.underlying4
 a4 := Tryz.isAgg4
 z4 := Tryz.sizeOf4
 v4 := Tryz.zeroValue4
 t9 := Tryz.underlying9
 a9 := Tryz.isAgg9
 z9 := Tryz.sizeOf9
 v9 := Tryz.zeroValue9
 t20 := Tryz.underlying20
 a20 := Tryz.isAgg20
 z20 := Tryz.sizeOf20
 v20 := Tryz.zeroValue20
 t31 := Tryz.underlying23
 a31 := Tryz.isAgg23
 z31 := Tryz.sizeOf23
 v31 := Tryz.zeroValue23
 t37 := Tryz.underlying174
 a37 := Tryz.isAgg174
 z37 := Tryz.sizeOf174
 v37 := Tryz.zeroValue174
 t70 := Tryz.underlying173
 a70 := Tryz.isAgg173
 z70 := Tryz.sizeOf173
 v70 := Tryz.zeroValue173
 t72 := Tryz.underlying176
 a72 := Tryz.isAgg176
 z72 := Tryz.sizeOf176
 v72 := Tryz.zeroValue176
 t75 := Tryz.underlying178
 a75 := Tryz.isAgg178
 z75 := Tryz.sizeOf178
 v75 := Tryz.zeroValue178
 t76 := Tryz.underlying179
 a76 := Tryz.isAgg179
 z76 := Tryz.sizeOf179
 v76 := Tryz.zeroValue179
 t127 := Tryz.underlying220
 a127 := Tryz.isAgg220
 z127 := Tryz.sizeOf220
 v127 := Tryz.zeroValue220
 t164 := Tryz.underlying268
 a164 := Tryz.isAgg268
 z164 := Tryz.sizeOf268
 v164 := Tryz.zeroValue268 }
end Go.Proofs
namespace Go.Ix
open Go Go.Sl Go.Gv
theorem idx_str (q : Nat → Bool) : ∀ (rest pre : List Chk) (f : Nat), (∀ p ∈ rest, Chunk p) → rest.length ≤ f → (0 ≤ Lib.idxFuncFrom q true (strC' (pre ++ rest)) f (flat pre).length ↔ ∃ p ∈ rest, q p.1 = true)
 | [], pre, f, _, _ => by
   rw [List.append_nil, Lib.idxFuncFrom_end _ _ _ _ _ (by rw [str_size]; omega)]
   simp
 | p :: rest, pre, 0, _, hf => by simp at hf
 | p :: rest, pre, f + 1, h, hf => by
   have hp := h p (by simp)
   unfold Lib.idxFuncFrom
   rw [if_pos (flat_lt pre rest hp), decode_str pre rest hp]
   dsimp only
   by_cases hq : q p.1 = true
   · rw [if_pos hq]
     exact ⟨fun _ => ⟨p, by simp, hq⟩, fun _ => Int.natCast_nonneg _⟩
   · rw [if_neg hq]
     have ih := idx_str q rest (pre ++ [p]) f (fun z hz => h z (by simp [hz])) (by simpa using hf)
     rw [show pre ++ [p] ++ rest = pre ++ p :: rest by simp, show (flat (pre ++ [p])).length = (flat pre).length + p.2.length by rw [flat_app, List.length_append]; simp [flat]] at ih
     rw [ih]
     constructor
     · rintro ⟨z, hz, e⟩; exact ⟨z, by simp [hz], e⟩
     · rintro ⟨z, hz, e⟩
       rcases List.mem_cons.1 hz with rfl | hz
       · exact absurd e hq
       · exact ⟨z, hz, e⟩
end Go.Ix
namespace Go.Proofs.YtklgiidfompdpaaGreatDoor
open Go Go.Sl Go.Gv Go.Kv Go.Po Go.Ix Go.Qu Go.Shelf
set_option maxRecDepth 100000
def oneB (s : ByteArray) : Bool := decide (s ≠ ⟨#[]⟩) && validS s && !decide (0 ≤ Lib.idxFunc notW true s)
def oddB (s : ByteArray) : Bool := decide (40 < s.size) || !oneB s || decide (normB s ≠ s)
theorem one_str {ps : List Chk} (h : ∀ p ∈ ps, Chunk p) : oneB (strC' ps) = (decide (ps ≠ []) && ps.all fun p => letB (p.1 : Int)) := by
 have hi := idx_str notW ps [] (strC' ps).size h (by rw [str_size]; exact flat_len h)
 rw [List.nil_append] at hi
 have hv := valid_strC h
 unfold oneB
 rw [hv, Bool.and_true]
 have hne : decide (strC' ps ≠ ⟨#[]⟩) = decide (ps ≠ []) := by
   refine decide_eq_decide.2 (not_congr ⟨fun e => ?_, fun e => by rw [e]; rfl⟩)
   have h1 : (strC' ps).size = 0 := by rw [e]; rfl
   have h2 := flat_len h
   rw [← str_size, h1] at h2
   exact List.length_eq_zero_iff.1 (by omega)
 rw [hne]
 congr 1
 cases ha : ps.all fun p => letB (p.1 : Int) with
 | true =>
   rw [Bool.not_eq_true', decide_eq_false_iff_not]
   intro h0
   obtain ⟨p, hp, hq⟩ := hi.1 h0
   have := List.all_eq_true.1 ha p hp
   unfold notW at hq
   rw [this] at hq; cases hq
 | false =>
   rw [Bool.not_eq_false', decide_eq_true_iff]
   obtain ⟨p, hp, hq⟩ := List.all_eq_false.1 ha
   exact hi.2 ⟨p, hp, by unfold notW; simpa using hq⟩
theorem containsO_spec {h0 : Hp} (T : TabX h0) (s : ByteArray) : Ct Tryz.prog 207 [.string s, .func (.func 94) #[] #[]] [ro h0] (fun v hs => v = .bool (decide (0 ≤ Lib.idxFunc notW true s)) ∧ hs = [ro h0]) :=
 Ct.ofBelow Tryz.func207 rfl (by kernel_rfl) (V := fun _ => .bool (decide (0 ≤ Lib.idxFunc notW true s))) (fun w0 w R st => Any.strings_ContainsFunc_grows Tryz.laysCF 94 #[] (enters_of Tryz.func94 (by kernel_rfl) rfl) notW s w (other_pays T (Sat.ro st))) (fun _ => ⟨rfl, rfl⟩)
theorem oneT_spec {h0 : Hp} (T : TabX h0) (s : ByteArray) (hs : s.size ≤ 100000) : Ct Tryz.prog 164 [.string s] [ro h0] (fun v hs => v = .bool (oneB s) ∧ hs = [ro h0]) := by
 refine Cti Tryz.func164 (by kernel_rfl) 14 Tryz.ntmps164 rfl rfl fun w0 R => ?_
 refine Gsr (Las rfl rfl (Lnt (Gsr (Lmv rfl rfl (Lq rfl (pu_neS rfl rfl) (LpuB rfl rfl trivial (pu_move rfl) (fun hg2 => ?_) (fun hg2 => ?_)))))))
 ·
  refine Lpu rfl rfl ⟨_, rfl, rfl⟩ (pu_move rfl) (Lac rfl rfl ⟨_, rfl, rfl⟩ (asC (valid_spec T.1 s (by omega))) ?_)
  rintro _ _ ⟨_, ⟨rfl, rfl⟩, rfl⟩
  refine Lpk rfl rfl rfl (LpuB rfl rfl trivial (pu_move rfl) (fun hg6 => ?_) (fun hg6 => ?_))
  ·
   refine Lpu rfl rfl ⟨_, rfl, rfl⟩ (pu_move rfl) (Lac rfl rfl ⟨_, rfl, rfl⟩ (asC (containsO_spec T s)) ?_)
   rintro _ _ ⟨_, ⟨rfl, rfl⟩, rfl⟩
   refine Lpu rfl rfl ⟨_, rfl, rfl⟩ (pu_not rfl) (Lpk rfl rfl rfl (Las rfl rfl (Lnt (Gs.ret ?_))))
   exact Gs.fin1 Tryz.results164 rfl _ (⟨by
     first
       | rw [show oneB s = !decide (0 ≤ Lib.idxFunc notW true s) by unfold oneB; rw [show decide (s ≠ ⟨#[]⟩) = true from hg2, hg6]; rfl]
       | rw [show oneB s = false by unfold oneB; rw [show decide (s ≠ ⟨#[]⟩) = true from hg2, hg6]; rfl]
       | rw [show oneB s = false by unfold oneB; rw [show decide (s ≠ ⟨#[]⟩) = false from hg2]; rfl], rfl⟩) (by repeat constructor)
  refine Lof rfl (Lof rfl (Lof rfl (Lpk rfl rfl rfl (Las rfl rfl (Lnt (Gs.ret ?_))))))
  exact Gs.fin1 Tryz.results164 rfl _ (⟨by
    first
      | rw [show oneB s = !decide (0 ≤ Lib.idxFunc notW true s) by unfold oneB; rw [show decide (s ≠ ⟨#[]⟩) = true from hg2, hg6]; rfl]
      | rw [show oneB s = false by unfold oneB; rw [show decide (s ≠ ⟨#[]⟩) = true from hg2, hg6]; rfl]
      | rw [show oneB s = false by unfold oneB; rw [show decide (s ≠ ⟨#[]⟩) = false from hg2]; rfl], rfl⟩) (by repeat constructor)
 refine Lof rfl (Lof rfl (Lpk rfl rfl rfl (Lmv rfl rfl (Lof rfl (Lof rfl (Lof rfl (Lpk rfl rfl rfl (Las rfl rfl (Lnt (Gs.ret ?_))))))))))
 exact Gs.fin1 Tryz.results164 rfl _ (⟨by
   first
     | rw [show oneB s = !decide (0 ≤ Lib.idxFunc notW true s) by unfold oneB; rw [show decide (s ≠ ⟨#[]⟩) = true from hg2, hg6]; rfl]
     | rw [show oneB s = false by unfold oneB; rw [show decide (s ≠ ⟨#[]⟩) = true from hg2, hg6]; rfl]
     | rw [show oneB s = false by unfold oneB; rw [show decide (s ≠ ⟨#[]⟩) = false from hg2]; rfl], rfl⟩) (by repeat constructor)
theorem oddT_spec {h0 : Hp} (T : TabX h0) (s : ByteArray) (hs : s.size ≤ maxLen) : Ct Tryz.prog 118 [.string s] [ro h0] (fun v hs => v = .bool (oddB s) ∧ hs = [ro h0]) := by
 refine Cti Tryz.func118 (by kernel_rfl) 17 Tryz.ntmps118 rfl rfl fun w0 R => ?_
 refine Gsr (Las rfl rfl (Lnt (Gsr (Lmv rfl rfl (Lq rfl (pu_lenS Tryz.underlying9 rfl) (Lq rfl (pu_gt rfl rfl) (LpuB rfl rfl trivial (pu_move rfl) (fun hg3 => ?_) (fun hg3 => ?_))))))))
 ·
  refine Lof rfl (Lof rfl (Lof rfl (Lpk rfl rfl rfl (Lmv rfl rfl (Lof rfl (Lof rfl (Lof rfl (Lof rfl (Lpk rfl rfl rfl (Las rfl rfl (Lnt ?_)))))))))))
  refine Gs.ret ?_
  exact Gs.fin1 Tryz.results118 rfl _ (⟨by
    first
      | rw [show oddB s = decide (normB s ≠ s) by unfold oddB; rw [show decide (40 < s.size) = false from decide_eq_false (by have := of_decide_eq_false hg3; omega), hg8]; rfl]
      | rw [show oddB s = true by unfold oddB; rw [hg8, Bool.or_true, Bool.true_or]]
      | rw [show oddB s = true by unfold oddB; rw [show decide (40 < s.size) = true from decide_eq_true (by have := of_decide_eq_true hg3; omega)]; rfl], rfl⟩) (by repeat constructor)
 refine Lpu rfl rfl ⟨_, rfl, rfl⟩ (pu_move rfl) (Lac rfl rfl ⟨_, rfl, rfl⟩ (asC (oneT_spec T s (by have := of_decide_eq_false hg3; omega))) ?_)
 rintro _ _ ⟨_, ⟨rfl, rfl⟩, rfl⟩
 refine Lpu rfl rfl ⟨_, rfl, rfl⟩ (pu_not rfl) (Lpk rfl rfl rfl (LpuB rfl rfl trivial (pu_move rfl) (fun hg8 => ?_) (fun hg8 => ?_)))
 ·
  refine Lof rfl (Lof rfl (Lof rfl (Lof rfl (Lpk rfl rfl rfl (Las rfl rfl (Lnt (Gs.ret ?_)))))))
  exact Gs.fin1 Tryz.results118 rfl _ (⟨by
    first
      | rw [show oddB s = decide (normB s ≠ s) by unfold oddB; rw [show decide (40 < s.size) = false from decide_eq_false (by have := of_decide_eq_false hg3; omega), hg8]; rfl]
      | rw [show oddB s = true by unfold oddB; rw [hg8, Bool.or_true, Bool.true_or]]
      | rw [show oddB s = true by unfold oddB; rw [show decide (40 < s.size) = true from decide_eq_true (by have := of_decide_eq_true hg3; omega)]; rfl], rfl⟩) (by repeat constructor)
 refine Lpu rfl rfl ⟨_, rfl, rfl⟩ (pu_move rfl) (Lac rfl rfl ⟨_, rfl, rfl⟩ (asC (norm_spec T s (by have := of_decide_eq_false hg3; omega))) ?_)
 rintro _ _ ⟨_, ⟨rfl, rfl⟩, rfl⟩
 refine Lpu rfl rfl ⟨_, rfl, rfl⟩ (pu_move rfl) (Lpu rfl rfl ⟨_, rfl, rfl⟩ (pu_neS rfl rfl) (Lpk rfl rfl rfl (Las rfl rfl (Lnt (Gs.ret ?_)))))
 exact Gs.fin1 Tryz.results118 rfl _ (⟨by
   first
     | rw [show oddB s = decide (normB s ≠ s) by unfold oddB; rw [show decide (40 < s.size) = false from decide_eq_false (by have := of_decide_eq_false hg3; omega), hg8]; rfl]
     | rw [show oddB s = true by unfold oddB; rw [hg8, Bool.or_true, Bool.true_or]]
     | rw [show oddB s = true by unfold oddB; rw [show decide (40 < s.size) = true from decide_eq_true (by have := of_decide_eq_true hg3; omega)]; rfl], rfl⟩) (by repeat constructor)
theorem runes1_bad {h0 : Hp} (T : TabX h0) {s : ByteArray} (hs : s.size ≤ 100000) (hv : validS s = false) : Ct Tryz.prog 60 [.string s] [ro h0] (fun v hs => v = .slice none 0 0 ∧ hs = [ro h0]) := by
 refine Cti Tryz.func60 (by kernel_rfl) 8 Tryz.ntmps60 rfl rfl fun w0 R => ?_
 refine Gsr (Las rfl rfl (Lnt (Gs.seq (Gsr (Lmv rfl rfl (La rfl (asC (valid_spec T.1 s (by omega))) ?_))))))
 rintro _ _ ⟨_, ⟨rfl, rfl⟩, rfl⟩
 rw [hv]
 refine Lq rfl (pu_not rfl) (Lnt (Gs.cond_tt rfl rfl (Gsr (Las rfl rfl (Lnt (Gs.ret (Gr ?_)))))))
 exact Gs.fin1 Tryz.results60 rfl _ (⟨rfl, rfl⟩) (by repeat constructor)
theorem one_bad {s : ByteArray} (h : validS s = false) : oneB s = false := by unfold oneB; rw [h, Bool.and_false, Bool.false_and]
theorem one1_spec {h0 : Hp} (T : TabX h0) (s : ByteArray) (hs : s.size ≤ 1000) : Ct Tryz.prog 196 [.string s] [ro h0] (fun v hs => v = .bool (oneB s) ∧ hs = [ro h0]) := by
 cases hv : validS s with
 | false =>
   have hb := one_bad hv
   rw [hb]
   refine Cti Tryz.func196 (by kernel_rfl) 22 Tryz.ntmps196 rfl rfl fun w0 R => ?_
   refine Gsr (Las rfl rfl (Lnt (Gsr (Lmv rfl rfl (La rfl (asC (runes1_bad T (by omega) hv)) ?_)))))
   rintro _ _ ⟨_, ⟨rfl, rfl⟩, rfl⟩
   refine Las rfl rfl (Lnt (Gs.seq (Gsr (Las rfl rfl (Lnt (Gs.block (Gs.loop1 (fun _ : Nat => True) (fun _ => [(3, .slice none 0 0), (4, int 0)]) (fun _ => [ro h0] ++ R) (fun i => i) 0 (trivial) (by repeat constructor) (by repeat constructor) (fun i _ => ?_))))))))
   refine Gs.seq (Gsr (Lmv rfl rfl (Lmv rfl rfl (Lq rfl (pu_len Tryz.underlying112 rfl) (Lq rfl (pu_lt rfl rfl) (Lnt (Gs.cond_ff rfl (decide_eq_false (by omega)) (Gs.exit (Gx (Gx (Gs.blk_hit ?_)))))))))))
   refine Gn (Gsr (Lmv rfl rfl (Lq rfl (pu_len Tryz.underlying112 rfl) (Lq rfl (pu_gt rfl rfl) (Las rfl rfl (Lnt (Gs.ret ?_)))))))
   exact Gs.fin1 Tryz.results196 rfl _ (⟨rfl, rfl⟩) (by repeat constructor)
 | true =>
   obtain ⟨ps, hps, rfl⟩ := chunks_str hv
   have hpl : ps.length ≤ 1000 := by have := flat_len hps; rw [str_size] at hs; omega
   have hb := one_str hps
   obtain ⟨v0, hv0⟩ : ∃ z, z = oneB (strC' ps) := ⟨_, rfl⟩
   rw [← hv0] at hb ⊢
   refine Cti Tryz.func196 (by kernel_rfl) 22 Tryz.ntmps196 rfl rfl fun w0 R => ?_
   refine Gsr (Las rfl rfl (Lnt (Gsr (Lmv rfl rfl (La rfl (asC (runes1_spec T hps hpl (by omega))) ?_)))))
   rintro _ _ ⟨_, ⟨b, k, rfl, rfl⟩, rfl⟩
   refine Las rfl rfl (Lnt (Gs.seq (Gsr (Las rfl rfl (Lnt (Gs.block (Gs.loop1 (fun i : Nat => i ≤ ps.length ∧ ((ps.take i).all fun p => letB (p.1 : Int)) = true) (fun i => [(3, .slice (some ⟨b, 0, none⟩) ps.length k), (4, int i)]) (fun i => [ro h0, sl 21 1 runeC (some ⟨b, 0, none⟩) k (ints ps)] ++ R) (fun i => ps.length - i) 0 (⟨Nat.zero_le _, rfl⟩) (by repeat constructor) (by repeat constructor) (fun i ⟨hi, ht⟩ => ?_))))))))
   refine Gs.seq (Gsr (Lmv rfl rfl (Lmv rfl rfl (Lq rfl (pu_len Tryz.underlying112 rfl) (Lq rfl (pu_lt rfl rfl) (Lnt (Gs.cond rfl (fun hc0 => ?_) (fun hc0 => ?_))))))))
   ·
    have hlt : i < ps.length := by have := of_decide_eq_true hc0; omega
    obtain ⟨p, hp⟩ : ∃ z, ps[i]? = some z := ⟨ps[i], by simp [hlt]⟩
    have hpi : (ints ps)[i]? = some (p.1 : Int) := by rw [List.getElem?_map, hp]; rfl
    have hil : (ints ps).length = ps.length := by simp
    have hr := chunk_rune (hps p (List.mem_of_getElem? hp))
    refine Gs.skip (Gn (Gs.seq (Gs.block (Gsr (Lmv rfl rfl (Lmv rfl rfl (Lq rfl (pu_ia se_112 rfl rfl (by omega) (by omega)) (Lr rfl (rd_ld na_21 rfl (Rdc.el0 (SlH.own (xs := ints ps) (E := 21) (enc := runeC) (sz := 1) (by repeat constructor)) hpi rfl rfl)) ?_))))))))
    refine La rfl (asC (letter1_spec T (p.1 : Int) (by omega) (by omega))) ?_
    rintro _ _ ⟨_, ⟨rfl, rfl⟩, rfl⟩
    refine Lq rfl (pu_not rfl) (Lnt (Gs.cond rfl (fun hc1 => ?_) (fun hc1 => ?_)))
    ·
     have hno : letB (p.1 : Int) = false := by simpa using hc1
     refine Gsr (Las rfl rfl (Lnt (Gs.ret (Gs.blk_r (Gr (Gr (Gs.blk_r (Gr ?_))))))))
     exact Gs.fin1 Tryz.results196 rfl _ (⟨by
     have hall : (ps.all fun p => letB (p.1 : Int)) = false := List.all_eq_false.2 ⟨p, List.mem_of_getElem? hp, by simp [hno]⟩
     rw [hb, hall, Bool.and_false], rfl⟩) (by repeat constructor)
    have hyes : letB (p.1 : Int) = true := by simpa using hc1
    refine Gs.skip (Gs.blk_n (Gn (Gs.reg (Lmv rfl rfl (Lq rfl (by first | exact pu_addI rfl rfl rfl (by omega) (by omega) | exact pu_add rfl rfl) ?_)))))
    refine Las rfl rfl (Lnt ?_)
    exact Ag (i + 1) ⟨by omega, by rw [List.take_add_one, hp, List.all_append, ht]; simp [hyes]⟩ (by omega)
   have hge : i = ps.length := by have := of_decide_eq_false hc0; omega
   rw [hge, List.take_length] at ht
   refine Gs.exit (Gx (Gx (Gs.blk_hit (Gn (Gsr (Lmv rfl rfl (Lq rfl (pu_len Tryz.underlying112 rfl) (Lq rfl (pu_gt rfl rfl) (Las rfl rfl (Lnt (Gs.ret ?_)))))))))))
   exact Gs.fin1 Tryz.results196 rfl _ (⟨by
   rw [hb, ht, Bool.and_true]
   cases ps with
   | nil => rfl
   | cons p ps =>
     have h1 : (0 : Int) < ((p :: ps).length : Nat) := by rw [List.length_cons]; omega
     have h2 : decide (p :: ps ≠ []) = true := decide_eq_true (List.cons_ne_nil p ps)
     first
       | rw [decide_eq_true h1, h2]
       | (rw [h2]; exact congrArg Value.bool (decide_eq_true h1)), rfl⟩) (by repeat constructor)
theorem norm1_any {h0 : Hp} (T : TabX h0) (s : ByteArray) (hs : s.size ≤ 1000) : Ct Tryz.prog 62 [.string s] [ro h0] (fun v hs => v = .string (normB s) ∧ hs = [ro h0]) := by
 cases hv : validS s with
 | true =>
   obtain ⟨ps, hps, rfl⟩ := chunks_str hv
   have hpl : ps.length ≤ 1000 := by have := flat_len hps; rw [str_size] at hs; omega
   rw [norm_str hps]
   exact norm1_spec T hps hpl (by omega)
 | false =>
   have hn : normB s = ⟨#[]⟩ := by unfold normB; rw [hv]; rfl
   rw [hn]
   refine Cti Tryz.func62 (by kernel_rfl) 23 Tryz.ntmps62 rfl rfl fun w0 R => ?_
   refine Gsr (Las rfl rfl (Lnt (Gsr (Lmv rfl rfl (La rfl (asC (runes1_bad T (by omega) hv)) ?_)))))
   rintro _ _ ⟨_, ⟨rfl, rfl⟩, rfl⟩
   refine Las rfl rfl (Lnil (Gs.slNil 21 1 runeC (Gn (Gs.seq (Gsr (Las rfl rfl (Lnt (Gs.block (Gs.loop1 (fun _ : Nat => True) (fun _ => [(3, .slice none 0 0), (4, int 0)]) (fun _ => [ro h0, sl 21 1 runeC none 0 []] ++ R) (fun i => i) 0 (trivial) (by repeat constructor) (by repeat constructor) (fun i _ => ?_))))))))))
   refine Gs.seq (Gsr (Lmv rfl rfl (Lmv rfl rfl (Lq rfl (pu_len Tryz.underlying112 rfl) (Lq rfl (pu_lt rfl rfl) (Lnt (Gs.cond_ff rfl (decide_eq_false (by omega)) (Gs.exit (Gx (Gx (Gs.blk_hit ?_)))))))))))
   refine Gn (Gsr (Lmv rfl rfl (Lr rfl (rd_r2s (rs := []) Tryz.underlying112 Tryz.underlying21 Tryz.underlying9 rfl rfl (SlH.own (E := 21) (c := 0) (by repeat constructor))) ?_)))
   refine Las rfl rfl (Lnil ?_)
   rw [show runesBytes ([] : List Int) = ⟨#[]⟩ from rfl]
   refine Gn (Gs.ret ?_)
   exact Gs.fin1 Tryz.results62 rfl _ (⟨rfl, rfl⟩) (by repeat constructor)
theorem odd_of1 {s : ByteArray} (h : (s.size : Int) ≤ 40) (h1 : oneB s = true) : (!oddB s) = decide (normB s = s) := by
 unfold oddB
 rw [decide_eq_false (by omega : ¬ 40 < s.size), h1]
 by_cases e : normB s = s
 · rw [decide_eq_true e, decide_eq_false (fun h => h e)]; rfl
 · rw [decide_eq_false e, decide_eq_true e]; rfl
theorem odd_of2 {s : ByteArray} (h1 : oneB s = false) : oddB s = true := by unfold oddB; rw [h1, Bool.not_false, Bool.or_true, Bool.true_or]
theorem odd_of3 {s : ByteArray} (h : ¬ (s.size : Int) ≤ 40) : oddB s = true := by
 unfold oddB; rw [decide_eq_true (by omega : 40 < s.size), Bool.true_or, Bool.true_or]
theorem word14_spec {h0 : Hp} (T : TabX h0) (s : ByteArray) : Ct Tryz.prog 150 [.string s] [ro h0] (fun v hs => v = .bool (!oddB s) ∧ hs = [ro h0]) := by
 refine Cti Tryz.func150 (by kernel_rfl) 16 Tryz.ntmps150 rfl rfl fun w0 R => ?_
 refine Gsr (Las rfl rfl (Lnt (Gsr (Lmv rfl rfl (Lq rfl (pu_lenS Tryz.underlying9 rfl) (Lq rfl (pu_le rfl rfl) (LpuB rfl rfl trivial (pu_move rfl) (fun hg3 => ?_) (fun hg3 => ?_))))))))
 ·
  refine Lpu rfl rfl ⟨_, rfl, rfl⟩ (pu_move rfl) (Lac rfl rfl ⟨_, rfl, rfl⟩ (asC (one1_spec T s (by have := of_decide_eq_true hg3; omega))) ?_)
  rintro _ _ ⟨_, ⟨rfl, rfl⟩, rfl⟩
  refine Lpk rfl rfl rfl (LpuB rfl rfl trivial (pu_move rfl) (fun hg7 => ?_) (fun hg7 => ?_))
  ·
   refine Lpu rfl rfl ⟨_, rfl, rfl⟩ (pu_move rfl) (Lac rfl rfl ⟨_, rfl, rfl⟩ (asC (norm1_any T s (by have := of_decide_eq_true hg3; omega))) ?_)
   rintro _ _ ⟨_, ⟨rfl, rfl⟩, rfl⟩
   refine Lpu rfl rfl ⟨_, rfl, rfl⟩ (pu_move rfl) (Lpu rfl rfl ⟨_, rfl, rfl⟩ (pu_eqS rfl rfl) (Lpk rfl rfl rfl (Las rfl rfl (Lnt (Gs.ret ?_)))))
   exact Gs.fin1 Tryz.results150 rfl _ (⟨by
     first
       | rw [odd_of1 (of_decide_eq_true hg3) hg7]
       | rw [odd_of2 hg7]; rfl
       | rw [odd_of3 (of_decide_eq_false hg3)]; rfl, rfl⟩) (by repeat constructor)
  refine Lof rfl (Lof rfl (Lof rfl (Lof rfl (Lpk rfl rfl rfl (Las rfl rfl (Lnt (Gs.ret ?_)))))))
  exact Gs.fin1 Tryz.results150 rfl _ (⟨by
    first
      | rw [odd_of1 (of_decide_eq_true hg3) hg7]
      | rw [odd_of2 hg7]; rfl
      | rw [odd_of3 (of_decide_eq_false hg3)]; rfl, rfl⟩) (by repeat constructor)
 refine Lof rfl (Lof rfl (Lpk rfl rfl rfl (Lmv rfl rfl (Lof rfl (Lof rfl (Lof rfl (Lof rfl (Lpk rfl rfl rfl (Las rfl rfl (Lnt (Gs.ret ?_)))))))))))
 exact Gs.fin1 Tryz.results150 rfl _ (⟨by
   first
     | rw [odd_of1 (of_decide_eq_true hg3) hg7]
     | rw [odd_of2 hg7]; rfl
     | rw [odd_of3 (of_decide_eq_false hg3)]; rfl, rfl⟩) (by repeat constructor)
end Go.Proofs.YtklgiidfompdpaaGreatDoor
namespace Go.Sl
open Go
def Inn (B U : HProp) : Prop := ∃ A, ∀ w0 w R, Sat w0 w (U :: R) ↔ Sat w0 w (B :: A :: R)
theorem Inn.refl {B : HProp} : Inn B B := ⟨big [], fun _ _ _ => ⟨fun s => (s.bigNil).take (.tl .hd), fun s => (s.take (.tl .hd)).drop⟩⟩
theorem Inn.two1 {A B : HProp} : Inn A (two A B) := ⟨B, fun _ _ _ => Sat.two⟩
theorem Inn.trans {A B C : HProp} (h : Inn A B) (k : Inn B C) : Inn A C := by
 obtain ⟨X, hx⟩ := h
 obtain ⟨Y, hy⟩ := k
 refine ⟨two X Y, fun w0 w R => ?_⟩
 rw [hy, hx]
 constructor
 · intro s
   exact (Sat.two.2 (s.takes (As := [X, Y, A]) (by repeat constructor))).take (.tl .hd)
 · intro s
   exact (Sat.two.1 (s.take (.tl .hd))).takes (As := [A, X, Y]) (by repeat constructor)
theorem Ct.inn {P : Program} {f : FuncId} {args : List Value} {B U : HProp} {post : Value → List HProp → Prop} (c : Ct P f args [B] post) (i : Inn B U) (h : ∀ v hs, post v hs → ∃ r, hs = B :: r) : Ct P f args [U] (fun v hs => ∃ r, post v (B :: r) ∧ hs = U :: r) := by
 obtain ⟨A, hA⟩ := i
 refine ⟨c.enters, fun w0 w R s => (c.calls w0 w (A :: R) ((hA _ _ _).1 s)).mono fun _ _ ⟨v, hs, he, hp, hsat⟩ => ?_⟩
 obtain ⟨r, rfl⟩ := h v hs hp
 refine ⟨v, U :: r, he, ⟨r, hp, rfl⟩, (hA _ _ _).2 ?_⟩
 have h1 : Sat w0 _ ((B :: r) ++ A :: R) := hsat
 have h2 := h1.take (take_mid (L1 := B :: r) (L2 := R))
 exact h2.take (.tl .hd)
theorem Ct.inn0 {P : Program} {f : FuncId} {args : List Value} {B U : HProp} {x : Value} (c : Ct P f args [B] (fun v hs => v = x ∧ hs = [B])) (i : Inn B U) : Ct P f args [U] (fun v hs => v = x ∧ hs = [U]) :=
 (c.inn i fun _ _ h => ⟨[], h.2⟩).mono fun v hs ⟨r, ⟨h1, h2⟩, h3⟩ => ⟨h1, by cases h2; exact h3⟩
end Go.Sl
