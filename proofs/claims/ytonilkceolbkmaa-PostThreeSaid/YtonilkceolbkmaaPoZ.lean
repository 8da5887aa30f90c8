/- Walks: PostChanges (grapevinelaw10). -/
import Derived.Test.YtonilkceolbkmaaPoY
namespace Go.Proofs.Ytonilkceolbkmaa
open Go Go.Sl Go.Gv Go.Po
set_option maxRecDepth 100000
/-- A list of posts of whatever length. -/
def PR0 (S : HProp) (a : Option Addr) (x : List PostV) : Prop := Srd S 3 postC a x ∧ x.length ≤ maxLen ∧ ∀ p ∈ x, Srd S 1 intC p.t.a p.t.xs ∧ p.t.xs.length ≤ maxLen
theorem PR0.big {S : HProp} {a : Option Addr} {x : List PostV} (h : PR0 S a x) {L : List HProp} (hm : S ∈ L) : PR0 (big L) a x :=
  ⟨Srd.bigs h.1 hm, h.2.1, fun p hp => ⟨Srd.bigs (h.2.2 p hp).1 hm, (h.2.2 p hp).2⟩⟩
theorem PR0.prd {S : HProp} {a : Option Addr} {x : List PostV} (h : PR0 S a x) (hx : ∀ p ∈ x, p.t.xs.length ≤ 30) : PRd S a x :=
  ⟨h.1, fun p hp => ⟨(h.2.2 p hp).1, Nat.le_trans (hx p hp) (by decide)⟩⟩
theorem great_xp {S : HProp} {a : Option Addr} {c w v : Nat} {x : List PostV} {p : PostV} (hx : PR0 S a x) (hp : Srd S 1 intC p.t.a p.t.xs) (hpl : p.t.xs.length ≤ maxLen) :
    Ct Try.prog 8 [.slice (blk w) 2 2, int 2] [sl 30 1 slC (blk w) 2 [⟨a, x, c⟩, ⟨blk v, [p], 1⟩], sl 37 3 postC (blk v) 1 [p], S]
      (fun u hs => (∃ g : Bool, u = .bool g ∧ (g = false → x.length ≤ 40 ∧ (∀ q ∈ x, q.t.xs.length ≤ 30) ∧ p.t.xs.length ≤ 30)) ∧ hs = [S]) := by
  have h0 : LR0 (big [sl 30 1 slC (blk w) 2 [⟨a, x, c⟩, ⟨blk v, [p], 1⟩], sl 37 3 postC (blk v) 1 [p], S]) (blk w) [⟨a, x, c⟩, ⟨blk v, [p], 1⟩] := by
    refine ⟨Srd.bigs (A := sl 30 1 slC (blk w) 2 [⟨a, x, c⟩, ⟨blk v, [p], 1⟩]) Srd.own (by simp), Nat.le_of_ble_eq_true rfl, fun l hl => ?_⟩
    simp only [List.mem_cons, List.not_mem_nil, or_false] at hl
    rcases hl with rfl | rfl
    · exact hx.big (by simp)
    · refine ⟨Srd.bigs (A := sl 37 3 postC (blk v) 1 [p]) Srd.own (by simp), Nat.le_of_ble_eq_true rfl, fun q hq => ?_⟩
      simp only [List.mem_cons, List.not_mem_nil, or_false] at hq; subst hq
      exact ⟨Srd.bigs hp (by simp), hpl⟩
  refine (Ct.bigs (greatPosts_spec (c := 2) (most := 2) h0 (by decide)) (by rintro _ _ ⟨_, rfl⟩; exact ⟨_, rfl⟩)).less ?_
  rintro _ _ ⟨_, ⟨⟨g, rfl, hg⟩, ⟨⟩⟩, rfl⟩
  refine ⟨[S], ⟨⟨g, rfl, fun h => ?_⟩, rfl⟩, by repeat constructor⟩
  have hs := (hg h).2
  refine ⟨(hs ⟨a, x, c⟩ (by simp)).1, (hs ⟨a, x, c⟩ (by simp)).2, (hs ⟨blk v, [p], 1⟩ (by simp)).2 p (by simp)⟩
theorem plain_le {qs ys : List PostV} {n : Nat} (h : plain1 qs = plain1 ys) (hy : ∀ y ∈ ys, y.t.xs.length ≤ n) : ∀ q ∈ qs, q.t.xs.length ≤ n := fun q hq => by
  have : q.p ∈ plain1 ys := h ▸ List.mem_map.2 ⟨q, hq, rfl⟩
  obtain ⟨y, hm, he⟩ := List.mem_map.1 this
  have e : y.t.xs = q.t.xs := congrArg Prod.snd he
  rw [← e]; exact hy y hm
theorem same_posts {S : HProp} {a b : Option Addr} {c d : Nat} {qs ys : List PostV} (h : plain1 qs = plain1 ys) (hy : ∀ y ∈ ys, Srd S 1 intC y.t.a y.t.xs ∧ y.t.xs.length ≤ 1000) (hl : ys.length ≤ 1000) :
    Ct Try.prog 23 [.slice a qs.length c, .slice b ys.length d] [plO a c qs, sl 37 3 postC b d ys, S] (fun u hs => u = .bool true ∧ hs = [plO a c qs, S]) := by
  have hql : qs.length = ys.length := by have := congrArg List.length h; simpa using this
  have p1 := prd_plO (a := a) (c := c) (plain_le h fun y hm => (hy y hm).2)
  refine (Ct.bigs (samePosts_spec (S := big [plO a c qs, sl 37 3 postC b d ys, S]) (c := c) (d := d) ⟨Srd.bigs p1.1 (by simp), fun p hp => ⟨Srd.bigs (p1.2 p hp).1 (by simp), (p1.2 p hp).2⟩⟩
    ⟨Srd.bigs (A := sl 37 3 postC b d ys) Srd.own (by simp), fun p hp => ⟨Srd.bigs (hy p hp).1 (by simp), (hy p hp).2⟩⟩ (by omega)) (by rintro _ _ ⟨_, rfl⟩; exact ⟨_, rfl⟩)).less ?_
  rintro _ _ ⟨_, ⟨rfl, ⟨⟩⟩, rfl⟩
  exact ⟨_, ⟨by rw [decide_eq_true h], rfl⟩, by repeat constructor⟩
theorem plain_length {qs ys : List PostV} (h : plain1 qs = plain1 ys) : qs.length = ys.length := by have := congrArg List.length h; simpa using this
theorem postChanges_spec {S : HProp} {a b e : Option Addr} {c d f : Nat} {x : List PostV} {p : PostV} {k : Key} {all some_ : List Key} (hx : PR0 S a x) (hp : Srd S 1 intC p.t.a p.t.xs) (hpl : p.t.xs.length ≤ maxLen)
    (hall : Srd S 2 keyC b all) (hal : all.length ≤ maxLen) (hsome : Srd S 2 keyC e some_) (hsl : some_.length ≤ maxLen) :
    Ct Try.prog 4 [.slice a x.length c, postV p, keyV k, .slice b all.length d, .slice e some_.length f] [S] (fun v hs => v = .bool true ∧ hs = [S]) := by
  have hmx : maxLen = 9223372036854775807 := by decide
  refine Ct.intro Try.func4 rfl (by kernel_rfl) 87 Try.ntmps4 (Nat.le_of_ble_eq_true rfl) fun w0 R => ?_
  refine Gs.seq ?_
  refine Gs.reg ?_
  refine Go.Sl.L.ac rfl rfl trivial (ac_box rfl rfl) ?_
  rintro _ _ ⟨b6, rfl, rfl⟩
  refine Go.Sl.L.ac rfl rfl trivial (ac_box rfl rfl) ?_
  rintro _ _ ⟨b7, rfl, rfl⟩
  refine Go.Sl.L.pu rfl rfl trivial (pu_assign rfl) ?_
  refine Go.Sl.L.nil ?_
  refine Gs.then_n ?_
  refine Gs.seq ?_
  refine Gs.seq ?_
  refine Gs.reg ?_
  refine Go.Sl.L.pu rfl rfl trivial (pu_move rfl) ?_
  refine Go.Sl.L.rd rfl rfl trivial (rd_lda ag_37 rfl (Rdc.cl 3 (by repeat constructor) rfl) rfl) ?_
  refine Go.Sl.L.ac rfl rfl trivial (ac_lit encC_37 ([p]) et_30 ek_37 rfl (by repeat constructor) rfl rfl (by decide)) ?_
  rintro _ _ ⟨a17, rfl, rfl⟩
  refine Go.Sl.L.ac rfl rfl trivial (ac_lit encC_30 ([(⟨a, x, c⟩ : SlV PostV), ⟨blk a17, [p], 1⟩]) et_22 ek_30 rfl (by repeat constructor) rfl rfl (by decide)) ?_
  rintro _ _ ⟨a18, rfl, rfl⟩
  refine Go.Sl.L.ac rfl rfl trivial (as_call (great_xp hx hp hpl) (by repeat constructor) (by repeat constructor)) ?_
  rintro _ _ ⟨_, ⟨⟨g, rfl, hg⟩, rfl⟩, rfl⟩
  refine Go.Sl.L.puB rfl rfl trivial (pu_move rfl) (fun hg5 => ?_) (fun hg5 => ?_)
  · skip
    refine Go.Sl.L.off rfl rfl rfl rfl rfl rfl ?_
    refine Go.Sl.L.off rfl rfl rfl rfl rfl rfl ?_
    refine Go.Sl.L.off rfl rfl rfl rfl rfl rfl ?_
    refine Go.Sl.L.pu rfl rfl trivial (by first | exact pu_pick_t rfl rfl | exact pu_pick_f rfl rfl) ?_
    refine Go.Sl.L.pu rfl rfl trivial (pu_move rfl) ?_
    refine Go.Sl.L.off rfl rfl rfl rfl rfl rfl ?_
    refine Go.Sl.L.off rfl rfl rfl rfl rfl rfl ?_
    refine Go.Sl.L.off rfl rfl rfl rfl rfl rfl ?_
    refine Go.Sl.L.pu rfl rfl trivial (by first | exact pu_pick_t rfl rfl | exact pu_pick_f rfl rfl) ?_
    refine Go.Sl.L.nil ?_
    refine Gs.then_n ?_
    refine Gs.cond_t rfl ?_
    refine Gs.seq ?_
    refine Gs.reg ?_
    refine Go.Sl.L.ac rfl rfl trivial (as_call (awake_spec) (by repeat constructor) (by repeat constructor)) ?_
    rintro _ _ ⟨_, ⟨rfl, rfl⟩, rfl⟩
    refine Go.Sl.L.pu rfl rfl trivial (pu_assign rfl) ?_
    refine Go.Sl.L.nil ?_
    refine Gs.then_n ?_
    refine Gs.ret ?_
    refine Gs.then_r ?_
    exact Gs.fin1 Try.results4 rfl _ (⟨rfl, rfl⟩) (by repeat constructor)
  · skip
    obtain ⟨x1, x2, x3⟩ := hg hg5
    refine Go.Sl.L.pu rfl rfl ⟨_, rfl, rfl⟩ (pu_move rfl) ?_
    refine Go.Sl.L.pu rfl rfl ⟨_, rfl, rfl⟩ (pu_len Try.underlying25 rfl) ?_
    refine Go.Sl.L.pu rfl rfl ⟨_, rfl, rfl⟩ (pu_gt rfl rfl) ?_
    refine Go.Sl.L.pu rfl rfl trivial (by first | exact pu_pick_t rfl rfl | exact pu_pick_f rfl rfl) ?_
    refine Go.Sl.L.puB rfl rfl trivial (pu_move rfl) (fun hg10 => ?_) (fun hg10 => ?_)
    · skip
      refine Go.Sl.L.off rfl rfl rfl rfl rfl rfl ?_
      refine Go.Sl.L.off rfl rfl rfl rfl rfl rfl ?_
      refine Go.Sl.L.off rfl rfl rfl rfl rfl rfl ?_
      refine Go.Sl.L.pu rfl rfl trivial (by first | exact pu_pick_t rfl rfl | exact pu_pick_f rfl rfl) ?_
      refine Go.Sl.L.nil ?_
      refine Gs.then_n ?_
      refine Gs.cond_t rfl ?_
      refine Gs.seq ?_
      refine Gs.reg ?_
      refine Go.Sl.L.ac rfl rfl trivial (as_call (awake_spec) (by repeat constructor) (by repeat constructor)) ?_
      rintro _ _ ⟨_, ⟨rfl, rfl⟩, rfl⟩
      refine Go.Sl.L.pu rfl rfl trivial (pu_assign rfl) ?_
      refine Go.Sl.L.nil ?_
      refine Gs.then_n ?_
      refine Gs.ret ?_
      refine Gs.then_r ?_
      exact Gs.fin1 Try.results4 rfl _ (⟨rfl, rfl⟩) (by repeat constructor)
    · skip
      have h40 : all.length ≤ 40 := by have := of_decide_eq_false hg10; omega
      refine Go.Sl.L.pu rfl rfl ⟨_, rfl, rfl⟩ (pu_move rfl) ?_
      refine Go.Sl.L.pu rfl rfl ⟨_, rfl, rfl⟩ (pu_len Try.underlying25 rfl) ?_
      refine Go.Sl.L.pu rfl rfl ⟨_, rfl, rfl⟩ (pu_gt rfl rfl) ?_
      refine Go.Sl.L.pu rfl rfl trivial (by first | exact pu_pick_t rfl rfl | exact pu_pick_f rfl rfl) ?_
      refine Go.Sl.L.nil ?_
      refine Gs.then_n ?_
      refine Gs.cond rfl (fun hc0 => ?_) (fun hc0 => ?_)
      · skip
        refine Gs.seq ?_
        refine Gs.reg ?_
        refine Go.Sl.L.ac rfl rfl trivial (as_call (awake_spec) (by repeat constructor) (by repeat constructor)) ?_
        rintro _ _ ⟨_, ⟨rfl, rfl⟩, rfl⟩
        refine Go.Sl.L.pu rfl rfl trivial (pu_assign rfl) ?_
        refine Go.Sl.L.nil ?_
        refine Gs.then_n ?_
        refine Gs.ret ?_
        refine Gs.then_r ?_
        exact Gs.fin1 Try.results4 rfl _ (⟨rfl, rfl⟩) (by repeat constructor)
      · skip
        have s40 : some_.length ≤ 40 := by have := of_decide_eq_false hc0; omega
        have hX := hx.prd x2
        have hPle := putV_le x p
        have hDle := dropV_le x k
        have hPm : ∀ y ∈ putV x p, Srd S 1 intC y.t.a y.t.xs ∧ y.t.xs.length ≤ 1000 := fun y hy => by
          rcases putV_mem hy with rfl | hm
          · exact ⟨hp, by omega⟩
          · exact hX.2 y hm
        have hDm : ∀ y ∈ dropV x k, Srd S 1 intC y.t.a y.t.xs ∧ y.t.xs.length ≤ 1000 := fun y hy => hX.2 y (dropV_mem hy)
        have hLl := less_le all some_
        refine Gs.skip ?_
        refine Gs.then_n ?_
        refine Gs.seq ?_
        refine Gs.regD mixed (by kernel_rfl) ?_
        refine Rg.pu 0 rfl rfl (by kernel_rfl) trivial (pu_move rfl) ?_
        refine Rg.rd 1 rfl rfl (by kernel_rfl) trivial (rd_lda ag_37 rfl (Rdc.cl 3 (by repeat constructor) rfl) rfl) ?_
        refine Rg.pu 3 rfl rfl (by kernel_rfl) trivial (pu_move rfl) ?_
        refine Rg.rd 4 rfl rfl (by kernel_rfl) trivial (rd_lda ag_34 rfl (Rdc.cl 2 (by repeat constructor) rfl) rfl) ?_
        refine Rg.pu 6 rfl rfl (by kernel_rfl) trivial (pu_move rfl) ?_
        refine Rg.pu 7 rfl rfl (by kernel_rfl) trivial (pu_move rfl) ?_
        refine Rg.one (by kernel_rfl) (Stp.acR 2 [4] rfl rfl (by kernel_rfl) trivial (as_call (pput_spec hX (by omega) hp (by omega)) (by repeat constructor) (by repeat constructor)) (by rintro _ _ ⟨_, ⟨a1, c1, q1, rfl, hq1, rfl⟩, rfl⟩; exact (Reads.cons rfl rfl rfl trivial rfl (rd_lda ag_34 rfl (Rdc.cl 2 (by repeat constructor) rfl) rfl) Reads.nil)) ?_)
        rintro _ _ ⟨_, ⟨a1, c1, q1, rfl, hq1, rfl⟩, rfl⟩
        rw [← putV_plain] at hq1
        have hl1 := plain_length hq1
        refine Rg.one (by kernel_rfl) (Stp.ac 5 rfl rfl (by kernel_rfl) trivial (as_call (pdrop_spec hX (by omega) k) (by repeat constructor) (by repeat constructor))  ?_)
        rintro _ _ ⟨_, ⟨a2, c2, q2, rfl, hq2, rfl⟩, rfl⟩
        rw [← dropV_plain] at hq2
        have hl2 := plain_length hq2
        refine Rg.one (by kernel_rfl) (Stp.ac 8 rfl rfl (by kernel_rfl) trivial (as_call (pless_spec hall hsome (by omega) (by omega)) (by repeat constructor) (by repeat constructor))  ?_)
        rintro _ _ ⟨_, ⟨a3, c3, rfl, rfl⟩, rfl⟩
        refine Rg.pu 9 rfl rfl (by kernel_rfl) trivial (pu_assign rfl) ?_
        refine Rg.pu 10 rfl rfl (by kernel_rfl) trivial (pu_assign rfl) ?_
        refine Rg.pu 11 rfl rfl (by kernel_rfl) trivial (pu_assign rfl) ?_
        refine Rg.end (by kernel_rfl) ?_
        refine Gs.then_n ?_
        refine Gs.seq ?_
        refine Gs.reg ?_
        refine Go.Sl.L.pu rfl rfl trivial (pu_move rfl) ?_
        refine Go.Sl.L.pu rfl rfl trivial (pu_move rfl) ?_
        refine Go.Sl.L.rd rfl rfl trivial (rd_lda ag_37 rfl (Rdc.cl 3 (by repeat constructor) rfl) rfl) ?_
        refine Go.Sl.L.ac rfl rfl trivial (as_call (put10_spec hX (by omega) hp (by omega)) (by repeat constructor) (by repeat constructor)) ?_
        rintro _ _ ⟨_, ⟨a4, c4, rfl, rfl⟩, rfl⟩
        refine Go.Sl.L.ac rfl rfl trivial (as_call (same_posts (a := a1) (b := a4) (c := c1) (d := c4) hq1 hPm (by omega)) (by repeat constructor) (by repeat constructor)) ?_
        rintro _ _ ⟨_, ⟨rfl, rfl⟩, rfl⟩
        refine Go.Sl.L.puBt rfl rfl trivial (pu_move rfl) rfl ?_
        refine Go.Sl.L.pu rfl rfl ⟨_, rfl, rfl⟩ (pu_move rfl) ?_
        refine Go.Sl.L.pu rfl rfl ⟨_, rfl, rfl⟩ (pu_move rfl) ?_
        refine Go.Sl.L.rd rfl rfl ⟨_, rfl, rfl⟩ (rd_lda ag_34 rfl (Rdc.cl 2 (by repeat constructor) rfl) rfl) ?_
        refine Go.Sl.L.ac rfl rfl ⟨_, rfl, rfl⟩ (as_call (drop10_spec hX (by omega) k) (by repeat constructor) (by repeat constructor)) ?_
        rintro _ _ ⟨_, ⟨a5, c5, rfl, rfl⟩, rfl⟩
        refine Go.Sl.L.ac rfl rfl ⟨_, rfl, rfl⟩ (as_call (same_posts (a := a2) (b := a5) (c := c2) (d := c5) hq2 hDm (by omega)) (by repeat constructor) (by repeat constructor)) ?_
        rintro _ _ ⟨_, ⟨rfl, rfl⟩, rfl⟩
        refine Go.Sl.L.pu rfl rfl trivial (by first | exact pu_pick_t rfl rfl | exact pu_pick_f rfl rfl) ?_
        refine Go.Sl.L.puBt rfl rfl trivial (pu_move rfl) rfl ?_
        refine Go.Sl.L.pu rfl rfl ⟨_, rfl, rfl⟩ (pu_move rfl) ?_
        refine Go.Sl.L.pu rfl rfl ⟨_, rfl, rfl⟩ (pu_move rfl) ?_
        refine Go.Sl.L.pu rfl rfl ⟨_, rfl, rfl⟩ (pu_move rfl) ?_
        refine Go.Sl.L.ac rfl rfl ⟨_, rfl, rfl⟩ (as_call (less10_spec hall hsome (by omega) (by omega)) (by repeat constructor) (by repeat constructor)) ?_
        rintro _ _ ⟨_, ⟨a6, c6, rfl, rfl⟩, rfl⟩
        refine Go.Sl.L.ac rfl rfl ⟨_, rfl, rfl⟩ (as_call (same_c (a := a3) (b := a6) (c := c3) (d := c6) (xs := lessK all some_) (by omega)) (by repeat constructor) (by repeat constructor)) ?_
        rintro _ _ ⟨_, ⟨rfl, rfl⟩, rfl⟩
        refine Go.Sl.L.pu rfl rfl trivial (by first | exact pu_pick_t rfl rfl | exact pu_pick_f rfl rfl) ?_
        refine Go.Sl.L.pu rfl rfl trivial (pu_assign rfl) ?_
        refine Go.Sl.L.nil ?_
        refine Gs.then_n ?_
        refine Gs.seq ?_
        refine Gs.reg ?_
        refine Go.Sl.L.pu rfl rfl trivial (pu_move rfl) ?_
        refine Go.Sl.L.ac rfl rfl trivial (as_call (overPosts_spec (ps := q1) (by omega) (fun y hy => Nat.le_trans (plain_le hq1 (fun y hy => (hPm y hy).2) y hy) (by decide))) (by repeat constructor) (by repeat constructor)) ?_
        rintro _ _ ⟨_, ⟨rfl, rfl⟩, rfl⟩
        refine Go.Sl.L.nil ?_
        refine Gs.then_n ?_
        refine Gs.seq ?_
        refine Gs.reg ?_
        refine Go.Sl.L.pu rfl rfl trivial (pu_move rfl) ?_
        refine Go.Sl.L.ac rfl rfl trivial (as_call (overPosts_spec (ps := q2) (by omega) (fun y hy => Nat.le_trans (plain_le hq2 (fun y hy => (hDm y hy).2) y hy) (by decide))) (by repeat constructor) (by repeat constructor)) ?_
        rintro _ _ ⟨_, ⟨rfl, rfl⟩, rfl⟩
        refine Go.Sl.L.nil ?_
        refine Gs.then_n ?_
        refine Gs.seq ?_
        refine Gs.reg ?_
        refine Go.Sl.L.pu rfl rfl trivial (pu_move rfl) ?_
        refine Go.Sl.L.ac rfl rfl trivial (as_call (overKeys_spec (xs := lessK all some_) (by omega)) (by repeat constructor) (by repeat constructor)) ?_
        rintro _ _ ⟨_, ⟨rfl, rfl⟩, rfl⟩
        refine Go.Sl.L.nil ?_
        refine Gs.then_n ?_
        refine Gs.seq ?_
        refine Gs.regD mixed (by kernel_rfl) ?_
        refine Rg.pu 0 rfl rfl (by kernel_rfl) trivial (pu_move rfl) ?_
        refine Rg.puBt 1 rfl rfl (by kernel_rfl) trivial (pu_move rfl) rfl ?_
        refine Rg.pu 2 rfl rfl (by kernel_rfl) ⟨_, rfl, rfl⟩ (pu_move rfl) ?_
        refine Rg.rd 3 rfl rfl (by kernel_rfl) ⟨_, rfl, rfl⟩ (rd_lda ag_37 rfl (Rdc.cl 3 (by repeat constructor) rfl) rfl) ?_
        refine Rg.pu 5 rfl rfl (by kernel_rfl) ⟨_, rfl, rfl⟩ (pu_move rfl) ?_
        refine Rg.rd 6 rfl rfl (by kernel_rfl) ⟨_, rfl, rfl⟩ (rd_lda ag_37 rfl (Rdc.cl 3 (by repeat constructor) rfl) rfl) ?_
        refine Rg.one (by kernel_rfl) (Stp.acR 4 [6] rfl rfl (by kernel_rfl) ⟨_, rfl, rfl⟩ (as_call (pput_spec hX (by omega) hp (by omega)) (by repeat constructor) (by repeat constructor)) (by rintro _ _ ⟨_, ⟨a7, c7, q7, rfl, hq7, rfl⟩, rfl⟩; exact (Reads.cons rfl rfl rfl ⟨_, rfl, rfl⟩ rfl (rd_lda ag_37 rfl (Rdc.cl 3 (by repeat constructor) rfl) rfl) Reads.nil)) ?_)
        rintro _ _ ⟨_, ⟨a7, c7, q7, rfl, hq7, rfl⟩, rfl⟩
        rw [← putV_plain] at hq7
        refine Rg.one (by kernel_rfl) (Stp.ac 7 rfl rfl (by kernel_rfl) ⟨_, rfl, rfl⟩ (as_call (put10_spec hX (by omega) hp (by omega)) (by repeat constructor) (by repeat constructor))  ?_)
        rintro _ _ ⟨_, ⟨a8, c8, rfl, rfl⟩, rfl⟩
        refine Rg.one (by kernel_rfl) (Stp.ac 8 rfl rfl (by kernel_rfl) ⟨_, rfl, rfl⟩ (as_call (same_posts (a := a7) (b := a8) (c := c7) (d := c8) hq7 hPm (by omega)) (by repeat constructor) (by repeat constructor))  ?_)
        rintro _ _ ⟨_, ⟨rfl, rfl⟩, rfl⟩
        refine Rg.pu 9 rfl rfl (by kernel_rfl) trivial (by first | exact pu_pick_t rfl rfl | exact pu_pick_f rfl rfl) ?_
        refine Rg.puBt 10 rfl rfl (by kernel_rfl) trivial (pu_move rfl) rfl ?_
        refine Rg.pu 11 rfl rfl (by kernel_rfl) ⟨_, rfl, rfl⟩ (pu_move rfl) ?_
        refine Rg.rd 12 rfl rfl (by kernel_rfl) ⟨_, rfl, rfl⟩ (rd_lda ag_34 rfl (Rdc.cl 2 (by repeat constructor) rfl) rfl) ?_
        refine Rg.pu 14 rfl rfl (by kernel_rfl) ⟨_, rfl, rfl⟩ (pu_move rfl) ?_
        refine Rg.rd 15 rfl rfl (by kernel_rfl) ⟨_, rfl, rfl⟩ (rd_lda ag_34 rfl (Rdc.cl 2 (by repeat constructor) rfl) rfl) ?_
        refine Rg.one (by kernel_rfl) (Stp.acR 13 [15] rfl rfl (by kernel_rfl) ⟨_, rfl, rfl⟩ (as_call (pdrop_spec hX (by omega) k) (by repeat constructor) (by repeat constructor)) (by rintro _ _ ⟨_, ⟨a9, c9, q9, rfl, hq9, rfl⟩, rfl⟩; exact (Reads.cons rfl rfl rfl ⟨_, rfl, rfl⟩ rfl (rd_lda ag_34 rfl (Rdc.cl 2 (by repeat constructor) rfl) rfl) Reads.nil)) ?_)
        rintro _ _ ⟨_, ⟨a9, c9, q9, rfl, hq9, rfl⟩, rfl⟩
        rw [← dropV_plain] at hq9
        refine Rg.one (by kernel_rfl) (Stp.ac 16 rfl rfl (by kernel_rfl) ⟨_, rfl, rfl⟩ (as_call (drop10_spec hX (by omega) k) (by repeat constructor) (by repeat constructor))  ?_)
        rintro _ _ ⟨_, ⟨aa, cc, rfl, rfl⟩, rfl⟩
        refine Rg.one (by kernel_rfl) (Stp.ac 17 rfl rfl (by kernel_rfl) ⟨_, rfl, rfl⟩ (as_call (same_posts (a := a9) (b := aa) (c := c9) (d := cc) hq9 hDm (by omega)) (by repeat constructor) (by repeat constructor))  ?_)
        rintro _ _ ⟨_, ⟨rfl, rfl⟩, rfl⟩
        refine Rg.pu 18 rfl rfl (by kernel_rfl) trivial (by first | exact pu_pick_t rfl rfl | exact pu_pick_f rfl rfl) ?_
        refine Rg.puBt 19 rfl rfl (by kernel_rfl) trivial (pu_move rfl) rfl ?_
        refine Rg.one (by kernel_rfl) (Stp.ac 20 rfl rfl (by kernel_rfl) ⟨_, rfl, rfl⟩ (as_call (awake_spec) (by repeat constructor) (by repeat constructor))  ?_)
        rintro _ _ ⟨_, ⟨rfl, rfl⟩, rfl⟩
        refine Rg.pu 21 rfl rfl (by kernel_rfl) trivial (by first | exact pu_pick_t rfl rfl | exact pu_pick_f rfl rfl) ?_
        refine Rg.pu 22 rfl rfl (by kernel_rfl) trivial (pu_assign rfl) ?_
        refine Rg.end (by kernel_rfl) ?_
        refine Gs.then_n ?_
        refine Gs.ret ?_
        exact Gs.fin1 Try.results4 rfl _ (⟨rfl, rfl⟩) (by repeat constructor)
end Go.Proofs.Ytonilkceolbkmaa
