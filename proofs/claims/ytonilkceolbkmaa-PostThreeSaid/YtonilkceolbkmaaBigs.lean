/- Many assertions as one: taken out, put back, read. Nothing of the program stands here. -/
import Derived.Test.YtonilkceolbkmaaCpy
namespace Go.Sl
open Go
section
variable {w0 w : World} {n : Nat} {env : Env} {L L' M : List HProp} {A B : HProp} {X : Act → World → Prop}
theorem Sat.big : Sat w0 w (Sl.big L :: M) ↔ Sat w0 w (L ++ M) := by
  constructor
  · intro s
    refine s.imp fun h => ?_
    rintro ⟨h1, h2, d, rfl, l, m⟩
    exact big_append.2 ⟨h1, h2, d, rfl, l, m⟩
  · intro s
    refine s.imp fun h x => ?_
    obtain ⟨h1, h2, d, rfl, l, m⟩ := big_append.1 x
    exact ⟨h1, h2, d, rfl, l, m⟩
theorem take_snoc : ∀ {L : List HProp}, Take A (L ++ [A]) L
  | [] => .hd
  | _ :: _ => .tl take_snoc
theorem take_mid {L2 : List HProp} : ∀ {L1 : List HProp}, Take A (L1 ++ A :: L2) (L1 ++ L2)
  | [] => .hd
  | _ :: _ => .tl take_mid
theorem take_at : ∀ {L : List HProp} {i : Nat}, L[i]? = some A → Take A L (L.eraseIdx i)
  | [], i, h => by cases h
  | B :: L, 0, h => by simp only [List.getElem?_cons_zero, Option.some.injEq] at h; subst h; exact .hd
  | B :: L, i + 1, h => .tl (take_at (by simpa using h))
theorem take_set : ∀ {L : List HProp} {i : Nat}, i < L.length → Take A (L.set i A) (L.eraseIdx i)
  | [], i, h => by simp at h
  | B :: L, 0, h => .hd
  | B :: L, i + 1, h => .tl (take_set (by simpa using h))
theorem Sat.bigTake (t : Take A L L') (s : Sat w0 w (Sl.big L :: M)) : Sat w0 w (A :: Sl.big L' :: M) := by
  have h2 : Sat w0 w (Sl.big (A :: L') :: M) := s.ent fun _ l => t.go l
  exact (Sat.two (A := A) (B := Sl.big L')).1 h2
theorem Sat.bigBack (t : Take A L L') (s : Sat w0 w (A :: Sl.big L' :: M)) : Sat w0 w (Sl.big L :: M) := by
  have h2 : Sat w0 w (Sl.big (A :: L') :: M) := Sat.two.2 s
  exact h2.ent fun _ l => t.back l
theorem Sat.bigNil (s : Sat w0 w M) : Sat w0 w (Sl.big [] :: M) := Sat.big.2 s
theorem Gs.bigTake (t : Take A L L') (g : Gs w0 n env (A :: Sl.big L' :: M) X) : Gs w0 n env (Sl.big L :: M) X := fun a w e s => g a w e (s.bigTake t)
theorem Gs.bigBack (t : Take A L L') (g : Gs w0 n env (Sl.big L :: M) X) : Gs w0 n env (A :: Sl.big L' :: M) X := fun a w e s => g a w e (s.bigBack t)
theorem Gs.bigNil (g : Gs w0 n env (Sl.big [] :: M) X) : Gs w0 n env M X := fun a w e s => g a w e s.bigNil
theorem Ct.two {P : Program} {f : FuncId} {args : List Value} {post : Value → List HProp → Prop} (c : Ct P f args [Sl.two A B] post) (h : ∀ v hs, post v hs → ∃ r, hs = Sl.two A B :: r) : Ct P f args [A, B] (fun v hs => ∃ r, post v (Sl.two A B :: r) ∧ hs = A :: B :: r) :=
  ⟨c.enters, fun w0 w R s => (c.calls w0 w R (Sat.two.2 s)).mono fun _ _ ⟨v, hs, he, hp, hsat⟩ => by
    obtain ⟨r, rfl⟩ := h v hs hp
    exact ⟨v, _, he, ⟨r, hp, rfl⟩, Sat.two.1 hsat⟩⟩
theorem Srd.two1 {α : Type} {sz : Nat} {enc : α → List Value} {a : Option Addr} {xs : List α} (S : Srd A sz enc a xs) : Srd (Sl.two A B) sz enc a xs :=
  fun w0 H H' t w s => S w0 _ _ .hd w (Sat.two.1 (s.take t))
theorem Srd.two2 {α : Type} {sz : Nat} {enc : α → List Value} {a : Option Addr} {xs : List α} (S : Srd B sz enc a xs) : Srd (Sl.two A B) sz enc a xs :=
  fun w0 H H' t w s => S w0 _ _ (.tl .hd) w (Sat.two.1 (s.take t))
theorem Srd.bigs {α : Type} {sz : Nat} {enc : α → List Value} {a : Option Addr} {xs : List α} (S : Srd A sz enc a xs) (h : A ∈ L) : Srd (Sl.big L) sz enc a xs := fun w0 H H' t w s => by
  obtain ⟨i, hi⟩ := List.mem_iff_getElem?.1 h
  exact S w0 _ _ .hd w ((s.take t).bigTake (take_at hi))
end
end Go.Sl
