/- One part within another: what reads in it, what is called with it. Bytes as a string. Nothing of the program stands here. -/
import Derived.Test.YtjaafkakeccniaaGreatDoorMD
import Derived.Test.YtjaafkakeccniaaGreatDoorDk
import Derived.Laws.BytesString
namespace Go.Sl
open Go
/-- B stands within U. -/
def Inn (B U : HProp) : Prop := ∃ A, ∀ w0 w R, Sat w0 w (U :: R) ↔ Sat w0 w (B :: A :: R)
theorem Inn.refl {B : HProp} : Inn B B := ⟨big [], fun _ _ _ => ⟨fun s => (s.bigNil).take (.tl .hd), fun s => (s.take (.tl .hd)).drop⟩⟩
theorem Inn.two1 {A B : HProp} : Inn A (two A B) := ⟨B, fun _ _ _ => Sat.two⟩
theorem Inn.two2 {A B : HProp} : Inn B (two A B) := ⟨A, fun _ _ _ => ⟨fun s => (Sat.two.1 s).take (.tl .hd), fun s => Sat.two.2 (s.take (.tl .hd))⟩⟩
theorem Inn.mem {B : HProp} {L : List HProp} (h : B ∈ L) : Inn B (big L) := by
  obtain ⟨i, hi⟩ := List.mem_iff_getElem?.1 h
  exact ⟨big (L.eraseIdx i), fun _ _ _ => ⟨fun s => s.bigTake (take_at hi), fun s => s.bigBack (take_at hi)⟩⟩
theorem Inn.trans {A B C : HProp} (h : Inn A B) (k : Inn B C) : Inn A C := by
  obtain ⟨X, hx⟩ := h
  obtain ⟨Y, hy⟩ := k
  refine ⟨two X Y, fun w0 w R => ?_⟩
  rw [hy, hx]
  constructor
  · intro s
    exact (Sat.two.2 (s.takes (As := [X, Y, A]) (by repeat constructor))).take (.tl .hd)
  · intro s
    exact (Sat.two.1 (s.take (.tl .hd))).takes (As := [A, X, Y]) (by repeat constructor)
theorem Srd.inn {α : Type} {B U : HProp} {sz : Nat} {enc : α → List Value} {a : Option Addr} {xs : List α} (S : Srd B sz enc a xs) (i : Inn B U) : Srd U sz enc a xs := fun w0 H H' t w s => by
  obtain ⟨A, hA⟩ := i
  exact S w0 _ _ .hd w ((hA _ _ _).1 (s.take t))
theorem Ct.inn {P : Program} {f : FuncId} {args : List Value} {B U : HProp} {post : Value → List HProp → Prop} (c : Ct P f args [B] post) (i : Inn B U) (h : ∀ v hs, post v hs → ∃ r, hs = B :: r) : Ct P f args [U] (fun v hs => ∃ r, post v (B :: r) ∧ hs = U :: r) := by
  obtain ⟨A, hA⟩ := i
  refine ⟨c.enters, fun w0 w R s => (c.calls w0 w (A :: R) ((hA _ _ _).1 s)).mono fun _ _ ⟨v, hs, he, hp, hsat⟩ => ?_⟩
  obtain ⟨r, rfl⟩ := h v hs hp
  refine ⟨v, U :: r, he, ⟨r, hp, rfl⟩, (hA _ _ _).2 ?_⟩
  have h1 : Sat w0 _ ((B :: r) ++ A :: R) := hsat
  have h2 := h1.take (take_mid (L1 := B :: r) (L2 := R))
  exact h2.take (.tl .hd)
/-- A contract that changes nothing. -/
theorem Ct.inn0 {P : Program} {f : FuncId} {args : List Value} {B U : HProp} {x : Value} (c : Ct P f args [B] (fun v hs => v = x ∧ hs = [B])) (i : Inn B U) : Ct P f args [U] (fun v hs => v = x ∧ hs = [U]) :=
  (c.inn i fun _ _ h => ⟨[], h.2⟩).mono fun v hs ⟨r, ⟨h1, h2⟩, h3⟩ => ⟨h1, by cases h2; exact h3⟩
/-- Three that may stand next. -/
theorem Rg.three {P : Program} {n : Nat} {w0 : World} {ops : List Oper} {Q : Exit → Act → World → Prop} {D pp rp : List Nat} {env : Env} {H : List HProp} {i j k : Nat} (hav : avail ops D = [i, j, k]) (s : Stp P n w0 ops Q D pp rp env H i) (t : Stp P n w0 ops Q D pp rp env H j) (u : Stp P n w0 ops Q D pp rp env H k) : Rg P n w0 ops Q D pp rp env H :=
  Rg.of (by simp) hav fun m hm => by
    simp only [List.mem_cons, List.not_mem_nil, or_false] at hm
    rcases hm with rfl | rfl | rfl
    · exact s
    · exact t
    · exact u
section
variable {P : Program} {w0 : World} {env : Env} {H : List HProp} {d : Option Tmp} {x : Operand} {src dst e ty : TypeId} {pos : String} {af : Array Edge} {g : Option (Nat × Bool)}
theorem fold_push : ∀ (l : List UInt8) (s : ByteArray), ((l.map fun c => (c.toNat : Int)).foldl (fun r n => r.push (UInt8.ofNat n.toNat)) s) = ⟨(s.data.toList ++ l).toArray⟩
  | [], s => by simp
  | c :: l, s => by
    rw [List.map_cons, List.foldl_cons, fold_push l]
    have : UInt8.ofNat ((c.toNat : Int)).toNat = c := by rw [Int.toNat_natCast]; exact UInt8.ofNat_toNat
    rw [this]
    simp [ByteArray.push]
/-- Or, of a number's upper and its lower byte. -/
theorem or_small (a b : Nat) (h : b < 256) : a * 256 ||| b = a * 256 + b := by
  have := Nat.shiftLeft_add_eq_or_of_lt (b := b) (i := 8) (by omega) a
  rw [Nat.shiftLeft_eq] at this
  exact this.symm
theorem or64 (a b : Nat) (ha : a < 256) (h : b < 256) : (BitVec.ofInt 64 ((a * 256 : Nat) : Int) ||| BitVec.ofInt 64 (b : Int)).toNat = a * 256 + b := by
  rw [BitVec.toNat_or, BitVec.ofInt_natCast, BitVec.ofInt_natCast, BitVec.toNat_ofNat, BitVec.toNat_ofNat, Nat.mod_eq_of_lt (by omega), Nat.mod_eq_of_lt (by omega), or_small a b h]
def orK (k : IntKind) (i j : Int) : Int := k.wrap (BitVec.ofInt k.bits i ||| BitVec.ofInt k.bits j).toNat
theorem pu_or {y : Operand} {T T' : TypeId} {k : IntKind} {i j : Int} (h : ev env x = some (.int k i)) (h' : ev env y = some (.int k j)) : Pu P ⟨d, .binOp .or T x y T', ty, pos, af, g⟩ env (.int k (orK k i j)) := fun ρ w e => by
  refine run_v (s := do eqGuard .or T x y (ρ x) (ρ y); binOp .or T (ρ x) (ρ y)) ?_
  rw [e.eval h, e.eval h']
  simp only [Sem.run_bind, eqGuard_int, Result.andThen_ok]
  simp [binOp, Op.intBits, orK]
theorem orK_small {a b : Nat} (ha : a < 256) (hb : b < 256) : orK .i64 ((a * 256 : Nat) : Int) (b : Int) = ((a * 256 + b : Nat) : Int) := by
  show IntKind.i64.wrap ((BitVec.ofInt 64 ((a * 256 : Nat) : Int) ||| BitVec.ofInt 64 (b : Int)).toNat : Int) = _
  rw [or64 a b ha hb]
  exact wrap_in (by omega) (by omega)
/-- A part that is called with, beside another one. -/
theorem Ct.two0 {f : FuncId} {args : List Value} {A B : HProp} {v0 : Value} (c : Ct P f args [Sl.two A B] (fun v hs => v = v0 ∧ hs = [Sl.two A B])) : Ct P f args [A, B] (fun v hs => v = v0 ∧ hs = [A, B]) :=
  (c.two fun _ _ h => ⟨[], h.2⟩).mono fun v hs ⟨r, ⟨h1, h2⟩, h3⟩ => ⟨h1, by cases h2; exact h3⟩
/-- Bytes as a string. -/
theorem rd_b2s {a : Option Addr} {n c : Nat} {l : List UInt8} (hs : P.underlying src = some (.slice e)) (he : P.underlying e = some (.int .u8)) (hd : P.underlying dst = some .string) (hx : ev env x = some (.slice a n c)) (hn : n = l.length) (S : SlH w0 H 1 (fun c : UInt8 => [Value.int .u8 c.toNat]) a l) :
    Rd P ⟨d, .convert src dst x, ty, pos, af, g⟩ w0 env H (.string ⟨l.toArray⟩) := fun ρ w r s => by
  subst hn
  refine run_v (s := convert src dst (ρ x)) ?_
  rw [r.eval hx, run_convert_bytes_string w src dst e _ _ _ hs he hd]
  have key : ∀ (A : Addr), (loadCells A l.length).run P w = .ok ((l.map fun c => (c.toNat : Int)).map (Value.int .u8)).toArray w → (Conv.bytesToString (.slice (some A) l.length c)).run P w = .ok (.string ⟨l.toArray⟩) w := fun A h => by
    rw [run_bytesToString w A l.length c _ h, fold_push, show ByteArray.empty.data.toList = [] from rfl, List.nil_append]
  by_cases hne : l = []
  · subst hne
    cases a with
    | none => rfl
    | some a => exact key a rfl
  · obtain ⟨b, off, rfl, h⟩ := S w s hne
    refine key ⟨b, off, none⟩ ?_
    have h2 := loadCells_run (P := P) (w := w) (b := b) (o := off) ((l.map fun c => (c.toNat : Int)).map (Value.int .u8)) 0 #[] (fun j v hv => by
      rw [List.getElem?_map, List.getElem?_map] at hv
      obtain ⟨y, hy, rfl⟩ := Option.map_eq_some_iff.1 hv
      obtain ⟨z, hz, rfl⟩ := Option.map_eq_some_iff.1 hy
      have := h j z hz 0 (.int .u8 z.toNat) rfl
      simpa using this)
    rw [List.length_map, List.length_map] at h2
    unfold loadCells
    simpa using h2
end
end Go.Sl
