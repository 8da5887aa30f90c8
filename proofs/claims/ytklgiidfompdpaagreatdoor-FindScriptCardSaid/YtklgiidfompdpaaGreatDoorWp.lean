/- What the closing leans on: part 16. -/
import Derived.Test.YtklgiidfompdpaaGreatDoorCards
import Derived.Test.YtklgiidfompdpaaGreatDoorTie
import Derived.Test.YtklgiidfompdpaaGreatDoorWo
import Derived.Great.CaseRows
import Derived.Carry
import Derived.Lib.LaidIn
import Derived.Lib.LaidRTab
import Derived.Lib.LaidCase
import Derived.Lib.LaidTab
import Derived.Lib.LaidU8T
import Derived.Deep.DeepHandedRow
import Derived.Deep.DeepWitnessRowRef
import Derived.ProofKit
import Derived.SizedLaws
import Derived.OpenShut
import Derived.Test.YtklgiidfompdpaaGreatDoorWd
import Derived.Test.YtklgiidfompdpaaGreatDoorWh
namespace Go.Proofs.YtklgiidfompdpaaGreatDoor
open Go Go.Sl Go.ChangeShapes Go.WideShapes Go.ChangeAt Go.RowKit Go.Lib Go.Shelf
set_option maxRecDepth 100000
theorem own : ownKnob Tryz.prog.godebug = none := by kernel_rfl
theorem laidOut : laidOutB Tryz.prog = true := by kernel_rfl
abbrev laidList : List (String × DataW Unit) := [("math/bits.deBruijn32tab", Rows.laid_math_bits_deBruijn32tab), ("math/bits.deBruijn64tab", Rows.laid_math_bits_deBruijn64tab), ("internal/strconv.uint64pow10", Rows.laid_internal_strconv_uint64pow10), ("unicode/utf8.acceptRanges", acceptData), ("unicode.properties", Lib.tabData .u8 Lib.propertiesTab)] ++ [("unicode.CaseRanges", caseData)] ++ [("unicode.Digit", rtabData digitT)] ++ [("unicode.Letter", rtabData letterT)] ++ [("unicode/utf8.first", firstData)]
theorem xL : RExtra Tryz.prog Tryz.laysLetter_ren := ⟨by kernel_rfl, by kernel_rfl, by kernel_rfl, by kernel_rfl, by kernel_rfl, by kernel_rfl, by kernel_rfl, by kernel_rfl⟩
theorem xD : RExtra Tryz.prog Tryz.laysDigit_ren := ⟨by kernel_rfl, by kernel_rfl, by kernel_rfl, by kernel_rfl, by kernel_rfl, by kernel_rfl, by kernel_rfl, by kernel_rfl⟩
theorem xC : CaseExtra Tryz.prog Tryz.laysLower_ren := ⟨by kernel_rfl, by kernel_rfl, by kernel_rfl, by kernel_rfl, by kernel_rfl, by kernel_rfl⟩
theorem cT : Go.Great.CTypes Tryz.prog 243 297 295 193 21 := ⟨by kernel_rfl, by kernel_rfl, by kernel_rfl, by kernel_rfl, by kernel_rfl, by kernel_rfl, by kernel_rfl, by kernel_rfl, by kernel_rfl⟩
noncomputable abbrev N0 : Nat := (World.settled Tryz.prog default).heap.size
noncomputable def laidWorld (os : Os) : World :=
 let N := (World.settled Tryz.prog os).heap.size
 let ρ := Tryz.laysLetter_ren
 let w0 := World.holding Tryz.prog os ⟨#[
   .cells (rgCells .u16 letterT.r16) (ρ.t 198), .cells (rgCells .u32 letterT.r32) (ρ.t 201),
   .cells #[.slice (some ⟨N, 0, none⟩) letterT.r16.size letterT.r16.size, .slice (some ⟨N + 1, 0, none⟩) letterT.r32.size letterT.r32.size, .int .i64 letterT.off] (ρ.t 196),
   .cells (rgCells .u16 digitT.r16) (ρ.t 198), .cells (rgCells .u32 digitT.r32) (ρ.t 201),
   .cells #[.slice (some ⟨N + 3, 0, none⟩) digitT.r16.size digitT.r16.size, .slice (some ⟨N + 4, 0, none⟩) digitT.r32.size digitT.r32.size, .int .i64 digitT.off] (ρ.t 196),
   .cells (caseT.flatMap Lib.cells5).toArray 297], #[], []⟩
 let put (h : Array Obj) (g : Nat) (cs : Array Value) : Array Obj := h.modify g fun
   | .cells _ t frozen => .cells cs t frozen
   | o => o
 let h1 := put w0.heap 0 (Go.Pinned.utf8FirstZ.map fun (z : Nat) => Value.int .u8 z).toArray
 let h2 := put h1 1 ((List.range 16).flatMap fun i => [Value.int .u8 (Lib.accLo i), Value.int .u8 (Lib.accHi i)]).toArray
 let h3 := put h2 2 (Lib.propertiesTab.map fun z => Value.int .u8 z).toArray
 let h4 := put h3 3 #[.pointer (some ⟨N + 2, 0, none⟩)]
 let h5 := put h4 4 #[.pointer (some ⟨N + 5, 0, none⟩)]
 let h6 := put h5 5 #[.slice (some ⟨N + 6, 0, none⟩) caseT.length caseT.length]
 let h7 := put h6 8 (([0, 1, 28, 2, 29, 14, 24, 3, 30, 22, 20, 15, 25, 17, 4, 8, 31, 27, 13, 23, 21, 19, 16, 7, 26, 12, 18, 6, 11, 5, 10, 9] : List Int).map fun z => Value.int .u8 z).toArray
 let h8 := put h7 9 (([0, 1, 56, 2, 57, 49, 28, 3, 61, 58, 42, 50, 38, 29, 17, 4, 62, 47, 59, 36, 45, 43, 51, 22, 53, 39, 33, 30, 24, 18, 12, 5, 63, 55, 48, 27, 60, 41, 37, 16, 46, 35, 44, 21, 52, 32, 23, 11, 54, 26, 40, 15, 34, 20, 31, 10, 25, 14, 19, 9, 13, 8, 7, 6] : List Int).map fun z => Value.int .u8 z).toArray
 let h9 := put h8 6 (([1, 10, 100, 1000, 10000, 100000, 1000000, 10000000, 100000000, 1000000000, 10000000000, 100000000000, 1000000000000, 10000000000000, 100000000000000, 1000000000000000, 10000000000000000, 100000000000000000, 1000000000000000000, 10000000000000000000] : List Int).map fun z => Value.int .u64 z).toArray
 { w0 with heap := h9 }
noncomputable abbrev lw (os : Os) (args : Array Value) : World := ((laidWorld os).forCall (fun _ _ => 0) ⟨#[], args, []⟩).memory
theorem piece0 (os : Os) (args : Array Value) : LaidIn Tryz.prog (lw os args) [("math/bits.deBruijn32tab", Rows.laid_math_bits_deBruijn32tab), ("math/bits.deBruijn64tab", Rows.laid_math_bits_deBruijn64tab), ("internal/strconv.uint64pow10", Rows.laid_internal_strconv_uint64pow10), ("unicode/utf8.acceptRanges", acceptData), ("unicode.properties", Lib.tabData .u8 Lib.propertiesTab)] [8, 9, 6, 1, 2] :=
 LaidIn.of_run _ 8 (by kernel_rfl) (by kernel_rfl) (by kernel_rfl) (by kernel_rfl)
theorem piece1 (os : Os) (args : Array Value) : LaidIn Tryz.prog (lw os args) [("unicode.CaseRanges", caseData)] [5, N0 + 6] :=
 Go.Great.laidIn_case cT (g := 5) (B := N0 + 6) (tg := 243) (tb := 297) caseT (by kernel_rfl) (by kernel_rfl) (of_decide_eq_true (by kernel_rfl)) (by kernel_rfl) (by kernel_rfl) (by kernel_rfl) (of_decide_eq_true (by kernel_rfl))
theorem piece2 (os : Os) (args : Array Value) : LaidIn Tryz.prog (lw os args) [("unicode.Digit", rtabData digitT)] [4, N0 + 5, N0 + 3, N0 + 4] :=
 laidIn_rtab (ρ := Tryz.laysDigit_ren) { Tryz.laysDigit with } xD (by kernel_rfl) (by kernel_rfl) digitT (N0 + 5) (N0 + 3) (N0 + 4) (Tryz.laysDigit_ren.t 198) (Tryz.laysDigit_ren.t 201)
   (by kernel_rfl) (by kernel_rfl) (by kernel_rfl) (by kernel_rfl) (by kernel_rfl) (of_decide_eq_true (by kernel_rfl)) (of_decide_eq_true (by kernel_rfl)) (of_decide_eq_true (by kernel_rfl))
theorem piece3 (os : Os) (args : Array Value) : LaidIn Tryz.prog (lw os args) [("unicode.Letter", rtabData letterT)] [3, N0 + 2, N0, N0 + 1] :=
 laidIn_rtab (ρ := Tryz.laysLetter_ren) { Tryz.laysLetter with } xL (by kernel_rfl) (by kernel_rfl) letterT (N0 + 2) N0 (N0 + 1) (Tryz.laysLetter_ren.t 198) (Tryz.laysLetter_ren.t 201)
   (by kernel_rfl) (by kernel_rfl) (by kernel_rfl) (by kernel_rfl) (by kernel_rfl) (of_decide_eq_true (by kernel_rfl)) (of_decide_eq_true (by kernel_rfl)) (of_decide_eq_true (by kernel_rfl))
theorem piece4 (os : Os) (args : Array Value) : LaidIn Tryz.prog (lw os args) [("unicode/utf8.first", firstData)] [0] :=
 LaidIn.of_run [0] 8 (by kernel_rfl) (by kernel_rfl) (by kernel_rfl) (by kernel_rfl)
theorem laid_all (os : Os) (args : Array Value) : laidMet Tryz.prog laidList (lw os args) :=
 (((((piece0 os args).append (piece1 os args) (by kernel_rfl)).append (piece2 os args) (by kernel_rfl)).append (piece3 os args) (by kernel_rfl)).append (piece4 os args) (by kernel_rfl)).met
theorem cell_le {W w : World} (h : Hp.le (whole W) w) {a : Addr} {v : Value} (e : W.cell? a = some v) : w.cell? a = some v := by
 cases hb : W.heap[a.block]? with
 | none => simp [World.cell?, hb] at e
 | some o =>
   have : w.heap[a.block]? = some o := h a.block o (by simp [whole, hb])
   rw [← e]; simp [World.cell?, hb, this]
theorem var_le {W w : World} (h : Hp.le (whole W) w) {n : String} {cs : Array Value} (e : W.var? Tryz.prog n = some cs) : w.var? Tryz.prog n = some cs := by
 unfold World.var? at e ⊢
 cases hg : Tryz.prog.globalNamed n with
 | none => rw [hg] at e; cases e
 | some g =>
   rw [hg] at e
   simp only [Option.bind_some] at e ⊢
   cases hb : W.heap[g]? with
   | none => rw [hb] at e; cases e
   | some o =>
     rw [hb] at e
     rw [h g o (by simp [whole, hb])]; exact e
theorem rgTab_le {W w : World} (h : Hp.le (whole W) w) {k : IntKind} {R oR : Nat} {T : Array Rg} (e : RgTab k R oR T W) : RgTab k R oR T w := fun i hi => ⟨cell_le h (e i hi).1, cell_le h (e i hi).2.1, cell_le h (e i hi).2.2⟩
theorem rvar_le {W w : World} (h : Hp.le (whole W) w) {g : Nat} {T : RTab} (e : RVar g T W) : RVar g T w := by
 obtain ⟨Tb, oT, h0, a16, a32, R16, o16, c16, R32, o32, c32, h1, h2, h3, h4, h5, h6, h7, h8⟩ := e
 exact ⟨Tb, oT, cell_le h h0, a16, a32, R16, o16, c16, R32, o32, c32, cell_le h h1, cell_le h h2, cell_le h h3, h4, h5, rgTab_le h h6, rgTab_le h h7, h8⟩
theorem case_le {W w : World} (h : Hp.le (whole W) w) {g : Nat} {T : Array CaseRow} (e : CaseVar g T W) : CaseVar g T w := by
 obtain ⟨R, oR, cap, h1, h2⟩ := e
 exact ⟨R, oR, cap, cell_le h h1, fun i hi => ⟨cell_le h (h2 i hi).1, cell_le h (h2 i hi).2.1, cell_le h (h2 i hi).2.2.1, cell_le h (h2 i hi).2.2.2.1, cell_le h (h2 i hi).2.2.2.2⟩⟩
theorem tabs_of {W : World} (hL : laidMet Tryz.prog laidList W) : TabY (whole W) := by
 have h1 := Lib.laidMet.reads hL (.tail _ (.tail _ (.tail _ (.head _))))
 have h2 := Lib.laidMet.reads hL (.tail _ (.tail _ (.tail _ (.tail _ (.tail _ (.tail _ (.tail _ (.tail _ (.head _)))))))))
 have hp := Lib.laidMet.reads hL (.tail _ (.tail _ (.tail _ (.tail _ (.head _)))))
 have hw := Lib.laidMet.reads hL (.tail _ (.tail _ (.head _)))
 have hc := Lib.laidMet.reads hL (.tail _ (.tail _ (.tail _ (.tail _ (.tail _ (.head _))))))
 have hd := Lib.laidMet.reads hL (.tail _ (.tail _ (.tail _ (.tail _ (.tail _ (.tail _ (.head _)))))))
 have hl := Lib.laidMet.reads hL (.tail _ (.tail _ (.tail _ (.tail _ (.tail _ (.tail _ (.tail _ (.head _))))))))
 have h : Lib.Utf8Tabs (Tryz.laysValid_ren.g 3) (Tryz.laysValid_ren.g 4) W := utf8Tabs_of_readsT (U8Types.of196 Tryz.laysValid) ⟨by kernel_rfl, by kernel_rfl, by kernel_rfl, by kernel_rfl, by kernel_rfl, by kernel_rfl, by kernel_rfl⟩ h2 h1
 have hP : Lib.TabIs Tryz.prog W "unicode.properties" .u8 Lib.propertiesTab := by
   obtain ⟨g, t, cs, fuel, p, hg, hty, hvar, hdd⟩ := hp
   have eg : Tryz.prog.globalNamed "unicode.properties" = some 2 := by kernel_rfl
   have et : (Tryz.prog.globals[2]?).map (·.type) = some 189 := by kernel_rfl
   obtain rfl := Option.some.inj (eg.symm.trans hg)
   obtain rfl := Option.some.inj (et.symm.trans hty)
   unfold Lib.TabIs
   rw [hvar, ← cells_of_tab Tryz.underlying189 Tryz.underlying5 (by kernel_rfl) (by kernel_rfl) hdd]
 have hW : Lib.TabIs Tryz.prog W "internal/strconv.uint64pow10" .u64 Lib.pow10Tab := by
   obtain ⟨g, t, cs, fuel, p, hg, hty, hvar, hdd⟩ := hw
   have eg : Tryz.prog.globalNamed "internal/strconv.uint64pow10" = some 6 := by kernel_rfl
   have et : (Tryz.prog.globals[6]?).map (·.type) = some 309 := by kernel_rfl
   obtain rfl := Option.some.inj (eg.symm.trans hg)
   obtain rfl := Option.some.inj (et.symm.trans hty)
   rw [show (Rows.laid_internal_strconv_uint64pow10 : DataW Unit) = Lib.tabData .u64 Lib.pow10Tab by kernel_rfl] at hdd
   unfold Lib.TabIs
   rw [hvar, ← cells_of_tab Tryz.underlying309 Tryz.underlying229 (by kernel_rfl) (by kernel_rfl) hdd]
 have hLt := rvar_of_reads { Tryz.laysLetter with } xL (g := Tryz.laysLetter_ren.g 8) (by kernel_rfl) (by kernel_rfl) hl
 have hDt := rvar_of_reads { Tryz.laysDigit with } xD (g := Tryz.laysDigit_ren.g 5) (by kernel_rfl) (by kernel_rfl) hd
 have hCt := caseVar_of_reads { Tryz.laysLower with } (by kernel_rfl) xC hc
 exact ⟨⟨fun w hle => ⟨fun c hc => cell_le hle (h.1 c hc), fun i hi => ⟨cell_le hle (h.2 i hi).1, cell_le hle (h.2 i hi).2⟩⟩, fun w hle => ⟨var_le hle hP, rvar_le hle hLt, rvar_le hle hDt, case_le hle hCt⟩⟩, fun w hle => var_le hle hW⟩
theorem calls_of {P : Program} {f : FuncId} {args : List Value} {W : World} (c : Ct P f args [ro (whole W)] (fun v hs => v = .bool true ∧ hs = [ro (whole W)])) :
   Calls P f args.toArray W fun e W' => e = .returned (.bool true) ∧ Below W.heap.size W W' :=
 (c.calls W W [] (Sat.start W)).mono fun e W' ⟨v, hs, he, ⟨hv, hhs⟩, hsat⟩ => by
   subst hv; subst hhs
   exact ⟨he, Sat.below hsat⟩
end Go.Proofs.YtklgiidfompdpaaGreatDoor
namespace Go.Sl
open Go
def OpnB (N : Nat) (P : Program) (W : World) (t : TypeId) {α : Type} (enc : α → List Value) (good : α → Prop) : Prop :=
 ∀ (H : Type) (e : TypeId × Value → H) (fuel : Nat) (cs : List Value) (x : DataW H × List MemPlace), fuel ≤ N → DataW.trod e P W 0 (fun _ => true) true fuel t cs = some x → ∃ a, cs = enc a ∧ good a
def OpnFB (N : Nat) (P : Program) (W : World) (fs : List Field) (k n : Nat) {α : Type} (enc : α → List Value) (good : α → Prop) : Prop :=
 ∀ (H : Type) (e : TypeId × Value → H) (fuel : Nat) (cs : List Value), fuel ≤ N → (∀ f ∈ fs, ∃ x, DataW.trod e P W 0 (fun _ => true) true fuel f.type ((cs.drop f.offset).take (P.cellsOf f.type)) = some x) → cs.length = k + n → ∃ a, cs.drop k = enc a ∧ good a
section
variable {N : Nat} {P : Program} {W : World} {t : TypeId}
theorem Opn.b {α : Type} {enc : α → List Value} {good : α → Prop} (h : Opn P W t enc good) : OpnB N P W t enc good := fun H e fuel cs x _ hx => h H e fuel cs x hx
theorem OpnB.map {α β : Type} {enc : α → List Value} {good : α → Prop} {enc' : β → List Value} {good' : β → Prop} (f : α → β) (h : OpnB N P W t enc good) (he : ∀ a, enc a = enc' (f a)) (hg : ∀ a, good a → good' (f a)) : OpnB N P W t enc' good' := fun H e fuel cs x hN hx => by
 obtain ⟨a, h1, h2⟩ := h H e fuel cs x hN hx; exact ⟨f a, by rw [h1, he], hg a h2⟩
theorem OpnFB.nil {k : Nat} : OpnFB N P W [] k 0 (fun _ : Unit => []) (fun _ => True) := fun H e fuel cs _ _ hl => ⟨(), List.drop_eq_nil_of_le (by omega), trivial⟩
theorem OpnFB.cons {α β : Type} {enc : α → List Value} {good : α → Prop} {enc' : β → List Value} {good' : β → Prop} {f : Field} {fs : List Field} {k s n : Nat} (ho : f.offset = k) (hs : P.cellsOf f.type = s) (h : OpnB N P W f.type enc good) (r : OpnFB N P W fs (k + s) n enc' good') :
   OpnFB N P W (f :: fs) k (s + n) (fun p : α × β => enc p.1 ++ enc' p.2) (fun p => good p.1 ∧ good' p.2) := fun H e fuel cs hN hf hl => by
 obtain ⟨x, hx⟩ := hf f (by simp)
 obtain ⟨a, h1, h2⟩ := h H e fuel _ x hN hx
 obtain ⟨b, h3, h4⟩ := r H e fuel cs hN (fun g hg => hf g (by simp [hg])) (by omega)
 refine ⟨(a, b), ?_, h2, h4⟩
 show _ = enc a ++ enc' b
 rw [← h1, ← h3, ho, hs, ← List.drop_drop, List.take_append_drop]
theorem OpnB.struct {α : Type} {enc : α → List Value} {good : α → Prop} {fs : Array Field} {n : Nat} (ht : P.underlying t = some (.struct fs)) (hc : P.cellsOf t = n) (h : OpnFB N P W fs.toList 0 n enc good) : OpnB (N + 1) P W t enc good := fun H e fuel cs x hN hx => by
 obtain ⟨xs, m, rfl, -, hl, hls, hf⟩ := DataW.trod_struct ht hx
 obtain ⟨a, h1, h2⟩ := h H e m cs (by omega) (fun f hm => by
   obtain ⟨i, hi⟩ := List.mem_iff_getElem?.1 hm
   have := hf i f (by simpa using hi)
   have hlt : i < xs.length := by rw [hls]; have := (List.getElem?_eq_some_iff.1 hi).1; simpa using this
   exact ⟨xs[i], by rw [this]; simp [hlt]⟩) (by rw [hl, hc]; omega)
 exact ⟨a, by simpa using h1, h2⟩
theorem OpnB.slice {α : Type} {enc : α → List Value} {good : α → Prop} {el sz : Nat} (ht : P.underlying t = some (.slice el)) (hc : P.cellsOf el = sz) (h0 : 0 < sz) (h : OpnB N P W el enc good) :
   OpnB (N + 1) P W t slC (SlGood W sz enc good) := fun H e fuel cs x hN hx => by
 rcases DataW.trod_slice ht hx with ⟨rfl, -⟩ | ⟨a, len, cap, elems, rest, n, hfn, rfl, -, -, hl, hm, hlen, hel, -, -⟩
 · exact ⟨⟨none, [], 0⟩, rfl, fun h => (h rfl).elim, Nat.zero_le _, Nat.zero_le _, Nat.zero_le _, fun _ h => by cases h⟩
 · have each : ∀ i, i < len → ∃ y : α, good y ∧ ∀ j v, (enc y)[j]? = some v → j < sz ∧ W.cell? ((a.add (i * sz)).add j) = some v := fun i hi => by
     have := hel i hi
     rw [hc] at this
     have hy : elems[i]? = some elems[i] := by simp [hlen, hi]
     rw [hy, Option.bind_eq_some_iff] at this
     obtain ⟨ds, hd, hr⟩ := this
     obtain ⟨-, hdl, hdc⟩ := World.cells?_some hd
     obtain ⟨y, rfl, hg⟩ := h H e n ds _ (by omega) hr
     refine ⟨y, hg, fun j v hj => ?_⟩
     have hjl : j < sz := by rw [← hdl]; exact (List.getElem?_eq_some_iff.1 hj).1
     exact ⟨hjl, (hdc j hjl).trans hj⟩
   obtain ⟨xs, hxl, hxs⟩ := list_of len each
   refine ⟨⟨some a, xs, cap⟩, by simp [hxl], ?_, by show xs.length ≤ _; omega, by show xs.length ≤ cap; omega, hm, fun y hy => ?_⟩
   · intro hne
     have hpos : 0 < len := by rw [← hxl]; exact List.length_pos_iff.2 hne
     -- the first element has a cell
     have hcell : ∃ v, W.cell? (a.add 0) = some v := by
       have := hel 0 hpos
       rw [hc] at this
       have hy : elems[0]? = some elems[0] := by simp [hlen, hpos]
       rw [hy, Option.bind_eq_some_iff] at this
       obtain ⟨ds, hd, -⟩ := this
       obtain ⟨-, hdl, hdc⟩ := World.cells?_some hd
       have := hdc 0 h0
       rw [Nat.zero_mul] at this
       have hlt : 0 < ds.length := by omega
       refine ⟨ds[0], ?_⟩
       have e : (a.add 0).add 0 = a.add 0 := by simp [Addr.add]
       rw [e] at this
       rw [this]; simp [hlt]
     obtain ⟨v0, hv0⟩ := hcell
     have ha0 : a.add 0 = a := by simp [Addr.add]
     rw [ha0] at hv0
     have hsp := World.cell?_spot hv0
     obtain ⟨b, off, sp⟩ := a
     simp only at hsp; subst hsp
     have hb : ∃ cells E fr, W.heap[b]? = some (.cells cells E fr) := by
       unfold World.cell? at hv0
       simp only at hv0
       split at hv0
       · rename_i c E fr hh; exact ⟨c, E, fr, hh⟩
       · cases hv0
     obtain ⟨cells, E, fr, hh⟩ := hb
     refine ⟨b, off, cells, E, fr, rfl, hh, fun i y hi j v hj => ?_⟩
     obtain ⟨-, hq⟩ := hxs i y hi
     obtain ⟨-, hcj⟩ := hq j v hj
     have hadd : ((⟨b, off, none⟩ : Addr).add (i * sz)).add j = ⟨b, off + (i * sz + j), none⟩ := by
       unfold Addr.add; split <;> split <;> simp_all <;> omega
     rw [hadd] at hcj
     simpa [World.cell?, hh] using hcj
   · obtain ⟨i, hi⟩ := List.mem_iff_getElem?.1 hy
     exact (hxs i y hi).1
end
end Go.Sl
namespace Go.Proofs.YtklgiidfompdpaaGreatDoor
open Go Go.Sl Go.Gv Go.Ix Go.Qu
set_option maxRecDepth 100000
theorem opn_int (W : World) : Opn Tryz.prog W 3 intC (fun i => (Lit.int .i64 i).wf = true) := Opn.int Tryz.underlying3
theorem opn_str (W : World) : Opn Tryz.prog W 9 (fun s : ByteArray => [.string s]) (fun s => s.size ≤ maxLen) := Opn.str Tryz.underlying9
theorem opn_strs (W : World) : Opn Tryz.prog W 23 slC (SlGood W 1 strC (fun s => s.size ≤ maxLen)) := Opn.slice Tryz.underlying23 (by kernel_rfl) (by decide) (opn_str W)
inductive GoodQ (W : World) : AskV → Prop
 | mk {a : AskV} (hw : SlGood W 1 strC (fun s => s.size ≤ maxLen) a.w) (hs : slR (whole W) 4 askC a.sa a.ss) (hl : a.ss.length ≤ maxLen) (h : ∀ x ∈ a.ss, GoodQ W x) : GoodQ W a
theorem GoodQ.rd {W : World} {a : AskV} (h : GoodQ W a) : ARd (ro (whole W)) a := by
 induction h with
 | mk hw hs hl h ih => exact .mk (Srd.ro hw.1) (Srd.ro hs) ⟨hw.2.1, hl⟩ ih
theorem opn_askB (W : World) : ∀ k : Nat, OpnB (2 * k) Tryz.prog W 26 askC (GoodQ W)
 | 0 => fun H e fuel cs x hN hx => by
   obtain ⟨xs, n, hf, -⟩ := DataW.trod_struct Tryz.underlying26 hx
   omega
 | k + 1 => by
   have ih := opn_askB W k
   have hsl : OpnB (2 * k + 1) Tryz.prog W 24 slC (SlGood W 4 askC (GoodQ W)) := OpnB.slice Tryz.underlying24 (by kernel_rfl) (by decide) ih
   exact (OpnB.struct Tryz.underlying26 (by kernel_rfl) (OpnFB.cons (s := 1) rfl (by kernel_rfl) (opn_int W).b (OpnFB.cons (s := 1) rfl (by kernel_rfl) (opn_int W).b (OpnFB.cons (s := 1) rfl (by kernel_rfl) (opn_strs W).b (OpnFB.cons (s := 1) rfl (by kernel_rfl) hsl OpnFB.nil))))).map
     (fun p => AskV.mk p.1 p.2.1 p.2.2.1 p.2.2.2.1.a p.2.2.2.1.c p.2.2.2.1.xs) (fun _ => rfl) (fun p h => GoodQ.mk (a := AskV.mk p.1 p.2.1 p.2.2.1 p.2.2.2.1.a p.2.2.2.1.c p.2.2.2.1.xs) h.2.2.1 h.2.2.2.1.1 h.2.2.2.1.2.1 h.2.2.2.1.2.2.2.2)
theorem opn_ask (W : World) : Opn Tryz.prog W 26 askC (GoodQ W) := fun H e fuel cs x hx => opn_askB W fuel H e fuel cs x (by omega) hx
end Go.Proofs.YtklgiidfompdpaaGreatDoor
namespace Go.Proofs.YtklgiidfompdpaaGreatDoor
open Go Go.Sl Go.Gv Go.Ix Go.Qu
set_option maxRecDepth 100000
theorem opn_key (W : World) : Opn Tryz.prog W 28 keyC (fun k => (Lit.int .i64 k.o).wf = true ∧ (Lit.int .i64 k.q).wf = true) :=
 (Opn.struct Tryz.underlying28 (by kernel_rfl) (OpnF.cons (s := 1) rfl (by kernel_rfl) (opn_int W) (OpnF.cons (s := 1) rfl (by kernel_rfl) (opn_int W) OpnF.nil))).map (fun p => ⟨p.1, p.2.1⟩) (fun _ => rfl) (fun _ h => ⟨h.1, h.2.1⟩)
theorem opn_stamp (W : World) : Opn Tryz.prog W 30 (fun p : Int × Int => [int p.1, int p.2]) (fun p => (Lit.int .i64 p.1).wf = true ∧ (Lit.int .i64 p.2).wf = true) :=
 (Opn.struct Tryz.underlying30 (by kernel_rfl) (OpnF.cons (s := 1) rfl (by kernel_rfl) (opn_int W) (OpnF.cons (s := 1) rfl (by kernel_rfl) (opn_int W) OpnF.nil))).map (fun p => (p.1, p.2.1)) (fun _ => rfl) (fun _ h => ⟨h.1, h.2.1⟩)
theorem opn_rec (W : World) : Opn Tryz.prog W 32 recC (fun r => r.t.size ≤ maxLen) :=
 (Opn.struct Tryz.underlying32 (by kernel_rfl) (OpnF.cons (s := 2) rfl (by kernel_rfl) (opn_key W) (OpnF.cons (s := 2) rfl (by kernel_rfl) (opn_stamp W) (OpnF.cons (s := 1) rfl (by kernel_rfl) (opn_str W) OpnF.nil)))).map (fun p => ⟨p.1.o, p.1.q, p.2.1.1, p.2.1.2, p.2.2.1⟩) (fun _ => rfl) (fun _ h => h.2.2.1)
theorem opn_act (W : World) : Opn Tryz.prog W 45 actF (fun _ => True) :=
 (Opn.struct Tryz.underlying45 (by kernel_rfl) (OpnF.cons (s := 1) rfl (by kernel_rfl) (Opn.bool Tryz.underlying4) (OpnF.cons (s := 5) rfl (by kernel_rfl) (opn_rec W) OpnF.nil))).map (fun p => (⟨p.1, p.2.1⟩ : ActF)) (fun _ => rfl) (fun _ _ => trivial)
theorem opn_acts (W : World) : Opn Tryz.prog W 22 slC (SlGood W 6 actF (fun _ => True)) := Opn.slice Tryz.underlying22 (by kernel_rfl) (by decide) (opn_act W)
structure QuV where
 a : AskV
 l : Int
 z : Rec
abbrev quE (p : QuV) : List Value := quC p.a p.l p.z
theorem opn_query (W : World) : Opn Tryz.prog W 34 quE (fun p => GoodQ W p.a) :=
 (Opn.struct Tryz.underlying34 (by kernel_rfl) (OpnF.cons (s := 4) rfl (by kernel_rfl) (opn_ask W) (OpnF.cons (s := 1) rfl (by kernel_rfl) (opn_int W) (OpnF.cons (s := 5) rfl (by kernel_rfl) (opn_rec W) OpnF.nil)))).map (fun p => (⟨p.1, p.2.1, p.2.2.1⟩ : QuV)) (fun _ => rfl) (fun _ h => h.1)
end Go.Proofs.YtklgiidfompdpaaGreatDoor
