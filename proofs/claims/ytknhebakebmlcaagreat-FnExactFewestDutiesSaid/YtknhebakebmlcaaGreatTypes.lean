/-
 The program's structs as data, and how they read in memory. Printed by a program of ours (gen_types.py).
-/
import Derived.Test.YtknhebakebmlcaaGreatMem
import Derived.Test.YtknhebakebmlcaaGreatProg
import Derived.KernelRfl
namespace Go.Proofs.YtknhebakebmlcaaGreat
open Go Go.RowKit
set_option linter.unusedVariables false
set_option maxRecDepth 100000

structure Span where
 From : Int
 To : Int
 deriving DecidableEq, Inhabited
structure SpanOk (t : Span) : Prop where
 i_From : I64 t.From
 i_To : I64 t.To
def rSpan : Rep Span := fun _ cs t => cs = [.int .i64 t.From, .int .i64 t.To] ∧ SpanOk t
instance : Stays rSpan := ⟨fun _ h => h⟩
abbrev oSpan : ORep Span := oFlat rSpan
structure RosterRules where
 MinRest : Int
 MaxRow : Int
 MaxWeek : Int
 deriving DecidableEq, Inhabited
structure Roster where
 Shifts : List Span
 Rules : RosterRules
 Plan : List (List Int)
 deriving DecidableEq, Inhabited
structure RosterAt (w : World) (sA0 : Option Addr) (sn0 sc0 : Nat) (sA1 : Option Addr) (sn1 sc1 : Nat) (t : Roster) : Prop where
 l_Shifts : Sl 2 rSpan w sA0 sn0 sc0 t.Shifts
 i_Rules_MinRest : I64 t.Rules.MinRest
 i_Rules_MaxRow : I64 t.Rules.MaxRow
 i_Rules_MaxWeek : I64 t.Rules.MaxWeek
 l_Plan : Sl 1 (rSl 1 rInt) w sA1 sn1 sc1 t.Plan
theorem RosterAt.later {w W : World} {sA0 : Option Addr} {sn0 sc0 : Nat} {sA1 : Option Addr} {sn1 sc1 : Nat} {t : Roster} (h : RosterAt w sA0 sn0 sc0 sA1 sn1 sc1 t) (hl : Later w W) : RosterAt W sA0 sn0 sc0 sA1 sn1 sc1 t :=
 ⟨h.l_Shifts.later hl, h.i_Rules_MinRest, h.i_Rules_MaxRow, h.i_Rules_MaxWeek, h.l_Plan.later hl⟩
structure RosterOw (w : World) (sA0 : Option Addr) (sn0 sc0 : Nat) (sA1 : Option Addr) (sn1 sc1 : Nat) (t : Roster) (sf0 sf1 : List Nat) : Prop where
 l_Shifts : OSl 2 oSpan w sA0 sn0 sc0 t.Shifts sf0
 i_Rules_MinRest : I64 t.Rules.MinRest
 i_Rules_MaxRow : I64 t.Rules.MaxRow
 i_Rules_MaxWeek : I64 t.Rules.MaxWeek
 l_Plan : OSl 1 (oSl 1 oInt) w sA1 sn1 sc1 t.Plan sf1
theorem RosterOw.keep {w W : World} {sA0 : Option Addr} {sn0 sc0 : Nat} {sA1 : Option Addr} {sn1 sc1 : Nat} {t : Roster} {sf0 sf1 : List Nat} (h : RosterOw w sA0 sn0 sc0 sA1 sn1 sc1 t sf0 sf1) (hk : ∀ g, g ∈ sf0 ++ sf1 → W.heap[g]? = w.heap[g]?) : RosterOw W sA0 sn0 sc0 sA1 sn1 sc1 t sf0 sf1 :=
 ⟨h.l_Shifts.keep fun g hg => hk g (List.mem_append_left _ hg), h.i_Rules_MinRest, h.i_Rules_MaxRow, h.i_Rules_MaxWeek, h.l_Plan.keep fun g hg => hk g (List.mem_append_right _ hg)⟩
theorem RosterOw.lt {w : World} {sA0 : Option Addr} {sn0 sc0 : Nat} {sA1 : Option Addr} {sn1 sc1 : Nat} {t : Roster} {sf0 sf1 : List Nat} (h : RosterOw w sA0 sn0 sc0 sA1 sn1 sc1 t sf0 sf1) : ∀ g, g ∈ sf0 ++ sf1 → g < w.heap.size := by
 intro g hg
 simp only [List.mem_append] at hg
 rcases hg with hg | hg
 ·exact h.l_Shifts.lt g hg
 ·exact h.l_Plan.lt g hg
theorem RosterOw.reads {w : World} {sA0 : Option Addr} {sn0 sc0 : Nat} {sA1 : Option Addr} {sn1 sc1 : Nat} {t : Roster} {sf0 sf1 : List Nat} (h : RosterOw w sA0 sn0 sc0 sA1 sn1 sc1 t sf0 sf1) : RosterAt w sA0 sn0 sc0 sA1 sn1 sc1 t :=
 ⟨h.l_Shifts.reads, h.i_Rules_MinRest, h.i_Rules_MaxRow, h.i_Rules_MaxWeek, h.l_Plan.reads⟩
theorem RosterOw.later {w W : World} {sA0 : Option Addr} {sn0 sc0 : Nat} {sA1 : Option Addr} {sn1 sc1 : Nat} {t : Roster} {sf0 sf1 : List Nat} (h : RosterOw w sA0 sn0 sc0 sA1 sn1 sc1 t sf0 sf1) (hl : Later w W) : RosterOw W sA0 sn0 sc0 sA1 sn1 sc1 t sf0 sf1 := h.keep fun g hg => hl.below.block g (h.lt g hg)
theorem RosterOw.setc {w : World} {sA0 : Option Addr} {sn0 sc0 : Nat} {sA1 : Option Addr} {sn1 sc1 : Nat} {t : Roster} {sf0 sf1 : List Nat} (h : RosterOw w sA0 sn0 sc0 sA1 sn1 sc1 t sf0 sf1) {b : Nat} (hb : b ∉ sf0 ++ sf1) (o : Nat) (v : Value) : RosterOw (w.setCell ⟨b, o, none⟩ v) sA0 sn0 sc0 sA1 sn1 sc1 t sf0 sf1 := h.keep fun g hg => Below.heap_setCell w ⟨b, o, none⟩ v g fun (e : g = b) => hb (e ▸ hg)
theorem RosterOw.touch {w W : World} {sA0 : Option Addr} {sn0 sc0 : Nat} {sA1 : Option Addr} {sn1 sc1 : Nat} {t : Roster} {sf0 sf1 fq : List Nat} (h : RosterOw w sA0 sn0 sc0 sA1 sn1 sc1 t sf0 sf1) (hT : Touch fq w W) (hd : ∀ g, g ∈ sf0 ++ sf1 → g ∉ fq) : RosterOw W sA0 sn0 sc0 sA1 sn1 sc1 t sf0 sf1 := h.keep fun g hg => hT.block g (h.lt g hg) (hd g hg)
structure Rules where
 SignOn : Int
 SignOff : Int
 MaxDrive : Int
 MinBreak : Int
 PaidBreak : Int
 MaxLength : Int
 deriving DecidableEq, Inhabited
structure RulesOk (t : Rules) : Prop where
 i_SignOn : I64 t.SignOn
 i_SignOff : I64 t.SignOff
 i_MaxDrive : I64 t.MaxDrive
 i_MinBreak : I64 t.MinBreak
 i_PaidBreak : I64 t.PaidBreak
 i_MaxLength : I64 t.MaxLength
def rRules : Rep Rules := fun _ cs t => cs = [.int .i64 t.SignOn, .int .i64 t.SignOff, .int .i64 t.MaxDrive, .int .i64 t.MinBreak, .int .i64 t.PaidBreak, .int .i64 t.MaxLength] ∧ RulesOk t
instance : Stays rRules := ⟨fun _ h => h⟩
theorem opens_laws_Rules : Opens Tryz.prog 33 rRules := by
 intro H enc w base spare held fuel cs x hx
 obtain ⟨xs, n, _, _, hlen, hxl, hf⟩ := DataW.trod_struct Tryz.underlying33 hx
 rw [show Tryz.prog.cellsOf 33 = 6 by kernel_rfl] at hlen
 match cs, hlen with
 | [k0, k1, k2, k3, k4, k5], _ =>
  match xs, hxl with
  | [y0, y1, y2, y3, y4, y5], _ =>
   have h0 : DataW.trod enc Tryz.prog w base spare held n 3 [k0] = some y0 := by
    have := hf 0 _ rfl
    rw [show Tryz.prog.cellsOf _ = 1 by kernel_rfl] at this
    simpa using this
   obtain ⟨d0, e0, g0⟩ := opens_int Tryz.underlying3 h0
   cases e0
   have h1 : DataW.trod enc Tryz.prog w base spare held n 3 [k1] = some y1 := by
    have := hf 1 _ rfl
    rw [show Tryz.prog.cellsOf _ = 1 by kernel_rfl] at this
    simpa using this
   obtain ⟨d1, e1, g1⟩ := opens_int Tryz.underlying3 h1
   cases e1
   have h2 : DataW.trod enc Tryz.prog w base spare held n 3 [k2] = some y2 := by
    have := hf 2 _ rfl
    rw [show Tryz.prog.cellsOf _ = 1 by kernel_rfl] at this
    simpa using this
   obtain ⟨d2, e2, g2⟩ := opens_int Tryz.underlying3 h2
   cases e2
   have h3 : DataW.trod enc Tryz.prog w base spare held n 3 [k3] = some y3 := by
    have := hf 3 _ rfl
    rw [show Tryz.prog.cellsOf _ = 1 by kernel_rfl] at this
    simpa using this
   obtain ⟨d3, e3, g3⟩ := opens_int Tryz.underlying3 h3
   cases e3
   have h4 : DataW.trod enc Tryz.prog w base spare held n 3 [k4] = some y4 := by
    have := hf 4 _ rfl
    rw [show Tryz.prog.cellsOf _ = 1 by kernel_rfl] at this
    simpa using this
   obtain ⟨d4, e4, g4⟩ := opens_int Tryz.underlying3 h4
   cases e4
   have h5 : DataW.trod enc Tryz.prog w base spare held n 3 [k5] = some y5 := by
    have := hf 5 _ rfl
    rw [show Tryz.prog.cellsOf _ = 1 by kernel_rfl] at this
    simpa using this
   obtain ⟨d5, e5, g5⟩ := opens_int Tryz.underlying3 h5
   cases e5
   exact ⟨⟨d0, d1, d2, d3, d4, d5⟩, rfl, ⟨g0, g1, g2, g3, g4, g5⟩⟩
structure Line where
 Name : ByteArray
 Stops : List Int
 Runs : List Int
 deriving DecidableEq, Inhabited
structure LineAt (w : World) (sA0 : Option Addr) (sn0 sc0 : Nat) (sA1 : Option Addr) (sn1 sc1 : Nat) (t : Line) : Prop where
 s_Name : t.Name.size ≤ maxLen
 l_Stops : Sl 1 rInt w sA0 sn0 sc0 t.Stops
 l_Runs : Sl 1 rInt w sA1 sn1 sc1 t.Runs
theorem LineAt.later {w W : World} {sA0 : Option Addr} {sn0 sc0 : Nat} {sA1 : Option Addr} {sn1 sc1 : Nat} {t : Line} (h : LineAt w sA0 sn0 sc0 sA1 sn1 sc1 t) (hl : Later w W) : LineAt W sA0 sn0 sc0 sA1 sn1 sc1 t :=
 ⟨h.s_Name, h.l_Stops.later hl, h.l_Runs.later hl⟩
def rLine : Rep Line := fun w cs t => ∃ sA0 sn0 sc0 sA1 sn1 sc1, cs = [.string t.Name, .slice sA0 sn0 sc0, .slice sA1 sn1 sc1] ∧ LineAt w sA0 sn0 sc0 sA1 sn1 sc1 t
instance : Stays rLine := ⟨fun hl ⟨sA0, sn0, sc0, sA1, sn1, sc1, e, h⟩ => ⟨sA0, sn0, sc0, sA1, sn1, sc1, e, h.later hl⟩⟩
structure LineOw (w : World) (sA0 : Option Addr) (sn0 sc0 : Nat) (sA1 : Option Addr) (sn1 sc1 : Nat) (t : Line) (sf0 sf1 : List Nat) : Prop where
 s_Name : t.Name.size ≤ maxLen
 l_Stops : OSl 1 oInt w sA0 sn0 sc0 t.Stops sf0
 l_Runs : OSl 1 oInt w sA1 sn1 sc1 t.Runs sf1
theorem LineOw.keep {w W : World} {sA0 : Option Addr} {sn0 sc0 : Nat} {sA1 : Option Addr} {sn1 sc1 : Nat} {t : Line} {sf0 sf1 : List Nat} (h : LineOw w sA0 sn0 sc0 sA1 sn1 sc1 t sf0 sf1) (hk : ∀ g, g ∈ sf0 ++ sf1 → W.heap[g]? = w.heap[g]?) : LineOw W sA0 sn0 sc0 sA1 sn1 sc1 t sf0 sf1 :=
 ⟨h.s_Name, h.l_Stops.keep fun g hg => hk g (List.mem_append_left _ hg), h.l_Runs.keep fun g hg => hk g (List.mem_append_right _ hg)⟩
theorem LineOw.lt {w : World} {sA0 : Option Addr} {sn0 sc0 : Nat} {sA1 : Option Addr} {sn1 sc1 : Nat} {t : Line} {sf0 sf1 : List Nat} (h : LineOw w sA0 sn0 sc0 sA1 sn1 sc1 t sf0 sf1) : ∀ g, g ∈ sf0 ++ sf1 → g < w.heap.size := by
 intro g hg
 simp only [List.mem_append] at hg
 rcases hg with hg | hg
 ·exact h.l_Stops.lt g hg
 ·exact h.l_Runs.lt g hg
theorem LineOw.reads {w : World} {sA0 : Option Addr} {sn0 sc0 : Nat} {sA1 : Option Addr} {sn1 sc1 : Nat} {t : Line} {sf0 sf1 : List Nat} (h : LineOw w sA0 sn0 sc0 sA1 sn1 sc1 t sf0 sf1) : LineAt w sA0 sn0 sc0 sA1 sn1 sc1 t :=
 ⟨h.s_Name, h.l_Stops.reads, h.l_Runs.reads⟩
theorem LineOw.later {w W : World} {sA0 : Option Addr} {sn0 sc0 : Nat} {sA1 : Option Addr} {sn1 sc1 : Nat} {t : Line} {sf0 sf1 : List Nat} (h : LineOw w sA0 sn0 sc0 sA1 sn1 sc1 t sf0 sf1) (hl : Later w W) : LineOw W sA0 sn0 sc0 sA1 sn1 sc1 t sf0 sf1 := h.keep fun g hg => hl.below.block g (h.lt g hg)
theorem LineOw.setc {w : World} {sA0 : Option Addr} {sn0 sc0 : Nat} {sA1 : Option Addr} {sn1 sc1 : Nat} {t : Line} {sf0 sf1 : List Nat} (h : LineOw w sA0 sn0 sc0 sA1 sn1 sc1 t sf0 sf1) {b : Nat} (hb : b ∉ sf0 ++ sf1) (o : Nat) (v : Value) : LineOw (w.setCell ⟨b, o, none⟩ v) sA0 sn0 sc0 sA1 sn1 sc1 t sf0 sf1 := h.keep fun g hg => Below.heap_setCell w ⟨b, o, none⟩ v g fun (e : g = b) => hb (e ▸ hg)
theorem LineOw.touch {w W : World} {sA0 : Option Addr} {sn0 sc0 : Nat} {sA1 : Option Addr} {sn1 sc1 : Nat} {t : Line} {sf0 sf1 fq : List Nat} (h : LineOw w sA0 sn0 sc0 sA1 sn1 sc1 t sf0 sf1) (hT : Touch fq w W) (hd : ∀ g, g ∈ sf0 ++ sf1 → g ∉ fq) : LineOw W sA0 sn0 sc0 sA1 sn1 sc1 t sf0 sf1 := h.keep fun g hg => hT.block g (h.lt g hg) (hd g hg)
def oLine : ORep Line := fun w cs t fp => ∃ sA0 sn0 sc0 sA1 sn1 sc1 sf0 sf1, cs = [.string t.Name, .slice sA0 sn0 sc0, .slice sA1 sn1 sc1] ∧ LineOw w sA0 sn0 sc0 sA1 sn1 sc1 t sf0 sf1 ∧ fp = sf0 ++ sf1
instance : OStays oLine := ⟨fun hk ⟨sA0, sn0, sc0, sA1, sn1, sc1, sf0, sf1, e, h, ef⟩ => ⟨sA0, sn0, sc0, sA1, sn1, sc1, sf0, sf1, e, h.keep (fun g hg => hk g (ef ▸ hg)), ef⟩, fun ⟨sA0, sn0, sc0, sA1, sn1, sc1, sf0, sf1, e, h, ef⟩ g hg => h.lt g (ef ▸ hg)⟩
instance : Owns oLine rLine := ⟨fun ⟨sA0, sn0, sc0, sA1, sn1, sc1, sf0, sf1, e, h, ef⟩ => ⟨sA0, sn0, sc0, sA1, sn1, sc1, e, h.reads⟩⟩
/-- A result that is such a struct, its slices in blocks of its own. -/
def RetOLine (t : Line) (w : World) (e : Ending) (w' : World) : Prop := ∃ sA0 sn0 sc0 sA1 sn1 sc1 sf0 sf1, e = .returned (.agg #[.string t.Name, .slice sA0 sn0 sc0, .slice sA1 sn1 sc1]) ∧ LineOw w' sA0 sn0 sc0 sA1 sn1 sc1 t sf0 sf1 ∧ (sf0 ++ sf1).Nodup ∧ (∀ g, g ∈ sf0 ++ sf1 → w.heap.size ≤ g) ∧ Later w w'
abbrev Lines := Sl 3 rLine
theorem Lines.at_ {w : World} {A : Option Addr} {n c : Nat} {l : List Line} (h : Lines w A n c l) {k : Nat} (hk : k < n) :
  ∃ b o sA0 sn0 sc0 sA1 sn1 sc1 x, A = some ⟨b, o, none⟩ ∧ Hid (l[k]? = some x) ∧ (∀ W [Later w W], W.cell? ⟨b, o + k * 3, none⟩ = some (.string x.Name)) ∧ (∀ W [Later w W], W.cell? ⟨b, o + k * 3 + 1, none⟩ = some (.slice sA0 sn0 sc0)) ∧ (∀ W [Later w W], W.cell? ⟨b, o + k * 3 + 2, none⟩ = some (.slice sA1 sn1 sc1)) ∧ LineAt w sA0 sn0 sc0 sA1 sn1 sc1 x := by
 have hl : k < l.length := by have := h.len; omega
 obtain ⟨b, o, es, ha, he, hc, hr⟩ := h.el k l[k] (List.getElem?_eq_getElem hl)
 obtain ⟨sA0, sn0, sc0, sA1, sn1, sc1, e, hr⟩ := hr
 cases e
 exact ⟨b, o, sA0, sn0, sc0, sA1, sn1, sc1, l[k], ha, List.getElem?_eq_getElem hl, Later.cells (by simpa using hc 0 _ rfl), Later.cells (by simpa using hc 1 _ rfl), Later.cells (by simpa using hc 2 _ rfl), hr⟩
theorem opens_laws_Line : Opens Tryz.prog 119 rLine := by
 intro H enc w base spare held fuel cs x hx
 obtain ⟨xs, n, _, _, hlen, hxl, hf⟩ := DataW.trod_struct Tryz.underlying119 hx
 rw [show Tryz.prog.cellsOf 119 = 3 by kernel_rfl] at hlen
 match cs, hlen with
 | [k0, k1, k2], _ =>
  match xs, hxl with
  | [y0, y1, y2], _ =>
   have h0 : DataW.trod enc Tryz.prog w base spare held n 9 [k0] = some y0 := by
    have := hf 0 _ rfl
    rw [show Tryz.prog.cellsOf _ = 1 by kernel_rfl] at this
    simpa using this
   obtain ⟨d0, e0, g0⟩ := opens_str Tryz.underlying9 h0
   cases e0
   have h1 : DataW.trod enc Tryz.prog w base spare held n 66 [k1] = some y1 := by
    have := hf 1 _ rfl
    rw [show Tryz.prog.cellsOf _ = 1 by kernel_rfl] at this
    simpa using this
   obtain ⟨d1, z1_0, z1_1, z1_2, e1, g1⟩ := opens_slice (sz := 1) Tryz.underlying66 (by kernel_rfl) (by decide) (opens_int Tryz.underlying3) h1
   cases e1
   have h2 : DataW.trod enc Tryz.prog w base spare held n 66 [k2] = some y2 := by
    have := hf 2 _ rfl
    rw [show Tryz.prog.cellsOf _ = 1 by kernel_rfl] at this
    simpa using this
   obtain ⟨d2, z2_0, z2_1, z2_2, e2, g2⟩ := opens_slice (sz := 1) Tryz.underlying66 (by kernel_rfl) (by decide) (opens_int Tryz.underlying3) h2
   cases e2
   exact ⟨⟨d0, d1, d2⟩, z1_0, z1_1, z1_2, z2_0, z2_1, z2_2, rfl, ⟨g0, g1, g2⟩⟩
structure Network where
 Stops : List ByteArray
 Lines : List Line
 deriving DecidableEq, Inhabited
structure NetworkAt (w : World) (sA0 : Option Addr) (sn0 sc0 : Nat) (sA1 : Option Addr) (sn1 sc1 : Nat) (t : Network) : Prop where
 l_Stops : Sl 1 rStr w sA0 sn0 sc0 t.Stops
 l_Lines : Sl 3 rLine w sA1 sn1 sc1 t.Lines
theorem NetworkAt.later {w W : World} {sA0 : Option Addr} {sn0 sc0 : Nat} {sA1 : Option Addr} {sn1 sc1 : Nat} {t : Network} (h : NetworkAt w sA0 sn0 sc0 sA1 sn1 sc1 t) (hl : Later w W) : NetworkAt W sA0 sn0 sc0 sA1 sn1 sc1 t :=
 ⟨h.l_Stops.later hl, h.l_Lines.later hl⟩
def rNetwork : Rep Network := fun w cs t => ∃ sA0 sn0 sc0 sA1 sn1 sc1, cs = [.slice sA0 sn0 sc0, .slice sA1 sn1 sc1] ∧ NetworkAt w sA0 sn0 sc0 sA1 sn1 sc1 t
instance : Stays rNetwork := ⟨fun hl ⟨sA0, sn0, sc0, sA1, sn1, sc1, e, h⟩ => ⟨sA0, sn0, sc0, sA1, sn1, sc1, e, h.later hl⟩⟩
structure NetworkOw (w : World) (sA0 : Option Addr) (sn0 sc0 : Nat) (sA1 : Option Addr) (sn1 sc1 : Nat) (t : Network) (sf0 sf1 : List Nat) : Prop where
 l_Stops : OSl 1 oStr w sA0 sn0 sc0 t.Stops sf0
 l_Lines : OSl 3 oLine w sA1 sn1 sc1 t.Lines sf1
theorem NetworkOw.keep {w W : World} {sA0 : Option Addr} {sn0 sc0 : Nat} {sA1 : Option Addr} {sn1 sc1 : Nat} {t : Network} {sf0 sf1 : List Nat} (h : NetworkOw w sA0 sn0 sc0 sA1 sn1 sc1 t sf0 sf1) (hk : ∀ g, g ∈ sf0 ++ sf1 → W.heap[g]? = w.heap[g]?) : NetworkOw W sA0 sn0 sc0 sA1 sn1 sc1 t sf0 sf1 :=
 ⟨h.l_Stops.keep fun g hg => hk g (List.mem_append_left _ hg), h.l_Lines.keep fun g hg => hk g (List.mem_append_right _ hg)⟩
theorem NetworkOw.lt {w : World} {sA0 : Option Addr} {sn0 sc0 : Nat} {sA1 : Option Addr} {sn1 sc1 : Nat} {t : Network} {sf0 sf1 : List Nat} (h : NetworkOw w sA0 sn0 sc0 sA1 sn1 sc1 t sf0 sf1) : ∀ g, g ∈ sf0 ++ sf1 → g < w.heap.size := by
 intro g hg
 simp only [List.mem_append] at hg
 rcases hg with hg | hg
 ·exact h.l_Stops.lt g hg
 ·exact h.l_Lines.lt g hg
theorem NetworkOw.reads {w : World} {sA0 : Option Addr} {sn0 sc0 : Nat} {sA1 : Option Addr} {sn1 sc1 : Nat} {t : Network} {sf0 sf1 : List Nat} (h : NetworkOw w sA0 sn0 sc0 sA1 sn1 sc1 t sf0 sf1) : NetworkAt w sA0 sn0 sc0 sA1 sn1 sc1 t :=
 ⟨h.l_Stops.reads, h.l_Lines.reads⟩
theorem NetworkOw.later {w W : World} {sA0 : Option Addr} {sn0 sc0 : Nat} {sA1 : Option Addr} {sn1 sc1 : Nat} {t : Network} {sf0 sf1 : List Nat} (h : NetworkOw w sA0 sn0 sc0 sA1 sn1 sc1 t sf0 sf1) (hl : Later w W) : NetworkOw W sA0 sn0 sc0 sA1 sn1 sc1 t sf0 sf1 := h.keep fun g hg => hl.below.block g (h.lt g hg)
theorem NetworkOw.setc {w : World} {sA0 : Option Addr} {sn0 sc0 : Nat} {sA1 : Option Addr} {sn1 sc1 : Nat} {t : Network} {sf0 sf1 : List Nat} (h : NetworkOw w sA0 sn0 sc0 sA1 sn1 sc1 t sf0 sf1) {b : Nat} (hb : b ∉ sf0 ++ sf1) (o : Nat) (v : Value) : NetworkOw (w.setCell ⟨b, o, none⟩ v) sA0 sn0 sc0 sA1 sn1 sc1 t sf0 sf1 := h.keep fun g hg => Below.heap_setCell w ⟨b, o, none⟩ v g fun (e : g = b) => hb (e ▸ hg)
theorem NetworkOw.touch {w W : World} {sA0 : Option Addr} {sn0 sc0 : Nat} {sA1 : Option Addr} {sn1 sc1 : Nat} {t : Network} {sf0 sf1 fq : List Nat} (h : NetworkOw w sA0 sn0 sc0 sA1 sn1 sc1 t sf0 sf1) (hT : Touch fq w W) (hd : ∀ g, g ∈ sf0 ++ sf1 → g ∉ fq) : NetworkOw W sA0 sn0 sc0 sA1 sn1 sc1 t sf0 sf1 := h.keep fun g hg => hT.block g (h.lt g hg) (hd g hg)
/-- A result that is such a struct, its slices in blocks of its own. -/
def RetONetwork (t : Network) (w : World) (e : Ending) (w' : World) : Prop := ∃ sA0 sn0 sc0 sA1 sn1 sc1 sf0 sf1, e = .returned (.agg #[.slice sA0 sn0 sc0, .slice sA1 sn1 sc1]) ∧ NetworkOw w' sA0 sn0 sc0 sA1 sn1 sc1 t sf0 sf1 ∧ (sf0 ++ sf1).Nodup ∧ (∀ g, g ∈ sf0 ++ sf1 → w.heap.size ≤ g) ∧ Later w w'
abbrev Networks := Sl 2 rNetwork
theorem Networks.at_ {w : World} {A : Option Addr} {n c : Nat} {l : List Network} (h : Networks w A n c l) {k : Nat} (hk : k < n) :
  ∃ b o sA0 sn0 sc0 sA1 sn1 sc1 x, A = some ⟨b, o, none⟩ ∧ Hid (l[k]? = some x) ∧ (∀ W [Later w W], W.cell? ⟨b, o + k * 2, none⟩ = some (.slice sA0 sn0 sc0)) ∧ (∀ W [Later w W], W.cell? ⟨b, o + k * 2 + 1, none⟩ = some (.slice sA1 sn1 sc1)) ∧ NetworkAt w sA0 sn0 sc0 sA1 sn1 sc1 x := by
 have hl : k < l.length := by have := h.len; omega
 obtain ⟨b, o, es, ha, he, hc, hr⟩ := h.el k l[k] (List.getElem?_eq_getElem hl)
 obtain ⟨sA0, sn0, sc0, sA1, sn1, sc1, e, hr⟩ := hr
 cases e
 exact ⟨b, o, sA0, sn0, sc0, sA1, sn1, sc1, l[k], ha, List.getElem?_eq_getElem hl, Later.cells (by simpa using hc 0 _ rfl), Later.cells (by simpa using hc 1 _ rfl), hr⟩
theorem opens_laws_Network : Opens Tryz.prog 25 rNetwork := by
 intro H enc w base spare held fuel cs x hx
 obtain ⟨xs, n, _, _, hlen, hxl, hf⟩ := DataW.trod_struct Tryz.underlying25 hx
 rw [show Tryz.prog.cellsOf 25 = 2 by kernel_rfl] at hlen
 match cs, hlen with
 | [k0, k1], _ =>
  match xs, hxl with
  | [y0, y1], _ =>
   have h0 : DataW.trod enc Tryz.prog w base spare held n 22 [k0] = some y0 := by
    have := hf 0 _ rfl
    rw [show Tryz.prog.cellsOf _ = 1 by kernel_rfl] at this
    simpa using this
   obtain ⟨d0, z0_0, z0_1, z0_2, e0, g0⟩ := opens_slice (sz := 1) Tryz.underlying22 (by kernel_rfl) (by decide) (opens_str Tryz.underlying9) h0
   cases e0
   have h1 : DataW.trod enc Tryz.prog w base spare held n 23 [k1] = some y1 := by
    have := hf 1 _ rfl
    rw [show Tryz.prog.cellsOf _ = 1 by kernel_rfl] at this
    simpa using this
   obtain ⟨d1, z1_0, z1_1, z1_2, e1, g1⟩ := opens_slice (sz := 3) Tryz.underlying23 (by kernel_rfl) (by decide) (opens_laws_Line) h1
   cases e1
   exact ⟨⟨d0, d1⟩, z0_0, z0_1, z0_2, z1_0, z1_1, z1_2, rfl, ⟨g0, g1⟩⟩
structure Fleet where
 Dead : List (List Int)
 Turn : Int
 deriving DecidableEq, Inhabited
structure FleetAt (w : World) (sA0 : Option Addr) (sn0 sc0 : Nat) (t : Fleet) : Prop where
 l_Dead : Sl 1 (rSl 1 rInt) w sA0 sn0 sc0 t.Dead
 i_Turn : I64 t.Turn
theorem FleetAt.later {w W : World} {sA0 : Option Addr} {sn0 sc0 : Nat} {t : Fleet} (h : FleetAt w sA0 sn0 sc0 t) (hl : Later w W) : FleetAt W sA0 sn0 sc0 t :=
 ⟨h.l_Dead.later hl, h.i_Turn⟩
def rFleet : Rep Fleet := fun w cs t => ∃ sA0 sn0 sc0, cs = [.slice sA0 sn0 sc0, .int .i64 t.Turn] ∧ FleetAt w sA0 sn0 sc0 t
instance : Stays rFleet := ⟨fun hl ⟨sA0, sn0, sc0, e, h⟩ => ⟨sA0, sn0, sc0, e, h.later hl⟩⟩
structure FleetOw (w : World) (sA0 : Option Addr) (sn0 sc0 : Nat) (t : Fleet) (sf0 : List Nat) : Prop where
 l_Dead : OSl 1 (oSl 1 oInt) w sA0 sn0 sc0 t.Dead sf0
 i_Turn : I64 t.Turn
theorem FleetOw.keep {w W : World} {sA0 : Option Addr} {sn0 sc0 : Nat} {t : Fleet} {sf0 : List Nat} (h : FleetOw w sA0 sn0 sc0 t sf0) (hk : ∀ g, g ∈ sf0 → W.heap[g]? = w.heap[g]?) : FleetOw W sA0 sn0 sc0 t sf0 :=
 ⟨h.l_Dead.keep fun g hg => hk g hg, h.i_Turn⟩
theorem FleetOw.lt {w : World} {sA0 : Option Addr} {sn0 sc0 : Nat} {t : Fleet} {sf0 : List Nat} (h : FleetOw w sA0 sn0 sc0 t sf0) : ∀ g, g ∈ sf0 → g < w.heap.size := by
 intro g hg
 exact h.l_Dead.lt g hg
theorem FleetOw.reads {w : World} {sA0 : Option Addr} {sn0 sc0 : Nat} {t : Fleet} {sf0 : List Nat} (h : FleetOw w sA0 sn0 sc0 t sf0) : FleetAt w sA0 sn0 sc0 t :=
 ⟨h.l_Dead.reads, h.i_Turn⟩
theorem FleetOw.later {w W : World} {sA0 : Option Addr} {sn0 sc0 : Nat} {t : Fleet} {sf0 : List Nat} (h : FleetOw w sA0 sn0 sc0 t sf0) (hl : Later w W) : FleetOw W sA0 sn0 sc0 t sf0 := h.keep fun g hg => hl.below.block g (h.lt g hg)
theorem FleetOw.setc {w : World} {sA0 : Option Addr} {sn0 sc0 : Nat} {t : Fleet} {sf0 : List Nat} (h : FleetOw w sA0 sn0 sc0 t sf0) {b : Nat} (hb : b ∉ sf0) (o : Nat) (v : Value) : FleetOw (w.setCell ⟨b, o, none⟩ v) sA0 sn0 sc0 t sf0 := h.keep fun g hg => Below.heap_setCell w ⟨b, o, none⟩ v g fun (e : g = b) => hb (e ▸ hg)
theorem FleetOw.touch {w W : World} {sA0 : Option Addr} {sn0 sc0 : Nat} {t : Fleet} {sf0 fq : List Nat} (h : FleetOw w sA0 sn0 sc0 t sf0) (hT : Touch fq w W) (hd : ∀ g, g ∈ sf0 → g ∉ fq) : FleetOw W sA0 sn0 sc0 t sf0 := h.keep fun g hg => hT.block g (h.lt g hg) (hd g hg)
/-- A result that is such a struct, its slices in blocks of its own. -/
def RetOFleet (t : Fleet) (w : World) (e : Ending) (w' : World) : Prop := ∃ sA0 sn0 sc0 sf0, e = .returned (.agg #[.slice sA0 sn0 sc0, .int .i64 t.Turn]) ∧ FleetOw w' sA0 sn0 sc0 t sf0 ∧ (sf0).Nodup ∧ (∀ g, g ∈ sf0 → w.heap.size ≤ g) ∧ Later w w'
abbrev Fleets := Sl 2 rFleet
theorem Fleets.at_ {w : World} {A : Option Addr} {n c : Nat} {l : List Fleet} (h : Fleets w A n c l) {k : Nat} (hk : k < n) :
  ∃ b o sA0 sn0 sc0 x, A = some ⟨b, o, none⟩ ∧ Hid (l[k]? = some x) ∧ (∀ W [Later w W], W.cell? ⟨b, o + k * 2, none⟩ = some (.slice sA0 sn0 sc0)) ∧ (∀ W [Later w W], W.cell? ⟨b, o + k * 2 + 1, none⟩ = some (.int .i64 x.Turn)) ∧ FleetAt w sA0 sn0 sc0 x := by
 have hl : k < l.length := by have := h.len; omega
 obtain ⟨b, o, es, ha, he, hc, hr⟩ := h.el k l[k] (List.getElem?_eq_getElem hl)
 obtain ⟨sA0, sn0, sc0, e, hr⟩ := hr
 cases e
 exact ⟨b, o, sA0, sn0, sc0, l[k], ha, List.getElem?_eq_getElem hl, Later.cells (by simpa using hc 0 _ rfl), Later.cells (by simpa using hc 1 _ rfl), hr⟩
theorem opens_laws_Fleet : Opens Tryz.prog 31 rFleet := by
 intro H enc w base spare held fuel cs x hx
 obtain ⟨xs, n, _, _, hlen, hxl, hf⟩ := DataW.trod_struct Tryz.underlying31 hx
 rw [show Tryz.prog.cellsOf 31 = 2 by kernel_rfl] at hlen
 match cs, hlen with
 | [k0, k1], _ =>
  match xs, hxl with
  | [y0, y1], _ =>
   have h0 : DataW.trod enc Tryz.prog w base spare held n 29 [k0] = some y0 := by
    have := hf 0 _ rfl
    rw [show Tryz.prog.cellsOf _ = 1 by kernel_rfl] at this
    simpa using this
   obtain ⟨d0, z0_0, z0_1, z0_2, e0, g0⟩ := opens_slice (sz := 1) Tryz.underlying29 (by kernel_rfl) (by decide) (opens_slice (sz := 1) Tryz.underlying66 (by kernel_rfl) (by decide) (opens_int Tryz.underlying3)) h0
   cases e0
   have h1 : DataW.trod enc Tryz.prog w base spare held n 3 [k1] = some y1 := by
    have := hf 1 _ rfl
    rw [show Tryz.prog.cellsOf _ = 1 by kernel_rfl] at this
    simpa using this
   obtain ⟨d1, e1, g1⟩ := opens_int Tryz.underlying3 h1
   cases e1
   exact ⟨⟨d0, d1⟩, z0_0, z0_1, z0_2, rfl, ⟨g0, g1⟩⟩
structure Trip where
 Id : Int
 Line : Int
 Start : Int
 deriving DecidableEq, Inhabited
structure TripOk (t : Trip) : Prop where
 i_Id : I64 t.Id
 i_Line : I64 t.Line
 i_Start : I64 t.Start
def rTrip : Rep Trip := fun _ cs t => cs = [.int .i64 t.Id, .int .i64 t.Line, .int .i64 t.Start] ∧ TripOk t
instance : Stays rTrip := ⟨fun _ h => h⟩
abbrev oTrip : ORep Trip := oFlat rTrip
abbrev Trips := Sl 3 rTrip
theorem Trips.at_ {w : World} {A : Option Addr} {n c : Nat} {l : List Trip} (h : Trips w A n c l) {k : Nat} (hk : k < n) :
  ∃ b o  x, A = some ⟨b, o, none⟩ ∧ Hid (l[k]? = some x) ∧ (∀ W [Later w W], W.cell? ⟨b, o + k * 3, none⟩ = some (.int .i64 x.Id)) ∧ (∀ W [Later w W], W.cell? ⟨b, o + k * 3 + 1, none⟩ = some (.int .i64 x.Line)) ∧ (∀ W [Later w W], W.cell? ⟨b, o + k * 3 + 2, none⟩ = some (.int .i64 x.Start)) ∧ TripOk x := by
 have hl : k < l.length := by have := h.len; omega
 obtain ⟨b, o, es, ha, he, hc, hr⟩ := h.el k l[k] (List.getElem?_eq_getElem hl)
 obtain ⟨e, hr⟩ := hr
 cases e
 exact ⟨b, o, l[k], ha, List.getElem?_eq_getElem hl, Later.cells (by simpa using hc 0 _ rfl), Later.cells (by simpa using hc 1 _ rfl), Later.cells (by simpa using hc 2 _ rfl), hr⟩
theorem opens_laws_Trip : Opens Tryz.prog 87 rTrip := by
 intro H enc w base spare held fuel cs x hx
 obtain ⟨xs, n, _, _, hlen, hxl, hf⟩ := DataW.trod_struct Tryz.underlying87 hx
 rw [show Tryz.prog.cellsOf 87 = 3 by kernel_rfl] at hlen
 match cs, hlen with
 | [k0, k1, k2], _ =>
  match xs, hxl with
  | [y0, y1, y2], _ =>
   have h0 : DataW.trod enc Tryz.prog w base spare held n 3 [k0] = some y0 := by
    have := hf 0 _ rfl
    rw [show Tryz.prog.cellsOf _ = 1 by kernel_rfl] at this
    simpa using this
   obtain ⟨d0, e0, g0⟩ := opens_int Tryz.underlying3 h0
   cases e0
   have h1 : DataW.trod enc Tryz.prog w base spare held n 3 [k1] = some y1 := by
    have := hf 1 _ rfl
    rw [show Tryz.prog.cellsOf _ = 1 by kernel_rfl] at this
    simpa using this
   obtain ⟨d1, e1, g1⟩ := opens_int Tryz.underlying3 h1
   cases e1
   have h2 : DataW.trod enc Tryz.prog w base spare held n 3 [k2] = some y2 := by
    have := hf 2 _ rfl
    rw [show Tryz.prog.cellsOf _ = 1 by kernel_rfl] at this
    simpa using this
   obtain ⟨d2, e2, g2⟩ := opens_int Tryz.underlying3 h2
   cases e2
   exact ⟨⟨d0, d1, d2⟩, rfl, ⟨g0, g1, g2⟩⟩
structure Timetable where
 Network : Network
 Trips : List Trip
 deriving DecidableEq, Inhabited
structure TimetableAt (w : World) (sA0 : Option Addr) (sn0 sc0 : Nat) (sA1 : Option Addr) (sn1 sc1 : Nat) (sA2 : Option Addr) (sn2 sc2 : Nat) (t : Timetable) : Prop where
 l_Network_Stops : Sl 1 rStr w sA0 sn0 sc0 t.Network.Stops
 l_Network_Lines : Sl 3 rLine w sA1 sn1 sc1 t.Network.Lines
 l_Trips : Sl 3 rTrip w sA2 sn2 sc2 t.Trips
theorem TimetableAt.later {w W : World} {sA0 : Option Addr} {sn0 sc0 : Nat} {sA1 : Option Addr} {sn1 sc1 : Nat} {sA2 : Option Addr} {sn2 sc2 : Nat} {t : Timetable} (h : TimetableAt w sA0 sn0 sc0 sA1 sn1 sc1 sA2 sn2 sc2 t) (hl : Later w W) : TimetableAt W sA0 sn0 sc0 sA1 sn1 sc1 sA2 sn2 sc2 t :=
 ⟨h.l_Network_Stops.later hl, h.l_Network_Lines.later hl, h.l_Trips.later hl⟩
def rTimetable : Rep Timetable := fun w cs t => ∃ sA0 sn0 sc0 sA1 sn1 sc1 sA2 sn2 sc2, cs = [.slice sA0 sn0 sc0, .slice sA1 sn1 sc1, .slice sA2 sn2 sc2] ∧ TimetableAt w sA0 sn0 sc0 sA1 sn1 sc1 sA2 sn2 sc2 t
instance : Stays rTimetable := ⟨fun hl ⟨sA0, sn0, sc0, sA1, sn1, sc1, sA2, sn2, sc2, e, h⟩ => ⟨sA0, sn0, sc0, sA1, sn1, sc1, sA2, sn2, sc2, e, h.later hl⟩⟩
structure TimetableOw (w : World) (sA0 : Option Addr) (sn0 sc0 : Nat) (sA1 : Option Addr) (sn1 sc1 : Nat) (sA2 : Option Addr) (sn2 sc2 : Nat) (t : Timetable) (sf0 sf1 sf2 : List Nat) : Prop where
 l_Network_Stops : OSl 1 oStr w sA0 sn0 sc0 t.Network.Stops sf0
 l_Network_Lines : OSl 3 oLine w sA1 sn1 sc1 t.Network.Lines sf1
 l_Trips : OSl 3 oTrip w sA2 sn2 sc2 t.Trips sf2
theorem TimetableOw.keep {w W : World} {sA0 : Option Addr} {sn0 sc0 : Nat} {sA1 : Option Addr} {sn1 sc1 : Nat} {sA2 : Option Addr} {sn2 sc2 : Nat} {t : Timetable} {sf0 sf1 sf2 : List Nat} (h : TimetableOw w sA0 sn0 sc0 sA1 sn1 sc1 sA2 sn2 sc2 t sf0 sf1 sf2) (hk : ∀ g, g ∈ sf0 ++ (sf1 ++ sf2) → W.heap[g]? = w.heap[g]?) : TimetableOw W sA0 sn0 sc0 sA1 sn1 sc1 sA2 sn2 sc2 t sf0 sf1 sf2 :=
 ⟨h.l_Network_Stops.keep fun g hg => hk g (List.mem_append_left _ hg), h.l_Network_Lines.keep fun g hg => hk g (List.mem_append_right _ (List.mem_append_left _ hg)), h.l_Trips.keep fun g hg => hk g (List.mem_append_right _ (List.mem_append_right _ hg))⟩
theorem TimetableOw.lt {w : World} {sA0 : Option Addr} {sn0 sc0 : Nat} {sA1 : Option Addr} {sn1 sc1 : Nat} {sA2 : Option Addr} {sn2 sc2 : Nat} {t : Timetable} {sf0 sf1 sf2 : List Nat} (h : TimetableOw w sA0 sn0 sc0 sA1 sn1 sc1 sA2 sn2 sc2 t sf0 sf1 sf2) : ∀ g, g ∈ sf0 ++ (sf1 ++ sf2) → g < w.heap.size := by
 intro g hg
 simp only [List.mem_append] at hg
 rcases hg with hg | hg | hg
 ·exact h.l_Network_Stops.lt g hg
 ·exact h.l_Network_Lines.lt g hg
 ·exact h.l_Trips.lt g hg
theorem TimetableOw.reads {w : World} {sA0 : Option Addr} {sn0 sc0 : Nat} {sA1 : Option Addr} {sn1 sc1 : Nat} {sA2 : Option Addr} {sn2 sc2 : Nat} {t : Timetable} {sf0 sf1 sf2 : List Nat} (h : TimetableOw w sA0 sn0 sc0 sA1 sn1 sc1 sA2 sn2 sc2 t sf0 sf1 sf2) : TimetableAt w sA0 sn0 sc0 sA1 sn1 sc1 sA2 sn2 sc2 t :=
 ⟨h.l_Network_Stops.reads, h.l_Network_Lines.reads, h.l_Trips.reads⟩
theorem TimetableOw.later {w W : World} {sA0 : Option Addr} {sn0 sc0 : Nat} {sA1 : Option Addr} {sn1 sc1 : Nat} {sA2 : Option Addr} {sn2 sc2 : Nat} {t : Timetable} {sf0 sf1 sf2 : List Nat} (h : TimetableOw w sA0 sn0 sc0 sA1 sn1 sc1 sA2 sn2 sc2 t sf0 sf1 sf2) (hl : Later w W) : TimetableOw W sA0 sn0 sc0 sA1 sn1 sc1 sA2 sn2 sc2 t sf0 sf1 sf2 := h.keep fun g hg => hl.below.block g (h.lt g hg)
theorem TimetableOw.setc {w : World} {sA0 : Option Addr} {sn0 sc0 : Nat} {sA1 : Option Addr} {sn1 sc1 : Nat} {sA2 : Option Addr} {sn2 sc2 : Nat} {t : Timetable} {sf0 sf1 sf2 : List Nat} (h : TimetableOw w sA0 sn0 sc0 sA1 sn1 sc1 sA2 sn2 sc2 t sf0 sf1 sf2) {b : Nat} (hb : b ∉ sf0 ++ (sf1 ++ sf2)) (o : Nat) (v : Value) : TimetableOw (w.setCell ⟨b, o, none⟩ v) sA0 sn0 sc0 sA1 sn1 sc1 sA2 sn2 sc2 t sf0 sf1 sf2 := h.keep fun g hg => Below.heap_setCell w ⟨b, o, none⟩ v g fun (e : g = b) => hb (e ▸ hg)
theorem TimetableOw.touch {w W : World} {sA0 : Option Addr} {sn0 sc0 : Nat} {sA1 : Option Addr} {sn1 sc1 : Nat} {sA2 : Option Addr} {sn2 sc2 : Nat} {t : Timetable} {sf0 sf1 sf2 fq : List Nat} (h : TimetableOw w sA0 sn0 sc0 sA1 sn1 sc1 sA2 sn2 sc2 t sf0 sf1 sf2) (hT : Touch fq w W) (hd : ∀ g, g ∈ sf0 ++ (sf1 ++ sf2) → g ∉ fq) : TimetableOw W sA0 sn0 sc0 sA1 sn1 sc1 sA2 sn2 sc2 t sf0 sf1 sf2 := h.keep fun g hg => hT.block g (h.lt g hg) (hd g hg)
/-- A result that is such a struct, its slices in blocks of its own. -/
def RetOTimetable (t : Timetable) (w : World) (e : Ending) (w' : World) : Prop := ∃ sA0 sn0 sc0 sA1 sn1 sc1 sA2 sn2 sc2 sf0 sf1 sf2, e = .returned (.agg #[.slice sA0 sn0 sc0, .slice sA1 sn1 sc1, .slice sA2 sn2 sc2]) ∧ TimetableOw w' sA0 sn0 sc0 sA1 sn1 sc1 sA2 sn2 sc2 t sf0 sf1 sf2 ∧ (sf0 ++ (sf1 ++ sf2)).Nodup ∧ (∀ g, g ∈ sf0 ++ (sf1 ++ sf2) → w.heap.size ≤ g) ∧ Later w w'
abbrev Timetables := Sl 3 rTimetable
theorem Timetables.at_ {w : World} {A : Option Addr} {n c : Nat} {l : List Timetable} (h : Timetables w A n c l) {k : Nat} (hk : k < n) :
  ∃ b o sA0 sn0 sc0 sA1 sn1 sc1 sA2 sn2 sc2 x, A = some ⟨b, o, none⟩ ∧ Hid (l[k]? = some x) ∧ (∀ W [Later w W], W.cell? ⟨b, o + k * 3, none⟩ = some (.slice sA0 sn0 sc0)) ∧ (∀ W [Later w W], W.cell? ⟨b, o + k * 3 + 1, none⟩ = some (.slice sA1 sn1 sc1)) ∧ (∀ W [Later w W], W.cell? ⟨b, o + k * 3 + 2, none⟩ = some (.slice sA2 sn2 sc2)) ∧ TimetableAt w sA0 sn0 sc0 sA1 sn1 sc1 sA2 sn2 sc2 x := by
 have hl : k < l.length := by have := h.len; omega
 obtain ⟨b, o, es, ha, he, hc, hr⟩ := h.el k l[k] (List.getElem?_eq_getElem hl)
 obtain ⟨sA0, sn0, sc0, sA1, sn1, sc1, sA2, sn2, sc2, e, hr⟩ := hr
 cases e
 exact ⟨b, o, sA0, sn0, sc0, sA1, sn1, sc1, sA2, sn2, sc2, l[k], ha, List.getElem?_eq_getElem hl, Later.cells (by simpa using hc 0 _ rfl), Later.cells (by simpa using hc 1 _ rfl), Later.cells (by simpa using hc 2 _ rfl), hr⟩
theorem opens_laws_Timetable : Opens Tryz.prog 28 rTimetable := by
 intro H enc w base spare held fuel cs x hx
 obtain ⟨xs, n, _, _, hlen, hxl, hf⟩ := DataW.trod_struct Tryz.underlying28 hx
 rw [show Tryz.prog.cellsOf 28 = 3 by kernel_rfl] at hlen
 match cs, hlen with
 | [k0, k1, k2], _ =>
  match xs, hxl with
  | [y0, y1], _ =>
   have h0 : DataW.trod enc Tryz.prog w base spare held n 25 [k0, k1] = some y0 := by
    have := hf 0 _ rfl
    rw [show Tryz.prog.cellsOf _ = 2 by kernel_rfl] at this
    simpa using this
   obtain ⟨d0, z0_0, z0_1, z0_2, z0_3, z0_4, z0_5, e0, g0⟩ := opens_laws_Network h0
   cases e0
   have h1 : DataW.trod enc Tryz.prog w base spare held n 26 [k2] = some y1 := by
    have := hf 1 _ rfl
    rw [show Tryz.prog.cellsOf _ = 1 by kernel_rfl] at this
    simpa using this
   obtain ⟨d1, z1_0, z1_1, z1_2, e1, g1⟩ := opens_slice (sz := 3) Tryz.underlying26 (by kernel_rfl) (by decide) (opens_laws_Trip) h1
   cases e1
   exact ⟨⟨d0, d1⟩, z0_0, z0_1, z0_2, z0_3, z0_4, z0_5, z1_0, z1_1, z1_2, rfl, ⟨g0.l_Stops, g0.l_Lines, g1⟩⟩
structure Duty where
 Pieces : List (List Int)
 deriving DecidableEq, Inhabited
structure DutyAt (w : World) (sA0 : Option Addr) (sn0 sc0 : Nat) (t : Duty) : Prop where
 l_Pieces : Sl 1 (rSl 1 rInt) w sA0 sn0 sc0 t.Pieces
theorem DutyAt.later {w W : World} {sA0 : Option Addr} {sn0 sc0 : Nat} {t : Duty} (h : DutyAt w sA0 sn0 sc0 t) (hl : Later w W) : DutyAt W sA0 sn0 sc0 t :=
 ⟨h.l_Pieces.later hl⟩
def rDuty : Rep Duty := fun w cs t => ∃ sA0 sn0 sc0, cs = [.slice sA0 sn0 sc0] ∧ DutyAt w sA0 sn0 sc0 t
instance : Stays rDuty := ⟨fun hl ⟨sA0, sn0, sc0, e, h⟩ => ⟨sA0, sn0, sc0, e, h.later hl⟩⟩
structure DutyOw (w : World) (sA0 : Option Addr) (sn0 sc0 : Nat) (t : Duty) (sf0 : List Nat) : Prop where
 l_Pieces : OSl 1 (oSl 1 oInt) w sA0 sn0 sc0 t.Pieces sf0
theorem DutyOw.keep {w W : World} {sA0 : Option Addr} {sn0 sc0 : Nat} {t : Duty} {sf0 : List Nat} (h : DutyOw w sA0 sn0 sc0 t sf0) (hk : ∀ g, g ∈ sf0 → W.heap[g]? = w.heap[g]?) : DutyOw W sA0 sn0 sc0 t sf0 :=
 ⟨h.l_Pieces.keep fun g hg => hk g hg⟩
theorem DutyOw.lt {w : World} {sA0 : Option Addr} {sn0 sc0 : Nat} {t : Duty} {sf0 : List Nat} (h : DutyOw w sA0 sn0 sc0 t sf0) : ∀ g, g ∈ sf0 → g < w.heap.size := by
 intro g hg
 exact h.l_Pieces.lt g hg
theorem DutyOw.reads {w : World} {sA0 : Option Addr} {sn0 sc0 : Nat} {t : Duty} {sf0 : List Nat} (h : DutyOw w sA0 sn0 sc0 t sf0) : DutyAt w sA0 sn0 sc0 t :=
 ⟨h.l_Pieces.reads⟩
theorem DutyOw.later {w W : World} {sA0 : Option Addr} {sn0 sc0 : Nat} {t : Duty} {sf0 : List Nat} (h : DutyOw w sA0 sn0 sc0 t sf0) (hl : Later w W) : DutyOw W sA0 sn0 sc0 t sf0 := h.keep fun g hg => hl.below.block g (h.lt g hg)
theorem DutyOw.setc {w : World} {sA0 : Option Addr} {sn0 sc0 : Nat} {t : Duty} {sf0 : List Nat} (h : DutyOw w sA0 sn0 sc0 t sf0) {b : Nat} (hb : b ∉ sf0) (o : Nat) (v : Value) : DutyOw (w.setCell ⟨b, o, none⟩ v) sA0 sn0 sc0 t sf0 := h.keep fun g hg => Below.heap_setCell w ⟨b, o, none⟩ v g fun (e : g = b) => hb (e ▸ hg)
theorem DutyOw.touch {w W : World} {sA0 : Option Addr} {sn0 sc0 : Nat} {t : Duty} {sf0 fq : List Nat} (h : DutyOw w sA0 sn0 sc0 t sf0) (hT : Touch fq w W) (hd : ∀ g, g ∈ sf0 → g ∉ fq) : DutyOw W sA0 sn0 sc0 t sf0 := h.keep fun g hg => hT.block g (h.lt g hg) (hd g hg)
def oDuty : ORep Duty := fun w cs t fp => ∃ sA0 sn0 sc0 sf0, cs = [.slice sA0 sn0 sc0] ∧ DutyOw w sA0 sn0 sc0 t sf0 ∧ fp = sf0
instance : OStays oDuty := ⟨fun hk ⟨sA0, sn0, sc0, sf0, e, h, ef⟩ => ⟨sA0, sn0, sc0, sf0, e, h.keep (fun g hg => hk g (ef ▸ hg)), ef⟩, fun ⟨sA0, sn0, sc0, sf0, e, h, ef⟩ g hg => h.lt g (ef ▸ hg)⟩
instance : Owns oDuty rDuty := ⟨fun ⟨sA0, sn0, sc0, sf0, e, h, ef⟩ => ⟨sA0, sn0, sc0, e, h.reads⟩⟩
abbrev Dutys := Sl 1 rDuty
theorem Dutys.at_ {w : World} {A : Option Addr} {n c : Nat} {l : List Duty} (h : Dutys w A n c l) {k : Nat} (hk : k < n) :
  ∃ b o sA0 sn0 sc0 x, A = some ⟨b, o, none⟩ ∧ Hid (l[k]? = some x) ∧ (∀ W [Later w W], W.cell? ⟨b, o + k, none⟩ = some (.slice sA0 sn0 sc0)) ∧ DutyAt w sA0 sn0 sc0 x := by
 have hl : k < l.length := by have := h.len; omega
 obtain ⟨b, o, es, ha, he, hc, hr⟩ := h.el k l[k] (List.getElem?_eq_getElem hl)
 obtain ⟨sA0, sn0, sc0, e, hr⟩ := hr
 cases e
 exact ⟨b, o, sA0, sn0, sc0, l[k], ha, List.getElem?_eq_getElem hl, Later.cells (by simpa using hc 0 _ rfl), hr⟩
end Go.Proofs.YtknhebakebmlcaaGreat
