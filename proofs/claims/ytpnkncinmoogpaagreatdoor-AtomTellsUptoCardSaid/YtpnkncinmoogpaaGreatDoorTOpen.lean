/- What the rows of this seat share: arguments read, the row's end, the tables. -/
import Derived.Test.YtpnkncinmoogpaaGreatDoorChAtomP
import Derived.Test.YtpnkncinmoogpaaGreatDoorCards
import Derived.Test.YtpnkncinmoogpaaGreatDoorTie
import Derived.WalkKit
import Derived.ProofKit
import Derived.OpenShut
import Derived.ReadAgain
import Derived.Deep.Slices
import Derived.Deep.DeepHandedRow
import Derived.Lib.LaidTab
import Derived.Test.YtpnkncinmoogpaaGreatDoorTLib
import Derived.Lib.LaidU8
set_option linter.unusedVariables false
namespace Go.Proofs.YtpnkncinmoogpaaGreatDoor
open Go.ChangeShapes Go.WideShapes Go.ChangeAt Go.RowKit Go.Eng Go.Ch Go.Deep

/-- The row's end, for a call that changes nothing that was there. -/
theorem post_of_below {H : Type} {enc : TypeId × Value → H} {P : Program} {f : Func} {s : ChangeSpec} {apart fresh handsOn again : Bool} {W W' : World} {args : Array Value} {v : Value} {ds gs : List (DataW H)} {before pa pv : List MemPlace}
    (hW : DataW.Whole enc P f.params.toList s.vars apart W args.toList ds gs before)
    (hres : ∀ (b : Nat) (sp : Nat → Bool) (hd : Bool), DataW.TrodAll enc P W' b sp hd f.resultTypes.toList (v.resultList f.resultTypes.size) (s.fn H (ds ++ gs)).results [])
    (hargs : ∀ sp : Nat → Bool, (∀ p ∈ before, sp p.block = true) → DataW.TrodAll enc P W' 0 sp true f.params.toList args.toList (s.fn H (ds ++ gs)).args pa)
    (hvars : ∀ sp : Nat → Bool, (∀ p ∈ before, sp p.block = true) → DataW.TrodVars enc P W' sp s.vars (s.fn H (ds ++ gs)).vars pv)
    (hps : before = pa ++ pv) (hb : Below W.heap.size W W')
    (hok : ∀ (j : Nat) (t : TypeId) (r : Value), f.resultTypes[j]? = some t → (v.resultList f.resultTypes.size)[j]? = some r → Value.okWide P W' .any 0 t r) :
    s.post enc P f apart fresh handsOn again W args v W' := by
  have hlt : ∀ p ∈ before, p.block < W.heap.size := fun p hp => hW.lt p hp
  have hold : ∀ p ∈ before, (fun b => decide (b < W.heap.size)) p.block = true := fun p hp => by simpa using hlt p hp
  refine ⟨ds, gs, before, [], pa, pv, hW, hres _ _ _, hargs _ hold, hvars _ hold, World.keptBut_mono (fun p hp => ⟨hp, ?_⟩) (hb.frame _), fun _ => ?_⟩
  · rw [hps, List.mem_append] at hp
    exact Or.inr hp
  · obtain ⟨_, _, _, _, _, hz, hn⟩ := hW
    refine ⟨hok, _, _, ([] ++ pa) ++ pv, ⟨[] ++ pa, pv, trodAll_append (hargs _ (fun _ _ => rfl)) (hres _ _ _), hvars _ (fun _ _ => rfl), rfl, ?_, ?_⟩, ?_⟩
    · intro b off hp
      have hm : MemPlace.cell b off ∈ before := by rw [hps]; simpa using hp
      rw [World.frozen?_of_block (a := ⟨b, off, none⟩) (hb.block b (hlt _ hm))]
      exact hz b off hm
    · intro ha
      have := hn ha
      rw [hps] at this
      simpa using this
    · intro p hp _
      rw [hps]
      simpa using hp

/-- What was read reads the same where the old blocks are kept. -/
theorem trodAll_carry {H : Type} {enc : TypeId × Value → H} {P : Program} {W W' : World} {sp : Nat → Bool} : ∀ {ts : List TypeId} {vs : List Value} {ds : List (DataW H)} {ps : List MemPlace},
    DataW.TrodAll enc P W 0 sp true ts vs ds ps → (∀ p ∈ ps, W.sameAt W' p) → DataW.TrodAll enc P W' 0 sp true ts vs ds ps
  | [], [], [], _, h, _ => h
  | _ :: _, _ :: _, _ :: _, _, ⟨p, q, ⟨n, h1⟩, h2, e⟩, hs => ⟨p, q, ⟨n, DataW.trod_carry n _ _ _ h1 (fun x hx => hs x (by rw [e]; exact List.mem_append_left _ hx))⟩, trodAll_carry h2 (fun x hx => hs x (by rw [e]; exact List.mem_append_right _ hx)), e⟩
theorem kids : Kids Tryz.prog (· < Tryz.prog.types.size) := kids_rows (by kernel_rfl) (by kernel_rfl)
theorem full : ∀ t e, t < Tryz.prog.types.size → Tryz.prog.underlying t = some (.slice e) → 0 < Tryz.prog.cellsOf e := slices_full_of Tryz.prog (by kernel_rfl)
theorem hargs_of {H : Type} {enc : TypeId × Value → H} {W W' : World} {ts : List TypeId} {vs : List Value} {ds : List (DataW H)} {ps : List MemPlace} (hts : ∀ t ∈ ts, t < Tryz.prog.types.size)
    (h : DataW.TrodAll enc Tryz.prog W 0 (fun _ => true) true ts vs ds ps) (hlt : ∀ p ∈ ps, p.block < W.heap.size) (hb : Below W.heap.size W W') (sp : Nat → Bool) (hsp : ∀ p ∈ ps, sp p.block = true) : DataW.TrodAll enc Tryz.prog W' 0 sp true ts vs ds ps :=
  trodAll_carry (DataW.TrodAll.respare kids full hts h hsp) (fun x hx => hb.same (hlt x hx))

/-! ### arguments opened -/
theorem uBs_map {H : Type} {α : Type} (f : α → DataW H) : ∀ (l : List α), Rows.uptoBulkAll (l.map f) = (l.map fun x => Rows.uptoBulk (f x)).sum
  | [] => by simp [Rows.uptoBulkAll]
  | x :: l => by
    have := uBs_map f l
    simp only [List.map_cons, Rows.uptoBulkAll, List.sum_cons, this]
theorem uB_pos {H : Type} : ∀ (d : DataW H), 1 ≤ Rows.uptoBulk d
  | .lit l => by cases l <;> simp [Rows.uptoBulk]
  | .nil => Nat.le_refl _
  | .ptr d => by rw [Rows.uptoBulk]; omega
  | .slice elems spare => by rw [Rows.uptoBulk]; omega
  | .agg parts => by rw [Rows.uptoBulk]; omega
  | .iface t d => by rw [Rows.uptoBulk]; omega
  | .map entries => by rw [Rows.uptoBulk]; omega
  | .held h => Nat.le_refl _
/-- What is read at this type is one of these, and Q of it and its bulk. -/
def Opn {α : Type} (P : Program) (W : World) (t sz : Nat) (rep : Rep α) (Q : α → Nat → Prop) : Prop :=
  ∀ (H : Type) (enc : TypeId × Value → H) n cs x, DataW.trod enc P W 0 (fun _ => true) true n t cs = some x → ∃ a, rep W.cell? a cs ∧ cs.length = sz ∧ Q a (Rows.uptoBulk x.1)
theorem opn_int {P : Program} {W : World} {t : Nat} {k : IntKind} (hu : P.underlying t = some (.int k)) : Opn P W t 1 (fl (chK k)) (fun z _ => (Lit.int k z).wf = true) := by
  intro H enc n cs x h
  obtain ⟨z, rfl, rfl, hw⟩ := DataW.trod_int hu h
  exact ⟨z, rfl, rfl, hw⟩
theorem opn_str {P : Program} {W : World} {t : Nat} (hu : P.underlying t = some .string) : Opn P W t 1 (fl chS) (fun s B => s.size ≤ B) := by
  intro H enc n cs x h
  obtain ⟨s, rfl, rfl, hw⟩ := DataW.trod_string hu h
  refine ⟨s, rfl, rfl, ?_⟩
  simp only [Rows.uptoBulk]
  show s.data.toList.length ≤ _
  omega
theorem opn_i64 {P : Program} {W : World} {t : Nat} (hu : P.underlying t = some (.int .i64)) : Opn P W t 1 (fl chI) (fun z _ => -9223372036854775808 ≤ z ∧ z ≤ 9223372036854775807) := by
  intro H enc n cs x h
  obtain ⟨z, rfl, rfl, hw⟩ := DataW.trod_int hu h
  exact ⟨z, rfl, rfl, bounds_i64 hw⟩
theorem opn_pair {P : Program} {W : World} {t ta tb : Nat} {fs : Array Field} (hu : P.underlying t = some (.struct fs)) (hs : fs.size = 2) (e0 : (fs[0]?).map (fun f => (f.type, f.offset)) = some (ta, 0)) (e1 : (fs[1]?).map (fun f => (f.type, f.offset)) = some (tb, 1))
    (h0 : P.underlying ta = some (.int .i64)) (h1 : P.underlying tb = some (.int .i64)) (hc : P.cellsOf t = 2) (c0 : P.cellsOf ta = 1) (c1 : P.cellsOf tb = 1) :
    Opn P W t 2 (fl chP) (fun p _ => (-9223372036854775808 ≤ p.1 ∧ p.1 ≤ 9223372036854775807) ∧ (-9223372036854775808 ≤ p.2 ∧ p.2 ≤ 9223372036854775807)) := by
  intro H enc n cs x h
  obtain ⟨xs, k, hk, hxy, hcl, hxl, hf⟩ := DataW.trod_struct hu h
  rw [hc] at hcl
  obtain ⟨f0, ef0, e0⟩ := Option.map_eq_some_iff.1 e0
  obtain ⟨f1, ef1, e1⟩ := Option.map_eq_some_iff.1 e1
  simp only [Prod.mk.injEq] at e0 e1
  obtain ⟨rfl, o0⟩ := e0
  obtain ⟨rfl, o1⟩ := e1
  have hxl : xs.length = 2 := hxl.trans hs
  match xs, hxl, cs, hcl with
  | [y0, y1], _, [v0, v1], _ =>
    have g0 := hf 0 f0 ef0
    have g1 := hf 1 f1 ef1
    simp [o0, o1, c0, c1] at g0 g1
    obtain ⟨a, ea, _, wa⟩ := DataW.trod_int h0 g0
    obtain ⟨b, eb, _, wb⟩ := DataW.trod_int h1 g1
    injection ea with ea _; injection eb with eb _
    subst ea; subst eb
    exact ⟨(a, b), rfl, rfl, bounds_i64 wa, bounds_i64 wb⟩
theorem choose_list {α β : Type} {p : Nat → α → β → Prop} : ∀ (n : Nat), (∀ i, i < n → ∃ a b, p i a b) → ∃ (xs : List α) (ys : List β), xs.length = n ∧ ys.length = n ∧ ∀ i a, xs[i]? = some a → ∃ b, ys[i]? = some b ∧ p i a b
  | 0, _ => ⟨[], [], rfl, rfl, fun i a h => by simp at h⟩
  | n + 1, h => by
    obtain ⟨xs, ys, h1, h2, h3⟩ := choose_list n (fun i hi => h i (by omega))
    obtain ⟨a, b, hab⟩ := h n (by omega)
    refine ⟨xs ++ [a], ys ++ [b], by simp [h1], by simp [h2], fun i c hc => ?_⟩
    by_cases hi : i < n
    · rw [List.getElem?_append_left (by omega)] at hc ⊢
      exact h3 i c hc
    · have e : i = n := by
        have := (List.getElem?_eq_some_iff.1 hc).1
        simp [h1] at this; omega
      subst e
      rw [List.getElem?_append_right (by omega), h1, Nat.sub_self] at hc
      rw [List.getElem?_append_right (by omega), h2, Nat.sub_self]
      simp only [List.getElem?_cons_zero, Option.some.injEq] at hc ⊢
      subst hc
      exact ⟨b, rfl, hab⟩
theorem opn_slice {P : Program} {α : Type} {W : World} {t e sz : Nat} {rep : Rep α} {Q : α → Nat → Prop} (hu : P.underlying t = some (.slice e)) (hc : P.cellsOf e = sz) (hp0 : 0 < sz) (he : Opn P W e sz rep Q) {H : Type} (enc : TypeId × Value → H) {n : Nat} {cs : List Value} {x : DataW H × List MemPlace}
    (h : DataW.trod enc P W 0 (fun _ => true) true n t cs = some x) :
    ∃ (A : Option Addr) (xs : List α) (c : Nat) (Bs : List Nat), cs = [.slice A xs.length c] ∧ SlW rep sz W.cell? A xs c ∧ Bs.length = xs.length ∧ (∀ (i : Nat) (y : α), xs[i]? = some y → ∃ B : Nat, Bs[i]? = some B ∧ Q y B) ∧ Bs.sum + 1 ≤ Rows.uptoBulk x.1 ∧ ∀ B ∈ Bs, 1 ≤ B := by
  rcases open_slice hu h with ⟨rfl, rfl⟩ | ⟨a, len, cap, m, n', D, Pl, rfl, hb, hl, hm, hmm, rfl, hx⟩
  · exact ⟨none, [], 0, [], rfl, SlW.nil, rfl, fun i y hy => by simp at hy, by simp [Rows.uptoBulk], fun B hB => by cases hB⟩
  · rw [hc] at hx
    simp only [if_true] at hmm
    subst hmm
    obtain ⟨xs, Bs, h1, h2, h3⟩ := choose_list (p := fun i (y : α) (B : Nat) => B = Rows.uptoBulk (D i) ∧ Q y B ∧ ∃ cs', rep W.cell? y cs' ∧ cs'.length = sz ∧ ∀ j v, cs'[j]? = some v → W.cell? ((a.add (i * sz)).add j) = some v) len (fun i hi => by
      obtain ⟨cs', h1, h2⟩ := hx i (by omega)
      obtain ⟨y, g1, g2, g3⟩ := he _ enc n' cs' _ h2
      obtain ⟨_, hlen, hcell⟩ := World.cells?_some h1
      refine ⟨y, Rows.uptoBulk (D i), rfl, g3, cs', g1, g2, fun j v hj => ?_⟩
      have hlt := (List.getElem?_eq_some_iff.1 hj).1
      rw [hcell j (by omega)]; exact hj)
    have hBs : Bs = (List.range len).map fun i => Rows.uptoBulk (D i) := by
      refine List.ext_getElem? fun i => ?_
      by_cases hi : i < len
      · obtain ⟨B, hB, hB2, _⟩ := h3 i _ (List.getElem?_eq_getElem (by omega))
        rw [hB, hB2]; simp [hi]
      · rw [List.getElem?_eq_none (by omega), List.getElem?_eq_none (by simp; omega)]
    refine ⟨some a, xs, m, Bs, by rw [h1], ⟨by omega, ?_⟩, by omega, fun i y hy => ?_, ?_, fun B hB => ?_⟩
    · cases len with
      | zero => exact .inl (List.eq_nil_of_length_eq_zero h1)
      | succ len =>
        right
        obtain ⟨_, _, _, _, cs', _, hcl, hcells⟩ := h3 0 _ (List.getElem?_eq_getElem (by omega))
        have h00 := hcells 0 (cs'[0]'(by omega)) (List.getElem?_eq_getElem (by omega))
        have hsp : a.spot = none := by
          have := World.cell?_spot h00
          simpa [Addr.add] using this
        obtain ⟨b, o, sp⟩ := a
        simp only at hsp
        subst hsp
        refine ⟨b, o, rfl, fun i y hy => ?_⟩
        obtain ⟨_, _, _, _, cs', g1, g2, g3⟩ := h3 i y hy
        refine ⟨cs', g1, g2, fun j v hj => ?_⟩
        have := g3 j v hj
        rw [add_off, add_off] at this
        exact this
    · obtain ⟨B, hB, _, hQ, _⟩ := h3 i y hy
      exact ⟨B, hB, hQ⟩
    · simp only [Rows.uptoBulk]
      rw [uBs_map D (List.range len), hBs]; omega
    · rw [hBs] at hB
      obtain ⟨i, _, rfl⟩ := List.mem_map.1 hB
      exact uB_pos _
theorem len_sum : ∀ {Bs : List Nat}, (∀ B ∈ Bs, 1 ≤ B) → Bs.length ≤ Bs.sum
  | [], _ => Nat.le_refl _
  | B :: Bs, h => by
    have h1 := h B List.mem_cons_self
    have h2 := len_sum (Bs := Bs) fun b hb => h b (List.mem_cons_of_mem _ hb)
    simp only [List.length_cons, List.sum_cons]; omega
theorem mem_sum : ∀ {Bs : List Nat} {B : Nat}, B ∈ Bs → B ≤ Bs.sum
  | b :: Bs, B, h => by
    simp only [List.sum_cons]
    rcases List.mem_cons.1 h with rfl | h
    · omega
    · have := mem_sum h; omega
theorem spot_of {P : Program} {W : World} {base t e : Nat} {A : Option Addr} {len c : Nat} (hu : P.underlying t = some (.slice e)) (h : Value.okWide P W .any base t (.slice A len c)) : ∀ a, A = some a → a.spot = none := by
  intro a ha
  subst ha
  unfold Value.okWide at h
  rw [hu] at h
  simp only [Cell.okWide, hu, Cell.ok] at h
  exact h.2.2.2.1
set_option maxRecDepth 100000 in
theorem opn_p53 {W : World} : Opn Tryz.prog W 53 2 (fl chP) (fun p _ => (-9223372036854775808 ≤ p.1 ∧ p.1 ≤ 9223372036854775807) ∧ (-9223372036854775808 ≤ p.2 ∧ p.2 ≤ 9223372036854775807)) :=
  opn_pair (fs := Program.fieldsOf Tryz.prog 53) (ta := 24) (tb := 24) (by kernel_rfl) (by kernel_rfl) (by kernel_rfl) (by kernel_rfl) (by kernel_rfl) (by kernel_rfl) (by kernel_rfl) (by kernel_rfl) (by kernel_rfl)
/-! ### the tables -/
theorem own : ownKnob Tryz.prog.godebug = none := by kernel_rfl
theorem gTab : Tryz.prog.globalNamed "internal/strconv.uint64pow10" = some 0 := by kernel_rfl
theorem gTabType : (Tryz.prog.globals[0]?).map (·.type) = some 148 := by kernel_rfl
theorem laid_tail {P : Program} {W : World} {x : String × DataW Unit} {l : List (String × DataW Unit)} (h : laidMet P (x :: l) W) : laidMet P l W := by
  obtain ⟨ps, hv, hn, hc⟩ := h
  obtain ⟨g, t, cs, fuel, p, q, h1, h2, h3, h4, h5, rfl⟩ := hv
  exact ⟨q, h5, (List.nodup_append.1 hn).2.1, fun b off hb => hc b off (List.mem_append_right _ hb)⟩
def Laid (W : World) : Prop := laidMetH Tryz.prog Rows.atomPointsUptoRow.laid W
theorem table {W : World} (h : Laid W) : Lib.TabIs Tryz.prog W "internal/strconv.uint64pow10" .u64 Lib.pow10Tab := by
  have h1 : laidMet Tryz.prog [("math/bits.deBruijn32tab", Rows.laid_math_bits_deBruijn32tab), ("math/bits.deBruijn64tab", Rows.laid_math_bits_deBruijn64tab), ("internal/strconv.uint64pow10", Lib.tabData .u64 Lib.pow10Tab)] W :=
    cast (by kernel_rfl) h
  exact Lib.tabIs_of_head (rest := []) gTab gTabType (n := 20) (e := 89) (by kernel_rfl) (by kernel_rfl) (by kernel_rfl) (by kernel_rfl) (laid_tail (laid_tail h1))
/-- What a table's datum lays. -/
def laidCells : DataW Unit → Array Value
  | .agg ds => (ds.map fun d => match d with | .lit (.int k z) => Value.int k z | _ => undef).toArray
  | _ => #[]
def putBlock (h : Array Obj) (g : Nat) (cs : Array Value) : Array Obj := h.modify g fun
  | .cells _ t frozen => .cells cs t frozen
  | o => o
noncomputable def W0 (os : Os) : World :=
  { World.holding Tryz.prog os ⟨#[], #[], []⟩ with heap := putBlock (putBlock (putBlock (World.holding Tryz.prog os ⟨#[], #[], []⟩).heap 0 (laidCells Rows.laid_internal_strconv_uint64pow10)) 2 (laidCells Rows.laid_math_bits_deBruijn32tab)) 3 (laidCells Rows.laid_math_bits_deBruijn64tab) }

end Go.Proofs.YtpnkncinmoogpaaGreatDoor

