/- THE ENGINE, part 3: memory that stays: rows that are read, and rows that grow. -/
import Derived.Test.YtpnkncinmoogpaaGreatDoorChEngb
set_option linter.unusedVariables false
namespace Go.Eng
open Go Go.RowKit

section rules
variable {P : Program} {cx : Cx} {M Mk : Mem} {s : SS} {l : List Oper} {k : Nat} {Q : Exit → Act → World → Prop} {X : Act → World → Prop}

/-- Operation k yields v, whatever the world is, as long as what M knows is so. -/
structure Yld (P : Program) (cx : Cx) (M Mk : Mem) (s : SS) (l : List Oper) (k : Nat) (dst : Option Tmp) (v : Value) : Prop where
  yields : ∀ a w, Holds cx M s a w → ∃ o, l[k]? = some o ∧ o.dst = dst ∧ Region.wanted o (yielded l.toArray a.tmps) = true ∧ ∀ w', Sat Mk w' → (execOp a.eval o).run P w' = .ok (.value v) w'
  ok : okD cx.n dst = true
theorem o_yld {dst : Option Tmp} {v : Value} (h : Yld P cx M M s l k dst v) (K : J cx M ⟨putS dst (.v v) s.S, s.L, s.R, s.nx⟩ X) : OpJ P cx M s l Q k X := by
  intro a w ha
  obtain ⟨o, ho, hd, hw, hrun⟩ := h.yields a w ha
  refine ⟨o, ho, hw, ?_⟩
  unfold Oper.wp
  rw [hrun w ha.st.sat]
  show X (a.put o.dst v) w
  rw [hd]
  exact K _ _ (ha.put dst (.v v) h.ok (fun _ _ _ e => by cases e) (fun i so hi => ⟨so, hi, rfl⟩) ha.ids ha.st)
theorem g_yld {dst : Option Tmp} {v : Value} (h : Yld P cx M M s l k dst v) (K : J cx M ⟨putS dst (.v v) s.S, s.L, s.R, s.nx⟩ (wpList P l.toArray Q (l.drop (k + 1)))) : J cx M s (wpList P l.toArray Q (l.drop k)) := g_op (o_yld h K)
theorem yld_of {o : Oper} (ho : l[k]? = some o) (hg : guardS l s o.guard = some true) (hd : okD cx.n o.dst = true) (v : Value)
    (hrun : ∀ a w, Holds cx M s a w → ∀ w', Sat Mk w' → (execOp a.eval o).run P w' = .ok (.value v) w') : Yld P cx M Mk s l k o.dst v :=
  ⟨fun a w ha => ⟨o, ho, rfl, guardS_wanted ha hg, hrun a w ha⟩, hd⟩

/-- x[i], x a slice: the place. -/
def indexS (P : Program) (n : Nat) (l : List Oper) (k : Nat) (s : SS) : Option (Option Tmp × Option Addr × Nat × IntKind × Int × Nat) :=
  match l[k]? with
  | some o => match guardS l s o.guard, o.op with
    | some true, .indexAddr t x i => match vl s x, vl s i, P.underlying t with
      | some (.slice A len _), some (.int kk ii), some (.slice e) => match P.info? e with
        | some inf => bif okD n o.dst then some (o.dst, A, len, kk, ii, inf.size) else none
        | none => none
      | _, _, _ => none
    | _, _ => none
  | none => none
theorem y_index {dst : Option Tmp} {b o len : Nat} {kk : IntKind} {ii : Int} {sz : Nat} (h : indexS P cx.n l k s = some (dst, some ⟨b, o, none⟩, len, kk, ii, sz)) (h0 : 0 ≤ ii) (h1 : ii < len) :
    Yld P cx M Mk s l k dst (.pointer (some ⟨b, o + ii.toNat * sz, none⟩)) := by
  unfold indexS at h
  cases ho : l[k]? with
  | none => rw [ho] at h; cases h
  | some oo =>
    rw [ho] at h
    simp only at h
    cases hg : guardS l s oo.guard with
    | none => rw [hg] at h; cases h
    | some c =>
      cases c with
      | false => rw [hg] at h; cases h
      | true =>
        rw [hg] at h
        obtain ⟨od, op, ty, pos, af, gd⟩ := oo
        cases op <;> first | (cases h; done) | skip
        rename_i t x i
        simp only at h
        cases hx : vl s x with
        | none => rw [hx] at h; cases h
        | some xv =>
          cases hi : vl s i with
          | none => rw [hx, hi] at h; cases xv <;> cases h
          | some iv =>
            cases hu : P.underlying t with
            | none => rw [hx, hi, hu] at h; cases xv <;> cases iv <;> cases h
            | some d =>
              rw [hx, hi, hu] at h
              cases xv <;> first | (cases h; done) | skip
              cases iv <;> first | (cases h; done) | skip
              cases d <;> first | (cases h; done) | skip
              rename_i e
              simp only at h
              cases hin : P.info? e with
              | none => rw [hin] at h; cases h
              | some inf =>
                rw [hin] at h
                simp only at h
                cases hd : okD cx.n od with
                | false => rw [hd] at h; cases h
                | true =>
                  rw [hd] at h
                  simp only [cond_true, Option.some.injEq, Prod.mk.injEq] at h
                  obtain ⟨rfl, rfl, rfl, rfl, rfl, rfl⟩ := h
                  refine yld_of ho hg hd _ (fun a w0 ha w hw => ?_)
                  have hs : (sizeOf e).run P w = .ok inf.size w := by simp [sizeOf, typeInfo, hin]
                  simp only [execOp, Instr.indexAt, ha.evalv hx, ha.evalv hi, asIntOf, Sem.run_bind, Sem.run_pure, Result.andThen_ok, run_underlying hu, if_pos (And.intro h0 h1), hs, add_off]

/-- A variable read through an address. -/
def loadS (P : Program) (n : Nat) (l : List Oper) (k : Nat) (s : SS) : Option (Option Tmp × Addr × Bool × Nat) :=
  match l[k]? with
  | some o => match guardS l s o.guard, o.op with
    | some true, .load t x => match vl s x, P.underlying t, P.info? t with
      | some (.pointer (some ad)), some d, some inf => bif okD n o.dst then some (o.dst, ad, (match d with | .struct _ | .array _ _ => true | _ => false), inf.size) else none
      | _, _, _ => none
    | _, _ => none
  | none => none
theorem y_load {dst : Option Tmp} {ad : Addr} {ag : Bool} {sz : Nat} (h : loadS P cx.n l k s = some (dst, ad, ag, sz)) (v : Value)
    (hv : ∀ w, Sat Mk w → (do if ag then pure (.agg (← loadCells ad sz)) else load ad : Sem Value).run P w = .ok v w)   : Yld P cx M Mk s l k dst v := by
  unfold loadS at h
  cases ho : l[k]? with
  | none => rw [ho] at h; cases h
  | some oo =>
    rw [ho] at h
    simp only at h
    cases hg : guardS l s oo.guard with
    | none => rw [hg] at h; cases h
    | some c =>
      cases c with
      | false => rw [hg] at h; cases h
      | true =>
        rw [hg] at h
        obtain ⟨od, op, ty, pos, af, gd⟩ := oo
        cases op <;> first | (cases h; done) | skip
        rename_i t x
        simp only at h
        cases hx : vl s x with
        | none => rw [hx] at h; cases h
        | some xv =>
          cases hu : P.underlying t with
          | none => rw [hx, hu] at h; cases xv <;> first | (cases h; done) | (rename_i q; cases q <;> cases h)
          | some d =>
            cases hin : P.info? t with
            | none => rw [hx, hu, hin] at h; cases xv <;> first | (cases h; done) | (rename_i q; cases q <;> cases h)
            | some inf =>
              rw [hx, hu, hin] at h
              cases xv <;> first | (cases h; done) | skip
              rename_i q
              cases q with
              | none => cases h
              | some ad' =>
                simp only at h
                cases hd : okD cx.n od with
                | false => rw [hd] at h; cases h
                | true =>
                  rw [hd] at h
                  simp only [cond_true, Option.some.injEq, Prod.mk.injEq] at h
                  obtain ⟨rfl, rfl, rfl, rfl⟩ := h
                  refine yld_of ho hg hd v (fun a w0 ha w hw => ?_)
                  have hs : (sizeOf t).run P w = .ok inf.size w := by simp [sizeOf, typeInfo, hin]
                  have := hv w hw
                  simp only [execOp, Instr.loadAt, ha.evalv hx, Instr.sureAddr, Sem.run_bind, Sem.run_pure, Result.andThen_ok, loadVar, isAgg_run hu]
                  cases d <;> simp only [Bool.false_eq_true, if_false, if_true, Sem.run_bind, hs, Result.andThen_ok, Sem.run_pure] at this ⊢ <;> rw [this] <;> rfl
theorem y_load1 {dst : Option Tmp} {ad : Addr} {sz : Nat} (h : loadS P cx.n l k s = some (dst, ad, false, sz)) {v : Value} (hv : Mk ad = some v) : Yld P cx M Mk s l k dst v :=
  y_load h v (fun w hw => by simp only [Bool.false_eq_true, if_false, run_load, hw ad v hv])
theorem y_loads {dst : Option Tmp} {b o : Nat} {sz : Nat} (h : loadS P cx.n l k s = some (dst, ⟨b, o, none⟩, true, sz)) {cs : List Value} (hl : cs.length = sz) (hv : ∀ j v, cs[j]? = some v → Mk ⟨b, o + j, none⟩ = some v) : Yld P cx M Mk s l k dst (.agg cs.toArray) :=
  y_load h _ (fun w hw => by
    subst hl
    have := run_loadCells_list (P := P) w ⟨b, o, none⟩ cs (fun j v hj => by rw [add_off]; exact hw _ _ (hv j v hj))
    simp only [if_true, Sem.run_bind, this, Result.andThen_ok, Sem.run_pure])

/-! ### a row that grows -/
def setR : List (Nat × RowI) → Nat → RowI → List (Nat × RowI)
  | [], _, _ => []
  | (i, x) :: r, d, y => bif Nat.beq i d then (i, y) :: r else (i, x) :: setR r d y
theorem setR_mem {y : RowI} {d : Nat} {x0 : RowI} : ∀ {r : List (Nat × RowI)}, lk r d = some x0 → ∀ p ∈ setR r d y, p.2 = y ∨ p ∈ r
  | [], h, p, hp => by cases h
  | (i, x) :: r, h, p, hp => by
    simp only [setR] at hp
    cases hb : Nat.beq i d with
    | true =>
      rw [hb] at hp
      simp only [cond_true, List.mem_cons] at hp
      rcases hp with rfl | hp
      · exact .inl rfl
      · exact .inr (List.mem_cons_of_mem _ hp)
    | false =>
      rw [hb] at hp
      simp only [cond_false, List.mem_cons] at hp
      have e : i ≠ d := fun e => by subst e; simp at hb
      rw [lk_cons, if_neg e] at h
      rcases hp with rfl | hp
      · exact .inr List.mem_cons_self
      · rcases setR_mem h p hp with h1 | h1
        · exact .inl h1
        · exact .inr (List.mem_cons_of_mem _ h1)
/-- The list of blocks, split at row d. -/
theorem setR_split {y : RowI} {d : Nat} {x0 : RowI} : ∀ {r : List (Nat × RowI)}, lk r d = some x0 → ∃ r1 r2 i, r = r1 ++ (i, x0) :: r2 ∧ setR r d y = r1 ++ (i, y) :: r2
  | [], h => by cases h
  | (i, x) :: r, h => by
    simp only [setR]
    cases hb : Nat.beq i d with
    | true =>
      have e := Nat.eq_of_beq_eq_true hb
      rw [lk_cons, if_pos e] at h
      injection h with h
      subst h
      exact ⟨[], r, i, rfl, rfl⟩
    | false =>
      have e : i ≠ d := fun e => by subst e; simp at hb
      rw [lk_cons, if_neg e] at h
      obtain ⟨r1, r2, j, h1, h2⟩ := setR_split (y := y) h
      exact ⟨(i, x) :: r1, r2, j, by rw [h1]; rfl, by simp only [cond_false, h2]; rfl⟩

/-- A row of the state's own, written over: its block the same, or a new one. -/
theorem St.grow {M' : Mem} {L : List (Nat × SO)} {R : List (Nat × RowI)} {w w' : World} (hdr : w.drawn ≤ w'.drawn) (h : St cx M L R w) {r : Nat} {x y : RowI} (hr : lk R r = some x) (hown : w'.ownsRow 0 y.e y.sz y.v y.n y.cs) (hg : w.grownBy w' x.v.ownBlock)
    (hat : y.v.ownBlock = x.v.ownBlock ∨ y.v.ownBlock = none ∨ ∃ b, y.v.ownBlock = some b ∧ w.heap.size ≤ b) : St cx M L (setR R r y) w' := by
  obtain ⟨r1, r2, i, e1, e2⟩ := setR_split (y := y) hr
  have hlt := h.lt
  have hmemx : (i, x) ∈ R := by rw [e1]; simp
  have hnd := h.nodup
  have hxin : ∀ b, x.v.ownBlock = some b → b ∈ blks L R := fun b hb => by
    simp only [blks, List.mem_append, List.mem_filterMap]; exact .inr ⟨_, hmemx, hb⟩
  -- no other block is the row's
  have hneL : ∀ p ∈ L, some p.2.b ≠ x.v.ownBlock := fun p hp e => by
    have h2 := (List.nodup_append.1 hnd).2.2
    exact h2 p.2.b (List.mem_map.2 ⟨p, hp, rfl⟩) p.2.b (List.mem_filterMap.2 ⟨_, hmemx, e.symm⟩) rfl
  have hndR : (R.filterMap (·.2.v.ownBlock)).Nodup := (List.nodup_append.1 hnd).2.1
  have hneR : ∀ p, p ∈ r1 ∨ p ∈ r2 → p.2.v.ownBlock = none ∨ p.2.v.ownBlock ≠ x.v.ownBlock := by
    intro p hp
    cases hpv : p.2.v.ownBlock with
    | none => exact .inl rfl
    | some b =>
      right
      intro e
      rw [e1, List.filterMap_append, List.filterMap_cons] at hndR
      simp only [← e] at hndR
      rcases hp with hp | hp
      · have := (List.nodup_append.1 hndR).2.2
        exact this b (List.mem_filterMap.2 ⟨p, hp, hpv⟩) b List.mem_cons_self rfl
      · have := (List.nodup_cons.1 (List.nodup_append.1 hndR).2.1).1
        exact this (List.mem_filterMap.2 ⟨p, hp, hpv⟩)
  have hMx : ∀ b, x.v.ownBlock = some b → ∀ a : Addr, a.block = b → M a = none := fun b hb => (h.free b (hxin b hb)).2
  have hcell : ∀ a v, M a = some v → w'.cell? a = some v := fun a v ha => hg.cell (h.sat a v ha) (fun e => by rw [hMx a.block e.symm a rfl] at ha; cases ha)
  have hyb : ∀ b, y.v.ownBlock = some b → x.v.ownBlock = some b ∨ w.heap.size ≤ b := fun b hb => by
    rcases hat with h1 | h1 | ⟨b', h1, h2⟩
    · exact .inl (h1 ▸ hb)
    · rw [h1] at hb; cases hb
    · rw [h1] at hb; injection hb with hb; subst hb; exact .inr h2
  refine ⟨?_, ?_, ?_, ?_, ?_⟩
  · have e := h.ext
    refine ⟨hg.os.trans e.os, hg.tape.trans e.tape, hg.output.trans e.output, Nat.le_trans e.size hg.size, fun k hk hn => ?_, e.le, hcell, e.new, fun d => Nat.le_trans (e.drawn d) hdr⟩
    have hk' := Nat.lt_of_lt_of_le hk e.size
    refine (hg.block k hk' (fun ek => ?_)).trans (e.keep k hk hn)
    rcases (h.free k (hxin k ek.symm)).1 with h1 | h1
    · omega
    · exact hn h1
  · intro p hp
    have hpb : p.2.b < w.heap.size := hlt _ (by simp only [blks, List.mem_append, List.mem_map]; exact .inl ⟨p, hp, rfl⟩)
    rw [hg.block p.2.b hpb (hneL p hp)]
    exact h.obj p hp
  · intro p hp
    rw [e2] at hp
    simp only [List.mem_append, List.mem_cons] at hp
    rcases hp with hp | rfl | hp
    · exact (h.row p (by rw [e1]; simp [hp])).kept hg (hneR p (.inl hp))
    · exact hown
    · exact (h.row p (by rw [e1]; simp [hp])).kept hg (hneR p (.inr hp))
  · rw [e1] at hnd
    rw [e2]
    simp only [blks, List.filterMap_append, List.filterMap_cons] at hnd ⊢
    cases hy : y.v.ownBlock with
    | none =>
      simp only
      cases hx : x.v.ownBlock with
      | none => simpa only [hx] using hnd
      | some b =>
        simp only [hx] at hnd
        refine hnd.sublist ?_
        exact (List.Sublist.refl _).append ((List.Sublist.refl _).append (List.sublist_cons_self _ _))
    | some b =>
      simp only
      have hfresh : w.heap.size ≤ b → b ∉ L.map (·.2.b) ++ (r1.filterMap (·.2.v.ownBlock) ++ r2.filterMap (·.2.v.ownBlock)) := by
        intro hle hm
        have : b ∈ blks L R := by
          rw [e1]
          simp only [blks, List.filterMap_append, List.filterMap_cons, List.mem_append] at hm ⊢
          rcases hm with hm | hm | hm
          · exact .inl hm
          · exact .inr (.inl hm)
          · refine .inr (.inr ?_)
            cases hx : x.v.ownBlock with
            | none => exact hm
            | some _ => exact List.mem_cons_of_mem _ hm
        have := hlt b this
        omega
      have hins : ∀ (A B C : List Nat), (A ++ (B ++ C)).Nodup → b ∉ A ++ (B ++ C) → (A ++ (B ++ b :: C)).Nodup := by
        intro A B C h1 h2
        have : (A ++ (B ++ b :: C)).Perm (b :: (A ++ (B ++ C))) := by
          rw [← List.append_assoc, ← List.append_assoc]
          exact List.perm_middle
        exact this.nodup_iff.2 (List.nodup_cons.2 ⟨h2, h1⟩)
      cases hx : x.v.ownBlock with
      | none =>
        simp only [hx] at hnd
        rcases hyb b hy with h1 | h1
        · rw [hx] at h1; cases h1
        · exact hins _ _ _ hnd (hfresh h1)
      | some b' =>
        simp only [hx] at hnd
        rcases hyb b hy with h1 | h1
        · rw [hx] at h1; injection h1 with h1; subst h1; exact hnd
        · refine hins _ _ _ (hnd.sublist ?_) (hfresh h1)
          exact (List.Sublist.refl _).append ((List.Sublist.refl _).append (List.sublist_cons_self _ _))
  · intro b hb
    rw [e2] at hb
    simp only [blks, List.filterMap_append, List.filterMap_cons, List.mem_append] at hb
    have old : b ∈ blks L R → _ := h.free b
    rcases hb with hb | hb | hb
    · exact old (by simp only [blks, List.mem_append]; exact .inl hb)
    · refine old ?_
      rw [e1]; simp only [blks, List.filterMap_append, List.mem_append]; exact .inr (.inl hb)
    · have hc : b ∈ r2.filterMap (·.2.v.ownBlock) → b ∈ blks L R := fun hb => by
        rw [e1]; simp only [blks, List.filterMap_append, List.filterMap_cons, List.mem_append]
        refine .inr (.inr ?_)
        cases hx : x.v.ownBlock with
        | none => exact hb
        | some _ => exact List.mem_cons_of_mem _ hb
      cases hy : y.v.ownBlock with
      | none => rw [hy] at hb; exact old (hc hb)
      | some b'' =>
        rw [hy] at hb
        rcases List.mem_cons.1 hb with rfl | hb
        · rcases hyb b hy with h1 | h1
          · exact old (hxin b h1)
          · exact ⟨.inl (Nat.le_trans h.ext.size h1), fun a ha => h.sat.none_new (by rw [ha]; exact h1)⟩
        · exact old (hc hb)

/-- append never takes draws back. -/
theorem append_drawn {P : Program} (w : World) (t ty e : TypeId) (i : TypeInfo) (z : Value) (size : Nat) (ht : P.underlying t = some (.slice e)) (hi : P.info? e = some i) (hz : i.zero = some z) (hsize : i.size = size)
    (v : Value) (n : Nat) (xs : List Value) (hown : w.ownsRow 0 e size v n xs) (a : Addr) (m c : Nat) (news : List Value) (hl : news.length = m * size) (hnews : ∀ j u, news[j]? = some u → w.cell? (a.add j) = some u) (h1 : ∀ u ∈ news, u.oneCell' = true)
    (h63 : n + m ≤ 140737488355328) (hbytes : (n + m) * i.bytes ≤ 140737488355328) {v' : Value} {w' : World} (hrun : (Builtin.append_ #[t, t] ty #[v, .slice (some a) m c]).run P w = .ok v' w') : w.drawn ≤ w'.drawn := by
  subst hsize
  have done : ∀ {u : Value} {w'' : World}, (Builtin.append_ #[t, t] ty #[v, .slice (some a) m c]).run P w = .ok u w'' → w.drawn ≤ w''.drawn → w.drawn ≤ w'.drawn := fun h hd => by
    rw [hrun] at h
    injection h with _ h
    rw [h]; exact hd
  rcases hown.2 with ⟨rfl, rfl⟩ | ⟨g, cap, cur, rfl, hbg, hg, hnc, hcm, hcs, htake⟩
  · by_cases hm : m = 0
    · subst hm
      refine done (u := .slice none 0 0) (w'' := w) ?_ (Nat.le_refl _)
      simp [Builtin.append_, run_underlying ht, sizeOf, typeInfo, hi, Builtin.lenOf, Builtin.firstCells, loadCells, loadCellsFrom]
    · exact done (run_append_nil (P := P) w t ty e i z ht hi hz a m c news hl hnews (by omega) (by omega) (by have hb := hbytes; simp only [Nat.zero_add] at hb; omega)) (Nat.le_succ _)
  · by_cases hroom : n + m ≤ cap
    · have hfit : n * i.size + news.length ≤ cur.size := by rw [hl, hcs, ← Nat.add_mul]; exact Nat.mul_le_mul_right _ hroom
      exact done (run_append_room (P := P) w t ty e i ht hi g n cap cur hg a m c news hl hnews h1 hroom hfit) (Nat.le_refl _)
    · have holds : ∀ j u, xs[j]? = some u → w.cell? ((⟨g, 0, none⟩ : Addr).add j) = some u := World.ownsRow.cells hown (g := g) rfl
      exact done (run_append_grow (P := P) w t ty e i z ht hi hz ⟨g, 0, none⟩ n cap xs hown.1 holds a m c news hl hnews (by omega) (by omega) (growslice_fits (by omega) hbytes)) (Nat.le_succ _)

/-- append(row, lit..): the literal lies in block i of the state's own. -/
def appS (P : Program) (n : Nat) (l : List Oper) (k : Nat) (s : SS) (r i : Nat) : Option (Option Tmp × Value × Value × RowI × Nat × List Value × Nat) :=
  match l[k]? with
  | some o => match guardS l s o.guard, o.op with
    | some true, .call ⟨.builtin .append, args, tys⟩ => match args.toList, tys.toList with
      | [x, y], [t, t'] => match vl s x, vl s y, lk s.R r, lk s.L i with
        | some u, some v, some row, some (.cells b cs _) => match P.underlying t with
          | some (.slice e) => match P.info? e with
            | some inf => match inf.zero with
              | some z => bif okD n o.dst && Nat.beq t t' && Nat.beq row.e e && Nat.beq row.sz inf.size && Nat.blt 0 inf.size && Nat.beq z.cells.toList.length inf.size && cs.all Value.oneCell' then some (o.dst, u, v, row, b, cs, inf.bytes) else none
              | none => none
            | none => none
          | _ => none
        | _, _, _, _ => none
      | _, _ => none
    | _, _ => none
  | none => none
theorem o_append {dst : Option Tmp} (r i m : Nat) {u : Value} {row : RowI} {b : Nat} {cs : List Value} {bytes : Nat} (h : appS P cx.n l k s r i = some (dst, u, .slice (some ⟨b, 0, none⟩) m m, row, b, cs, bytes)) (hu : u = row.v)
    (hm : cs.length = m * row.sz) (hb : (row.n + m) * bytes ≤ 140737488355328) (hb1 : row.n + m ≤ 140737488355328)
    (K : ∀ v', J cx M ⟨putS dst (.v v') s.S, s.L, setR s.R r ⟨v', row.e, row.sz, row.n + m, row.cs ++ cs⟩, s.nx⟩ X) : OpJ P cx M s l Q k X := by
  subst hu
  unfold appS at h
  cases ho : l[k]? with
  | none => rw [ho] at h; cases h
  | some oo =>
    rw [ho] at h
    simp only at h
    cases hg : guardS l s oo.guard with
    | none => rw [hg] at h; cases h
    | some c =>
      cases c with
      | false => rw [hg] at h; cases h
      | true =>
        rw [hg] at h
        obtain ⟨od, op, ty, pos, af, gd⟩ := oo
        cases op <;> first | (cases h; done) | skip
        rename_i c
        obtain ⟨callee, cargs, cts⟩ := c
        cases callee <;> first | (cases h; done) | skip
        rename_i bi
        cases bi <;> first | (cases h; done) | skip
        simp only at h
        cases cargs with | mk cargs =>
        cases cts with | mk cts =>
        rcases cargs with _ | ⟨x, _ | ⟨y, _ | ⟨_, _⟩⟩⟩ <;> first | (cases h; done) | skip
        rcases cts with _ | ⟨t, _ | ⟨t', _ | ⟨_, _⟩⟩⟩ <;> first | (cases h; done) | skip
        simp only at h
        cases hx : vl s x with
        | none => rw [hx] at h; cases h
        | some xv =>
        cases hy : vl s y with
        | none => rw [hx, hy] at h; cases h
        | some yv =>
        cases hr : lk s.R r with
        | none => rw [hx, hy, hr] at h; cases h
        | some row' =>
        cases hi : lk s.L i with
        | none => rw [hx, hy, hr, hi] at h; cases h
        | some so =>
        rw [hx, hy, hr, hi] at h
        cases so with
        | obj _ _ => cases h
        | cells b' cs' te =>
        simp only at h
        cases hu : P.underlying t with
        | none => rw [hu] at h; cases h
        | some d =>
        rw [hu] at h
        cases d <;> first | (cases h; done) | skip
        rename_i e
        simp only at h
        cases hin : P.info? e with
        | none => rw [hin] at h; cases h
        | some inf =>
        rw [hin] at h
        simp only at h
        cases hz : inf.zero with
        | none => rw [hz] at h; cases h
        | some z =>
        rw [hz] at h
        simp only at h
        cases hc : (okD cx.n od && Nat.beq t t' && Nat.beq row'.e e && Nat.beq row'.sz inf.size && Nat.blt 0 inf.size && Nat.beq z.cells.toList.length inf.size && cs'.all Value.oneCell') with
        | false => rw [hc] at h; cases h
        | true =>
        rw [hc] at h
        simp only [cond_true, Option.some.injEq, Prod.mk.injEq] at h
        obtain ⟨rfl, rfl, rfl, rfl, rfl, rfl, rfl⟩ := h
        simp only [Bool.and_eq_true] at hc
        obtain ⟨⟨⟨⟨⟨⟨hd, ht⟩, he⟩, hsz⟩, hpos⟩, hzs⟩, hone⟩ := hc
        have ht := Nat.eq_of_beq_eq_true ht
        have he := Nat.eq_of_beq_eq_true he
        have hsz := Nat.eq_of_beq_eq_true hsz
        have hzs := Nat.eq_of_beq_eq_true hzs
        have hpos : 0 < inf.size := by simpa [Nat.blt_eq] using hpos
        subst ht
        subst he
        intro a w ha
        have hst := ha.st
        have hL : w.heap[b']? = some (.cells cs'.toArray te (0, 0)) := hst.obj _ (lk_mem hi)
        have hrow := hst.row _ (lk_mem hr)
        obtain ⟨v', w', hrun, hown, hgr, _, hat⟩ := run_append_own_at (P := P) w 0 t ty row'.e inf z row'.sz inf.bytes hu hin hz hsz.symm rfl (by rw [hsz, ← hzs]; simp) (by rw [hsz]; exact hpos) row'.v row'.n row'.cs hrow ⟨b', 0, none⟩ m m cs'
          (by rw [hm]) (fun j u hj => by rw [add_off, Nat.zero_add, cell_row hL]; exact hj) (fun u hu => List.all_eq_true.1 hone u hu) (by simp only [maxLen]; omega) hb (Nat.zero_le _)
        refine ⟨_, ho, guardS_wanted ha hg, ?_⟩
        unfold Oper.wp execOp
        simp only [resolve, invoke, builtin, Sem.run_bind, Sem.run_pure, Result.andThen_ok, List.map_toArray, List.map_cons, List.map_nil, ha.evalv hx, ha.evalv hy, hrun]
        refine K v' _ _ (ha.put od (.v v') hd (fun _ _ _ e => by cases e) (fun i so hi => ⟨so, hi, rfl⟩) ha.ids ?_)
        refine St.grow (M' := M) (append_drawn (P := P) w t ty row'.e inf z row'.sz hu hin hz hsz.symm row'.v row'.n row'.cs hrow ⟨b', 0, none⟩ m m cs' (by rw [hm]) (fun j u hj => by rw [add_off, Nat.zero_add, cell_row hL]; exact hj) (fun u hu => List.all_eq_true.1 hone u hu) (by omega) hb hrun) hst hr (y := ⟨v', row'.e, row'.sz, row'.n + m, row'.cs ++ cs'⟩) hown hgr ?_
        rcases hat with h1 | h1
        · exact .inl h1
        · exact .inr (.inr ⟨_, h1, Nat.le_refl _⟩)

theorem g_append {dst : Option Tmp} (r i m : Nat) {u : Value} {row : RowI} {b : Nat} {cs : List Value} {bytes : Nat} (h : appS P cx.n l k s r i = some (dst, u, .slice (some ⟨b, 0, none⟩) m m, row, b, cs, bytes)) (hu : u = row.v)
    (hm : cs.length = m * row.sz) (hb : (row.n + m) * bytes ≤ 140737488355328) (hb1 : row.n + m ≤ 140737488355328)
    (K : ∀ v', J cx M ⟨putS dst (.v v') s.S, s.L, setR s.R r ⟨v', row.e, row.sz, row.n + m, row.cs ++ cs⟩, s.nx⟩ (wpList P l.toArray Q (l.drop (k + 1)))) : J cx M s (wpList P l.toArray Q (l.drop k)) := g_op (o_append r i m h hu hm hb hb1 K)

/-- A new row: nil. -/
theorem g_newrow (r e sz : Nat) (hf : lk s.R r = none) (K : J cx M ⟨s.S, s.L, (r, ⟨.slice none 0 0, e, sz, 0, []⟩) :: s.R, s.nx⟩ X) : J cx M s X := by
  intro a w ha
  refine K a w ⟨ha.size, ha.defers, ha.slots, ha.locs, ha.ids, ⟨ha.st.ext, ha.st.obj, fun p hp => ?_, ?_, ?_⟩⟩
  · rcases List.mem_cons.1 hp with rfl | hp
    · exact World.ownsRow_nil w 0 e sz
    · exact ha.st.row p hp
  · exact ha.st.nodup
  · exact ha.st.free

/-- A row is done: what it holds stays. -/
theorem g_pub (r : Nat) {row : RowI} (h : lk s.R r = some row)
    (K : ∀ M' A c, (∀ a u, M a = some u → M' a = some u) → row.v = .slice A row.n c → row.n ≤ c → row.cs.length = row.n * row.sz → ((A = none ∧ row.n = 0) ∨ ∃ b, A = some ⟨b, 0, none⟩ ∧ ∀ j u, row.cs[j]? = some u → M' ⟨b, j, none⟩ = some u) →
      J cx M' ⟨s.S, s.L, keepIn ((s.R.map (·.1)).filter (fun i => !Nat.beq i r)) s.R, s.nx⟩ X) : J cx M s X := by
  intro a w ha
  have hst := ha.st
  have hrow := hst.row _ (lk_mem h)
  have hmem := lk_mem h
  have hsub := keepIn_sub ((s.R.map (·.1)).filter (fun i => !Nat.beq i r)) s.R
  have hst' : St cx M s.L (keepIn ((s.R.map (·.1)).filter (fun i => !Nat.beq i r)) s.R) w := hst.sub (List.Sublist.refl _) hsub
  rcases hrow.2 with ⟨hv, hn⟩ | ⟨g, cap, cur, hv, _, hg, hnc, hcm, hcs, htake⟩
  · refine K M none 0 (fun _ _ h => h) (by simp only at hv hn; rw [hv, hn]) (by simp only at hn; omega) hrow.1 (.inl ⟨rfl, hn⟩) a w ⟨ha.size, ha.defers, ha.slots, ha.locs, ha.ids, hst'⟩
  · -- the block's first cells become known
    have hgb : row.v.ownBlock = some g := by simp only at hv; rw [hv]; rfl
    have hgin : g ∈ blks s.L s.R := by simp only [blks, List.mem_append, List.mem_filterMap]; exact .inr ⟨_, hmem, hgb⟩
    have hMg := (hst.free g hgin).2
    let M' : Mem := fun ad => if ad.block = g then (if ad.spot = none then row.cs[ad.off]? else none) else M ad
    have hle : ∀ ad u, M ad = some u → M' ad = some u := fun ad u hu => by
      have : ad.block ≠ g := fun e => by rw [hMg ad e] at hu; cases hu
      show (if ad.block = g then _ else M ad) = some u
      rw [if_neg this]; exact hu
    refine K M' (some ⟨g, 0, none⟩) cap hle (by simp only at hv; exact hv) hnc hrow.1 (.inr ⟨g, rfl, fun j u hj => ?_⟩) a w ⟨ha.size, ha.defers, ha.slots, ha.locs, ha.ids, ?_⟩
    · show (if g = g then (if (none : Option Nat) = none then row.cs[j]? else none) else _) = some u
      rw [if_pos rfl, if_pos rfl]; exact hj
    · have hnotin : g ∉ blks s.L (keepIn ((s.R.map (·.1)).filter (fun i => !Nat.beq i r)) s.R) := by
        intro hm
        have hnd := hst.nodup
        simp only [blks, List.mem_append] at hm
        rcases hm with hm | hm
        · have h2 := (List.nodup_append.1 hnd).2.2
          exact h2 g hm g (List.mem_filterMap.2 ⟨_, hmem, hgb⟩) rfl
        · obtain ⟨p, hp, hpv⟩ := List.mem_filterMap.1 hm
          have hpR := hsub.subset hp
          have hpr : p.1 ≠ r := by
            have : ∀ (keep : List Nat) (q : List (Nat × RowI)), p ∈ keepIn keep q → memN keep p.1 = true := by
              intro keep q
              induction q with
              | nil => intro h; cases h
              | cons y q ih =>
                obtain ⟨i, x⟩ := y
                intro h
                simp only [keepIn] at h
                cases hk : memN keep i with
                | true =>
                  rw [hk] at h
                  simp only [cond_true, List.mem_cons] at h
                  rcases h with rfl | h
                  · exact hk
                  · exact ih h
                | false => rw [hk] at h; exact ih h
            have hm := this _ _ hp
            intro e
            have hno : ∀ (ks : List Nat), memN (ks.filter (fun i => !Nat.beq i r)) r = false := by
              intro ks
              induction ks with
              | nil => rfl
              | cons i ks ih =>
                cases hb : Nat.beq i r with
                | true => rw [List.filter_cons_of_neg (by simp [hb])]; exact ih
                | false =>
                  rw [List.filter_cons_of_pos (by simp [hb])]
                  simp only [memN, hb, cond_false]; exact ih
            rw [e, hno] at hm
            cases hm
          -- two rows of one block
          have hndR : (s.R.filterMap (·.2.v.ownBlock)).Nodup := (List.nodup_append.1 hnd).2.1
          have : ∀ (q : List (Nat × RowI)), (q.filterMap (·.2.v.ownBlock)).Nodup → p ∈ q → (r, row) ∈ q → p = (r, row) := by
            intro q
            induction q with
            | nil => intro _ h; cases h
            | cons y q ih =>
              intro hq h1 h2
              rw [List.filterMap_cons] at hq
              rcases List.mem_cons.1 h1 with e1 | h1' <;> rcases List.mem_cons.1 h2 with e2 | h2'
              · exact e1.trans e2.symm
              · subst e1
                rw [hpv] at hq
                exact absurd (show g ∈ q.filterMap (·.2.v.ownBlock) from List.mem_filterMap.2 ⟨(r, row), h2', hgb⟩) (List.nodup_cons.1 hq).1
              · subst e2
                simp only [hgb] at hq
                exact absurd (show g ∈ q.filterMap (·.2.v.ownBlock) from List.mem_filterMap.2 ⟨p, h1', hpv⟩) (List.nodup_cons.1 hq).1
              · refine ih ?_ h1' h2'
                cases hy : y.2.v.ownBlock with
                | none => rw [hy] at hq; exact hq
                | some _ => rw [hy] at hq; exact (List.nodup_cons.1 hq).2
          exact hpr (congrArg Prod.fst (this s.R hndR hpR hmem))
      refine ⟨?_, hst'.obj, hst'.row, hst'.nodup, fun b hb => ⟨(hst'.free b hb).1, fun ad had => ?_⟩⟩
      · have e := hst.ext
        refine ⟨e.os, e.tape, e.output, e.size, e.keep, fun ad u hu => hle ad u (e.le ad u hu), fun ad u hu => ?_, fun ad had hno => ?_, e.drawn⟩
        · by_cases hb : ad.block = g
          · have hu' : (if ad.spot = none then row.cs[ad.off]? else none) = some u := by
              have : M' ad = _ := rfl
              rw [show M' ad = (if ad.block = g then (if ad.spot = none then row.cs[ad.off]? else none) else M ad) from rfl, if_pos hb] at hu
              exact hu
            by_cases hs : ad.spot = none
            · rw [if_pos hs] at hu'
              obtain ⟨ab, ao, asp⟩ := ad
              simp only at hb hs hu'
              subst hb; subst hs
              have := hrow.cells (g := ab) hgb ao u hu'
              rw [add_off, Nat.zero_add] at this
              exact this
            · rw [if_neg hs] at hu'; cases hu'
          · rw [show M' ad = (if ad.block = g then (if ad.spot = none then row.cs[ad.off]? else none) else M ad) from rfl, if_neg hb] at hu
            exact e.sat ad u hu
        · have hb : ad.block ≠ g := fun eb => by
            rcases (hst.free g hgin).1 with h1 | h1
            · rw [eb] at had; omega
            · exact hno (by rw [eb]; exact h1)
          rw [show M' ad = (if ad.block = g then (if ad.spot = none then row.cs[ad.off]? else none) else M ad) from rfl, if_neg hb]
          exact e.new ad had hno
      · have hb' : ad.block ≠ g := fun eb => hnotin (by rw [← eb, had]; exact hb)
        show (if ad.block = g then _ else M ad) = none
        rw [if_neg hb']
        exact (hst'.free b hb).2 ad had
end rules
end Go.Eng
