/- THE ENGINE, part 9: append of what is known; rows, blocks and what is known, turned into each other. -/
import Derived.Test.YtpnkncinmoogpaaGreatDoorChEngh
set_option linter.unusedVariables false
namespace Go.Eng
open Go Go.RowKit

section rules
variable {P : Program} {cx : Cx} {M M0 Mk : Mem} {s : SS} {l : List Oper} {k : Nat} {Q : Exit → Act → World → Prop} {X : Act → World → Prop} {L0 : List (Nat × SO)} {ex : List Nat} {fuel : Nat} {listed : List Bool}

/-- append(row, y...), y a slice. -/
def appM (P : Program) (n : Nat) (l : List Oper) (k : Nat) (s : SS) (r : Nat) : Option (Option Tmp × Value × Value × RowI × Nat) :=
  match l[k]? with
  | some o => match guardS l s o.guard, o.op with
    | some true, .call ⟨.builtin .append, args, tys⟩ => match args.toList, tys.toList with
      | [x, y], [t, t'] => match vl s x, vl s y, lk s.R r with
        | some u, some v, some row => match P.underlying t with
          | some (.slice e) => match P.info? e with
            | some inf => match inf.zero with
              | some z => bif okD n o.dst && Nat.beq t t' && Nat.beq row.e e && Nat.beq row.sz inf.size && Nat.blt 0 inf.size && Nat.beq z.cells.toList.length inf.size then some (o.dst, u, v, row, inf.bytes) else none
              | none => none
            | none => none
          | _ => none
        | _, _, _ => none
      | _, _ => none
    | _, _ => none
  | none => none
theorem o_appendM {dst : Option Tmp} (r m cp : Nat) {u : Value} {row : RowI} {b o : Nat} (cs : List Value) {bytes : Nat} (h : appM P cx.n l k s r = some (dst, u, .slice (some ⟨b, o, none⟩) m cp, row, bytes)) (hu : u = row.v)
    (hm : cs.length = m * row.sz) (Mk : Mem) (hMk : ∀ w, St cx M s.L s.R w → Sat Mk w) (hcs : ∀ j v, cs[j]? = some v → Mk ⟨b, o + j, none⟩ = some v) (hone : ∀ v ∈ cs, v.oneCell' = true) (hb : (row.n + m) * bytes ≤ 140737488355328) (hb1 : row.n + m ≤ 140737488355328)
    (K : ∀ v', (v' = .slice none 0 0 ↔ row.v = .slice none 0 0 ∧ m = 0) → J cx M ⟨putS dst (.v v') s.S, s.L, setR s.R r ⟨v', row.e, row.sz, row.n + m, row.cs ++ cs⟩, s.nx⟩ X) : OpJ P cx M s l Q k X := by
  subst hu
  unfold appM at h
  cases ho : l[k]? with
  | none => rw [ho] at h; cases h
  | some oo =>
    rw [ho] at h
    simp only at h
    cases hg : guardS l s oo.guard with
    | none => rw [hg] at h; cases h
    | some c =>
      cases c with
      | false => rw [hg] at h; cases h
      | true =>
        rw [hg] at h
        obtain ⟨od, op, ty, pos, af, gd⟩ := oo
        cases op <;> first | (cases h; done) | skip
        rename_i c
        obtain ⟨callee, cargs, cts⟩ := c
        cases callee <;> first | (cases h; done) | skip
        rename_i bi
        cases bi <;> first | (cases h; done) | skip
        simp only at h
        cases cargs with | mk cargs =>
        cases cts with | mk cts =>
        rcases cargs with _ | ⟨x, _ | ⟨y, _ | ⟨_, _⟩⟩⟩ <;> first | (cases h; done) | skip
        rcases cts with _ | ⟨t, _ | ⟨t', _ | ⟨_, _⟩⟩⟩ <;> first | (cases h; done) | skip
        simp only at h
        cases hx : vl s x with
        | none => rw [hx] at h; cases h
        | some xv =>
        cases hy : vl s y with
        | none => rw [hx, hy] at h; cases h
        | some yv =>
        cases hr : lk s.R r with
        | none => rw [hx, hy, hr] at h; cases h
        | some row' =>
        rw [hx, hy, hr] at h
        simp only at h
        cases hu : P.underlying t with
        | none => rw [hu] at h; cases h
        | some d =>
        rw [hu] at h
        cases d <;> first | (cases h; done) | skip
        rename_i e
        simp only at h
        cases hin : P.info? e with
        | none => rw [hin] at h; cases h
        | some inf =>
        rw [hin] at h
        simp only at h
        cases hz : inf.zero with
        | none => rw [hz] at h; cases h
        | some z =>
        rw [hz] at h
        simp only at h
        cases hc : (okD cx.n od && Nat.beq t t' && Nat.beq row'.e e && Nat.beq row'.sz inf.size && Nat.blt 0 inf.size && Nat.beq z.cells.toList.length inf.size) with
        | false => rw [hc] at h; cases h
        | true =>
        rw [hc] at h
        simp only [cond_true, Option.some.injEq, Prod.mk.injEq] at h
        obtain ⟨rfl, rfl, rfl, rfl, rfl⟩ := h
        simp only [Bool.and_eq_true] at hc
        obtain ⟨⟨⟨⟨⟨hd, ht⟩, he⟩, hsz⟩, hpos⟩, hzs⟩ := hc
        have ht := Nat.eq_of_beq_eq_true ht
        have he := Nat.eq_of_beq_eq_true he
        have hsz := Nat.eq_of_beq_eq_true hsz
        have hzs := Nat.eq_of_beq_eq_true hzs
        have hpos : 0 < inf.size := by simpa [Nat.blt_eq] using hpos
        subst ht
        subst he
        intro a w ha
        have hst := ha.st
        have hsat := hMk w hst
        have hrow := hst.row _ (lk_mem hr)
        obtain ⟨v', w', hrun, hown, hgr, hnil, hat⟩ := run_append_own_at (P := P) w 0 t ty row'.e inf z row'.sz inf.bytes hu hin hz hsz.symm rfl (by rw [hsz, ← hzs]; simp) (by rw [hsz]; exact hpos) row'.v row'.n row'.cs hrow ⟨b, o, none⟩ m cp cs
          (by rw [hm]) (fun j u hj => by rw [add_off]; exact hsat _ _ (hcs j u hj)) hone (by simp only [maxLen]; omega) hb (Nat.zero_le _)
        refine ⟨_, ho, guardS_wanted ha hg, ?_⟩
        unfold Oper.wp execOp
        simp only [resolve, invoke, builtin, Sem.run_bind, Sem.run_pure, Result.andThen_ok, List.map_toArray, List.map_cons, List.map_nil, ha.evalv hx, ha.evalv hy, hrun]
        refine K v' hnil _ _ (ha.put od (.v v') hd (fun _ _ _ e => by cases e) (fun i so hi => ⟨so, hi, rfl⟩) ha.ids ?_)
        refine St.grow (M' := M) (append_drawn (P := P) w t ty row'.e inf z row'.sz hu hin hz hsz.symm row'.v row'.n row'.cs hrow ⟨b, o, none⟩ m cp cs (by rw [hm]) (fun j u hj => by rw [add_off]; exact hsat _ _ (hcs j u hj)) hone (by omega) hb hrun) hst hr (y := ⟨v', row'.e, row'.sz, row'.n + m, row'.cs ++ cs⟩) hown hgr ?_
        rcases hat with h1 | h1
        · exact .inl h1
        · exact .inr (.inr ⟨_, h1, Nat.le_refl _⟩)
theorem g_appendM {dst : Option Tmp} (r m cp : Nat) {u : Value} {row : RowI} {b o : Nat} (cs : List Value) {bytes : Nat} (h : appM P cx.n l k s r = some (dst, u, .slice (some ⟨b, o, none⟩) m cp, row, bytes)) (hu : u = row.v)
    (hm : cs.length = m * row.sz) (Mk : Mem) (hMk : ∀ w, St cx M s.L s.R w → Sat Mk w) (hcs : ∀ j v, cs[j]? = some v → Mk ⟨b, o + j, none⟩ = some v) (hone : ∀ v ∈ cs, v.oneCell' = true) (hb : (row.n + m) * bytes ≤ 140737488355328) (hb1 : row.n + m ≤ 140737488355328)
    (K : ∀ v', (v' = .slice none 0 0 ↔ row.v = .slice none 0 0 ∧ m = 0) → J cx M ⟨putS dst (.v v') s.S, s.L, setR s.R r ⟨v', row.e, row.sz, row.n + m, row.cs ++ cs⟩, s.nx⟩ (wpList P l.toArray Q (l.drop (k + 1)))) : J cx M s (wpList P l.toArray Q (l.drop k)) := g_op (o_appendM r m cp cs h hu hm Mk hMk hcs hone hb hb1 K)

/-! ### turned into each other -/
theorem filt_eq {α : Type} (r : Nat) : ∀ (R : List (Nat × α)), (R.map (·.1)).Nodup → True := fun _ _ => trivial

theorem untagged {a : Act} {w : World} (h : Holds cx M s a w) : Holds cx M ⟨untag s.S, s.L, s.R, s.nx⟩ a w :=
  ⟨h.size, h.defers, (fun t x hx => by
    obtain ⟨y, hy, rfl⟩ := untag_lk s.S t x hx
    exact h.slots t y hy), (fun t i b off hx => by
    obtain ⟨y, hy, he⟩ := untag_lk s.S t _ hx
    cases he), h.ids, h.st⟩
theorem lk_split {α : Type} : ∀ {l : List (Nat × α)} {i : Nat} {x : α}, lk l i = some x → ∃ l1 l2, l = l1 ++ (i, x) :: l2 ∧ dropIn [i] l = dropIn [i] l1 ++ dropIn [i] l2
  | (j, y) :: r, i, x, h => by
    simp only [lk] at h
    cases hb : Nat.beq j i with
    | true =>
      rw [hb] at h
      simp only [cond_true, Option.some.injEq] at h
      have := Nat.eq_of_beq_eq_true hb
      subst this; subst h
      have hm : memN [j] j = true := by simp [memN]
      exact ⟨[], r, rfl, by simp [dropIn, hm]⟩
    | false =>
      rw [hb] at h
      obtain ⟨l1, l2, h1, h2⟩ := lk_split h
      have hne : j ≠ i := fun e => by subst e; simp at hb
      have hm : memN [i] j = false := by
        have : Nat.beq i j = false := by
          cases hb2 : Nat.beq i j with
          | false => rfl
          | true => exact absurd (Nat.eq_of_beq_eq_true hb2).symm hne
        simp [memN, this]
      exact ⟨(j, y) :: l1, l2, by rw [h1]; rfl, by simp only [dropIn, hm, cond_false, List.cons_append, h2]⟩
theorem dropIn_ids {α : Type} {l : List (Nat × α)} {ids : List Nat} {n : Nat} (h : ∀ i x, lk l i = some x → i < n) : ∀ i x, lk (dropIn ids l) i = some x → i < n := fun i x hi => by
  obtain ⟨y, hy⟩ := mem_lt ((dropIn_sub ids l).subset (lk_mem hi))
  exact h i y hy

/-- A block becomes what is known. -/
theorem g_pubL (i : Nat) {b t : Nat} {cs : List Value} (h : lk s.L i = some (.cells b cs t))
    (K : ∀ M', (∀ a u, M a = some u → M' a = some u) → (∀ j u, cs[j]? = some u → M' ⟨b, j, none⟩ = some u) → J cx M' ⟨untag s.S, dropIn [i] s.L, s.R, s.nx⟩ X) : J cx M s X := by
  intro a w ha
  have hst := ha.st
  have hmem := lk_mem h
  have hbin : b ∈ blks s.L s.R := by simp only [blks, List.mem_append, List.mem_map]; exact .inl ⟨_, hmem, rfl⟩
  have hMb := (hst.free b hbin).2
  have hheap : w.heap[b]? = some (.cells cs.toArray t (0, 0)) := hst.obj _ hmem
  let M' : Mem := fun ad => if ad.block = b then ov b cs ad else M ad
  have hle : ∀ ad u, M ad = some u → M' ad = some u := fun ad u hu => by
    have : ad.block ≠ b := fun e => by rw [hMb ad e] at hu; cases hu
    show (if ad.block = b then _ else M ad) = some u
    rw [if_neg this]; exact hu
  obtain ⟨l1, l2, h1, h2⟩ := lk_split h
  have hnotin : b ∉ blks (dropIn [i] s.L) s.R := by
    intro hm
    have hnd := hst.nodup
    rw [h1] at hnd
    simp only [blks, List.map_append, List.map_cons, List.append_assoc, List.cons_append] at hnd
    have hnd2 := (List.nodup_append.1 hnd)
    simp only [blks, h2, List.map_append, List.mem_append] at hm
    have hs1 := ((dropIn_sub [i] l1).map (fun p => p.2.b)).subset
    have hs2 := ((dropIn_sub [i] l2).map (fun p => p.2.b)).subset
    rcases hm with (hm | hm) | hm
    · exact hnd2.2.2 b (hs1 hm) b List.mem_cons_self rfl
    · exact (List.nodup_cons.1 hnd2.2.1).1 (List.mem_append_left _ (hs2 hm))
    · exact (List.nodup_cons.1 hnd2.2.1).1 (List.mem_append_right _ hm)
  have hsub := hst.sub (dropIn_sub [i] s.L) (List.Sublist.refl s.R)
  have hu := untagged ha
  refine K M' hle (fun j u hj => ?_) a w ⟨hu.size, hu.defers, hu.slots, (fun t' i' b' off' hx => by
      obtain ⟨y, hy, he⟩ := untag_lk s.S t' _ hx
      cases he), dropIn_ids ha.ids, ?_⟩
  · show (if b = b then _ else _) = some u
    rw [if_pos rfl]; exact ov_at hj
  · refine ⟨?_, hsub.obj, hsub.row, hsub.nodup, fun b' hb' => ⟨(hsub.free b' hb').1, fun ad had => ?_⟩⟩
    · have e := hst.ext
      refine ⟨e.os, e.tape, e.output, e.size, e.keep, fun ad u hu => hle _ _ (e.le ad u hu), fun ad u hu => ?_, fun ad had hn => ?_, e.drawn⟩
      · by_cases hb : ad.block = b
        · have hu : (if ad.block = b then ov b cs ad else M ad) = some u := hu
          rw [if_pos hb] at hu
          exact ov_sat hheap ad u hu
        · have hu : (if ad.block = b then ov b cs ad else M ad) = some u := hu
          rw [if_neg hb] at hu
          exact e.sat ad u hu
      · have hne : ad.block ≠ b := fun hb => by
          subst hb
          rcases (hst.free _ hbin).1 with h3 | h3
          · exact absurd had (Nat.not_lt.2 h3)
          · exact hn h3
        show (if ad.block = b then ov b cs ad else M ad) = cx.M0 ad
        rw [if_neg hne]; exact e.new ad had hn
    · have hne : ad.block ≠ b := fun e => hnotin (by rw [← e, had]; exact hb')
      show (if ad.block = b then ov b cs ad else M ad) = none
      rw [if_neg hne]; exact (hsub.free b' hb').2 ad had

/-- A block becomes a row. -/
theorem g_rowL (i r n cap sz : Nat) {b t : Nat} {cs : List Value} (h : lk s.L i = some (.cells b cs t)) (hr : lk s.R r = none) (hn : n ≤ cap) (hc : cs.length = cap * sz) (hcap : cap ≤ maxLen)
    (K : J cx M ⟨untag s.S, dropIn [i] s.L, (r, ⟨.slice (some ⟨b, 0, none⟩) n cap, t, sz, n, cs.take (n * sz)⟩) :: s.R, s.nx⟩ X) : J cx M s X := by
  intro a w ha
  have hst := ha.st
  have hheap : w.heap[b]? = some (.cells cs.toArray t (0, 0)) := hst.obj _ (lk_mem h)
  obtain ⟨l1, l2, h1, h2⟩ := lk_split h
  have hu := untagged ha
  have hpm : (blks (dropIn [i] s.L) ((r, (⟨.slice (some ⟨b, 0, none⟩) n cap, t, sz, n, cs.take (n * sz)⟩ : RowI)) :: s.R)).Perm (b :: blks (dropIn [i] s.L) s.R) := by
    simp only [blks, List.filterMap_cons, Value.ownBlock]
    exact List.perm_middle
  have hsub2 : (b :: blks (dropIn [i] s.L) s.R).Nodup ∧ ∀ b' ∈ (b :: blks (dropIn [i] s.L) s.R), b' ∈ blks s.L s.R := by
    have hp2 : ((b :: (l1.map (·.2.b) ++ l2.map (·.2.b))) ++ s.R.filterMap (·.2.v.ownBlock)).Perm (blks s.L s.R) := by
      rw [h1]
      simp only [blks, List.map_append, List.map_cons]
      exact (List.perm_middle.symm).append_right _
    have hs : (b :: blks (dropIn [i] s.L) s.R).Sublist ((b :: (l1.map (·.2.b) ++ l2.map (·.2.b))) ++ s.R.filterMap (·.2.v.ownBlock)) := by
      simp only [blks, h2, List.map_append, List.cons_append]
      exact List.Sublist.cons_cons _ ((List.Sublist.append (((dropIn_sub [i] l1).map _)) ((dropIn_sub [i] l2).map _)).append_right _)
    exact ⟨(hp2.nodup_iff.2 hst.nodup).sublist hs, fun b' hb' => hp2.subset (hs.subset hb')⟩
  have hsub := hst.sub (dropIn_sub [i] s.L) (List.Sublist.refl s.R)
  refine K a w ⟨hu.size, hu.defers, hu.slots, (fun t' i' b' off' hx => by
      obtain ⟨y, hy, he⟩ := untag_lk s.S t' _ hx
      cases he), dropIn_ids ha.ids, ⟨hst.ext, hsub.obj, fun p hp => ?_, hpm.nodup_iff.2 hsub2.1, fun b' hb' => hst.free b' (hsub2.2 b' (hpm.subset hb'))⟩⟩
  rcases List.mem_cons.1 hp with rfl | hp
  · refine ⟨?_, .inr ⟨b, cap, cs.toArray, rfl, Nat.zero_le _, hheap, hn, hcap, by simpa using hc, by simp⟩⟩
    simp only [List.length_take, hc]
    exact Nat.min_eq_left (Nat.mul_le_mul_right _ hn)
  · exact hst.row p hp

/-- A row becomes a block (or it is nil). -/
theorem g_openR (r : Nat) {row : RowI} (h : lk s.R r = some row) (hnd : (s.R.map (·.1)).Nodup)
    (K0 : row.v = .slice none 0 0 → row.n = 0 → row.cs = [] → J cx M ⟨s.S, s.L, dropIn [r] s.R, s.nx⟩ X)
    (K : ∀ b cap tail, row.v = .slice (some ⟨b, 0, none⟩) row.n cap → row.n ≤ cap → (row.cs ++ tail).length = cap * row.sz → J cx M ⟨s.S, (s.nx, .cells b (row.cs ++ tail) row.e) :: s.L, dropIn [r] s.R, s.nx + 1⟩ X) : J cx M s X := by
  intro a w ha
  have hst := ha.st
  have hrow := hst.row _ (lk_mem h)
  obtain ⟨l1, l2, h1, h2⟩ := lk_split h
  have hsub := hst.sub (List.Sublist.refl s.L) (dropIn_sub [r] s.R)
  rcases hrow with ⟨hlen, ⟨hv, hn⟩ | ⟨g, cap, cur, hv, _, hg, hnc, hcm, hcs, htake⟩⟩
  · refine K0 hv hn ?_ a w ⟨ha.size, ha.defers, ha.slots, ha.locs, ha.ids, hsub⟩
    simp only at hn hlen
    rw [hn, Nat.zero_mul] at hlen
    exact List.length_eq_zero_iff.1 hlen
  · simp only at hv hg hnc hcs htake hlen
    have hcur : row.cs ++ cur.toList.drop (row.n * row.sz) = cur.toList := by rw [← htake]; exact List.take_append_drop _ _
    refine K g cap (cur.toList.drop (row.n * row.sz)) hv hnc (by rw [hcur]; simpa using hcs) a w ⟨ha.size, ha.defers, ha.slots, fun t' i' b' off' hx => ?_, fun i so hi => ?_, ?_⟩
    · obtain ⟨so, h3, h4⟩ := ha.locs t' i' b' off' hx
      refine ⟨so, ?_, h4⟩
      have := ha.ids i' so h3
      simp only [lk_cons]
      rw [if_neg (by omega)]; exact h3
    · simp only [lk_cons] at hi
      show i < s.nx + 1
      by_cases e : s.nx = i
      · omega
      · rw [if_neg e] at hi
        have := ha.ids i so hi
        omega
    · have hgb : row.v.ownBlock = some g := by rw [hv]; rfl
      have hpm : (blks ((s.nx, SO.cells g (row.cs ++ cur.toList.drop (row.n * row.sz)) row.e) :: s.L) (dropIn [r] s.R)).Sublist (g :: (s.L.map (·.2.b) ++ (l1.filterMap (·.2.v.ownBlock) ++ l2.filterMap (·.2.v.ownBlock)))) := by
        simp only [blks, List.map_cons, List.cons_append, h2, List.filterMap_append]
        refine List.Sublist.cons_cons _ (List.Sublist.append (List.Sublist.refl _) (List.Sublist.append ((dropIn_sub [r] l1).filterMap _) ((dropIn_sub [r] l2).filterMap _)))
      have hp2 : (g :: (s.L.map (·.2.b) ++ (l1.filterMap (·.2.v.ownBlock) ++ l2.filterMap (·.2.v.ownBlock)))).Perm (blks s.L s.R) := by
        simp only [blks]
        rw [h1]
        simp only [List.filterMap_append, List.filterMap_cons, hgb]
        have e := (List.perm_middle (a := g) (l₁ := s.L.map (·.2.b) ++ l1.filterMap (·.2.v.ownBlock)) (l₂ := l2.filterMap (·.2.v.ownBlock))).symm
        simpa only [List.append_assoc] using e
      refine ⟨hst.ext, fun p hp => ?_, hsub.row, (hp2.nodup_iff.2 hst.nodup).sublist hpm, fun b' hb' => hst.free b' (hp2.subset (hpm.subset hb'))⟩
      rcases List.mem_cons.1 hp with rfl | hp
      · show w.heap[g]? = some (.cells (row.cs ++ cur.toList.drop (row.n * row.sz)).toArray row.e (0, 0))
        rw [hcur]; simpa using hg
      · exact hst.obj p hp
end rules
end Go.Eng
