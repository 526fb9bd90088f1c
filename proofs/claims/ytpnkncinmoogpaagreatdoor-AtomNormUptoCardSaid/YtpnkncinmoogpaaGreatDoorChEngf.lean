/- THE ENGINE, part 6: blocks that are lent and given: arrays in place. -/
import Derived.Test.YtpnkncinmoogpaaGreatDoorChEnge
import Derived.Laws.StructEq
import Derived.Laws.Slices
import Derived.Laws.CopyRow
set_option linter.unusedVariables false
namespace Go.Eng
open Go Go.RowKit

/-! ### lists of blocks -/
def numL : Nat → List SO → List (Nat × SO)
  | _, [] => []
  | i, o :: r => (i, o) :: numL (i + 1) r
def dropIn {α : Type} (ids : List Nat) : List (Nat × α) → List (Nat × α)
  | [] => []
  | (i, x) :: r => bif memN ids i then dropIn ids r else (i, x) :: dropIn ids r
def untag : List (Nat × SV) → List (Nat × SV)
  | [] => []
  | (t, x) :: r => (t, .v x.val) :: untag r

theorem untag_lk : ∀ (S : List (Nat × SV)) t x, lk (untag S) t = some x → ∃ y, lk S t = some y ∧ x = .v y.val
  | [], t, x, h => by cases h
  | (i, y) :: r, t, x, h => by
    simp only [untag, lk_cons] at h ⊢
    by_cases e : i = t
    · rw [if_pos e] at h ⊢
      injection h with h
      exact ⟨y, rfl, h.symm⟩
    · rw [if_neg e] at h ⊢
      exact untag_lk r t x h
theorem keep_drop {α : Type} (ids : List Nat) : ∀ (L : List (Nat × α)), (keepIn ids L ++ dropIn ids L).Perm L
  | [] => List.Perm.refl _
  | (i, x) :: r => by
    cases h : memN ids i with
    | true => simp only [keepIn, dropIn, h, cond_true, List.cons_append]; exact (keep_drop ids r).cons _
    | false => simp only [keepIn, dropIn, h, cond_false]; exact List.perm_middle.trans ((keep_drop ids r).cons _)
theorem dropIn_sub {α : Type} (ids : List Nat) : ∀ (l : List (Nat × α)), (dropIn ids l).Sublist l
  | [] => List.Sublist.refl _
  | (i, x) :: r => by
    cases h : memN ids i with
    | true => simp only [dropIn, h, cond_true]; exact (dropIn_sub ids r).cons _
    | false => simp only [dropIn, h, cond_false]; exact (dropIn_sub ids r).cons_cons _
theorem numL_mem : ∀ (n : Nat) (Lo : List SO) p, p ∈ numL n Lo → p.2 ∈ Lo
  | n, [], p, h => by cases h
  | n, o :: r, p, h => by
    rcases List.mem_cons.1 h with rfl | h
    · exact List.mem_cons_self
    · exact List.mem_cons_of_mem _ (numL_mem _ r p h)
theorem numL_blk : ∀ (n : Nat) (Lo : List SO), (numL n Lo).map (·.2.b) = Lo.map SO.b
  | n, [] => rfl
  | n, o :: r => by simp only [numL, List.map_cons, numL_blk]
theorem numL_lt : ∀ (n : Nat) (Lo : List SO) i so, lk (numL n Lo) i = some so → i < n + Lo.length
  | n, [], i, so, h => by cases h
  | n, o :: r, i, so, h => by
    simp only [numL, lk_cons] at h
    by_cases e : n = i
    · simp only [List.length_cons]; omega
    · rw [if_neg e] at h
      have := numL_lt (n + 1) r i so h
      simp only [List.length_cons]; omega
theorem lk_append {α : Type} : ∀ (l1 l2 : List (Nat × α)) i x, lk (l1 ++ l2) i = some x → lk l1 i = some x ∨ lk l2 i = some x
  | [], l2, i, x, h => .inr h
  | (j, y) :: r, l2, i, x, h => by
    simp only [List.cons_append, lk_cons] at h ⊢
    by_cases e : j = i
    · rw [if_pos e] at h ⊢; exact .inl h
    · rw [if_neg e] at h ⊢; exact lk_append r l2 i x h
theorem mem_lt {α : Type} : ∀ {l : List (Nat × α)} {i : Nat} {x : α}, (i, x) ∈ l → ∃ y, lk l i = some y
  | (j, y) :: r, i, x, h => by
    simp only [lk_cons]
    by_cases e : j = i
    · exact ⟨y, if_pos e⟩
    · rw [if_neg e]
      rcases List.mem_cons.1 h with h | h
      · injection h with h1 h2; exact absurd h1.symm e
      · exact mem_lt h

/-! ### contracts with blocks -/
structure Lent (Lo : List SO) (M : Mem) (w : World) : Prop where
  obj : ∀ o ∈ Lo, w.heap[o.b]? = some o.o
  nodup : (Lo.map SO.b).Nodup
  free : ∀ o ∈ Lo, ∀ a : Addr, a.block = o.b → M a = none
theorem Lent.nil {M : Mem} {w : World} : Lent [] M w := ⟨(fun _ h => by cases h), List.nodup_nil, (fun _ h => by cases h)⟩
/-- It comes back with a value, what is known then, and the blocks that it gives (lent ones, or new ones). -/
def RetL (bs : List Nat) (w : World) (M : Mem) (Post : Value → Mem → List SO → Prop) (D : Prop := False) : Ending → World → Prop :=
  fun e w' => ∃ v M' Lo, e = .returned v ∧ Ext bs w M w' M' D ∧ Lent Lo M' w' ∧ (∀ o ∈ Lo, w.heap.size ≤ o.b ∨ o.b ∈ bs) ∧ Post v M' Lo
def CtL (P : Program) (g : Nat) (args : List Value) (Li : List SO) (w : World) (M : Mem) (Post : Value → Mem → List SO → Prop) (D : Prop := False) : Prop := Calls P g args.toArray w (RetL (Li.map SO.b) w M Post D)

section rules
variable {P : Program} {cx : Cx} {M : Mem} {s : SS} {l : List Oper} {k : Nat} {Q : Exit → Act → World → Prop} {X : Act → World → Prop}

theorem CtL.mono {g : Nat} {args : List Value} {Li : List SO} {w : World} {D : Prop} {Post Post' : Value → Mem → List SO → Prop} (h : CtL P g args Li w M Post D) (hp : ∀ v M' Lo, Post v M' Lo → Post' v M' Lo) : CtL P g args Li w M Post' D :=
  Calls.mono h fun e w' ⟨v, M', Lo, h1, h2, h3, h4, h5⟩ => ⟨v, M', Lo, h1, h2, h3, h4, hp _ _ _ h5⟩
theorem Ct.weak {g : Nat} {args : List Value} {bs : List Nat} {w : World} {D : Prop} {Post : Value → Mem → Prop} (h : Ct P g args bs w M Post D) : Ct P g args bs w M Post :=
  Calls.mono h fun e w' ⟨v, M', h1, h2, h3⟩ => ⟨v, M', h1, h2.weak, h3⟩
theorem Ct.lent {g : Nat} {args : List Value} {w : World} {D : Prop} {Post : Value → Mem → Prop} (h : Ct P g args [] w M Post D) : CtL P g args [] w M (fun v M' Lo => Lo = [] ∧ Post v M') D :=
  Calls.mono h fun e w' ⟨v, M', h1, h2, h3⟩ => ⟨v, M', [], h1, h2, Lent.nil, (fun _ h => by cases h), rfl, h3⟩
theorem CtL.ct {g : Nat} {args : List Value} {w : World} {D : Prop} {Post : Value → Mem → List SO → Prop} (h : CtL P g args [] w M Post D) : Ct P g args [] w M (fun v M' => ∃ Lo, Post v M' Lo) D :=
  Calls.mono h fun e w' ⟨v, M', Lo, h1, h2, h3, h4, h5⟩ => ⟨v, M', h1, h2, Lo, h5⟩
theorem Ct.mono {g : Nat} {args : List Value} {bs : List Nat} {w : World} {D : Prop} {Post Post' : Value → Mem → Prop} (h : Ct P g args bs w M Post D) (hp : ∀ v M', Post v M' → Post' v M') : Ct P g args bs w M Post' D :=
  Calls.mono h fun e w' ⟨v, M', h1, h2, h3⟩ => ⟨v, M', h1, h2, hp _ _ h3⟩

theorem ownsRow_of_block {w w' : World} {base e size n : Nat} {v : Value} {xs : List Value} (h : w.ownsRow base e size v n xs) (hk : ∀ g, v.ownBlock = some g → w'.heap[g]? = w.heap[g]?) : w'.ownsRow base e size v n xs := by
  rcases h with ⟨h1, h2 | ⟨g, cap, cur, hv, hb, hg, hr⟩⟩
  · exact ⟨h1, .inl h2⟩
  · exact ⟨h1, .inr ⟨g, cap, cur, hv, hb, by rw [hk g (by rw [hv]; rfl)]; exact hg, hr⟩⟩

theorem St.lent {L : List (Nat × SO)} {R : List (Nat × RowI)} {w : World} (h : St cx M L R w) (ids : List Nat) : Lent ((keepIn ids L).map (·.2)) M w := by
  have hs := keepIn_sub ids L
  refine ⟨fun o ho => ?_, ?_, fun o ho a ha => ?_⟩
  · obtain ⟨p, hp, rfl⟩ := List.mem_map.1 ho
    exact h.obj p (hs.subset hp)
  · rw [List.map_map]
    exact ((List.nodup_append.1 h.nodup).1).sublist (hs.map _)
  · obtain ⟨p, hp, rfl⟩ := List.mem_map.1 ho
    refine (h.free p.2.b ?_).2 a ha
    simp only [blks, List.mem_append, List.mem_map]
    exact .inl ⟨p, hs.subset hp, rfl⟩

theorem St.calledL {L : List (Nat × SO)} {R : List (Nat × RowI)} {w w' : World} (h : St cx M L R w) (ids : List Nat) {M' : Mem} {Lo : List SO} (he : Ext (((keepIn ids L).map (·.2)).map SO.b) w M w' M' cx.D) (hl : Lent Lo M' w')
    (hb : ∀ o ∈ Lo, w.heap.size ≤ o.b ∨ o.b ∈ ((keepIn ids L).map (·.2)).map SO.b) (nx : Nat) : St cx M' (numL nx Lo ++ dropIn ids L) R w' := by
  let A := ((keepIn ids L).map (·.2)).map SO.b
  let B := (dropIn ids L).map (·.2.b)
  let Rb := R.filterMap (·.2.v.ownBlock)
  have hA : A = (keepIn ids L).map (·.2.b) := by simp only [A, List.map_map]; rfl
  have hp : (A ++ (B ++ Rb)).Perm (blks L R) := by
    rw [← List.append_assoc, hA]
    show ((keepIn ids L).map (·.2.b) ++ (dropIn ids L).map (·.2.b) ++ Rb).Perm (L.map (·.2.b) ++ Rb)
    rw [← List.map_append]
    exact ((keep_drop ids L).map _).append_right _
  have hnd : (A ++ (B ++ Rb)).Nodup := hp.nodup_iff.2 h.nodup
  have hnd' := List.nodup_append.1 hnd
  have hlt := h.lt
  have inA : ∀ b ∈ A, b ∈ blks L R := fun b hb => hp.subset (List.mem_append_left _ hb)
  have inB : ∀ b ∈ B ++ Rb, b ∈ blks L R ∧ b ∉ A := fun b hb => ⟨hp.subset (List.mem_append_right _ hb), fun hA => hnd'.2.2 b hA b hb rfl⟩
  have oldB : ∀ b ∈ B ++ Rb, w'.heap[b]? = w.heap[b]? := fun b hb => he.keep b (hlt b (inB b hb).1) (inB b hb).2
  have notLo : ∀ o ∈ Lo, o.b ∉ B ++ Rb := fun o ho hm => by
    rcases hb o ho with h1 | h1
    · exact absurd (hlt _ (inB _ hm).1) (Nat.not_lt.2 h1)
    · exact (inB _ hm).2 h1
  have blk : blks (numL nx Lo ++ dropIn ids L) R = Lo.map SO.b ++ (B ++ Rb) := by
    simp only [blks, List.map_append, numL_blk, List.append_assoc, B, Rb]
  refine ⟨h.ext.trans' he (fun b hm => (h.free b (inA b hm)).1.symm), fun p hp => ?_, fun p hp => ?_, ?_, fun b hm => ?_⟩
  · rcases List.mem_append.1 hp with hp | hp
    · exact hl.obj _ (numL_mem _ _ _ hp)
    · rw [oldB p.2.b (List.mem_append_left _ (List.mem_map.2 ⟨p, hp, rfl⟩))]
      exact h.obj p ((dropIn_sub ids L).subset hp)
  · refine ownsRow_of_block (h.row p hp) (fun g hg => oldB g (List.mem_append_right _ (List.mem_filterMap.2 ⟨p, hp, hg⟩)))
  · rw [blk]
    refine List.nodup_append.2 ⟨hl.nodup, hnd'.2.1, fun a ha b hb e => ?_⟩
    subst e
    obtain ⟨o, ho, rfl⟩ := List.mem_map.1 ha
    exact notLo o ho hb
  · rw [blk] at hm
    rcases List.mem_append.1 hm with hm | hm
    · obtain ⟨o, ho, rfl⟩ := List.mem_map.1 hm
      refine ⟨?_, hl.free o ho⟩
      rcases hb o ho with h1 | h1
      · exact .inl (Nat.le_trans h.ext.size h1)
      · exact (h.free _ (inA _ h1)).1
    · refine ⟨(h.free b (inB b hm).1).1, fun a ha => ?_⟩
      rw [he.new a (by rw [ha]; exact hlt b (inB b hm).1) (by rw [ha]; exact (inB b hm).2)]
      exact (h.free b (inB b hm).1).2 a ha

theorem Holds.calledL {a : Act} {w w' : World} {M' : Mem} (h : Holds cx M s a w) (ids : List Nat) {dst : Option Tmp} (hd : okD cx.n dst = true) {Lo : List SO} (he : Ext (((keepIn ids s.L).map (·.2)).map SO.b) w M w' M' cx.D) (hl : Lent Lo M' w')
    (hb : ∀ o ∈ Lo, w.heap.size ≤ o.b ∨ o.b ∈ ((keepIn ids s.L).map (·.2)).map SO.b) (v : Value) : Holds cx M' ⟨putS dst (.v v) (untag s.S), numL s.nx Lo ++ dropIn ids s.L, s.R, s.nx + Lo.length⟩ (a.put dst v) w' := by
  have h0 : Holds cx M ⟨untag s.S, s.L, s.R, s.nx⟩ a w := ⟨h.size, h.defers, (fun t x hx => by
    obtain ⟨y, hy, rfl⟩ := untag_lk s.S t x hx
    exact h.slots t y hy), (fun t i b off hx => by
    obtain ⟨y, hy, he⟩ := untag_lk s.S t _ hx
    cases he), h.ids, h.st⟩
  have h1 := h0.put (s := ⟨untag s.S, s.L, s.R, s.nx⟩) dst (.v v) hd (fun _ _ _ e => by cases e) (fun i so hi => ⟨so, hi, rfl⟩) h.ids h.st
  refine ⟨h1.size, h1.defers, h1.slots, fun t i b off hx => ?_, fun i so hi => ?_, h.st.calledL ids he hl hb _⟩
  · cases dst with
    | none =>
      obtain ⟨y, hy, he⟩ := untag_lk s.S t _ hx
      cases he
    | some d =>
      simp only [putS, lk_cons] at hx
      by_cases e : d = t
      · rw [if_pos e] at hx; cases hx
      · rw [if_neg e] at hx
        obtain ⟨y, hy, he⟩ := untag_lk s.S t _ hx
        cases he
  · rcases lk_append _ _ i so hi with h2 | h2
    · exact numL_lt _ _ i so h2
    · obtain ⟨y, hy⟩ := mem_lt ((dropIn_sub ids s.L).subset (lk_mem h2))
      have := h.ids i y hy
      show i < s.nx + Lo.length
      omega

/-- A call of a Go function that is lent blocks. -/
theorem o_callL {dst : Option Tmp} {g : Nat} {args : List Value} (ids : List Nat) (Li : List SO) (hi : (keepIn ids s.L).map (·.2) = Li) (h : callS P cx.n l k s = some (dst, g, args)) (hgo : goes P g = true) (Post : Value → Mem → List SO → Prop)
    (C : ∀ w, St cx M s.L s.R w → Lent Li M w → CtL P g args Li w M Post cx.D)
    (K : ∀ v M' Lo, (∀ a u, M a = some u → M' a = some u) → Post v M' Lo → J cx M' ⟨putS dst (.v v) (untag s.S), numL s.nx Lo ++ dropIn ids s.L, s.R, s.nx + Lo.length⟩ X) : OpJ P cx M s l Q k X := by
  subst hi
  intro a w ha
  obtain ⟨o, ho, hd, hok, hw, hrun⟩ := callS_spec h hgo ha
  refine ⟨o, ho, hw, ?_⟩
  unfold Oper.wp
  rw [hrun, Oper.upon_enter]
  refine Calls.mono (C w ha.st (ha.st.lent ids)) ?_
  rintro e w' ⟨v, M', Lo, rfl, he, hl, hb, hp⟩
  simp only
  rw [hd]
  exact K v M' Lo he.le hp _ _ (ha.calledL ids hok he hl hb v)
theorem g_callL {dst : Option Tmp} {g : Nat} {args : List Value} (ids : List Nat) (Li : List SO) (hi : (keepIn ids s.L).map (·.2) = Li) (h : callS P cx.n l k s = some (dst, g, args)) (hgo : goes P g = true) (Post : Value → Mem → List SO → Prop)
    (C : ∀ w, St cx M s.L s.R w → Lent Li M w → CtL P g args Li w M Post cx.D)
    (K : ∀ v M' Lo, (∀ a u, M a = some u → M' a = some u) → Post v M' Lo → J cx M' ⟨putS dst (.v v) (untag s.S), numL s.nx Lo ++ dropIn ids s.L, s.R, s.nx + Lo.length⟩ (wpList P l.toArray Q (l.drop (k + 1)))) : J cx M s (wpList P l.toArray Q (l.drop k)) :=
  g_op (o_callL ids Li hi h hgo Post C K)

theorem g_tag (t i : Nat) {b off : Nat} {so : SO} (h : lk s.S t = some (.v (.pointer (some ⟨b, off, none⟩)))) (hl : lk s.L i = some so) (hb : Nat.beq so.b b = true) (K : J cx M ⟨(t, .l i b off) :: s.S, s.L, s.R, s.nx⟩ X) : J cx M s X := by
  intro a w ha
  have hb := Nat.eq_of_beq_eq_true hb
  refine K a w ⟨ha.size, ha.defers, fun t' x hx => ?_, fun t' i' b' off' hx => ?_, ha.ids, ha.st⟩
  · simp only [lk_cons] at hx
    by_cases e : t = t'
    · rw [if_pos e] at hx
      injection hx with hx
      subst hx; subst e
      exact ha.slots t (.v _) h
    · rw [if_neg e] at hx
      exact ha.slots t' x hx
  · simp only [lk_cons] at hx
    by_cases e : t = t'
    · rw [if_pos e] at hx
      injection hx with hx
      injection hx with h1 h2 h3
      subst h1; subst h2
      exact ⟨so, hl, hb⟩
    · rw [if_neg e] at hx
      exact ha.locs t' i' b' off' hx

/-! ### the end, and the beginning -/
theorem n_postL {fn : Func} {n : Nat} {bs : List Nat} {w0 : World} {M0 : Mem} {D : Prop} {Post : Value → Mem → List SO → Prop} (ids : List Nat) (Lo : List SO) (ho : (keepIn ids s.L).map (·.2) = Lo) (v : Value) (h : resS P fn s = some v) (K : Post v M Lo) : J ⟨n, bs, w0, M0, D⟩ M s (bodyPost P fn (RetL bs w0 M0 Post D) .ret) :=
  n_done v h fun w hst => by
    subst ho
    refine ⟨v, M, _, rfl, hst.ext, hst.lent ids, fun o ho => ?_, K⟩
    obtain ⟨p, hp, rfl⟩ := List.mem_map.1 ho
    exact (hst.free p.2.b (by simp only [blks, List.mem_append, List.mem_map]; exact .inl ⟨p, (keepIn_sub ids s.L).subset hp, rfl⟩)).1
theorem n_postL' {fn : Func} {n : Nat} {bs : List Nat} {w0 : World} {M0 : Mem} {D : Prop} {Post : Value → Mem → List SO → Prop} (ids : List Nat) (Lo : List SO) (ho : (keepIn ids s.L).map (·.2) = Lo) (v : Value) (h : resS P fn s = some v) (K : Post v M Lo) : J ⟨n, bs, w0, M0, D⟩ M s (bodyPost P fn (RetL bs w0 M0 Post D) .normal) :=
  n_done' v h fun w hst => by
    subst ho
    refine ⟨v, M, _, rfl, hst.ext, hst.lent ids, fun o ho => ?_, K⟩
    obtain ⟨p, hp, rfl⟩ := List.mem_map.1 ho
    exact (hst.free p.2.b (by simp only [blks, List.mem_append, List.mem_map]; exact .inl ⟨p, (keepIn_sub ids s.L).subset hp, rfl⟩)).1

theorem enterL {g n : Nat} {fn : Func} {c : Code} (hf : P.funcs[g]? = some fn) (hb : fn.body = some c) (hn : fn.ntmps = n) (args : List Value) (ha : Nat.ble args.length n = true) {w : World} (hM : Sat M w) {Li : List SO} (hL : Lent Li M w) {D : Prop} {Post : Value → Mem → List SO → Prop}
    (K : J ⟨n, Li.map SO.b, w, M, D⟩ M ⟨argS 0 args, numL 0 Li, [], Li.length⟩ (c.wp P (bodyPost P fn (RetL (Li.map SO.b) w M Post D)))) : CtL P g args Li w M Post D := by
  have hle := Nat.le_of_ble_eq_true ha
  have hblk : blks (numL 0 Li) [] = Li.map SO.b := by simp [blks, numL_blk]
  refine calls_of_wp hf hb (K _ w ⟨?_, rfl, fun t x hx => ?_, fun t i b off hx => ?_, (fun i so hi => by have := numL_lt 0 Li i so hi; simpa using this), ⟨Ext.refl _ hM, (fun p hp => hL.obj _ (numL_mem _ _ _ hp)), (fun p hp => by cases hp), by rw [hblk]; exact hL.nodup, (fun b hb => ?_)⟩⟩)
  · simp [hn]; omega
  · obtain ⟨_, v, h2, rfl⟩ := argS_lk args 0 t x hx
    simp only [Nat.sub_zero] at h2
    obtain ⟨hlt, he⟩ := List.getElem?_eq_some_iff.1 h2
    refine ⟨by show t < n; omega, ?_⟩
    rw [Array.getD_eq_getD_getElem?, Array.getElem?_append_left (by simpa using hlt)]
    simp [h2, SV.val]
  · obtain ⟨_, v, _, h3⟩ := argS_lk args 0 t _ hx
    cases h3
  · rw [hblk] at hb
    obtain ⟨o, ho, rfl⟩ := List.mem_map.1 hb
    exact ⟨.inr (List.mem_map.2 ⟨o, ho, rfl⟩), hL.free o ho⟩
end rules
end Go.Eng
