/-
  Part 8 of the proof: what the functions that the law reaches come to.
-/
import Derived.Test.YtkiepfhcnicfgaaGreatPart7
set_option linter.all false
set_option maxRecDepth 100000
set_option maxHeartbeats 8000000
namespace Go.AL
open Go.Proofs
/-- What is told of a node's parts. -/
def GoodP (b : List Node) (j : Int) (p : Int × Int) : Prop :=
 p.1 < j /\ p.2 < j /\ ((at' b j).op = 4 \/ (at' b j).op = 5 -> 0 <= p.1 /\ 0 <= p.2) /\ ((at' b j).op = 6 \/ (at' b j).op = 7 \/ (at' b j).op = 8 -> 0 <= p.1)
theorem prt_ends (rules : Int) (b : List Node) : ∀ (f k : Nat) (ps : List (Int × Int)) (st : List Int), k + f = b.length -> ps.length = b.length -> (∀ x ∈ st, 0 <= x /\ x < k) -> (∀ j : Nat, j < k -> GoodP b j (at' ps (j : Int))) -> rightL rules (b.drop k) st.length = true ->
  ∃ pt, prtF b f k ps st = some pt /\ pt.length = b.length /\ ∀ j : Nat, j < b.length -> GoodP b j (at' pt (j : Int))
 | 0, k, ps, st, hk, hl, hst, hps, hr => ⟨ps, rfl, hl, fun j hj => hps j (by omega)⟩
 | f + 1, k, ps, st, hk, hl, hst, hps, hr => by
  have hkb : k < b.length := by omega
  rw [drop_at b k hkb] at hr
  simp only [rightL, Bool.and_eq_true] at hr
  obtain ⟨ho, hr⟩ := hr
  have ho := of_decide_eq_true ho
  have har := ho.1
  have hop0 := ho.2.1
  have hop8 := ho.2.2.1
  have step : ∀ (p : Int × Int) (st' : List Int) (ps' : List (Int × Int)), ps'.length = b.length -> (∀ j : Nat, j < k -> at' ps' (j : Int) = at' ps (j : Int)) -> at' ps' (k : Int) = p -> GoodP b k p -> (∀ x ∈ st', 0 <= x /\ x < (k + 1 : Nat)) -> (st'.length : Int) = st.length + (1 - arityI (at' b (k : Int)).op) ->
    ∃ pt, prtF b f (k + 1) ps' st' = some pt /\ pt.length = b.length /\ ∀ j : Nat, j < b.length -> GoodP b j (at' pt (j : Int)) := fun p st' ps' h1 h2 h3 h4 h5 h6 => by
   refine prt_ends rules b f (k + 1) ps' st' (by omega) h1 h5 (fun j hj => ?_) (by rw [h6]; exact hr)
   by_cases hjk : j = k
   ·subst hjk; rw [h3]; exact h4
   ·rw [h2 j (by omega)]; exact hps j (by omega)
  unfold prtF
  have hsl : ∀ v : Int × Int, (ps.set k v).length = b.length := fun v => by simp [hl]
  have hso : ∀ (l : List (Int × Int)) (v : Int × Int) (j : Nat), j < k -> at' (l.set k v) (j : Int) = at' l (j : Int) := fun l v j hj => at'_set_ne (by omega)
  by_cases p4 : (at' b (k : Int)).op = 4 \/ (at' b (k : Int)).op = 5
  ·rw [if_pos p4]
   have ha : arityI (at' b (k : Int)).op = 2 := by rcases p4 with h | h <;> rw [h] <;> rfl
   rw [ha] at har
   have h2 : 2 <= st.length := by omega
   rw [if_pos h2]
   have m1 := hst _ (at'_memI (l := st) (x := (st.length : Int) - 2) (by omega) (by omega))
   have m2 := hst _ (at'_memI (l := st) (x := (st.length : Int) - 1) (by omega) (by omega))
   refine step _ _ _ (by simp [hl]) (fun j hj => by rw [hso _ _ j hj, hso _ _ j hj]) (at'_set_self (by rw [hsl]; exact hkb)) ⟨m1.2, m2.2, fun _ => ⟨m1.1, m2.1⟩, fun h => absurd h (by omega)⟩ (fun x hx => ?_) ?_
   ·rcases List.mem_append.1 hx with hx | hx
    ·have := hst x (List.mem_of_mem_take hx); omega
    ·simp at hx; omega
   ·rw [ha, List.length_append, List.length_take]; simp; omega
  rw [if_neg p4]
  by_cases p6 : (at' b (k : Int)).op = 6 \/ (at' b (k : Int)).op = 7 \/ (at' b (k : Int)).op = 8
  ·rw [if_pos p6]
   have ha : arityI (at' b (k : Int)).op = 1 := by rcases p6 with h | h | h <;> rw [h] <;> rfl
   rw [ha] at har
   have h1 : 1 <= st.length := by omega
   rw [if_pos h1]
   have m1 := hst _ (at'_memI (l := st) (x := (st.length : Int) - 1) (by omega) (by omega))
   refine step _ _ _ (by simp [hl]) (fun j hj => by rw [hso _ _ j hj, hso _ _ j hj]) (at'_set_self (by rw [hsl]; exact hkb)) ⟨by show (k : Int) - 1 < k; omega, by show (at' (ps.set k (-1, -1)) (k : Int)).2 < k; rw [at'_set_self (by omega)]; show (-1 : Int) < k; omega, fun h => absurd h p4, fun _ => by show 0 <= (k : Int) - 1; omega⟩ (fun x hx => ?_) ?_
   ·rcases List.mem_append.1 hx with hx | hx
    ·have := hst x (List.mem_of_mem_take hx); omega
    ·simp at hx; omega
   ·rw [ha, List.length_append, List.length_take]; simp; omega
  rw [if_neg p6]
  have ha : arityI (at' b (k : Int)).op = 0 := by
   unfold arityI
   rw [if_neg (by omega), if_neg (by omega)]
  refine step _ _ _ (hsl _) (fun j hj => hso _ _ j hj) (at'_set_self (by omega)) ⟨by show (-1 : Int) < k; omega, by show (-1 : Int) < k; omega, fun h => absurd h p4, fun h => absurd h p6⟩ (fun x hx => ?_) ?_
  ·rcases List.mem_append.1 hx with hx | hx
   ·have := hst x hx; omega
   ·simp at hx; omega
  ·rw [ha, List.length_append]; simp
/-- sound's own parts of a right body. -/
theorem prtM_ends (rules : Int) (b : List Node) (h : rightL rules b 0 = true) : ∃ pt, prtM b = some pt /\ pt.length = b.length /\ ∀ j : Nat, j < b.length -> GoodP b j (at' pt (j : Int)) :=
 prt_ends rules b b.length 0 _ [] (by omega) (by simp) (fun x hx => by cases hx) (fun j hj => absurd hj (by omega)) h
end Go.AL
namespace Go.AL
open Go.Proofs
theorem at'_snoc_lt {S : List Int} {m i : Nat} {v : Int} (hm : m <= S.length) (hi : i < m) : at' (S.take m ++ [v]) (i : Int) = at' S (i : Int) := by
 have h1 : i < (S.take m).length := by rw [List.length_take]; omega
 simp only [at', Int.toNat_natCast, List.getD_eq_getElem?_getD]
 rw [List.getElem?_append_left h1, List.getElem?_take_of_lt hi]
theorem at'_snoc_eq {S : List Int} {m : Nat} {v : Int} (hm : m <= S.length) : at' (S.take m ++ [v]) (m : Int) = v := by
 have h1 : (S.take m).length = m := by rw [List.length_take]; omega
 simp only [at', Int.toNat_natCast, List.getD_eq_getElem?_getD]
 rw [List.getElem?_append_right (by omega), h1]
 simp
/-- Where each tree on the stack begins. -/
structure Link (k : Nat) (S st : List Int) : Prop where
 mem : ∀ x ∈ S, 0 <= x /\ x < k
 start : ∀ i : Nat, i < S.length -> at' st (at' S (i : Int)) = if i = 0 then 0 else at' S ((i - 1 : Nat) : Int) + 1
 last : k = 0 \/ (0 < S.length /\ at' S ((S.length - 1 : Nat) : Int) = (k : Int) - 1)
theorem Link.at {k : Nat} {S st : List Int} (h : Link k S st) {i : Nat} (hi : i < S.length) : 0 <= at' S (i : Int) /\ at' S (i : Int) < k := h.mem _ (at'_memI (by omega) (by omega))
theorem set_off {l : List Int} {k : Nat} {v x : Int} (h0 : 0 <= x) (h1 : x < k) : at' (l.set k v) x = at' l x := by
 rw [at'_nat, at'_set_ne (by omega), <- at'_nat]
/-- A tree is put on what is left of the stack. -/
theorem Link.push {k m : Nat} {S st st' : List Int} (h : Link k S st) (hm : m <= S.length) (hlen : k < st'.length) (hst : ∀ x : Int, 0 <= x -> x < k -> at' st' x = at' st x) (hk : at' st' (k : Int) = if m = 0 then 0 else at' S ((m - 1 : Nat) : Int) + 1) : Link (k + 1) (S.take m ++ [(k : Int)]) st' := by
 have hl : (S.take m ++ [(k : Int)]).length = m + 1 := by simp; omega
 refine ⟨fun x hx => ?_, fun i hi => ?_, .inr ⟨by omega, ?_⟩⟩
 ·rcases List.mem_append.1 hx with hx | hx
  ·have := h.mem x (List.mem_of_mem_take hx); omega
  ·simp at hx; omega
 ·rw [hl] at hi
  by_cases him : i = m
  ·subst him
   rw [at'_snoc_eq hm, hk]
   by_cases h0 : i = 0
   ·rw [if_pos h0, if_pos h0]
   ·rw [if_neg h0, if_neg h0, at'_snoc_lt hm (by omega)]
  ·have hi' : i < m := by omega
   rw [at'_snoc_lt hm hi']
   obtain ⟨a0, a1⟩ := h.at (i := i) (by omega)
   rw [hst _ a0 a1, h.start i (by omega)]
   by_cases h0 : i = 0
   ·rw [if_pos h0, if_pos h0]
   ·rw [if_neg h0, if_neg h0, at'_snoc_lt hm (by omega)]
 ·rw [hl, show m + 1 - 1 = m by omega, at'_snoc_eq hm]
  omega
theorem div_prt (rules : Int) (b : List Node) : ∀ (f k : Nat) (ps : List (Int × Int)) (S st : List Int), k + f = b.length -> ps.length = b.length -> st.length = b.length -> Link k S st -> rightL rules (b.drop k) S.length = true -> divF b f k ps st = prtF b f k ps S
 | 0, k, ps, S, st, hk, hl, hs, hL, hr => rfl
 | f + 1, k, ps, S, st, hk, hl, hs, hL, hr => by
  have hkb : k < b.length := by omega
  rw [drop_at b k hkb] at hr
  simp only [rightL, Bool.and_eq_true] at hr
  obtain ⟨ho, hr⟩ := hr
  have ho := of_decide_eq_true ho
  have har := ho.1
  have hsk : ∀ x : Int, 0 <= x -> x < k -> at' (st.set k (k : Int)) x = at' st x := fun x h0 h1 => set_off h0 h1
  unfold divF prtF
  by_cases p6 : (at' b (k : Int)).op = 6 \/ (at' b (k : Int)).op = 7 \/ (at' b (k : Int)).op = 8
  ·rw [if_pos p6, if_neg (show ¬((at' b (k : Int)).op = 4 \/ (at' b (k : Int)).op = 5) by omega), if_pos p6]
   have ha : arityI (at' b (k : Int)).op = 1 := by rcases p6 with h | h | h <;> rw [h] <;> rfl
   rw [ha] at har hr
   have h1 : 1 <= S.length := by omega
   obtain ⟨hk0, hlast⟩ := hL.last.resolve_left (fun h0 => by have := hL.at (i := 0) (by omega); omega)
   have hk1 : 1 <= k := by have := hL.at (i := 0) (by omega); omega
   rw [if_pos hk1, if_pos h1]
   have hv : at' (st.set k (k : Int)) ((k : Int) - 1) = if S.length - 1 = 0 then 0 else at' S ((S.length - 1 - 1 : Nat) : Int) + 1 := by
    rw [hsk _ (by omega) (by omega), <- hlast, hL.start _ (by omega)]
   rw [show ((S.length : Int) - 1).toNat = S.length - 1 by omega]
   refine div_prt rules b f (k + 1) _ _ _ (by omega) (by simp [hl]) (by simp [hs]) (hL.push (by omega) (by simp; omega) (fun x h0 h1 => by rw [set_off h0 h1, hsk x h0 h1]) (by rw [at'_set_self (by simp; omega)]; exact hv)) ?_
   rw [List.length_append, List.length_take]
   have e : (((min (S.length - 1) S.length + [(k : Int)].length : Nat)) : Int) = (S.length : Int) + (1 - 1) := by simp; omega
   rw [e]; exact hr
  rw [if_neg p6]
  by_cases p4 : (at' b (k : Int)).op = 4 \/ (at' b (k : Int)).op = 5
  ·rw [if_pos p4, if_pos p4]
   have ha : arityI (at' b (k : Int)).op = 2 := by rcases p4 with h | h <;> rw [h] <;> rfl
   rw [ha] at har hr
   have h2 : 2 <= S.length := by omega
   obtain ⟨hk0, hlast⟩ := hL.last.resolve_left (fun h0 => by have := hL.at (i := 0) (by omega); omega)
   have hk1 : 1 <= k := by have := hL.at (i := 0) (by omega); omega
   obtain ⟨m0, m1⟩ := hL.at (i := S.length - 2) (by omega)
   have hv : at' (st.set k (k : Int)) ((k : Int) - 1) = at' S ((S.length - 2 : Nat) : Int) + 1 := by
    rw [hsk _ (by omega) (by omega), <- hlast, hL.start _ (by omega), if_neg (by omega)]
    rfl
   rw [if_pos ⟨hk1, by rw [hv]; omega, by rw [hv]; omega⟩, if_pos h2]
   have hp : (at' (st.set k (k : Int)) ((k : Int) - 1) - 1, (k : Int) - 1) = (at' S ((S.length : Int) - 2), at' S ((S.length : Int) - 1)) := by
    rw [hv, show (S.length : Int) - 2 = ((S.length - 2 : Nat) : Int) by omega, show (S.length : Int) - 1 = ((S.length - 1 : Nat) : Int) by omega, hlast]
    congr 1
    omega
   rw [hp, at'_set_self (by simp [hl]; omega)]
   rw [show ((S.length : Int) - 2).toNat = S.length - 2 by omega]
   refine div_prt rules b f (k + 1) _ _ _ (by omega) (by simp [hl]) (by simp [hs]) (hL.push (by omega) (by simp; omega) (fun x h0 h1 => by rw [set_off h0 h1, hsk x h0 h1]) ?_) ?_
   ·rw [at'_set_self (by simp; omega)]
    show at' (st.set k (k : Int)) (at' S ((S.length : Int) - 2)) = _
    rw [show (S.length : Int) - 2 = ((S.length - 2 : Nat) : Int) by omega, hsk _ m0 m1, hL.start _ (by omega)]
   ·rw [List.length_append, List.length_take]
    have e : (((min (S.length - 2) S.length + [(k : Int)].length : Nat)) : Int) = (S.length : Int) + (1 - 2) := by simp; omega
    rw [e]; exact hr
  rw [if_neg p4, if_neg p4, if_neg p6]
  have ha : arityI (at' b (k : Int)).op = 0 := by
   unfold arityI
   rw [if_neg (by omega), if_neg (by omega)]
  rw [ha] at hr
  have hpush := hL.push (m := S.length) (st' := st.set k (k : Int)) (Nat.le_refl _) (by simp; omega) hsk (by
   rw [at'_set_self (by omega)]
   by_cases h0 : S.length = 0
   ·rw [if_pos h0]
    rcases hL.last with h | h
    ·omega
    ·omega
   ·rw [if_neg h0]
    rcases hL.last with h | h
    ·have := hL.at (i := 0) (by omega); omega
    ·rw [h.2]; omega)
  rw [List.take_length] at hpush
  refine div_prt rules b f (k + 1) _ _ _ (by omega) (by simp [hl]) (by simp [hs]) hpush ?_
  rw [List.length_append]
  have e : (((S.length + [(k : Int)].length : Nat)) : Int) = (S.length : Int) + (1 - 0) := by simp
  rw [e]; exact hr
theorem divM_prtM (rules : Int) (b : List Node) (h : rightL rules b 0 = true) : divM b = prtM b :=
 div_prt rules b b.length 0 _ [] _ (by omega) (by simp) (by simp) ⟨fun x hx => (by cases hx), fun i hi => absurd hi (by simp), .inl rfl⟩ h
end Go.AL
namespace Go.AL
open Go.Proofs
structure Right (c : Core) : Prop where
 nr : 0 < c.rules.length /\ c.rules.length <= 256
 start : 0 <= c.start /\ c.start < c.rules.length
 right : ∀ r ∈ c.rules, rightL c.rules.length r.body 0 = true
 size : ∀ r ∈ c.rules, r.body.length <= 16384
theorem checkL_right {n : Int} : ∀ (l : List Rule) (seen : List ByteArray), checkL n l seen = true -> ∀ r ∈ l, rightL n r.body 0 = true
 | [], _, _, r, hr => by cases hr
 | a :: l, seen, h, r, hr => by
  simp only [checkL, Bool.and_eq_true] at h
  rcases List.mem_cons.1 hr with rfl | hr
  ·exact h.2.2.1
  ·exact checkL_right l _ h.2.2.2 r hr
theorem right_of {c : Core} (h : checkI c = 0) : Right c := by
 unfold checkI at h
 split at h
 ·cases h
 rename_i h1
 split at h
 ·rename_i h2
  refine ⟨by omega, by omega, checkL_right _ _ h2, fun r hr => ?_⟩
  have := len_sizeL c.rules 0 r hr
  have hs : ¬ sizeL c.rules 0 > 16384 := fun q => h1 (.inr (.inr (.inr (.inr q))))
  omega
 ·cases h
theorem rightL_pos {n : Int} {b : List Node} (h : rightL n b 0 = true) : 0 < b.length := by
 cases b with
 | nil => simp [rightL] at h
 | cons a l => simp
theorem rightL_rule {n : Int} : ∀ (b : List Node) (d : Int), rightL n b d = true -> ∀ nd ∈ b, nd.op = 2 -> 0 <= nd.rule /\ nd.rule < n
 | [], _, _, nd, h => by cases h
 | a :: l, d, h, nd, hn => by
  simp only [rightL, Bool.and_eq_true] at h
  rcases List.mem_cons.1 hn with rfl | hn
  ·exact (of_decide_eq_true h.1).2.2.2.1
  ·exact rightL_rule l _ h.2 nd hn
/-- The parts of every rule. -/
def psM (c : Core) : List (List (Int × Int)) := c.rules.map fun r => (prtM r.body).getD []
theorem psM_at (c : Core) {r : Nat} (h : r < c.rules.length) : at' (psM c) (r : Int) = (prtM (at' c.rules (r : Int)).body).getD [] := by
 simp [psM, at', List.getD_eq_getElem?_getD, h]
theorem rule_at {c : Core} (hR : Right c) {r : Nat} (h : r < c.rules.length) : ∃ pt, prtM (at' c.rules (r : Int)).body = some pt /\ divM (at' c.rules (r : Int)).body = some pt /\ at' (psM c) (r : Int) = pt /\ pt.length = (at' c.rules (r : Int)).body.length /\ ∀ j : Nat, j < (at' c.rules (r : Int)).body.length -> GoodP (at' c.rules (r : Int)).body j (at' pt (j : Int)) := by
 have hm : at' c.rules (r : Int) ∈ c.rules := at'_memI (by omega) (by omega)
 have hr := hR.right _ hm
 obtain ⟨pt, h1, h2, h3⟩ := prtM_ends _ _ hr
 exact ⟨pt, h1, by rw [divM_prtM _ _ hr]; exact h1, by rw [psM_at c h, h1]; rfl, h2, h3⟩
theorem facts_right {c : Core} (hR : Right c) : FactsIn c (psM c) c.rules.length where
 inn := {
  rules := by have := hR.nr; omega
  body := fun r r0 r1 => by have := hR.size _ (at'_memI r0 r1); omega
  parts := by simp [psM]
  part := fun r r0 r1 => by
   obtain ⟨k, rfl⟩ : ∃ k : Nat, r = (k : Int) := ⟨r.toNat, by omega⟩
   obtain ⟨pt, _, _, h3, h4, _⟩ := rule_at hR (r := k) (by omega)
   rw [h3, h4]
  lt := fun r k r0 r1 k0 k1 => by
   obtain ⟨q, rfl⟩ : ∃ q : Nat, r = (q : Int) := ⟨r.toNat, by omega⟩
   obtain ⟨j, rfl⟩ : ∃ j : Nat, k = (j : Int) := ⟨k.toNat, by omega⟩
   obtain ⟨pt, _, _, h3, h4, h5⟩ := rule_at hR (r := q) (by omega)
   rw [h3]
   have := h5 j (by omega)
   exact ⟨by have := this.1; omega, by have := this.2.1; omega⟩
  rule := fun r k r0 r1 k0 k1 h2 => rightL_rule _ _ (hR.right _ (at'_memI r0 r1)) _ (at'_memI k0 k1) h2 }
 ne := fun r r0 r1 => rightL_pos (hR.right _ (at'_memI r0 r1))
 n := rfl
/-- The facts of every right grammar. -/
theorem solve_right {c : Core} (hR : Right c) (hcl : ∀ r k : Nat, okC' (at' (at' c.rules (r : Int)).body (k : Int)).cl) : ∃ rs fs, SolveIn c (psM c) rs fs := by
 obtain ⟨rs, h1⟩ := comes_ends c (psM c)
 obtain ⟨F, fs, h2⟩ := firsts_ends c (psM c) (bodiesM c (psM c) rs) hcl
 exact ⟨rs, fs, facts_right hR, fun r hr => by
  obtain ⟨pt, _, h2, h3, _, _⟩ := rule_at hR hr
  rw [h2, h3], ⟨_, h1⟩, ⟨F, h2⟩⟩
end Go.AL
namespace Go.AL
open Go.Proofs
def wsum (W : List Nat) (S : List Int) : Nat := (S.map fun x => at' W x).sum
theorem wsum_snoc (W : List Nat) (S : List Int) (x : Int) : wsum W (S ++ [x]) = wsum W S + at' W x := by simp [wsum]
theorem wsum_take (W : List Nat) (S : List Int) (m : Nat) (h : m < S.length) : wsum W (S.take (m + 1)) = wsum W (S.take m) + at' W (at' S (m : Int)) := by
 have e : S.take (m + 1) = S.take m ++ [at' S (m : Int)] := by
  rw [List.take_add_one, at'_getElem? h]; rfl
 rw [e, wsum_snoc]
theorem at'_ext {W : List Nat} {w : Nat} {x : Int} (h0 : 0 < W.length) (h : x < W.length) : at' (W ++ [w]) x = at' W x := by
 simp only [at', List.getD_eq_getElem?_getD]
 rw [List.getElem?_append_left (by omega)]
theorem at'_new {W : List Nat} {w : Nat} : at' (W ++ [w]) (W.length : Int) = w := by
 simp [at']
theorem wsum_ext {W : List Nat} {w : Nat} {S : List Int} (h0 : 0 < W.length \/ S = []) (h : ∀ x ∈ S, x < W.length) : wsum (W ++ [w]) S = wsum W S := by
 rcases h0 with h0 | rfl
 ·unfold wsum
  congr 1
  exact List.map_congr_left fun x hx => at'_ext h0 (h x hx)
 ·rfl
def GoodW (b : List Node) (W : List Nat) (j : Int) (p : Int × Int) : Prop :=
 1 <= at' W j /\ ((at' b j).op = 4 \/ (at' b j).op = 5 -> at' W p.1 + at' W p.2 + 1 <= at' W j) /\ ((at' b j).op = 6 \/ (at' b j).op = 7 \/ (at' b j).op = 8 -> at' W p.1 + 1 <= at' W j)
theorem wgt_ends (rules : Int) (b : List Node) : ∀ (f k : Nat) (ps : List (Int × Int)) (S : List Int) (W : List Nat), k + f = b.length -> ps.length = b.length -> W.length = k -> (∀ x ∈ S, 0 <= x /\ x < k) -> (k = 0 \/ (0 < S.length /\ at' S ((S.length - 1 : Nat) : Int) = (k : Int) - 1)) -> (∀ j : Nat, j < k -> GoodW b W j (at' ps (j : Int)) /\ (at' ps (j : Int)).1 < j /\ (at' ps (j : Int)).2 < j) -> wsum W S <= k -> rightL rules (b.drop k) S.length = true ->
  ∃ pt W', prtF b f k ps S = some pt /\ W'.length = b.length /\ (∀ j : Nat, j < b.length -> GoodW b W' j (at' pt (j : Int))) /\ at' W' ((b.length : Int) - 1) <= b.length
 | 0, k, ps, S, W, hk, hl, hW, hS, hL, hG, hs, hr => by
  have hkb : k = b.length := by omega
  rw [hkb, List.drop_length] at hr
  simp only [rightL] at hr
  have hr := of_decide_eq_true hr
  refine ⟨ps, W, rfl, by omega, fun j hj => (hG j (by omega)).1, ?_⟩
  rcases hL with h0 | ⟨_, h1⟩
  ·have : b.length = 0 := by omega
   have hS0 : S.length = 1 := by omega
   have := hS _ (at'_memI (l := S) (x := 0) (by omega) (by omega))
   omega
  ·have hS0 : S.length = 1 := by omega
   have e : S = [(k : Int) - 1] := by
    match S, hS0 with
    | [x], _ =>
     have h1 : x = (k : Int) - 1 := h1
     rw [h1]
   rw [e] at hs
   have hs : at' W ((k : Int) - 1) + 0 <= k := by simpa [wsum] using hs
   rw [hkb] at hs
   omega
 | f + 1, k, ps, S, W, hk, hl, hW, hS, hL, hG, hs, hr => by
  have hkb : k < b.length := by omega
  rw [drop_at b k hkb] at hr
  simp only [rightL, Bool.and_eq_true] at hr
  obtain ⟨ho, hr⟩ := hr
  have ho := of_decide_eq_true ho
  have har := ho.1
  have step : ∀ (m w : Nat) (p : Int × Int) (ps' : List (Int × Int)), m <= S.length -> ps'.length = b.length -> (∀ j : Nat, j < k -> at' ps' (j : Int) = at' ps (j : Int)) -> at' ps' (k : Int) = p -> p.1 < k -> p.2 < k -> GoodW b (W ++ [w]) k p -> wsum W (S.take m) + w <= k + 1 -> ((m + 1 : Nat) : Int) = S.length + (1 - arityI (at' b (k : Int)).op) ->
    ∃ pt W', prtF b f (k + 1) ps' (S.take m ++ [(k : Int)]) = some pt /\ W'.length = b.length /\ (∀ j : Nat, j < b.length -> GoodW b W' j (at' pt (j : Int))) /\ at' W' ((b.length : Int) - 1) <= b.length := fun m w p ps' hm h1 h2 h3 h4 h4' h5 h6 h7 => by
   have hlen : (S.take m ++ [(k : Int)]).length = m + 1 := by simp; omega
   refine wgt_ends rules b f (k + 1) ps' _ (W ++ [w]) (by omega) h1 (by simp [hW]) (fun x hx => ?_) (.inr ⟨by omega, ?_⟩) (fun j hj => ?_) ?_ (by rw [hlen, h7]; exact hr)
   ·rcases List.mem_append.1 hx with hx | hx
    ·have := hS x (List.mem_of_mem_take hx); omega
    ·simp at hx; omega
   ·rw [hlen, show m + 1 - 1 = m by omega, at'_snoc_eq hm]; omega
   ·by_cases hjk : j = k
    ·subst hjk; rw [h3]; exact ⟨h5, h4, h4'⟩
    ·have hj' : j < k := by omega
     rw [h2 j hj']
     obtain ⟨⟨g1, g2, g3⟩, g4, g5⟩ := hG j hj'
     have q : ∀ x : Int, x < k -> at' (W ++ [w]) x = at' W x := fun x hx => at'_ext (by omega) (by omega)
     refine ⟨⟨by rw [q _ (by omega)]; exact g1, fun ho => ?_, fun ho => ?_⟩, g4, g5⟩
     ·rw [q _ (by omega), q _ (by omega), q _ (by omega)]; exact g2 ho
     ·rw [q _ (by omega), q _ (by omega)]; exact g3 ho
   ·have e1 : at' (W ++ [w]) (k : Int) = w := by rw [<- hW]; exact at'_new
    rw [wsum_snoc, e1, wsum_ext (by
     by_cases h0 : k = 0
     ·right
      cases hq : S.take m with
      | nil => rfl
      | cons y r =>
       have hy : y ∈ S.take m := by rw [hq]; exact List.mem_cons_self ..
       have := hS y (List.mem_of_mem_take hy)
       omega
     ·left; omega) (fun x hx => by have := hS x (List.mem_of_mem_take hx); omega)]
    exact h6
  unfold prtF
  have hsl : ∀ v : Int × Int, (ps.set k v).length = b.length := fun v => by simp [hl]
  have hso : ∀ (l : List (Int × Int)) (v : Int × Int) (j : Nat), j < k -> at' (l.set k v) (j : Int) = at' l (j : Int) := fun l v j hj => at'_set_ne (by omega)
  have eN : ∀ w : Nat, at' (W ++ [w]) (k : Int) = w := fun w => by rw [<- hW]; exact at'_new
  by_cases p4 : (at' b (k : Int)).op = 4 \/ (at' b (k : Int)).op = 5
  ·rw [if_pos p4]
   have ha : arityI (at' b (k : Int)).op = 2 := by rcases p4 with h | h <;> rw [h] <;> rfl
   rw [ha] at har
   have h2 : 2 <= S.length := by omega
   rw [if_pos h2]
   have m1 := hS _ (at'_memI (l := S) (x := (S.length : Int) - 2) (by omega) (by omega))
   have m2 := hS _ (at'_memI (l := S) (x := (S.length : Int) - 1) (by omega) (by omega))
   have t1 := wsum_take W S (S.length - 2) (by omega)
   have t2 := wsum_take W S (S.length - 1) (by omega)
   rw [show S.length - 2 + 1 = S.length - 1 by omega] at t1
   rw [show S.length - 1 + 1 = S.length by omega, List.take_length] at t2
   rw [show ((S.length - 2 : Nat) : Int) = (S.length : Int) - 2 by omega] at t1
   rw [show ((S.length - 1 : Nat) : Int) = (S.length : Int) - 1 by omega] at t2
   rw [show ((S.length : Int) - 2).toNat = S.length - 2 by omega]
   refine step (S.length - 2) (at' W (at' S ((S.length : Int) - 2)) + at' W (at' S ((S.length : Int) - 1)) + 1) _ _ (by omega) (by simp [hl]) (fun j hj => by rw [hso _ _ j hj, hso _ _ j hj]) (at'_set_self (by rw [hsl]; exact hkb)) m1.2 m2.2 ⟨by rw [eN]; omega, fun _ => by rw [eN, at'_ext (by omega) (by rw [hW]; exact m1.2), at'_ext (by omega) (by rw [hW]; exact m2.2)]; exact Nat.le_refl _, fun h => absurd h (by omega)⟩ (by omega) (by rw [ha]; omega)
  rw [if_neg p4]
  by_cases p6 : (at' b (k : Int)).op = 6 \/ (at' b (k : Int)).op = 7 \/ (at' b (k : Int)).op = 8
  ·rw [if_pos p6]
   have ha : arityI (at' b (k : Int)).op = 1 := by rcases p6 with h | h | h <;> rw [h] <;> rfl
   rw [ha] at har
   have h1 : 1 <= S.length := by omega
   rw [if_pos h1]
   have m1 := hS _ (at'_memI (l := S) (x := (S.length : Int) - 1) (by omega) (by omega))
   obtain ⟨_, hlast⟩ := hL.resolve_left (fun h0 => by omega)
   have t2 := wsum_take W S (S.length - 1) (by omega)
   rw [show S.length - 1 + 1 = S.length by omega, List.take_length, hlast] at t2
   rw [show ((S.length : Int) - 1).toNat = S.length - 1 by omega]
   refine step (S.length - 1) (at' W ((k : Int) - 1) + 1) _ _ (by omega) (by simp [hl]) (fun j hj => by rw [hso _ _ j hj, hso _ _ j hj]) (at'_set_self (by rw [hsl]; exact hkb)) (by show (k : Int) - 1 < k; omega) (by show (at' (ps.set k (-1, -1)) (k : Int)).2 < k; rw [at'_set_self (by omega)]; show (-1 : Int) < k; omega) ⟨by rw [eN]; omega, fun h => absurd h p4, fun _ => by rw [eN]; show at' (W ++ _) ((k : Int) - 1) + 1 <= _; rw [at'_ext (by omega) (by omega)]; exact Nat.le_refl _⟩ (by omega) (by rw [ha]; omega)
  rw [if_neg p6]
  have ha : arityI (at' b (k : Int)).op = 0 := by
   unfold arityI
   rw [if_neg (by omega), if_neg (by omega)]
  have := step S.length 1 (-1, -1) (ps.set k (-1, -1)) (Nat.le_refl _) (hsl _) (fun j hj => hso _ _ j hj) (at'_set_self (by omega)) (by show (-1 : Int) < k; omega) (by show (-1 : Int) < k; omega) ⟨by rw [eN]; exact Nat.le_refl _, fun h => absurd h p4, fun h => absurd h p6⟩ (by rw [List.take_length]; omega) (by rw [ha]; omega)
  rwa [List.take_length] at this
end Go.AL
namespace Go.AL
open Go.Proofs
theorem wsum_app (W : List Nat) (S T : List Int) : wsum W (S ++ T) = wsum W S + wsum W T := by simp [wsum]
/-- The rules at the front of a right body are found. -/
theorem frn_ends (n : Nat) (b : List Node) (pt : List (Int × Int)) (is : List Info) (W : List Nat) (hp : ∀ j : Nat, j < b.length -> GoodP b j (at' pt (j : Int))) (hw : ∀ j : Nat, j < b.length -> GoodW b W j (at' pt (j : Int))) (his : is.length = b.length) (hr : ∀ nd ∈ b, nd.op = 2 -> 0 <= nd.rule /\ nd.rule < n) :
  ∀ (f : Nat) (todo l : List Int), (∀ x ∈ todo, 0 <= x /\ x < b.length) -> InB n l -> wsum W todo < f -> ∃ out, frnF b pt is f todo l = some out /\ InB n out
 | 0, _, _, _, _, h => absurd h (by omega)
 | f + 1, todo, l, ht, hl, h => by
  unfold frnF
  by_cases h0 : todo = []
  ·rw [if_pos h0]; exact ⟨l, rfl, hl⟩
  rw [if_neg h0]
  have hlen : 0 < todo.length := List.length_pos_iff.2 h0
  obtain ⟨x0, x1⟩ := ht _ (at'_memI (l := todo) (x := (todo.length : Int) - 1) (by omega) (by omega))
  have t2 := wsum_take W todo (todo.length - 1) (by omega)
  rw [show todo.length - 1 + 1 = todo.length by omega, List.take_length, show ((todo.length - 1 : Nat) : Int) = (todo.length : Int) - 1 by omega] at t2
  have htk : ∀ x ∈ todo.take (todo.length - 1), 0 <= x /\ x < b.length := fun y hy => ht y (List.mem_of_mem_take hy)
  rw [if_pos ⟨x0, x1⟩]
  generalize at' todo ((todo.length : Int) - 1) = x at x0 x1 t2
  obtain ⟨j, rfl⟩ : ∃ j : Nat, x = (j : Int) := ⟨x.toNat, by omega⟩
  obtain ⟨g1, g2, g3⟩ := hw j (by omega)
  obtain ⟨p1, p2, p3, p4⟩ := hp j (by omega)
  by_cases o2 : (at' b (j : Int)).op = 2
  ·rw [if_pos o2]
   refine frn_ends n b pt is W hp hw his hr f _ _ htk (fun y hy => ?_) (by omega)
   rcases List.mem_append.1 hy with hy | hy
   ·exact hl y hy
   ·rw [List.mem_singleton] at hy
    rw [hy]
    exact hr _ (at'_memI x0 x1) o2
  rw [if_neg o2, if_pos (fun h4 => ⟨(p3 (.inl h4)).1, by omega⟩)]
  have key : (∀ y ∈ nextsI (at' b (j : Int)).op (at' pt (j : Int)).1 (at' pt (j : Int)).2 is, 0 <= y /\ y < b.length) /\ wsum W (nextsI (at' b (j : Int)).op (at' pt (j : Int)).1 (at' pt (j : Int)).2 is) + 1 <= at' W (j : Int) := by
   unfold nextsI
   split
   ·rename_i o4
    have q := p3 (.inl o4)
    have w := g2 (.inl o4)
    split
    ·refine ⟨fun y hy => ?_, ?_⟩
     ·simp only [List.mem_cons, List.not_mem_nil, or_false] at hy
      rcases hy with rfl | rfl <;> omega
     ·simp only [wsum, List.map_cons, List.map_nil, List.sum_cons, List.sum_nil]; omega
    ·refine ⟨fun y hy => ?_, ?_⟩
     ·simp only [List.mem_cons, List.not_mem_nil, or_false] at hy
      rcases hy with rfl
      omega
     ·simp only [wsum, List.map_cons, List.map_nil, List.sum_cons, List.sum_nil]; omega
   split
   ·rename_i o5
    have q := p3 (.inr o5)
    have w := g2 (.inr o5)
    refine ⟨fun y hy => ?_, ?_⟩
    ·simp only [List.mem_cons, List.not_mem_nil, or_false] at hy
     rcases hy with rfl | rfl <;> omega
    ·simp only [wsum, List.map_cons, List.map_nil, List.sum_cons, List.sum_nil]; omega
   split
   ·rename_i o6
    have q := p4 o6
    have w := g3 o6
    refine ⟨fun y hy => ?_, ?_⟩
    ·simp only [List.mem_cons, List.not_mem_nil, or_false] at hy
     rcases hy with rfl
     omega
    ·simp only [wsum, List.map_cons, List.map_nil, List.sum_cons, List.sum_nil]; omega
   ·refine ⟨fun y hy => (by cases hy), ?_⟩
    simp only [wsum, List.map_nil, List.sum_nil]; omega
  refine frn_ends n b pt is W hp hw his hr f _ _ (fun y hy => ?_) hl (by rw [wsum_app]; omega)
  rcases List.mem_append.1 hy with hy | hy
  ·exact htk y hy
  ·exact key.1 y hy
end Go.AL
namespace Go.AL
open Go.Proofs
theorem infoM_len (c : Core) (ps : List (List (Int × Int))) (rs : List May) (fs : List Cls) (r : Int) : (infoM c ps rs fs r).length = (at' c.rules r).body.length := by
 unfold infoM
 rw [infoL_len _ _ (by rw [bodyM_len, bytesM_len]), bodyM_len]
def outM (c : Core) (rs : List May) (fs : List Cls) (r : Nat) : List Int := (frnF (at' c.rules (r : Int)).body (at' (psM c) (r : Int)) (infoM c (psM c) rs fs r) ((at' c.rules (r : Int)).body.length + 1) [((at' c.rules (r : Int)).body.length : Int) - 1] []).getD []
theorem out_right {c : Core} (hR : Right c) (rs : List May) (fs : List Cls) {r : Nat} (hr : r < c.rules.length) : frnF (at' c.rules (r : Int)).body (at' (psM c) (r : Int)) (infoM c (psM c) rs fs r) ((at' c.rules (r : Int)).body.length + 1) [((at' c.rules (r : Int)).body.length : Int) - 1] [] = some (outM c rs fs r) /\ InB c.rules.length (outM c rs fs r) := by
 obtain ⟨pt, h1, _, h3, h4, h5⟩ := rule_at hR hr
 have hm : at' c.rules (r : Int) ∈ c.rules := at'_memI (by omega) (by omega)
 have hrl := hR.right _ hm
 have hpos := rightL_pos hrl
 obtain ⟨pt', W, w1, w2, w3, w4⟩ := wgt_ends _ (at' c.rules (r : Int)).body (at' c.rules (r : Int)).body.length 0 (List.replicate (at' c.rules (r : Int)).body.length (0, 0)) [] [] (by omega) (by simp) rfl (fun x hx => (by cases hx)) (.inl rfl) (fun j hj => absurd hj (by omega)) (by simp [wsum]) hrl
 have he : pt' = pt := by
  have : prtM (at' c.rules (r : Int)).body = some pt' := w1
  rw [h1] at this
  exact (Option.some.inj this).symm
 subst he
 obtain ⟨out, o1, o2⟩ := frn_ends c.rules.length (at' c.rules (r : Int)).body pt' (infoM c (psM c) rs fs r) W h5 w3 (infoM_len ..) (fun nd hn => rightL_rule _ _ hrl nd hn) ((at' c.rules (r : Int)).body.length + 1) [((at' c.rules (r : Int)).body.length : Int) - 1] [] (fun x hx => by
  rw [List.mem_singleton] at hx
  omega) (fun x hx => (by cases hx)) (by
  simp only [wsum, List.map_cons, List.map_nil, List.sum_cons, List.sum_nil]
  omega)
 unfold outM
 rw [h3, o1]
 exact ⟨rfl, o2⟩
/-- What stands on the left of every rule of a right grammar. -/
theorem find_right {c : Core} (hR : Right c) {rs : List May} {fs : List Cls} (hs : SolveIn c (psM c) rs fs) : FindIn c (psM c) rs fs ((List.range c.rules.length).map (outM c rs fs)) where
 solve := hs
 len := by simp
 prt := fun r hr => by
  obtain ⟨pt, h1, _, h3, h4, h5⟩ := rule_at hR hr
  refine ⟨pt, (at' c.rules (r : Int)).body.length + 1, h1, ?_, ?_⟩
  ·have := hR.size _ (at'_memI (l := c.rules) (x := (r : Int)) (by omega) (by omega)); omega
  ·have e : at' ((List.range c.rules.length).map (outM c rs fs)) (r : Int) = outM c rs fs r := by simp [at', hr]
   rw [e, <- h3]
   exact (out_right hR rs fs hr).1
 star := fun r k hr hk h6 => by
  obtain ⟨pt, h1, _, h3, h4, h5⟩ := rule_at hR hr
  obtain ⟨g1, g2, g3, g4⟩ := h5 k hk
  have := g4 (.inl h6)
  omega
end Go.AL
namespace Go.AL
/-- What comes with other limits: the same, where they are no less than what was used; else one of them is met. -/
def Agree (D S : Int) (o : Out) (s1 : MS) (r : Res) : Prop := (s1.ud <= D /\ s1.us <= S /\ r = .ok o s1) \/ ∃ c s2, r = .stop c s2 /\ (c = 3 /\ D < s1.ud \/ c = 4 /\ S < s1.us)
theorem Agree.up {D S : Int} {o : Out} {s1 s2 s3 : MS} {c : Int} (h : c = 3 /\ D < s1.ud \/ c = 4 /\ S < s1.us) (hu : s1.us <= s2.us /\ s1.ud <= s2.ud) : Agree D S o s2 (.stop c s3) := .inr ⟨c, s3, rfl, by omega⟩
theorem Agree.same {D S : Int} {o : Out} {s1 : MS} (hd : s1.ud <= D) (hu : s1.us <= S) : Agree D S o s1 (.ok o s1) := .inl ⟨hd, hu, rfl⟩
theorem Agree.at {D S : Int} {o : Out} {s1 : MS} {r : Res} (hd : s1.ud <= D) (hu : s1.us <= S) (h : r = .ok o s1) : Agree D S o s1 r := .inl ⟨hd, hu, h⟩
end Go.AL
namespace Go.AL
open Go.Proofs
theorem frn_len (b : List Node) (pt : List (Int × Int)) (is : List Info) : ∀ (f : Nat) (todo l out : List Int), frnF b pt is f todo l = some out -> out.length <= l.length + f
 | 0, todo, l, out, h => by cases h
 | f + 1, todo, l, out, h => by
  unfold frnF at h
  split at h
  ·injection h with h; subst h; omega
  ·split at h
   ·split at h
    ·have := frn_len b pt is f _ _ _ h
     rw [List.length_append] at this
     simp only [List.length_singleton] at this
     omega
    ·split at h
     ·have := frn_len b pt is f _ _ _ h; omega
     ·cases h
   ·cases h
theorem sorted_len (l : List Int) : (sortedI l).length <= l.length := by
 unfold sortedI
 refine Nat.le_trans (fn_compact_le _) ?_
 rw [List.length_mergeSort]
 exact Nat.le_refl _
theorem compact_mem {l : List Int} {x : Int} (h : x ∈ Lib.compact l) : x ∈ l := by
 unfold Lib.compact Lib.compactUpTo at h
 rw [List.mem_map] at h
 obtain ⟨i, hi, rfl⟩ := h
 have := (List.mem_filter.1 hi).1
 rw [List.mem_range] at this
 have hlt : i < l.length := by simpa using this
 rw [getElem!_pos l.toArray i (by simpa using hlt)]
 simp
theorem sorted_mem {l : List Int} {x : Int} (h : x ∈ sortedI l) : x ∈ l := by
 unfold sortedI at h
 exact List.mem_mergeSort.1 (compact_mem h)
def wl : List Bool -> List (List Int) -> Nat
 | s :: ss, l :: ls => (if s then 0 else l.length) + wl ss ls
 | _, _ => 0
theorem at'_cons_succ {α : Type} [Inhabited α] (a : α) (l : List α) (k : Nat) : at' (a :: l) ((k + 1 : Nat) : Int) = at' l (k : Int) := by simp [at']
theorem wl_set : ∀ (ss : List Bool) (ls : List (List Int)) (k : Nat), k < ss.length -> ss.length = ls.length -> at' ss (k : Int) = false -> wl (ss.set k true) ls + (at' ls (k : Int)).length = wl ss ls
 | [], ls, k, h, _, _ => by simp at h
 | s :: ss, [], k, _, h, _ => by simp at h
 | s :: ss, l :: ls, 0, _, _, h => by
  have h : s = false := by simpa [at'] using h
  subst h
  have : at' (l :: ls) ((0 : Nat) : Int) = l := by simp [at']
  rw [this]
  simp only [List.set_cons_zero, wl, if_true, if_neg Bool.false_ne_true]
  simp
  omega
 | s :: ss, l :: ls, k + 1, hk, hl, h => by
  rw [at'_cons_succ] at h ⊢
  have := wl_set ss ls k (by simpa using hk) (by simpa using hl) h
  simp only [List.set_cons_succ, wl]
  omega
theorem wl_rep : ∀ (ls : List (List Int)), wl (List.replicate ls.length false) ls = (ls.map List.length).sum
 | [] => rfl
 | l :: ls => by
  simp only [List.length_cons, List.replicate_succ, wl, List.map_cons, List.sum_cons, wl_rep ls]
  rw [if_neg Bool.false_ne_true]
theorem reach_sum (ls : List (List Int)) (hM : ∀ l ∈ ls, InB ls.length l) : ∀ (f : Nat) (todo : List Int) (seen : List Bool), seen.length = ls.length -> InB ls.length todo -> todo.length + wl seen ls < f -> ∃ out, reachF ls f todo seen = some out /\ out.length = ls.length
 | 0, _, _, _, _, h => absurd h (by omega)
 | f + 1, todo, seen, hs, ht, h => by
  unfold reachF
  by_cases h0 : todo = []
  ·rw [if_pos h0]; exact ⟨seen, rfl, hs⟩
  rw [if_neg h0]
  have hlen : 0 < todo.length := List.length_pos_iff.2 h0
  have hmem : at' todo ((todo.length : Int) - 1) ∈ todo := at'_memI (by omega) (by omega)
  obtain ⟨x0, x1⟩ := ht _ hmem
  rw [if_pos ⟨x0, x1⟩]
  generalize at' todo ((todo.length : Int) - 1) = x at x0 x1
  have htk : InB ls.length (todo.take (todo.length - 1)) := fun y hy => ht y (List.mem_of_mem_take hy)
  have htl : (todo.take (todo.length - 1)).length = todo.length - 1 := by rw [List.length_take]; omega
  by_cases hsx : at' seen x = true
  ·rw [if_pos hsx]
   exact reach_sum ls hM f _ seen hs htk (by rw [htl]; omega)
  ·rw [if_neg hsx]
   have hlx := hM (at' ls x) (at'_memI x0 x1)
   have hxn : x.toNat < seen.length := by omega
   have e1 : at' seen (x.toNat : Int) = false := by
    rw [<- at'_nat seen x]
    cases hq : at' seen x with
    | true => exact absurd hq hsx
    | false => rfl
   have hu := wl_set seen ls x.toNat hxn hs e1
   rw [<- at'_nat ls x] at hu
   refine reach_sum ls hM f _ _ (by simp [hs]) (fun y hy => ?_) ?_
   ·rcases List.mem_append.1 hy with hy | hy
    ·exact htk y hy
    ·exact hlx y hy
   ·rw [List.length_append, htl]
    omega
/-- The heads of a table of rules on the left that isn't too large in all. -/
theorem heads_sum (ls : List (List Int)) (hn : ls.length <= 256) (hM : ∀ l ∈ ls, InB ls.length l) (hl : ∀ l ∈ ls, l.length <= 400000) (hS : (ls.map List.length).sum <= 400000) : HeadsIn ls ((List.range ls.length).map (headM ls)) := by
 refine ⟨by omega, fun l h => by have := hl l h; omega, by simp, fun r hr => ?_⟩
 have hm := at'_memI (l := ls) (x := (r : Int)) (by omega) (by omega)
 obtain ⟨seen, h1, h2⟩ := reach_sum ls hM 1000000 (at' ls (r : Int)) (List.replicate ls.length false) (by simp) (hM _ hm) (by
  rw [wl_rep]
  have := hl _ hm
  omega)
 refine ⟨1000000, seen, by omega, h1, ?_⟩
 have e : at' ((List.range ls.length).map (headM ls)) (r : Int) = headM ls r := by simp [at', hr]
 rw [e]
 unfold headM
 rw [h1]
theorem sum_size : ∀ (ls : List (List Int)) (rs : List Rule) (n : Int), ls.length = rs.length -> (∀ k : Nat, k < ls.length -> (at' ls (k : Int)).length <= (at' rs (k : Int)).body.length + 1) -> n + ((ls.map List.length).sum : Nat) <= sizeL rs n + rs.length
 | [], [], n, _, _ => by simp [sizeL]
 | [], r :: rs, n, h, _ => by simp at h
 | l :: ls, [], n, h, _ => by simp at h
 | l :: ls, r :: rs, n, h, hk => by
  have h0 := hk 0 (by simp)
  have e0 : at' (l :: ls) ((0 : Nat) : Int) = l := by simp [at']
  have e1 : at' (r :: rs) ((0 : Nat) : Int) = r := by simp [at']
  rw [e0, e1] at h0
  have := sum_size ls rs (n + r.body.length) (by simpa using h) (fun k hk' => by
   have := hk (k + 1) (by simp; omega)
   rw [at'_cons_succ, at'_cons_succ] at this
   exact this)
  simp only [sizeL, List.map_cons, List.sum_cons, List.length_cons]
  omega
theorem size_of {c : Core} (h : checkI c = 0) : sizeI c <= 16384 := by
 unfold checkI at h
 split at h
 ·cases h
 rename_i h1
 have : ¬ sizeI c > 16384 := fun q => h1 (.inr (.inr (.inr (.inr q))))
 omega
def dep (b : List Node) : Nat -> Int
 | 0 => 0
 | k + 1 => dep b k + (1 - arityI (at' b (k : Int)).op)
theorem right_drop {rules : Int} {b : List Node} (h : rightL rules b 0 = true) : ∀ k : Nat, k <= b.length -> rightL rules (b.drop k) (dep b k) = true
 | 0, _ => h
 | k + 1, hk => by
  have := right_drop h k (by omega)
  rw [drop_at b k (by omega)] at this
  simp only [rightL, Bool.and_eq_true] at this
  exact this.2
theorem right_arity {rules : Int} {b : List Node} (h : rightL rules b 0 = true) {k : Nat} (hk : k < b.length) : arityI (at' b (k : Int)).op <= dep b k := by
 have := right_drop h k (by omega)
 rw [drop_at b k hk] at this
 simp only [rightL, Bool.and_eq_true] at this
 exact (of_decide_eq_true this.1).1
theorem dep_le (b : List Node) : ∀ k : Nat, dep b k <= k
 | 0 => Int.le_refl _
 | k + 1 => by
  have := dep_le b k
  have := arity_le (at' b (k : Int)).op
  simp only [dep]
  omega
theorem partsL_ok (b : List Node) (node : Nat) (h2 : 2 <= dep b node) : ∀ (k : Nat) (opn : Int), 1 <= opn -> opn = 1 - dep b node + dep b k -> 0 <= (partsL b node k opn).1 /\ (partsL b node k opn).1 < k /\ (partsL b node k opn).2 = (node : Int) - 1
 | 0, opn, h, e => by simp only [dep] at e; omega
 | k + 1, opn, h, e => by
  have ha := arity_le (at' b (k : Int)).op
  simp only [dep] at e
  simp only [partsL]
  split
  ·rename_i hz
   have hk : k ≠ 0 := by
    rintro rfl
    simp only [dep] at e
    omega
   refine ⟨?_, ?_, rfl⟩ <;> dsimp only <;> omega
  ·have := partsL_ok b node h2 k (opn + (arityI (at' b (k : Int)).op - 1)) (by omega) (by omega)
   exact ⟨this.1, by omega, this.2.2⟩
theorem partsI_ok {rules : Int} {b : List Node} (h : rightL rules b 0 = true) {k : Nat} (hk : k < b.length) :
  ((at' b (k : Int)).op = 4 \/ (at' b (k : Int)).op = 5 -> (0 <= (partsI b k).1 /\ (partsI b k).1 < k) /\ (0 <= (partsI b k).2 /\ (partsI b k).2 < k)) /\ ((at' b (k : Int)).op = 6 \/ (at' b (k : Int)).op = 7 \/ (at' b (k : Int)).op = 8 -> 0 <= (partsI b k).1 /\ (partsI b k).1 < k) := by
 have har := right_arity h hk
 have hdl := dep_le b k
 constructor
 ·intro h4
  have ha : arityI (at' b (k : Int)).op = 2 := by rcases h4 with h | h <;> rw [h] <;> rfl
  rw [ha] at har
  have e : partsI b k = partsL b k k 1 := by
   unfold partsI
   rw [if_neg (by omega), if_neg (by omega), if_neg (by omega), Int.toNat_natCast]
  obtain ⟨g1, g2, g3⟩ := partsL_ok b k har k 1 (by omega) (by omega)
  rw [e, g3]
  omega
 ·intro h6
  have ha : arityI (at' b (k : Int)).op = 1 := by rcases h6 with h | h | h <;> rw [h] <;> rfl
  rw [ha] at har
  have e : partsI b k = ((k : Int) - 1, -1) := by
   unfold partsI
   rw [if_neg (by omega), if_neg (by omega), if_pos ha]
  rw [e]
  dsimp only
  omega
theorem partsM_at (c : Core) {r : Nat} (hr : r < c.rules.length) : at' (partsM c) (r : Int) = (List.range (at' c.rules (r : Int)).body.length).map fun (q : Nat) => partsI (at' c.rules (r : Int)).body (q : Int) := by
 simp [partsM, at', List.getD_eq_getElem?_getD, hr]
theorem partsM_at2 (c : Core) {r k : Nat} (hr : r < c.rules.length) (hk : k < (at' c.rules (r : Int)).body.length) : at' (at' (partsM c) (r : Int)) (k : Int) = partsI (at' c.rules (r : Int)).body (k : Int) := by
 rw [partsM_at c hr]
 generalize at' c.rules (r : Int) = x at hk
 simp [at', List.getD_eq_getElem?_getD, hk]
theorem wf_right {c : Core} (hR : Right c) {hs : List Bool} (hh : hs.length = c.rules.length) (input : ByteArray) (D S : Int) (hin : input.size <= 65536) : WF (envM c hs input D S) where
 nr := hR.nr
 body := fun r r0 r1 => by
  have hm := at'_memI r0 r1
  exact ⟨rightL_pos (hR.right _ hm), hR.size _ hm⟩
 heads := hh
 parts := by simp [partsM]
 part := fun r r0 r1 => by
  obtain ⟨k, rfl⟩ : ∃ k : Nat, r = (k : Int) := ⟨r.toNat, by omega⟩
  show (at' (partsM c) (k : Int)).length = (at' c.rules (k : Int)).body.length
  rw [partsM_at c (by have : (k : Int) < c.rules.length := r1; omega)]
  simp
 rule := fun r k r0 r1 k0 k1 h2 => rightL_rule _ _ (hR.right _ (at'_memI r0 r1)) _ (at'_memI k0 k1) h2
 two := fun r k r0 r1 k0 k1 h => by
  obtain ⟨q, rfl⟩ : ∃ q : Nat, r = (q : Int) := ⟨r.toNat, by omega⟩
  obtain ⟨j, rfl⟩ : ∃ j : Nat, k = (j : Int) := ⟨k.toNat, by omega⟩
  have hq : q < c.rules.length := by have : (q : Int) < c.rules.length := r1; omega
  have hj : j < (at' c.rules (q : Int)).body.length := by have : (j : Int) < (at' c.rules (q : Int)).body.length := k1; omega
  show (0 <= (at' (at' (partsM c) (q : Int)) (j : Int)).1 /\ (at' (at' (partsM c) (q : Int)) (j : Int)).1 < (at' c.rules (q : Int)).body.length) /\ (0 <= (at' (at' (partsM c) (q : Int)) (j : Int)).2 /\ (at' (at' (partsM c) (q : Int)) (j : Int)).2 < (at' c.rules (q : Int)).body.length)
  rw [partsM_at2 c hq hj]
  have := (partsI_ok (hR.right _ (at'_memI r0 r1)) hj).1 h
  omega
 one := fun r k r0 r1 k0 k1 h => by
  obtain ⟨q, rfl⟩ : ∃ q : Nat, r = (q : Int) := ⟨r.toNat, by omega⟩
  obtain ⟨j, rfl⟩ : ∃ j : Nat, k = (j : Int) := ⟨k.toNat, by omega⟩
  have hq : q < c.rules.length := by have : (q : Int) < c.rules.length := r1; omega
  have hj : j < (at' c.rules (q : Int)).body.length := by have : (j : Int) < (at' c.rules (q : Int)).body.length := k1; omega
  show 0 <= (at' (at' (partsM c) (q : Int)) (j : Int)).1 /\ (at' (at' (partsM c) (q : Int)) (j : Int)).1 < (at' c.rules (q : Int)).body.length
  rw [partsM_at2 c hq hj]
  have := (partsI_ok (hR.right _ (at'_memI r0 r1)) hj).2 h
  omega
 limD := by show 0 <= clampI D 32768 /\ clampI D 32768 <= 32768; unfold clampI; omega
 limS := by show 0 <= clampI S 1048576 /\ clampI S 1048576 <= 1048576; unfold clampI; omega
 input := hin
theorem runIn_of {c : Core} {I : Int -> List Info} {hs : List Bool} (h : RunF c I hs) (hl : hs.length = c.rules.length) (h0 : checkI c = 0) {input : ByteArray} (D S : Int) (hin : input.size <= 65536) (hb : ∀ r k, r < c.rules.length -> ¬BadStar c I r k) : RunIn c I hs input D S where
 heads := h.heads
 facts := h.facts
 star := fun r k hr hk h6 => by
  obtain ⟨g1, g2⟩ := h.star r k hr hk h6
  refine ⟨g1, g2, ?_⟩
  cases hq : (at' (I r) ((k : Int) - 1)).may.f1 with
  | false => rfl
  | true => exact absurd ⟨hk, h6, hq⟩ (hb r k hr)
 wf := wf_right (right_of h0) hl input D S hin
 start := (right_of h0).start
end Go.AL
namespace Go.AL
open Go.Proofs
theorem ba_at (s : ByteArray) (i : Nat) : s[i]? = s.data.toList[i]? := by
 by_cases h : i < s.size
 ·rw [getElem?_pos s i h, List.getElem?_eq_getElem (by simpa using h)]
  rfl
 ·rw [getElem?_neg s i h, List.getElem?_eq_none (by simpa using h)]
def asc (s : ByteArray) (a b : Nat) : Prop := ∀ j, a <= j -> j < b -> (atB s j).toNat < 128
theorem letter_lt {b : UInt8} (h : letterB b = true) : b.toNat < 128 := by
 have := of_decide_eq_true (show decide _ = true from h)
 omega
theorem digit_lt {b : UInt8} (h : digitB b = true) : b.toNat < 128 := by
 have := of_decide_eq_true (show decide _ = true from h)
 omega
theorem own_asc (s : ByteArray) (p : Nat) : ∀ f i, asc s (p + i) (p + ownN s p f i)
 | 0, i => fun j h1 h2 => by simp only [ownN] at h2; omega
 | f + 1, i => fun j h1 h2 => by
  simp only [ownN] at h2
  split at h2
  ·rename_i h
   by_cases hj : j = p + i
   ·subst hj
    rcases h.2 with h | h
    ·exact letter_lt h
    ·exact digit_lt h.2
   ·exact own_asc s p f (i + 1) j (by omega) h2
  ·omega
theorem digs_asc (s : ByteArray) : ∀ f i, asc s i (digs s f i)
 | 0, i => fun j h1 h2 => by simp only [digs] at h2; omega
 | f + 1, i => fun j h1 h2 => by
  simp only [digs] at h2
  split at h2
  ·rename_i h
   by_cases hj : j = i
   ·subst hj; exact digit_lt h.2
   ·exact digs_asc s f (i + 1) j (by omega) h2
  ·omega
theorem num_asc (s : ByteArray) : asc s 0 (numB s) := by
 intro j h1 h2
 unfold numB at h2
 split at h2
 ·omega
 ·rename_i h
  split at h2
  ·omega
  ·by_cases hj : j = 0
   ·subst hj
    have : ¬ (atB s 0).toNat ≠ 126 := fun q => h (.inr q)
    omega
   ·exact digs_asc s s.size 1 j (by omega) h2
theorem extract_at {s : ByteArray} {a b j : Nat} (h : a + j < b) (hb : b <= s.size) : atB (s.extract a b) j = atB s (a + j) := by
 unfold atB
 rw [ba_at, ba_at]
 congr 1
 have hs : b <= s.data.size := hb
 simp only [ByteArray.data_extract, Array.toList_extract, List.extract]
 rw [List.getElem?_take_of_lt (by omega), List.getElem?_drop]
theorem pre_asc {s : ByteArray} {k : Nat} (h : preB (s.extract k s.size) ⟨#[58, 58]⟩ = true) : (atB s k).toNat = 58 /\ (atB s (k + 1)).toNat = 58 /\ k + 2 <= s.size := by
 unfold preB at h
 obtain ⟨h1, h2⟩ := of_decide_eq_true h
 have e2 : (⟨#[58, 58]⟩ : ByteArray).size = 2 := rfl
 rw [e2] at h1 h2
 rw [ByteArray.size_extract] at h1
 have hk : k + 2 <= s.size := by omega
 have a0 : atB ((s.extract k s.size).extract 0 2) 0 = atB s k := by
  rw [extract_at (by omega) (by rw [ByteArray.size_extract]; omega), extract_at (by omega) (Nat.le_refl _)]
  rfl
 have a1 : atB ((s.extract k s.size).extract 0 2) 1 = atB s (k + 1) := by
  rw [extract_at (by omega) (by rw [ByteArray.size_extract]; omega), extract_at (by omega) (Nat.le_refl _)]
 rw [h2] at a0 a1
 rw [<- a0, <- a1]
 exact ⟨rfl, rfl, hk⟩
theorem num_asc' (s : ByteArray) (k : Nat) (hk : k <= s.size) : asc s k (k + numB (s.extract k s.size)) := by
 intro j h1 h2
 have hn : numB (s.extract k s.size) <= (s.extract k s.size).size := by
  unfold numB
  split
  ·omega
  ·rename_i h
   split
   ·omega
   ·have hp : 0 < (s.extract k s.size).size := by
     rcases Nat.eq_zero_or_pos (s.extract k s.size).size with h0 | h0
     ·exact absurd (.inl (ByteArray.size_eq_zero_iff.1 h0)) h
     ·exact h0
    exact (digs_le _ _ 1 hp).2
 rw [ByteArray.size_extract] at hn
 have := num_asc (s.extract k s.size) (j - k) (by omega) (by omega)
 rw [extract_at (by omega) (Nat.le_refl _), show k + (j - k) = j by omega] at this
 exact this
theorem named_asc (s : ByteArray) : asc s 0 (namedB s 0) := by
 have ho := ownB_le (s := s) (p := 0) (by omega)
 have h1 : asc s 0 (ownB s 0) := by have := own_asc s 0 (s.size - 0 + 1) 0; simpa [ownB] using this
 unfold namedB
 split
 ·intro j _ h2; omega
 ·dsimp only
  split
  ·rename_i hq
   obtain ⟨q1, q2, q3⟩ := pre_asc hq.1
   have h3 : asc s (ownB s 0 + 2) (ownB s 0 + (2 + ownB s (ownB s 0 + 2))) := by
    have := own_asc s (ownB s 0 + 2) (s.size - (ownB s 0 + 2) + 1) 0
    simp only [Nat.add_zero] at this
    intro j a b
    refine this j a ?_
    show j < ownB s 0 + 2 + ownB s (ownB s 0 + 2)
    omega
   have h4 := ownB_le (s := s) (p := ownB s 0 + 2) (by rw [Nat.zero_add] at q3; omega)
   have h5 := num_asc' s (ownB s 0 + (2 + ownB s (ownB s 0 + 2))) (by omega)
   intro j a b
   simp only [Nat.zero_add] at b q1 q2
   by_cases j1 : j < ownB s 0
   ·exact h1 j a j1
   by_cases j2 : j = ownB s 0
   ·subst j2; omega
   by_cases j3 : j = ownB s 0 + 1
   ·subst j3; omega
   by_cases j4 : j < ownB s 0 + (2 + ownB s (ownB s 0 + 2))
   ·exact h3 j (by omega) j4
   ·exact h5 j (by omega) b
  ·have h5 := num_asc' s (ownB s 0) (by omega)
   intro j a b
   simp only [Nat.zero_add] at b
   by_cases j1 : j < ownB s 0
   ·exact h1 j a j1
   ·exact h5 j (by omega) b
theorem name_ascii {s : ByteArray} (h : nameOk s = true) : Ascii s := by
 unfold nameOk at h
 obtain ⟨_, _, h3⟩ := of_decide_eq_true h
 intro j b hj
 have hlt : j < s.size := by
  rcases Nat.lt_or_ge j s.size with h | h
  ·exact h
  ·rw [List.getElem?_eq_none (by simpa using h)] at hj; cases hj
 have := named_asc s j (by omega) (by omega)
 unfold atB at this
 rw [ba_at, hj] at this
 exact this
end Go.AL
namespace Go.AL
open Go.Proofs
attribute [local irreducible] AWp AList RStep seqQ blockQ retQ DSteps DT DU DM DZ awR rQ SStep letterB digitB preB nameOk anyB rightL checkI
theorem eqt38 (d : Nat) : EqT Tryz.prog (d + 2) 38 [.int .i64, .int .i64] := eqT_struct' inferInstance Tryz.underlying38 (by kernel_rfl) (.cons (k1 := [_]) rfl (by decide) (eqt3 _) (.cons (k1 := [_]) (k2 := []) rfl (by decide) (eqt3 _) .nil))
instance : TEq Tryz.prog 38 [.int .i64, .int .i64] := ⟨eqt38 9998, inferInstance, by kernel_rfl⟩
theorem size19_c (c : Core) (h : sizeI c <= 4000000000000000000) (hl : c.rules.length <= 4096) : ACalls Tryz.prog 13 [coreV c] [] (fun r _ => r = .ret (i64 (sizeI c))) := by
 refine acalls_by Tryz.func13 Tryz.ntmps13 ?_
 simp only [argFr]
 repeat' (first| (refine wS ?_)| fail)
 refine aw_roundsP (ι := Nat × Int) 1 (fun _ => [.cells [.p (rulesP c.rules), .p (lI c.start)]]) (fun i n => [(1, .c (.ptr 0 0)), (3, i64 i.2), (4, i64 (i.1 : Int))]) (fun _ _ => []) (fun i => i.1 <= c.rules.length /\ 0 <= i.2 /\ sizeL (c.rules.drop i.1) i.2 = sizeI c) (fun i => c.rules.length - i.1) (0, 0) 1 (fun _ => rfl) ⟨by simp, by simp, by simp⟩ (by omega) (by simp) rfl rfl (by simp [Fr.get]) ?_
 rintro ⟨i, n⟩ q g ⟨h1, h2, h3⟩ hg
 dsimp only at h1 h2 h3 ⊢
 have hg1 : 1 + g.length = q := by simp at hg; omega
 clear hg
 by_cases hi : i < c.rules.length
 ·rw [drop_at c.rules i hi] at h3
  simp only [sizeL] at h3
  have hle := sizeL_le (c.rules.drop (i + 1)) (n + (at' c.rules (i : Int)).body.length)
  repeat' (first| (refine aw_T ?_ (hb := eT))| (refine wS ?_)| fail)
  exact ⟨(i + 1, _), q, ⟨by dsimp only; omega, by dsimp only; omega, h3⟩, by omega, by simp; omega, rfl, dropGP (p := 1) (j := 0) hg1 rfl rfl, by simp [Fr.get], by dsimp only; omega⟩
 ·have : i = c.rules.length := by omega
  subst this
  rw [List.drop_length] at h3
  simp only [sizeL] at h3
  repeat' (first| (refine aw_F ?_ (hb := eF))| (show eRet; refine ret1 Tryz.results13 ?_)| (refine wS ?_)| fail)
  rw [h3]
def heavyB (c : Core) : Bool := decide (c.rules.length > 4096 \/ sizeI c > 1048576)
/-- What is told of a grammar that came in. -/
structure CoreBig (c : Core) : Prop where
 len : c.rules.length <= 140737488351232
 rules : ∀ r ∈ c.rules, r.name.size <= 140737488351232 /\ r.body.length <= 140737488351232 /\ ∀ n ∈ r.body, okC' n.cl /\ n.name.size <= 140737488351232
theorem sizeL_big : ∀ (l : List Rule) (n : Int), (∀ r ∈ l, r.body.length <= 140737488351232) -> sizeL l n <= n + l.length * 140737488351232
 | [], n, _ => by simp [sizeL]
 | r :: l, n, h => by
  have h1 := h r (List.mem_cons_self ..)
  have := sizeL_big l (n + r.body.length) (fun r hr => h r (List.mem_cons_of_mem _ hr))
  simp only [sizeL, List.length_cons]
  omega
theorem heavy_c (c : Core) (hc : CoreBig c) : ACalls Tryz.prog 5 [coreV c] [] (fun r _ => r = .ret (bl (heavyB c))) := by
 have hl := hc.len
 by_cases hq : c.rules.length > 4096
 ·skip
  refine acalls_by Tryz.func5 Tryz.ntmps5 ?_
  simp only [argFr]
  repeat' (first| (show eRet; refine ret1 Tryz.results5 ?_)| (refine wS ?_)| (show lGu; refine al_splitD (fun h => ?_) (fun h => ?_))| (exfalso; omega))
  all_goals (refine congrArg (fun q => CE.ret (bl q)) ?_; simp only [heavyB]; first | exact (dT (by omega)).symm | exact (dF (by omega)).symm)
 ·have hs := sizeL_big c.rules 0 (fun r hr => (hc.rules r hr).2.1)
  have hs : sizeI c <= 4000000000000000000 := by show sizeL c.rules 0 <= _; omega
  refine acalls_by Tryz.func5 Tryz.ntmps5 ?_
  simp only [argFr]
  repeat' (first| (show lOp; refine op0 (by (show kCall; exact b_call ((size19_c c hs (by omega))))) ?_)| (show eRet; refine ret1 Tryz.results5 ?_)| (refine wS ?_)| (show lGu; refine al_splitD (fun h => ?_) (fun h => ?_))| (exfalso; omega))
  all_goals (refine congrArg (fun q => CE.ret (bl q)) ?_; simp only [heavyB]; first | exact (dT (by omega)).symm | exact (dF (by omega)).symm | exact decide_eq_decide.2 (by constructor <;> intro _ <;> omega))
theorem CoreBig.light {c : Core} (hc : CoreBig c) (h : heavyB c = false) : CoreIn c := by
 have h := of_decide_eq_false h
 refine ⟨by omega, by omega, fun r hr => ?_⟩
 obtain ⟨h1, h2, h3⟩ := hc.rules r hr
 exact ⟨by omega, fun n hn => ⟨by have := (h3 n hn).2; omega, name_ascii⟩⟩
theorem CoreBig.cls {c : Core} (hc : CoreBig c) (r k : Nat) : okC' (at' (at' c.rules (r : Int)).body (k : Int)).cl := by
 have hd : okC' (default : Node).cl := okC0
 have hdr : (default : Rule).body = [] := rfl
 by_cases hr : r < c.rules.length
 ·have hm := at'_memI (l := c.rules) (x := (r : Int)) (by omega) (by omega)
  by_cases hk : k < (at' c.rules (r : Int)).body.length
  ·exact ((hc.rules _ hm).2.2 _ (at'_memI (l := (at' c.rules (r : Int)).body) (x := (k : Int)) (by omega) (by omega))).1
  ·rw [at'_out hk]; exact hd
 ·rw [at'_out hr, hdr, at'_out (by simp)]; exact hd
theorem cap_eqc (c : Cap) : eqCells [.string c.name, .int .i64 c.frm, .int .i64 c.til, .int .i64 c.kids] [.string c.name, .int .i64 c.frm, .int .i64 c.til, .int .i64 c.kids] = true := by
 simp [eqCells, vbeq, beq_bytes]
theorem caps22_c (f : List Cap) (hf : f.length <= 1000000000) : ACalls Tryz.prog 26 [.c (.p (forestP f)), .c (.p (forestP f))] [] (fun r _ => r = .ret (bl true)) := by
 refine acalls_by Tryz.func26 Tryz.ntmps26 ?_
 simp only [argFr]
 repeat' (first| (refine aw_F ?_ (hb := eF))| (refine wS ?_)| fail)
 refine aw_roundsG (ι := Nat) (fun i n => [(0, .c (.p (forestP f))), (1, .c (.p (forestP f))), (5, i64 (i : Int))]) (fun _ _ => []) (fun i => i <= f.length) (fun i => f.length - i) 0 0 (by simp) (by simp) rfl (by simp [Fr.get]) ?_
 intro i n g h1 hg
 by_cases hi : i < f.length
 ·have heq := cap_eqc (at' f (i : Int))
  repeat' (first| (refine aw_T ?_ (hb := eT))| (show lOp; refine op0 (by (show kBinopNeq; exact b_neqAgg (hr := heq))) ?_)| (refine wS ?_)| fail)
  exact ⟨i + 1, _, by omega, Nat.le_refl _, List.drop_length, by simp [Fr.get], by omega⟩
 ·repeat' (first| (refine aw_F ?_ (hb := eF))| (show eRet; refine ret1 Tryz.results26 ?_)| (refine wS ?_)| fail)
  rfl
theorem outs11_c (o : Out) (hf : o.forest.length <= 1000000000) : ACalls Tryz.prog 10 [outV o, outV o] [] (fun r _ => r = .ret (bl true)) := by
 refine acalls_by Tryz.func10 Tryz.ntmps10 ?_
 simp only [argFr]
 repeat' (first| (show lOp; refine op0 (by (show kCall; exact b_call ((caps22_c o.forest hf)))) ?_)| (show eRet; refine ret1 Tryz.results10 ?_)| (refine wS ?_)| (show lGu; refine al_splitD (fun h => ?_) (fun h => ?_))| (exfalso; omega))
 all_goals first | rfl | exact absurd rfl h
end Go.AL
namespace Go.AL
open Go.Proofs
structure OwnN (s : ByteArray) : Prop where
 pos : 0 < s.size
 le : s.size <= 64
 first : letterB (atB s 0) = true
 rest : ∀ j, j < s.size -> letterB (atB s j) = true \/ digitB (atB s j) = true
theorem any_none : ∀ {l chars : List UInt8}, Lib.containsAny l chars = false -> ∀ b ∈ l, chars.contains b = false
 | [], _, _, b, h => by cases h
 | a :: l, chars, h, b, hb => by
  unfold Lib.containsAny at h
  have h := of_decide_eq_false h
  have hge := Lib.indexAny_ge chars l
  unfold Lib.indexAny at h
  split at h
  ·omega
  ·rename_i hc
   have hl : Lib.indexAny l chars = -1 := by
    split at h
    ·rename_i e; exact beq_iff_eq.1 e
    ·omega
   rcases List.mem_cons.1 hb with rfl | hb
   ·simpa using hc
   ·refine any_none (l := l) ?_ b hb
    unfold Lib.containsAny
    exact dF (by omega)
theorem any_byte {s : ByteArray} (h : anyB s = false) {j : Nat} (hj : j < s.size) : (atB s j).toNat ≠ 58 /\ (atB s j).toNat ≠ 126 := by
 have hm : atB s j ∈ s.data.toList := by
  have h1 : s[j]? = some (atB s j) := byte_at hj
  rw [ba_at] at h1
  exact List.mem_of_getElem? h1
 have := any_none h _ hm
 constructor
 ·intro e
  have e : atB s j = 58 := UInt8.toNat_inj.1 e
  rw [e] at this
  exact absurd this (by decide)
 ·intro e
  have e : atB s j = 126 := UInt8.toNat_inj.1 e
  rw [e] at this
  exact absurd this (by decide)
end Go.AL
namespace Go.AL
open Go.Proofs
attribute [local irreducible] AWp AList RStep seqQ blockQ retQ DSteps DT DU DM DZ awR rQ SStep preB nameOk anyB rightL checkI
theorem letter82_c (b : UInt8) : ACalls Tryz.prog 82 [lU8 b.toNat] [] (fun r _ => r = .ret (bl (letterB b))) := by
 refine acalls_by Tryz.func82 Tryz.ntmps82 ?_
 simp only [argFr]
 repeat' (first| (show eRet; refine ret1 Tryz.results82 ?_)| (refine wS ?_)| (show lGu; refine al_splitD (fun h => ?_) (fun h => ?_))| (exfalso; omega))
 all_goals (refine congrArg (fun q => CE.ret (bl q)) ?_; simp only [letterB]; first | exact (dT (by omega)).symm | exact (dF (by omega)).symm | exact decide_eq_decide.2 (by constructor <;> intro _ <;> omega))
theorem digit83_c (b : UInt8) : ACalls Tryz.prog 83 [lU8 b.toNat] [] (fun r _ => r = .ret (bl (digitB b))) := by
 refine acalls_by Tryz.func83 Tryz.ntmps83 ?_
 simp only [argFr]
 repeat' (first| (show eRet; refine ret1 Tryz.results83 ?_)| (refine wS ?_)| (show lGu; refine al_splitD (fun h => ?_) (fun h => ?_)))
 all_goals (refine congrArg (fun q => CE.ret (bl q)) ?_; simp only [digitB]; first | exact (dT (by omega)).symm | exact (dF (by omega)).symm | exact decide_eq_decide.2 (by constructor <;> intro _ <;> omega))
attribute [local irreducible] letterB digitB
theorem own_first0 (s : ByteArray) (p : Nat) (h : ¬(p < s.size /\ letterB (atB s p) = true)) : ownB s p = 0 := by
 show ownN s p (s.size - p + 1) 0 = 0
 simp only [ownN]
 rw [if_neg]
 rintro ⟨h1, h2 | ⟨h2, _⟩⟩
 ·exact h ⟨h1, h2⟩
 ·omega
theorem own72_c (s : ByteArray) (p : Nat) (hs : s.size <= 150000000000000) (hp : p <= 150000000000000) : ACalls Tryz.prog 72 [strA s, i64 p] [] (fun r _ => r = .ret (i64 ((p + ownB s p : Nat) : Int))) := by
 by_cases h0 : p < s.size /\ letterB (atB s p) = true
 ·have hns : ¬(p : Int) >= s.size := by omega
  have hl : letterB (atB s (p : Int).toNat) = true := h0.2
  have hnl : (!letterB (atB s (p : Int).toNat)) = false := by rw [hl]; rfl
  have hp1 : (p : Int) < s.size := by omega
  refine acalls_by Tryz.func72 Tryz.ntmps72 ?_
  simp only [argFr]
  repeat' (first| (refine al_yes ?_ (hb := decide_eq_false hns))| (refine aw_F ?_ (hb := hnl))| (show lOp; refine op0 (by (show kCall; exact b_call ((letter82_c (atB s (p : Int).toNat))))) ?_)| (refine wS ?_)| fail)
  refine aw_roundsG (ι := Nat × Nat) (fun i n => [(0, strA s), (5, i64 ((p : Int) + (i.2 : Int)))]) (fun _ _ => []) (fun i => p + i.2 <= s.size /\ s.size < p + i.2 + i.1 /\ ownN s p i.1 i.2 = ownB s p) (fun i => i.1) (s.size - p + 1, 0) 0 ⟨by simp only; omega, by simp only; omega, rfl⟩ (by simp) rfl (by simp [Fr.get]) ?_
  rintro ⟨f, i⟩ n g ⟨h1, h2, h3⟩ hg
  dsimp only at h1 h2 h3 ⊢
  cases f with
  | zero => omega
  | succ f =>
   simp only [ownN] at h3
   have e : ((p : Int) + (i : Int)).toNat = p + i := by omega
   have hfi : i = 0 -> letterB (atB s (p + i)) = true := fun q => by subst q; exact h0.2
   repeat' (first| (show lOp; refine op0 (by (show kCall; first | exact b_call ((letter82_c (atB s ((p : Int) + (i : Int)).toNat))) | exact b_call ((digit83_c (atB s ((p : Int) + (i : Int)).toNat))))) ?_)| (show eRet; refine ret1 Tryz.results72 ?_)| (refine wS ?_)| (show lGu; first | refine al_splitD (fun h => ?_) (fun h => ?_) | refine al_split (fun h => ?_) (fun h => ?_))| (show cIf; refine aw_if (fun h => ?_) (fun h => ?_)))
   all_goals simp only [e] at *
   all_goals first
    | (rw [if_pos ⟨by omega, .inl (by assumption)⟩] at h3
       exact ⟨(f, i + 1), _, ⟨by dsimp only; omega, by dsimp only; omega, h3⟩, Nat.le_refl _, List.drop_length, by (simp [Fr.get]; omega), by dsimp only; omega⟩)
    | (rw [if_pos ⟨by omega, .inr ⟨by
        rcases Nat.eq_zero_or_pos i with q | q
        ·exfalso; have := hfi q; simp_all
        ·exact q, by assumption⟩⟩] at h3
       exact ⟨(f, i + 1), _, ⟨by dsimp only; omega, by dsimp only; omega, h3⟩, Nat.le_refl _, List.drop_length, by (simp [Fr.get]; omega), by dsimp only; omega⟩)
    | (rw [if_neg (by rintro ⟨q1, q2 | ⟨q2, q3⟩⟩ <;> first | omega | (simp_all; done))] at h3
       rw [<- h3]
       rfl)
 ·have ho := own_first0 s p h0
  rw [ho]
  refine acalls_by Tryz.func72 Tryz.ntmps72 ?_
  simp only [argFr]
  repeat' (first| (show lOp; refine op0 (by (show kCall; exact b_call ((letter82_c (atB s (p : Int).toNat))))) ?_)| (show eRet; refine ret1 Tryz.results72 ?_)| (refine wS ?_)| (show lGu; refine al_splitD (fun h => ?_) (fun h => ?_))| (show cIf; refine aw_if (fun h => ?_) (fun h => ?_)))
  all_goals first
   | rfl
   | (exfalso
      exact h0 ⟨by omega, by simp_all⟩)
end Go.AL
namespace Go.AL
open Go.Proofs
attribute [local irreducible] AWp AList RStep seqQ blockQ retQ DSteps DT DU DM DZ awR rQ SStep preB nameOk anyB rightL checkI letterB digitB
theorem digs_stable (s : ByteArray) : ∀ f g i, s.size <= i + f -> s.size <= i + g -> digs s f i = digs s g i
 | 0, 0, i, h, h' => rfl
 | 0, g + 1, i, h, h' => by simp only [digs]; rw [if_neg (by omega)]
 | f + 1, 0, i, h, h' => by simp only [digs]; rw [if_neg (by omega)]
 | f + 1, g + 1, i, h, h' => by
  simp only [digs]
  split
  ·exact digs_stable s f g (i + 1) (by omega) (by omega)
  ·rfl
theorem digs_shift (s : ByteArray) (k : Nat) (hk : k <= s.size) : ∀ f i, k + digs (s.extract k s.size) f i = digs s f (k + i)
 | 0, i => rfl
 | f + 1, i => by
  have hsz : (s.extract k s.size).size = s.size - k := by rw [ByteArray.size_extract]; omega
  simp only [digs]
  by_cases hi : k + i < s.size
  ·rw [extract_at (by omega) (Nat.le_refl _), hsz]
   by_cases hd : digitB (atB s (k + i)) = true
   ·rw [if_pos ⟨by omega, hd⟩, if_pos ⟨hi, hd⟩]
    exact digs_shift s k hk f (i + 1)
   ·rw [if_neg (fun q => hd q.2), if_neg (fun q => hd q.2)]
  ·rw [hsz, if_neg (fun q => hi (by omega)), if_neg (fun q => hi q.1)]
def digE (s : ByteArray) (p : Nat) : Nat := digs s (s.size - p + 1) p
theorem digits73_c (s : ByteArray) (p : Nat) (hs : s.size <= 150000000000000) (hp : p <= 150000000000000) : ACalls Tryz.prog 73 [strA s, i64 p] [] (fun r _ => r = .ret (i64 (digE s p))) := by
 refine acalls_by Tryz.func73 Tryz.ntmps73 ?_
 simp only [argFr]
 repeat' (first| (refine wS ?_)| fail)
 refine aw_roundsG (ι := Nat × Nat) (fun i n => [(0, strA s), (1, i64 (i.2 : Int))]) (fun _ _ => []) (fun i => i.2 <= 200000000000000 /\ s.size < i.2 + i.1 /\ digs s i.1 i.2 = digE s p) (fun i => i.1) (s.size - p + 1, p) 0 ⟨by simp only; omega, by simp only; omega, rfl⟩ (by simp) rfl (by simp [Fr.get]) ?_
 rintro ⟨f, i⟩ n g ⟨h1, h2, h3⟩ hg
 dsimp only at h1 h2 h3 ⊢
 by_cases hi : i < s.size /\ digitB (atB s i) = true
 ·cases f with
  | zero => omega
  | succ f =>
   simp only [digs] at h3
   rw [if_pos hi] at h3
   have hi1 := hi.1
   have hcT : (if decide ((i : Int) < s.size) = true then digitB (atB s (i : Int).toNat) else false) = true := by rw [if_pos (dT (show (i : Int) < s.size by omega))]; exact hi.2
   repeat' (first| (refine al_yes ?_ (hb := dT (show (i : Int) < s.size by omega)))| (refine aw_T ?_ (hb := hcT))| (show lOp; refine op0 (by (show kCall; exact b_call ((digit83_c (atB s (i : Int).toNat))))) ?_)| (refine wS ?_)| fail)
   exact ⟨(f, i + 1), _, ⟨by dsimp only; omega, by dsimp only; omega, h3⟩, Nat.le_refl _, List.drop_length, by simp [Fr.get], by dsimp only; omega⟩
 ·have h4 : i = digE s p := by
   cases f with
   | zero => exact h3
   | succ f =>
    simp only [digs] at h3
    rw [if_neg hi] at h3
    exact h3
  repeat' (first| (show lOp; refine op0 (by (show kCall; exact b_call ((digit83_c (atB s (i : Int).toNat))))) ?_)| (show eRet; refine ret1 Tryz.results73 ?_)| (refine wS ?_)| (show lGu; refine al_splitD (fun h => ?_) (fun h => ?_))| (show cIf; refine aw_if (fun h => ?_) (fun h => ?_)))
  all_goals first
   | (rw [h4]; done)
   | (rw [<- h4]; rfl)
   | (exfalso; exact hi ⟨by omega, by simp_all⟩)
/-- No mark of a name that isn't an own one. -/
def ownT (s : ByteArray) (i : Nat) : Prop := ∀ j, i <= j -> j < s.size -> (atB s j).toNat ≠ 58 /\ (atB s j).toNat ≠ 126
theorem any_of {s : ByteArray} (h : ownT s 0) : anyB s = false := by
 unfold anyB Lib.containsAny
 refine decide_eq_false ?_
 rw [Lib.indexAny_none]
 ·omega
 ·intro j b hj hb
  have hlt : j < s.size := by simpa using hj
  have e : s[j]? = some b := by rw [ba_at]; exact hb
  have e2 : b = atB s j := by unfold atB; rw [e]; rfl
  obtain ⟨q1, q2⟩ := h j (Nat.zero_le _) hlt
  rw [<- e2] at q1 q2
  have n1 : b ≠ 58 := fun q => q1 (by rw [q]; rfl)
  have n2 : b ≠ 126 := fun q => q2 (by rw [q]; rfl)
  simp [n1, n2]
theorem any_yes {s : ByteArray} {j : Nat} (hj : j < s.size) (h : (atB s j).toNat = 58 \/ (atB s j).toNat = 126) : anyB s = true := by
 cases hq : anyB s with
 | true => rfl
 | false =>
  have := any_byte hq hj
  omega
theorem own74_c (s : ByteArray) (hs : s.size <= 150000000000000) : ACalls Tryz.prog 74 [strA s] [] (fun r _ => r = .ret (bl (!anyB s))) := by
 refine acalls_by Tryz.func74 Tryz.ntmps74 ?_
 simp only [argFr]
 repeat' (first| (refine wS ?_)| fail)
 refine aw_roundsG (ι := Nat) (fun i n => [(0, strA s), (3, i64 (i : Int))]) (fun _ _ => []) (fun i => i <= s.size /\ ∀ j, j < i -> (atB s j).toNat ≠ 58 /\ (atB s j).toNat ≠ 126) (fun i => s.size - i) 0 0 ⟨Nat.zero_le _, fun j hj => absurd hj (by omega)⟩ (by simp) rfl (by simp [Fr.get]) ?_
 rintro i n g ⟨h1, h2⟩ hg
 by_cases hi : i < s.size
 ·by_cases h58 : (atB s i).toNat = 58 \/ (atB s i).toNat = 126
  ·have hy := any_yes hi h58
   rw [hy]
   have e : (i : Int).toNat = i := by omega
   repeat' (first| (refine aw_T ?_ (hb := dT (show (i : Int) < s.size by omega)))| (show eRet; refine ret1 Tryz.results74 ?_)| (refine wS ?_)| (show lGu; refine al_splitD (fun h => ?_) (fun h => ?_))| (show cIf; refine aw_ifD (fun h => ?_) (fun h => ?_)))
   all_goals simp only [e] at *
   all_goals first | rfl | (exfalso; omega)
  ·have e : (i : Int).toNat = i := by omega
   repeat' (first| (refine aw_T ?_ (hb := dT (show (i : Int) < s.size by omega)))| (show eRet; refine ret1 Tryz.results74 ?_)| (refine wS ?_)| (show lGu; refine al_splitD (fun h => ?_) (fun h => ?_))| (show cIf; refine aw_ifD (fun h => ?_) (fun h => ?_)))
   all_goals simp only [e] at *
   all_goals first
    | exact ⟨i + 1, _, ⟨by omega, fun j hj => by
      by_cases hji : j = i
      ·subst hji; omega
      ·exact h2 j (by omega)⟩, Nat.le_refl _, List.drop_length, by simp [Fr.get], by omega⟩
    | (exfalso; omega)
 ·have hn := any_of (s := s) (fun j _ hj => h2 j (by omega))
  rw [hn]
  repeat' (first| (refine aw_F ?_ (hb := dF (show ¬(i : Int) < s.size by omega)))| (show eRet; refine ret1 Tryz.results74 ?_)| (refine wS ?_)| fail)
  rfl
end Go.AL
