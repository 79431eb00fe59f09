/- Small words that the walker writes. -/
import Derived.Test.YtoeockpkkmgieaaSx6
namespace Go.Sx
set_option linter.unusedVariables false
set_option linter.unusedSimpArgs false
section
variable {P : Program} {n : Nat} {ops : Array Oper} {Q : Exit → Act → World → Prop} {Γ : Env} {w : World} {ty : TypeId} {K : Value → World → Prop}

theorem W.iteB {c : Operand} {x y : Code} {b : Bool} (hc : ev Γ c = some (.bool b)) (h1 : b = true → W P n x Q Γ w) (h2 : ¬ b = true → W P n y Q Γ w) : W P n (.cond c x y) Q Γ w := by
  cases b
  · exact W.iff hc (h2 (by simp))
  · exact W.ift hc (h1 rfl)

/-- Byte j of a string. -/
def bt (s : ByteArray) (j : Nat) : Int := ((s.data.toList.getD j 0).toNat : Int)
theorem bt_range (s : ByteArray) (j : Nat) : 0 ≤ bt s j ∧ bt s j ≤ 255 := by
  have := (s.data.toList.getD j 0).toNat_lt
  unfold bt; omega
theorem d_idxStrN {t : TypeId} {x ix : Operand} {s : ByteArray} {kd : IntKind} {i : Int} (j : Nat) (ht : P.underlying t = some .string) (hx : ev Γ x = some (.string s)) (hi : ev Γ ix = some (.int kd i)) (hij : i = ((j : Nat) : Int)) (hj : j < s.size) (k : K (.int .u8 (bt s j)) w) : Does P Γ w (.index t x ix) ty K := by
  subst hij
  refine d_idxStr ht hx hi (by omega) (by simpa using hj) ?_
  have : (((s[((j : Nat) : Int).toNat]'(by simpa using hj)).toNat : Nat) : Int) = bt s j := by
    have h2 : j < s.data.size := hj
    have h3 : s.data.toList.getD j 0 = s.data[j]'h2 := by rw [List.getD_eq_getElem?_getD, Array.getElem?_toList, Array.getElem?_eq_getElem h2]; rfl
    unfold bt
    rw [h3]
    simp only [Int.toNat_natCast]
    rfl
  rw [this]; exact k
theorem d_substrN {t : TypeId} {x : Operand} {lo hi : Option Operand} {vlo vhi : Option Value} {s : ByteArray} (l h : Int) (ln hn : Nat) (ht : P.underlying t = some .string) (hx : ev Γ x = some (.string s)) (hlo : evO Γ lo = some vlo) (hhi : evO Γ hi = some vhi)
    (el : vlo = none ∧ l = 0 ∨ ∃ kd, vlo = some (.int kd l)) (eh : vhi = none ∧ h = s.size ∨ ∃ kd, vhi = some (.int kd h)) (hl : l = ((ln : Nat) : Int)) (hh : h = ((hn : Nat) : Int)) (hk : bdOk l h s.size) (k : K (.string (s.extract ln hn)) w) : Does P Γ w (.slice t x lo hi none) ty K := by
  subst hl hh
  exact d_substr _ _ ht hx hlo hhi el eh hk (by simpa using k)
theorem d_min {x y : Operand} {ts : Array TypeId} {kd : IntKind} {a b : Int} (hx : ev Γ x = some (.int kd a)) (hy : ev Γ y = some (.int kd b)) (k : K (.int kd (min a b)) w) : Does P Γ w (.call { callee := .builtin .min, args := #[x, y], argTypes := ts }) ty K :=
  Does.of_run (fun ρ hρ => by
    have : (if b < a then b else a) = min a b := by split <;> omega
    simp [ex, execOp, hρ x _ hx, hρ y _ hy, resolve, invoke, builtin, Builtin.min_, Builtin.min2, this]) k
theorem d_max {x y : Operand} {ts : Array TypeId} {kd : IntKind} {a b : Int} (hx : ev Γ x = some (.int kd a)) (hy : ev Γ y = some (.int kd b)) (k : K (.int kd (max a b)) w) : Does P Γ w (.call { callee := .builtin .max, args := #[x, y], argTypes := ts }) ty K :=
  Does.of_run (fun ρ hρ => by
    have : (if b > a then b else a) = max a b := by split <;> omega
    simp [ex, execOp, hρ x _ hx, hρ y _ hy, resolve, invoke, builtin, Builtin.max_, Builtin.max2]
    omega) k
def bitsOf (op : BinOp) (kd : IntKind) (a b : Int) : Int :=
  match op with
  | .and => kd.wrap (BitVec.ofInt kd.bits a &&& BitVec.ofInt kd.bits b).toNat
  | .or => kd.wrap (BitVec.ofInt kd.bits a ||| BitVec.ofInt kd.bits b).toNat
  | .xor => kd.wrap (BitVec.ofInt kd.bits a ^^^ BitVec.ofInt kd.bits b).toNat
  | .andNot => kd.wrap (BitVec.ofInt kd.bits a &&& ~~~BitVec.ofInt kd.bits b).toNat
  | _ => 0
theorem d_slcnonil {xt yt e : TypeId} {x : Operand} {a : Option Addr} {n c : Nat} (ht : P.underlying xt = some (.slice e)) (hx : ev Γ x = some (.slice a n c)) (k : K (.bool (decide (a ≠ none))) w) : Does P Γ w (.binOp .neq xt x (.const (.slice none 0 0)) yt) ty K :=
  Does.of_run (fun ρ hρ => by
    have hc : ρ (.const (.slice none 0 0)) = .slice none 0 0 := hρ _ _ rfl
    have := run_equal (w := w) (fun d => run_equal_slc (w := w) ht a n c d)
    simp [ex, execOp, hρ x _ hx, hc, eqGuard, binOp, this]) k
def strCmp (op : BinOp) (a b : ByteArray) : Bool :=
  match op with
  | .lss => Op.bytesLess a.toList b.toList
  | .leq => Op.bytesLess a.toList b.toList || a.toList == b.toList
  | .gtr => !(Op.bytesLess a.toList b.toList || a.toList == b.toList)
  | .geq => !Op.bytesLess a.toList b.toList
  | _ => false
theorem d_strcmp {op : BinOp} {xt yt : TypeId} {x y : Operand} {a b : ByteArray} (hx : ev Γ x = some (.string a)) (hy : ev Γ y = some (.string b)) (ho : (match op with | .lss | .leq | .gtr | .geq => true | _ => false) = true) (k : K (.bool (strCmp op a b)) w) : Does P Γ w (.binOp op xt x y yt) ty K :=
  Does.of_run (fun ρ hρ => by
    cases op <;> simp only [Bool.false_eq_true] at ho <;> simp [ex, execOp, hρ x _ hx, hρ y _ hy, eqGuard, binOp, Op.stringOp, strCmp]) k
theorem d_lenA {x : Operand} {t e : TypeId} {n : Nat} {v : Value} (ht : P.underlying t = some (.array n e)) (hx : ev Γ x = some v) (k : K (.int .i64 ((n : Nat) : Int)) w) : Does P Γ w (.call { callee := .builtin .len, args := #[x], argTypes := #[t] }) ty K :=
  Does.of_run (fun ρ hρ => by simp [ex, execOp, hρ x _ hx, resolve, invoke, builtin, Builtin.len_, run_underlying ht, goInt]) k
theorem WL.opG0 {rest : List Oper} {op : Op} {ty : TypeId} {pos : String} {after : Array Edge} {j t : Nat} {want : Bool} (hj : (ops[j]?).bind (·.dst) = some t) (hv : look Γ t = some (.bool want))
    (h : Does P Γ w op ty fun _ w' => WL P n ops Q rest Γ w') : WL P n ops Q ({ dst := none, op, type := ty, pos, after, guard := some (j, want) } :: rest) Γ w :=
  fun a ha => by
    unfold wpList
    rw [if_pos (by rw [wanted_of ha rfl hj hv]; simp)]
    exact .inl (h.wp ha fun v w' k => k _ (ha.put0 v))
theorem boolEnv {a : Act} {t : Nat} {b c : Bool} (ha : Agree n a Γ) (ht : look Γ t = some (.bool b)) (hb : b = c) : Agree n a ((t, .bool c) :: Γ) :=
  ha.sub fun u v e => by
    by_cases hu : t = u
    · subst hu; rw [look_cons_eq] at e; rw [ht, hb]; exact e
    · rwa [look_cons_ne _ _ hu] at e
theorem WL.partB {l : List Oper} (t : Nat) {b : Bool} (ht : look Γ t = some (.bool b)) (h1 : b = true → WL P n ops Q l ((t, .bool true) :: Γ) w) (h2 : ¬ b = true → WL P n ops Q l ((t, .bool false) :: Γ) w) : WL P n ops Q l Γ w :=
  fun a ha => by
    cases hb : b
    · exact h2 (by simp [hb]) a (boolEnv ha ht hb)
    · exact h1 hb a (boolEnv ha ht hb)
theorem WD.partB {T : List Nat} {Pn : List Prm} (t : Nat) {b : Bool} (ht : look Γ t = some (.bool b)) (h1 : b = true → WD P n ops Q T Pn ((t, .bool true) :: Γ) w) (h2 : ¬ b = true → WD P n ops Q T Pn ((t, .bool false) :: Γ) w) : WD P n ops Q T Pn Γ w :=
  WD.part t (p := b = true) (by rw [ht]; simp) h1 h2
theorem allOf2 {p : Nat → Prop} {a b : Nat} (h1 : p a) (h2 : p b) : ∀ j, j ∈ [a, b] → p j := by
  intro j hj; simp only [List.mem_cons, List.not_mem_nil, or_false] at hj; rcases hj with rfl | rfl <;> assumption
theorem allOf3 {p : Nat → Prop} {a b c : Nat} (h1 : p a) (h2 : p b) (h3 : p c) : ∀ j, j ∈ [a, b, c] → p j := by
  intro j hj; simp only [List.mem_cons, List.not_mem_nil, or_false] at hj; rcases hj with rfl | rfl | rfl <;> assumption
/-- Some of what is owned, in whatever order. -/
theorem pairwise_sel {α : Type} {R : α → α → Prop} (hs : ∀ a b, R a b → R b a) {F M : List α} {l : List Nat} (hl : l.map (fun i => F[i]?) = M.map some) (hn : l.Nodup) (hF : F.Pairwise R) : M.Pairwise R := by
  rw [List.pairwise_iff_getElem] at hF ⊢
  have hlen : l.length = M.length := by simpa using congrArg List.length hl
  have hat : ∀ i (h : i < M.length), ∃ h2 : l[i]'(by omega) < F.length, F[l[i]'(by omega)]'h2 = M[i] := by
    intro i h
    have h1 : (l.map (fun i => F[i]?))[i]? = (M.map some)[i]? := by rw [hl]
    simp only [List.getElem?_map, List.getElem?_eq_getElem (show i < l.length by omega), List.getElem?_eq_getElem h, Option.map_some, Option.some.injEq] at h1
    obtain ⟨h2, h3⟩ := List.getElem?_eq_some_iff.1 h1
    exact ⟨h2, h3⟩
  intro i j hi hj hij
  obtain ⟨a1, a2⟩ := hat i hi
  obtain ⟨b1, b2⟩ := hat j hj
  have hne : l[i]'(by omega) ≠ l[j]'(by omega) := fun e => by
    have := (List.getElem_inj hn).1 e
    omega
  rw [← a2, ← b2]
  rcases Nat.lt_or_gt_of_ne hne with h | h
  · exact hF _ _ a1 b1 h
  · exact hs _ _ (hF _ _ b1 a1 h)
theorem Upd.sel {w w' : World} {L M : List Chunk} {G : List (List Chunk)} (h : UpG w L w' G) {l : List Nat} (hl : l.map (fun i => G.flatten[i]?) = M.map some) (hn : decide l.Nodup = true) : Upd w L w' M := by
  have hmem : ∀ c, c ∈ M → c ∈ G.flatten := fun c hc => by
    have : some c ∈ M.map some := List.mem_map_of_mem hc
    rw [← hl] at this
    obtain ⟨i, _, hi⟩ := List.mem_map.1 this
    exact List.mem_of_getElem? hi
  refine ⟨⟨fun c hc => (Upd.hp h).holds c (hmem c hc), ?_⟩, h.keep, fun g hg => ?_⟩
  · have h1 := (Upd.hp h).nodup
    unfold ats at h1 ⊢
    rw [List.nodup_iff_pairwise_ne, List.pairwise_flatMap] at h1 ⊢
    exact ⟨fun c hc => h1.1 c (hmem c hc), pairwise_sel (fun a b hab x hx y hy e => hab y hy x hx e.symm) hl (of_decide_eq_true hn) h1.2⟩
  · obtain ⟨c, hc, e⟩ := mem_ats.1 hg
    exact Upd.fresh h g (mem_ats.2 ⟨c, hmem c hc, e⟩)

/-- What a result's variable holds. -/
def resOf (tmps : Array Value) (r : ResultVar) : Sem Value := match r with | .tmp t => pure (tmps.getD t undef) | .cell a t => do loadVar t (← asAddr (tmps.getD a undef))
theorem results_of (fn : Func) (tmps : Array Value) : results fn tmps = (do let vs ← fn.results.mapM (resOf tmps); pure (if h : vs.size = 1 then vs[0] else .tuple vs)) := rfl
def RVal (P : Program) (Γ : Env) (w : World) (r : ResultVar) (v : Value) : Prop :=
  ∀ tmps : Array Value, (∀ t u, look Γ t = some u → tmps.getD t undef = u) → Sem.run P (resOf tmps r) w = .ok v w
theorem rv_tmp {t : Tmp} {v : Value} (h : look Γ t = some v) : RVal P Γ w (.tmp t) v := fun tmps ht => by simp only [resOf, ht t v h]; rfl
theorem rv_cell {a : Tmp} {t : TypeId} {d : TypeDesc} {g off : Nat} {cs : Array Value} {e : TypeId} {v : Value} (hu : P.underlying t = some d) (hd : aggD d = false) (h : look Γ a = some (.pointer (some ⟨g, off, none⟩))) (hb : w.heap[g]? = some (.cells cs e (0, 0))) (hv : cs[off]? = some v) : RVal P Γ w (.cell a t) v := fun tmps ht => by
  have hc : w.cell? ⟨g, off, none⟩ = some v := by rw [cells_of_blk hb]; exact hv
  simp only [resOf, ht a _ h, asAddr, loadVar]
  simp [run_isAgg hu, hd, load, Sem.run, hc]
theorem rv_cellA {a : Tmp} {t : TypeId} {d : TypeDesc} {g off s b : Nat} {z : Option Value} {cs : Array Value} {e : TypeId} (us : List Value) (hu : P.underlying t = some d) (hd : aggD d = true) (hs : szOf P t = some (s, b, z)) (h : look Γ a = some (.pointer (some ⟨g, off, none⟩))) (hb : w.heap[g]? = some (.cells cs e (0, 0)))
    (hl : us.length = s) (hc : (cs.toList.drop off).take s = us) : RVal P Γ w (.cell a t) (.agg us.toArray) := fun tmps ht => by
  simp only [resOf, ht a _ h, asAddr, loadVar]
  have hcell : ∀ j v, us[j]? = some v → w.cell? ((⟨g, off, none⟩ : Addr).add j) = some v := fun j u hj => by
    rw [add_off, cells_of_blk hb]
    rw [← hc, List.getElem?_take] at hj
    split at hj
    · simpa using hj
    · cases hj
  subst hl
  simp [run_isAgg hu, hd, run_sz hs, run_loadCells_list (P := P) (w := w) _ us hcell]
theorem X.retR1 {fn : Func} {R : Value → World → Prop} {r1 : ResultVar} (hr : fn.results = #[r1]) {v1 : Value} (h1 : RVal P Γ w r1 v1) (h : R v1 w) : X n (bodyPost P fn (Ret R)) .ret Γ w :=
  fun a ha => bodyPost_ret (v := v1) (by
    have e1 := h1 a.tmps ha.slot
    simp [results_of, hr, e1]) ha.defers ⟨_, rfl, h⟩
theorem X.retR2 {fn : Func} {R : Value → World → Prop} {r1 r2 : ResultVar} (hr : fn.results = #[r1, r2]) {v1 v2 : Value} (h1 : RVal P Γ w r1 v1) (h2 : RVal P Γ w r2 v2) (h : R (.tuple #[v1, v2]) w) : X n (bodyPost P fn (Ret R)) .ret Γ w :=
  fun a ha => bodyPost_ret (v := .tuple #[v1, v2]) (by
    have e1 := h1 a.tmps ha.slot
    have e2 := h2 a.tmps ha.slot
    simp [results_of, hr, e1, e2]) ha.defers ⟨_, rfl, h⟩
/-- Two groups are worked on; new memory may come. -/
theorem UpG.hp2 {w w' : World} {L A B : List Chunk} {G : List (List Chunk)} (h : UpG w L w' G) (i j : Nat) (hij : Nat.beq i j = false) (hi : G[i]? = some A) (hj : G[j]? = some B) : Hp w' (A ++ B) := by
  have hne : i ≠ j := by intro e; subst e; simp at hij
  have p1 := perm_set G i A hi
  have p2 := perm_set (G.set i []) j B (by rw [List.getElem?_set_ne hne]; exact hj)
  have h1 := (Hp.perm (Upd.hp h) (p1.trans (p2.append_left A)))
  rw [← List.append_assoc] at h1
  exact h1.left
theorem UpG.on2 {w w1 w2 : World} {L A B A' B' C : List Chunk} {G : List (List Chunk)} (h : UpG w L w1 G) (i j : Nat) (hij : Nat.beq i j = false) (hi : G[i]? = some A) (hj : G[j]? = some B) (k : Upd w1 (A ++ B) w2 (A' ++ B' ++ C)) : UpG w L w2 ((G.set i A').set j B' ++ [C]) := by
  have hne : i ≠ j := by intro e; subst e; simp at hij
  have hj' : (G.set i [])[j]? = some B := by rw [List.getElem?_set_ne hne]; exact hj
  have p1 := perm_set G i A hi
  have p2 := perm_set (G.set i []) j B hj'
  have p := p1.trans (p2.append_left A)
  rw [← List.append_assoc] at p
  have u := Upd.frame (Upd.perm h p) k
  refine Upd.perm u ?_
  have hi'' : ((G.set i A').set j [])[j]? = some [] := by
    have : j < G.length := (List.getElem?_eq_some_iff.1 hj).1
    simp [this]
  have q1 := perm_set' (G.set i []) j B B' hj'
  have hi2 : ((G.set i []).set j B')[i]? = some [] := by
    have : i < G.length := (List.getElem?_eq_some_iff.1 hi).1
    rw [List.getElem?_set_ne (Ne.symm hne)]; simp [this]
  have q2 := perm_set' ((G.set i []).set j B') i [] A' hi2
  have e1 : ((G.set i []).set j B').set i [] = (G.set i []).set j B' := by rw [List.set_comm _ _ (Ne.symm hne), List.set_set]
  have e2 : ((G.set i []).set j B').set i A' = (G.set i A').set j B' := by rw [List.set_comm _ _ (Ne.symm hne), List.set_set]
  rw [e1, e2] at q2
  simp only [List.flatten_append, List.flatten_cons, List.flatten_nil, List.append_nil]
  refine List.Perm.trans ?_ (q2.append_right C)
  refine List.Perm.trans ?_ ((q1.append_left A').append_right C)
  simp only [List.append_assoc]
  refine List.Perm.append_left A' (List.Perm.append_left B' ?_)
  exact List.perm_append_comm
theorem UpG.onX {w w1 w2 : World} {L A B C : List Chunk} {G : List (List Chunk)} (h : UpG w L w1 G) (i : Nat) (hi : G[i]? = some A) (k : Upd w1 A w2 (B ++ C)) : UpG w L w2 (G.set i B ++ [C]) := by
  refine Upd.perm (Upd.frame (Upd.perm h (perm_set G i A hi)) k) ?_
  simp only [List.flatten_append, List.flatten_cons, List.flatten_nil, List.append_nil, List.append_assoc]
  refine List.Perm.trans ?_ ((perm_set' G i A B hi).append_right C)
  rw [List.append_assoc]
  exact List.Perm.append_left B List.perm_append_comm
/-- 'xs[:h]' of a row of one's own. -/
theorem t_pop {α : Type} {T : Ty α} {t e : TypeId} {x hi : Operand} {kd : IntKind} {a : Option Addr} {c sz b : Nat} {z : Option Value} {xs : List α} (h : Int) (hn : Nat) (hT : T.sz = sz) (ht : P.underlying t = some (.slice e)) (hs : szOf P e = some (sz, b, z)) (hx : ev Γ x = some (.slice a xs.length c)) (hh : ev Γ hi = some (.int kd h))
    (ho : w.ownsRow 0 e T.sz (.slice a xs.length c) xs.length (T.all xs)) (hij : h = ((hn : Nat) : Int)) (hle : hn ≤ xs.length) (k : ∀ w', Upd w [rowT T (.slice a xs.length c) e xs] w' [rowT T (.slice a (xs.take hn).length c) e (xs.take hn)] → K (.slice a (xs.take hn).length c) w') : Does P Γ w (.slice t x none (some hi) none) ty K := by
  subst hij hT
  have hlen : (xs.take hn).length = hn := by simp; omega
  have hc : xs.length ≤ c := by
    rcases ho.2 with ⟨h1, h2⟩ | ⟨g, cap, cur, h1, _, _, h2, _⟩
    · omega
    · injection h1 with _ _ h1; omega
  have key := k w
  rw [hlen] at key
  refine d_slice 0 (hn : Int) ht hs hx rfl (by simp [evO, hh]) (.inl ⟨rfl, rfl⟩) (.inr ⟨kd, rfl⟩) ⟨by omega, by omega, by omega⟩ ?_
  have e1 : subSlice (.slice a xs.length c) T.sz (0 : Int).toNat ((hn : Nat) : Int).toNat = .slice a hn c := by
    simp only [subSlice, Int.toNat_zero, Int.toNat_natCast, Nat.zero_mul, Nat.sub_zero]
    split
    · rfl
    · cases a <;> simp [Addr.add]
  rw [e1]
  refine key ?_
  have ho' : w.ownsRow 0 e T.sz (.slice a hn c) hn (T.all (xs.take hn)) ∨ (a = none ∧ hn = 0 ∧ c = 0) := by
    rcases ho.2 with ⟨h1, h2⟩ | ⟨g, cap, cur, h1, h3, h4, h5, h6, h7, h8⟩
    · injection h1 with h1 _ h3
      exact .inr ⟨h1, by omega, h3⟩
    · injection h1 with h1 _ h9
      subst h1 h9
      refine .inl ⟨by rw [T.all_length, hlen], .inr ⟨g, c, cur, rfl, h3, h4, by omega, h6, h7, ?_⟩⟩
      have : T.all (xs.take hn) = (T.all xs).take (hn * T.sz) := by
        have e3 : T.all xs = T.all (xs.take hn) ++ T.all (xs.drop hn) := by rw [← T.all_append, List.take_append_drop]
        have e4 : (T.all (xs.take hn)).length = hn * T.sz := by rw [T.all_length, hlen]
        rw [e3, ← e4, List.take_left]
      rw [this, ← h8, List.take_take, Nat.min_eq_left (Nat.mul_le_mul_right _ hle)]
  have ho2 : w.ownsRow 0 e T.sz (.slice a hn c) hn (T.all (xs.take hn)) := by
    rcases ho' with h1 | ⟨rfl, rfl, rfl⟩
    · exact h1
    · exact ⟨by simp [Ty.all], .inl ⟨rfl, rfl⟩⟩
  unfold rowT
  rw [hlen]
  refine ⟨⟨fun c' hc' => ?_, ?_⟩, Keep.refl _ _, fun g hg => .inl ?_⟩
  · simp only [List.mem_singleton] at hc'; subst hc'; exact own_row ho2
  · cases a <;> simp [ats, row, Value.ownBlock]
  · cases a with
    | none => simp [ats, row, Value.ownBlock] at hg
    | some a => simpa [ats, row, Value.ownBlock] using hg
end
theorem nilOwn {α : Type} {T : Ty α} {e : TypeId} {w w' : World} {L : List Chunk} {G : List (List Chunk)} (h : UpG w L w' G) : Upd w L w' [rowT T (.slice none ([] : List α).length 0) e []] :=
  ((UpG.of (G := []) h.noneL rfl).new' (Upd.nilRowT w' T e)).one 0 rfl
theorem RdT.nilOf {α : Type} {T : Ty α} {w : World} {a : Option Addr} {n c : Nat} {xs : List α} (h : RdT T w (.slice a n c) xs) (ha : a = none) : xs = [] := by
  obtain ⟨A, cap, he, hl, _, hr⟩ := h
  subst ha; cases he
  cases xs with
  | nil => rfl
  | cons x xs =>
    have h0 : 0 < (T.all (x :: xs)).length := by rw [hl]; exact Nat.mul_pos (by simp) T.pos
    obtain ⟨ad, h1, _⟩ := hr 0 _ (List.getElem?_eq_getElem h0)
    cases h1
end Go.Sx
