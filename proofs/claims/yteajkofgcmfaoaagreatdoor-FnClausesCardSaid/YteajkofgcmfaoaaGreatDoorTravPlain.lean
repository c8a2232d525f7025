/- Plain: travels as the program finds them are the travels as the reference finds them. -/
import Derived.Test.YteajkofgcmfaoaaGreatDoorTWy
namespace Go.Proofs.YteajkofgcmfaoaaGreatDoor

def upd (f : Nat → Int) (i : Nat) (v : Int) : Nat → Int := fun j => if j = i then v else f j
def relax (f : Nat → Int) (i j : Nat) (d : Int) : Nat → Int := if 0 ≤ f i ∧ (f j < 0 ∨ f i + d < f j) then upd f j (f i + d) else f
def bfStep (f : Nat → Int) (m : Wy) : Nat → Int := relax (relax f m.a.toNat m.b.toNat m.days) m.b.toNat m.a.toNat m.days
def bfRound (ws : List Wy) (f : Nat → Int) : Nat → Int := ws.foldl bfStep f
def bfStart (a : Nat) : Nat → Int := upd (fun _ => -1) a 0
def bfRounds (ws : List Wy) (a : Nat) : Nat → (Nat → Int)
  | 0 => bfStart a
  | r + 1 => bfRound ws (bfRounds ws a r)

def upd2 (M : Nat → Nat → Int) (i j : Nat) (v : Int) : Nat → Nat → Int := fun x y => if x = i ∧ y = j then v else M x y
def wayStart : Nat → Nat → Int := fun i j => if i = j then 0 else 1000000
def wayHalf (M : Nat → Nat → Int) (a b : Nat) (d : Int) : Nat → Nat → Int := upd2 M a b (min (M a b) d)
def wayStep (M : Nat → Nat → Int) (m : Wy) : Nat → Nat → Int := wayHalf (wayHalf M m.a.toNat m.b.toNat m.days) m.b.toNat m.a.toNat m.days
def waysM (ws : List Wy) : Nat → Nat → Int := ws.foldl wayStep wayStart
def fwStep (k i : Nat) (M : Nat → Nat → Int) (j : Nat) : Nat → Nat → Int := upd2 M i j (min (M i j) (M i k + M k j))
def fwRow (n k : Nat) (M : Nat → Nat → Int) (i : Nat) : Nat → Nat → Int := (List.range n).foldl (fwStep k i) M
def fwAll (n : Nat) (M : Nat → Nat → Int) (k : Nat) : Nat → Nat → Int := (List.range n).foldl (fwRow n k) M
def travM (n : Nat) (ws : List Wy) : Nat → Nat → Int := (List.range n).foldl (fwAll n) (waysM ws)

def Ed (ws : List Wy) (i j : Nat) (d : Int) : Prop := ∃ m ∈ ws, m.days = d ∧ ((m.a.toNat = i ∧ m.b.toNat = j) ∨ (m.b.toNat = i ∧ m.a.toNat = j))
def OkW (n : Nat) (ws : List Wy) : Prop := ∀ m ∈ ws, m.a.toNat < n ∧ m.b.toNat < n ∧ m.a.toNat ≠ m.b.toNat ∧ 1 ≤ m.days ∧ m.days ≤ 60
theorem Ed.ok {n : Nat} {ws : List Wy} (ho : OkW n ws) {i j : Nat} {d : Int} (h : Ed ws i j d) : i < n ∧ j < n ∧ 1 ≤ d ∧ d ≤ 60 := by
  obtain ⟨m, hm, rfl, ⟨rfl, rfl⟩ | ⟨rfl, rfl⟩⟩ := h <;> have := ho m hm <;> omega
inductive Walk (ws : List Wy) (i : Nat) : Nat → Int → Prop
  | nil : Walk ws i i 0
  | snoc {j k : Nat} {c d : Int} : Walk ws i j c → Ed ws j k d → Walk ws i k (c + d)
theorem Walk.trans {ws : List Wy} {i j k : Nat} {c d : Int} (h : Walk ws i j c) (g : Walk ws j k d) : Walk ws i k (c + d) := by
  induction g with
  | nil => simpa using h
  | snoc _ e ih => rw [← Int.add_assoc]; exact .snoc ih e
theorem Walk.nn {n : Nat} {ws : List Wy} (ho : OkW n ws) {i j : Nat} {c : Int} (h : Walk ws i j c) : 0 ≤ c := by
  induction h with
  | nil => omega
  | snoc _ e ih => have := e.ok ho; omega
inductive WK (ws : List Wy) (K : Nat) : Nat → Nat → Int → Prop
  | nil (i : Nat) : WK ws K i i 0
  | edge {i j : Nat} {d : Int} : Ed ws i j d → WK ws K i j d
  | via {i j : Nat} {c d : Int} (m : Nat) : WK ws K i m c → m < K → WK ws K m j d → WK ws K i j (c + d)
theorem WK.nn {n : Nat} {ws : List Wy} (ho : OkW n ws) {K i j : Nat} {c : Int} (h : WK ws K i j c) : 0 ≤ c := by
  induction h with
  | nil => omega
  | edge e => have := e.ok ho; omega
  | via _ _ _ _ ih1 ih2 => omega
theorem WK.split {n : Nat} {ws : List Wy} (ho : OkW n ws) {K K1 i j : Nat} {c : Int} (h : WK ws K1 i j c) (hK : K1 = K + 1) :
    (∃ c', c' ≤ c ∧ WK ws K i j c') ∨ (∃ c1 c2, c1 + c2 ≤ c ∧ WK ws K i K c1 ∧ WK ws K K j c2) := by
  induction h with
  | nil i => exact .inl ⟨0, Int.le_refl _, .nil i⟩
  | edge e => exact .inl ⟨_, Int.le_refl _, .edge e⟩
  | @via i j c d m h1 hm h2 ih1 ih2 =>
    by_cases e : m = K
    · subst e
      right
      obtain ⟨c1, k1, w1⟩ : ∃ c1, c1 ≤ c ∧ WK ws m i m c1 := by
        rcases ih1 with ⟨c', h, w⟩ | ⟨c1, c2, h, w1, w2⟩
        · exact ⟨c', h, w⟩
        · exact ⟨c1, by have := w2.nn ho; omega, w1⟩
      obtain ⟨c2, k2, w2⟩ : ∃ c2, c2 ≤ d ∧ WK ws m m j c2 := by
        rcases ih2 with ⟨c', h, w⟩ | ⟨c1, c2, h, w1, w2⟩
        · exact ⟨c', h, w⟩
        · exact ⟨c2, by have := w1.nn ho; omega, w2⟩
      exact ⟨c1, c2, by omega, w1, w2⟩
    · have hm : m < K := by omega
      rcases ih1 with ⟨a, ha, wa⟩ | ⟨a1, a2, ha, wa1, wa2⟩ <;> rcases ih2 with ⟨b, hb, wb⟩ | ⟨b1, b2, hb, wb1, wb2⟩
      · exact .inl ⟨a + b, by omega, .via m wa hm wb⟩
      · exact .inr ⟨a + b1, b2, by omega, .via m wa hm wb1, wb2⟩
      · exact .inr ⟨a1, a2 + b, by omega, wa1, .via m wa2 hm wb⟩
      · exact .inr ⟨a1, b2, by have := wa2.nn ho; have := wb1.nn ho; omega, wa1, wb2⟩
theorem Walk.wk {n : Nat} {ws : List Wy} (ho : OkW n ws) {i j : Nat} {c : Int} (h : Walk ws i j c) : WK ws n i j c := by
  induction h with
  | nil => exact .nil i
  | snoc _ e ih => exact .via _ ih (e.ok ho).1 (.edge e)

theorem foldl_keep {σ β : Type} (f : σ → β → σ) (I : σ → Prop) : ∀ (l : List β), (∀ s x, x ∈ l → I s → I (f s x)) → ∀ s, I s → I (l.foldl f s)
  | [], _, _, h => h
  | x :: l, hI, s, h => foldl_keep f I l (fun s y hy => hI s y (List.mem_cons_of_mem _ hy)) _ (hI s x (List.mem_cons_self ..) h)
theorem foldl_hit {σ β : Type} (f : σ → β → σ) (I Q : σ → Prop) : ∀ (l : List β), (∀ s x, x ∈ l → I s → I (f s x)) → (∀ s x, x ∈ l → I s → Q s → Q (f s x)) → ∀ x0, x0 ∈ l → (∀ s, I s → Q (f s x0)) → ∀ s, I s → Q (l.foldl f s)
  | [], _, _, _, h, _, _, _ => by cases h
  | x :: l, hI, hQ, x0, hx, hit, s, h => by
    have h1 := hI s x (List.mem_cons_self ..) h
    rcases List.mem_cons.1 hx with rfl | hx
    · have := foldl_keep f (fun s => I s ∧ Q s) l (fun s y hy ⟨hi, hq⟩ => ⟨hI s y (List.mem_cons_of_mem _ hy) hi, hQ s y (List.mem_cons_of_mem _ hy) hi hq⟩) _ ⟨h1, hit s h⟩
      exact this.2
    · exact foldl_hit f I Q l (fun s y hy => hI s y (List.mem_cons_of_mem _ hy)) (fun s y hy => hQ s y (List.mem_cons_of_mem _ hy)) x0 hx hit _ h1

def Le2 (M D : Nat → Nat → Int) : Prop := ∀ i j, M i j ≤ D i j
theorem upd2_le {M D : Nat → Nat → Int} (h : Le2 M D) (i j : Nat) (v : Int) (hv : v ≤ M i j) : Le2 (upd2 M i j v) D := fun x y => by
  unfold upd2
  have := h x y
  split
  · rename_i e; obtain ⟨rfl, rfl⟩ := e; omega
  · exact this
theorem fwStep_le {M D : Nat → Nat → Int} (k i j : Nat) (h : Le2 M D) : Le2 (fwStep k i M j) D := upd2_le h _ _ _ (Int.min_le_left _ _)
theorem fwRow_le {M D : Nat → Nat → Int} (n k i : Nat) (h : Le2 M D) : Le2 (fwRow n k M i) D := foldl_keep _ (Le2 · D) _ (fun _ _ _ h => fwStep_le _ _ _ h) _ h
theorem fwAll_le {M D : Nat → Nat → Int} (n k : Nat) (h : Le2 M D) : Le2 (fwAll n M k) D := foldl_keep _ (Le2 · D) _ (fun _ _ _ h => fwRow_le _ _ _ h) _ h
theorem fwAll_hit (n k i j : Nat) (hi : i < n) (hj : j < n) (D : Nat → Nat → Int) : fwAll n D k i j ≤ D i k + D k j := by
  have hst : ∀ (s : Nat → Nat → Int) (x y : Nat), s i j ≤ D i k + D k j → fwStep k x s y i j ≤ D i k + D k j := fun s x y h => by
    have := fwStep_le (M := s) (D := s) k x y (fun _ _ => Int.le_refl _) i j
    omega
  have hrow : ∀ (s : Nat → Nat → Int) (x : Nat), s i j ≤ D i k + D k j → fwRow n k s x i j ≤ D i k + D k j := fun s x h =>
    foldl_keep (fwStep k x) (fun s => s i j ≤ D i k + D k j) _ (fun s y _ h => hst s x y h) _ h
  refine foldl_hit (fwRow n k) (fun M => Le2 M D) (fun M => M i j ≤ D i k + D k j) (List.range n) (fun s x _ h => fwRow_le n k x h) (fun s x _ _ h => hrow s x h) i (List.mem_range.2 hi) (fun s hs => ?_) D (fun _ _ => Int.le_refl _)
  refine foldl_hit (fwStep k i) (fun M => Le2 M D) (fun M => M i j ≤ D i k + D k j) (List.range n) (fun s x _ h => fwStep_le k i x h) (fun s x _ _ h => hst s i x h) j (List.mem_range.2 hj) (fun s hs => ?_) s hs
  have h1 := hs i k
  have h2 := hs k j
  simp only [fwStep, upd2, and_self, if_true]
  omega
def Comp (n : Nat) (ws : List Wy) (M : Nat → Nat → Int) (K : Nat) : Prop := ∀ i j c, i < n → j < n → WK ws K i j c → M i j ≤ c
theorem comp_step {n : Nat} {ws : List Wy} (ho : OkW n ws) {D : Nat → Nat → Int} {K : Nat} (hK : K < n) (h : Comp n ws D K) : Comp n ws (fwAll n D K) (K + 1) := fun i j c hi hj hw => by
  rcases hw.split ho rfl with ⟨c', h1, w1⟩ | ⟨c1, c2, h1, w1, w2⟩
  · have h2 := h i j c' hi hj w1
    have h3 := fwAll_le (M := D) (D := D) n K (fun _ _ => Int.le_refl _) i j
    omega
  · have h2 := h i K c1 hi hK w1
    have h3 := h K j c2 hK hj w2
    have h4 := fwAll_hit n K i j hi hj D
    omega
theorem wayStep_le {M D : Nat → Nat → Int} (m : Wy) (h : Le2 M D) : Le2 (wayStep M m) D := upd2_le (upd2_le h _ _ _ (Int.min_le_left _ _)) _ _ _ (Int.min_le_left _ _)
theorem comp_start {n : Nat} {ws : List Wy} : Comp n ws (waysM ws) 0 := fun i j c _ _ hw => by
  have hle : Le2 (waysM ws) wayStart := foldl_keep wayStep (Le2 · wayStart) ws (fun s m _ h => wayStep_le m h) _ (fun _ _ => Int.le_refl _)
  cases hw with
  | nil => have := hle i i; simpa [wayStart] using this
  | via m _ h _ => omega
  | edge e =>
    obtain ⟨m, hm, hd, hij⟩ := e
    refine foldl_hit wayStep (fun _ => True) (fun M => M i j ≤ c) ws (fun _ _ _ _ => trivial) (fun s x _ _ h => ?_) m hm (fun s _ => ?_) _ trivial
    · have := wayStep_le (M := s) (D := s) x (fun _ _ => Int.le_refl _) i j
      omega
    · have h1 : ∀ (M : Nat → Nat → Int) (a b : Nat) (d : Int), wayHalf M a b d a b ≤ d := fun M a b d => by simp only [wayHalf, upd2, and_self, if_true]; omega
      rcases hij with ⟨rfl, rfl⟩ | ⟨rfl, rfl⟩
      · have h2 := h1 s m.a.toNat m.b.toNat m.days
        have h3 : Le2 (wayStep s m) (wayHalf s m.a.toNat m.b.toNat m.days) := upd2_le (fun _ _ => Int.le_refl _) _ _ _ (Int.min_le_left _ _)
        have h4 := h3 m.a.toNat m.b.toNat
        omega
      · have h2 := h1 (wayHalf s m.a.toNat m.b.toNat m.days) m.b.toNat m.a.toNat m.days
        unfold wayStep
        omega
theorem comp_all {n : Nat} {ws : List Wy} (ho : OkW n ws) : ∀ K, K ≤ n → Comp n ws ((List.range K).foldl (fwAll n) (waysM ws)) K
  | 0, _ => comp_start
  | K + 1, h => by
    rw [List.range_succ, List.foldl_append]
    exact comp_step ho (by omega) (comp_all ho K (by omega))

def Snd (n : Nat) (ws : List Wy) (M : Nat → Nat → Int) : Prop := ∀ i j, i < n → j < n → 0 ≤ M i j ∧ M i j ≤ 1000000 ∧ (M i j < 1000000 → Walk ws i j (M i j))
theorem Snd.put {n : Nat} {ws : List Wy} {M : Nat → Nat → Int} (h : Snd n ws M) (i j : Nat) (v : Int) (h0 : 0 ≤ v) (hv : v ≤ M i j) (hij : i < n ∧ j < n) (hw : v < M i j → Walk ws i j v) : Snd n ws (upd2 M i j v) := fun x y hx hy => by
  have h1 := h x y hx hy
  unfold upd2
  split
  · rename_i e
    obtain ⟨rfl, rfl⟩ := e
    refine ⟨h0, by omega, fun hlt => ?_⟩
    by_cases e : v = M x y
    · rw [e]; exact h1.2.2 (by omega)
    · exact hw (by omega)
  · exact h1
theorem fwStep_snd {n : Nat} {ws : List Wy} {M : Nat → Nat → Int} (h : Snd n ws M) (k i j : Nat) (hk : k < n) (hi : i < n) (hj : j < n) : Snd n ws (fwStep k i M j) := by
  have h1 := h i j hi hj
  have h2 := h i k hi hk
  have h3 := h k j hk hj
  refine h.put i j _ (by omega) (Int.min_le_left _ _) ⟨hi, hj⟩ (fun hlt => ?_)
  have e : min (M i j) (M i k + M k j) = M i k + M k j := by omega
  rw [e]
  exact (h2.2.2 (by omega)).trans (h3.2.2 (by omega))
theorem fwRow_snd {n : Nat} {ws : List Wy} {M : Nat → Nat → Int} (h : Snd n ws M) (k i : Nat) (hk : k < n) (hi : i < n) : Snd n ws (fwRow n k M i) :=
  foldl_keep _ (Snd n ws) _ (fun _ j hj h => fwStep_snd h k i j hk hi (List.mem_range.1 hj)) _ h
theorem fwAll_snd {n : Nat} {ws : List Wy} {M : Nat → Nat → Int} (h : Snd n ws M) (k : Nat) (hk : k < n) : Snd n ws (fwAll n M k) :=
  foldl_keep _ (Snd n ws) _ (fun _ j hj h => fwRow_snd h k j hk (List.mem_range.1 hj)) _ h
theorem Ed.walk {ws : List Wy} {i j : Nat} {d : Int} (h : Ed ws i j d) : Walk ws i j d := by
  have := Walk.snoc Walk.nil h
  simpa using this
theorem wayHalf_snd {n : Nat} {ws : List Wy} (ho : OkW n ws) {M : Nat → Nat → Int} (h : Snd n ws M) {i j : Nat} {d : Int} (e : Ed ws i j d) : Snd n ws (wayHalf M i j d) := by
  have h0 := e.ok ho
  have h1 := h i j h0.1 h0.2.1
  refine h.put i j _ (by omega) (Int.min_le_left _ _) ⟨h0.1, h0.2.1⟩ (fun hlt => ?_)
  have e' : min (M i j) d = d := by omega
  rw [e']
  exact e.walk
theorem wayStep_snd {n : Nat} {ws : List Wy} (ho : OkW n ws) {M : Nat → Nat → Int} (h : Snd n ws M) {m : Wy} (hm : m ∈ ws) : Snd n ws (wayStep M m) :=
  wayHalf_snd ho (wayHalf_snd ho h ⟨m, hm, rfl, .inl ⟨rfl, rfl⟩⟩) ⟨m, hm, rfl, .inr ⟨rfl, rfl⟩⟩
theorem wayStart_snd {n : Nat} {ws : List Wy} : Snd n ws wayStart := fun i j _ _ => by
  unfold wayStart
  split
  · rename_i e; subst e; exact ⟨by omega, by omega, fun _ => .nil⟩
  · exact ⟨by omega, by omega, fun h => by omega⟩
theorem waysM_snd {n : Nat} {ws : List Wy} (ho : OkW n ws) : Snd n ws (waysM ws) := foldl_keep wayStep (Snd n ws) ws (fun _ _ hm h => wayStep_snd ho h hm) _ wayStart_snd
theorem travM_snd {n : Nat} {ws : List Wy} (ho : OkW n ws) : Snd n ws (travM n ws) := foldl_keep (fwAll n) (Snd n ws) _ (fun _ k hk h => fwAll_snd h k (List.mem_range.1 hk)) _ (waysM_snd ho)
theorem travM_le {n : Nat} {ws : List Wy} (ho : OkW n ws) {i j : Nat} {c : Int} (hi : i < n) (hj : j < n) (h : Walk ws i j c) : travM n ws i j ≤ c := comp_all ho n (Nat.le_refl _) i j c hi hj (h.wk ho)

/-! The reference's rounds. -/
def SB (n : Nat) (ws : List Wy) (a : Nat) (f : Nat → Int) : Prop := ∀ v, v < n → -1 ≤ f v ∧ (0 ≤ f v → Walk ws a v (f v))
theorem relax_sb {n : Nat} {ws : List Wy} (ho : OkW n ws) {a : Nat} {f : Nat → Int} (h : SB n ws a f) {i j : Nat} {d : Int} (e : Ed ws i j d) : SB n ws a (relax f i j d) := fun v hv => by
  have h0 := e.ok ho
  unfold relax
  split
  · rename_i hc
    unfold upd
    split
    · rename_i ev
      subst ev
      exact ⟨by omega, fun _ => .snoc ((h i h0.1).2 hc.1) e⟩
    · exact h v hv
  · exact h v hv
theorem relax_pres {n : Nat} {ws : List Wy} (ho : OkW n ws) {a : Nat} (ha : a < n) {f : Nat → Int} (h : SB n ws a f) {i j : Nat} {d : Int} (e : Ed ws i j d) {v : Nat} (hv : v < n) (hs : f v = travM n ws a v) : relax f i j d v = travM n ws a v := by
  have h0 := e.ok ho
  have h1 := travM_snd ho a v ha hv
  unfold relax
  split
  · rename_i hc
    unfold upd
    split
    · rename_i ev
      subst ev
      have := travM_le ho ha hv (.snoc ((h i h0.1).2 hc.1) e)
      omega
    · exact hs
  · exact hs
theorem relax_hit {f : Nat → Int} {i j : Nat} {d : Int} (h : 0 ≤ f i) (hd : 0 ≤ d) : 0 ≤ relax f i j d j ∧ relax f i j d j ≤ f i + d := by
  unfold relax
  split
  · simp only [upd, if_true]; omega
  · omega
def PB (n : Nat) (ws : List Wy) (a u : Nat) (f : Nat → Int) : Prop := SB n ws a f ∧ f u = travM n ws a u
theorem bfStep_pb {n : Nat} {ws : List Wy} (ho : OkW n ws) {a u : Nat} (ha : a < n) (hu : u < n) {f : Nat → Int} (h : PB n ws a u f) {m : Wy} (hm : m ∈ ws) : PB n ws a u (bfStep f m) := by
  have e1 : Ed ws m.a.toNat m.b.toNat m.days := ⟨m, hm, rfl, .inl ⟨rfl, rfl⟩⟩
  have e2 : Ed ws m.b.toNat m.a.toNat m.days := ⟨m, hm, rfl, .inr ⟨rfl, rfl⟩⟩
  have s1 := relax_sb ho h.1 e1
  have p1 := relax_pres ho ha h.1 e1 hu h.2
  exact ⟨relax_sb ho s1 e2, relax_pres ho ha s1 e2 hu p1⟩
theorem bfStep_sb {n : Nat} {ws : List Wy} (ho : OkW n ws) {a : Nat} {f : Nat → Int} (h : SB n ws a f) {m : Wy} (hm : m ∈ ws) : SB n ws a (bfStep f m) :=
  relax_sb ho (relax_sb ho h ⟨m, hm, rfl, .inl ⟨rfl, rfl⟩⟩) ⟨m, hm, rfl, .inr ⟨rfl, rfl⟩⟩
theorem bfRound_sb {n : Nat} {ws : List Wy} (ho : OkW n ws) {a : Nat} {f : Nat → Int} (h : SB n ws a f) : SB n ws a (bfRound ws f) := foldl_keep bfStep (SB n ws a) ws (fun _ _ hm h => bfStep_sb ho h hm) _ h
theorem bfRound_pb {n : Nat} {ws : List Wy} (ho : OkW n ws) {a u : Nat} (ha : a < n) (hu : u < n) {f : Nat → Int} (h : PB n ws a u f) : PB n ws a u (bfRound ws f) := foldl_keep bfStep (PB n ws a u) ws (fun _ _ hm h => bfStep_pb ho ha hu h hm) _ h
theorem bfRound_hit {n : Nat} {ws : List Wy} (ho : OkW n ws) {a u v : Nat} {d : Int} (ha : a < n) {f : Nat → Int} (h : PB n ws a u f) (e : Ed ws u v d) (hd : travM n ws a u + d = travM n ws a v) : bfRound ws f v = travM n ws a v := by
  have h0 := e.ok ho
  obtain ⟨m, hm, rfl, hij⟩ := e
  have hn := (travM_snd ho a u ha h0.1).1
  have fin : ∀ g : Nat → Int, SB n ws a g → 0 ≤ g v → g v ≤ travM n ws a v → g v = travM n ws a v := fun g hg h1 h2 => by
    have := travM_le ho ha h0.2.1 ((hg v h0.2.1).2 h1)
    omega
  have e1 : Ed ws m.a.toNat m.b.toNat m.days := ⟨m, hm, rfl, .inl ⟨rfl, rfl⟩⟩
  have e2 : Ed ws m.b.toNat m.a.toNat m.days := ⟨m, hm, rfl, .inr ⟨rfl, rfl⟩⟩
  refine foldl_hit bfStep (PB n ws a u) (fun g => g v = travM n ws a v) ws (fun _ _ hm h => bfStep_pb ho ha h0.1 h hm) (fun g x hx hI hQ => (bfStep_pb ho ha h0.2.1 ⟨hI.1, hQ⟩ hx).2) m hm (fun g hg => ?_) f h
  have s1 := relax_sb ho hg.1 e1
  have s2 := relax_sb ho s1 e2
  rcases hij with ⟨rfl, rfl⟩ | ⟨rfl, rfl⟩
  · have h1 := relax_hit (f := g) (i := m.a.toNat) (j := m.b.toNat) (d := m.days) (by rw [hg.2]; exact hn) (by omega)
    have h2 := fin _ s1 h1.1 (by rw [← hd, ← hg.2]; exact h1.2)
    exact relax_pres ho ha s1 e2 h0.2.1 h2
  · have p1 := relax_pres ho ha hg.1 e1 h0.1 hg.2
    have h1 := relax_hit (f := relax g m.a.toNat m.b.toNat m.days) (i := m.b.toNat) (j := m.a.toNat) (d := m.days) (by rw [p1]; exact hn) (by omega)
    exact fin _ s2 h1.1 (by rw [← hd, ← p1]; exact h1.2)

def un (n : Nat) (ws : List Wy) (a : Nat) (f : Nat → Int) (v : Nat) : Bool := decide (travM n ws a v < 1000000) && !decide (f v = travM n ws a v)
theorem find_un {n : Nat} {ws : List Wy} (ho : OkW n ws) {a : Nat} (ha : a < n) {f : Nat → Int} (hfa : f a = travM n ws a a) (h0 : travM n ws a a = 0) : ∀ (q : Nat) (v : Nat), v < n → un n ws a f v = true → travM n ws a v ≤ q →
    ∃ u v d, v < n ∧ un n ws a f v = true ∧ f u = travM n ws a u ∧ Ed ws u v d ∧ travM n ws a u + d = travM n ws a v := by
  intro q
  induction q with
  | zero =>
    intro v hv hu hq
    have h1 := travM_snd ho a v ha hv
    simp only [un, Bool.and_eq_true, decide_eq_true_eq, Bool.not_eq_true', decide_eq_false_iff_not] at hu
    have hw := h1.2.2 hu.1
    generalize hc : travM n ws a v = c at hw
    cases hw with
    | nil => exact absurd (hfa.trans (by rw [h0])) (by rw [← h0]; intro h; apply hu.2; rw [hfa])
    | snoc w e => have := w.nn ho; have := e.ok ho; omega
  | succ q ih =>
    intro v hv hu hq
    have h1 := travM_snd ho a v ha hv
    have hu' := hu
    simp only [un, Bool.and_eq_true, decide_eq_true_eq, Bool.not_eq_true', decide_eq_false_iff_not] at hu
    have hw := h1.2.2 hu.1
    generalize hc : travM n ws a v = c at hw
    cases hw with
    | nil => exact absurd hfa hu.2
    | @snoc u _ c d w e =>
      have he := e.ok ho
      have h2 := travM_le ho ha he.1 w
      have h3 := travM_snd ho a u ha he.1
      have h4 := travM_le ho ha hv (.snoc (h3.2.2 (by omega)) e)
      by_cases hf : f u = travM n ws a u
      · exact ⟨u, v, d, hv, hu', hf, e, by omega⟩
      · exact ih u he.1 (by unfold un; simp [hf]; omega) (by omega)
theorem countP_lt {p q : Nat → Bool} : ∀ (l : List Nat), (∀ x ∈ l, q x = true → p x = true) → (∃ x ∈ l, p x = true ∧ q x = false) → l.countP q < l.countP p
  | [], _, h => by obtain ⟨x, hx, _⟩ := h; cases hx
  | y :: l, himp, h => by
    have hle : l.countP q ≤ l.countP p := List.countP_mono_left (fun x hx => himp x (List.mem_cons_of_mem _ hx))
    obtain ⟨x, hx, hp, hq⟩ := h
    rcases List.mem_cons.1 hx with rfl | hx
    · rw [List.countP_cons_of_pos hp, List.countP_cons_of_neg (by simp [hq])]
      omega
    · have ih := countP_lt l (fun x hx => himp x (List.mem_cons_of_mem _ hx)) ⟨x, hx, hp, hq⟩
      have h3 := himp y (List.mem_cons_self ..)
      cases hqy : q y
      · rw [List.countP_cons_of_neg (by simp [hqy])]
        rw [List.countP_cons]
        omega
      · rw [List.countP_cons_of_pos hqy, List.countP_cons_of_pos (h3 hqy)]
        omega
theorem travM_self {n : Nat} {ws : List Wy} (ho : OkW n ws) {a : Nat} (ha : a < n) : travM n ws a a = 0 := by
  have h1 := travM_le ho ha ha (Walk.nil (ws := ws))
  have h2 := (travM_snd ho a a ha ha).1
  omega
theorem bfStart_sb {n : Nat} {ws : List Wy} {a : Nat} : SB n ws a (bfStart a) := fun v _ => by
  unfold bfStart upd
  split
  · rename_i e; subst e; exact ⟨by omega, fun _ => .nil⟩
  · show -1 ≤ (-1 : Int) ∧ (0 ≤ (-1 : Int) → _)
    exact ⟨by omega, fun h => by omega⟩
theorem bfRounds_ok {n : Nat} {ws : List Wy} (ho : OkW n ws) {a : Nat} (ha : a < n) : ∀ r, PB n ws a a (bfRounds ws a r) ∧ ((List.range n).countP (un n ws a (bfRounds ws a r)) = 0 ∨ (List.range n).countP (un n ws a (bfRounds ws a r)) + r ≤ n)
  | 0 => by
    refine ⟨⟨bfStart_sb, ?_⟩, .inr ?_⟩
    · rw [travM_self ho ha]; simp [bfRounds, bfStart, upd]
    · have := List.countP_le_length (p := un n ws a (bfRounds ws a 0)) (l := List.range n)
      rw [List.length_range] at this
      omega
  | r + 1 => by
    obtain ⟨hp, hc⟩ := bfRounds_ok ho ha r
    refine ⟨bfRound_pb ho ha ha hp, ?_⟩
    have himp : ∀ x ∈ List.range n, un n ws a (bfRounds ws a (r + 1)) x = true → un n ws a (bfRounds ws a r) x = true := fun x hx h => by
      simp only [un, Bool.and_eq_true, decide_eq_true_eq, Bool.not_eq_true', decide_eq_false_iff_not] at h ⊢
      exact ⟨h.1, fun e => h.2 (bfRound_pb ho ha (List.mem_range.1 hx) ⟨hp.1, e⟩).2⟩
    by_cases hz : (List.range n).countP (un n ws a (bfRounds ws a r)) = 0
    · left
      have := List.countP_mono_left himp
      omega
    · right
      obtain ⟨v, hv, hun⟩ := List.countP_pos_iff.1 (Nat.pos_of_ne_zero hz)
      have hv' := List.mem_range.1 hv
      have hs := travM_snd ho a v ha hv'
      obtain ⟨u, v', d, hv2, hun2, hfu, he, hd⟩ := find_un ho ha hp.2 (travM_self ho ha) (travM n ws a v).toNat v hv' hun (by omega)
      have hhit := bfRound_hit ho ha ⟨hp.1, hfu⟩ he hd
      have := countP_lt (List.range n) himp ⟨v', List.mem_range.2 hv2, hun2, by unfold un; simp [bfRounds, hhit]⟩
      omega
theorem relax_bound {f : Nat → Int} {B d : Int} (hB : ∀ v, f v ≤ B) (h0 : 0 ≤ d) (hd : d ≤ 60) (i j v : Nat) : relax f i j d v ≤ B + 60 := by
  have h1 := hB i
  have h2 := hB v
  unfold relax
  split
  · unfold upd; split <;> omega
  · omega
theorem bfStep_bound {f : Nat → Int} {B : Int} (hB : ∀ v, f v ≤ B) {m : Wy} (h0 : 0 ≤ m.days) (hd : m.days ≤ 60) (v : Nat) : bfStep f m v ≤ B + 120 := by
  have := relax_bound (relax_bound hB h0 hd m.a.toNat m.b.toNat) h0 hd m.b.toNat m.a.toNat v
  unfold bfStep
  omega
theorem bfRound_bound : ∀ (ws : List Wy) (f : Nat → Int) (B : Int), (∀ v, f v ≤ B) → (∀ m ∈ ws, 0 ≤ m.days ∧ m.days ≤ 60) → ∀ v, bfRound ws f v ≤ B + 120 * ws.length
  | [], f, B, h, _, v => by have := h v; simp [bfRound]; omega
  | m :: ws, f, B, h, hd, v => by
    have hm := hd m (List.mem_cons_self ..)
    have := bfRound_bound ws (bfStep f m) (B + 120) (bfStep_bound h hm.1 hm.2) (fun x hx => hd x (List.mem_cons_of_mem _ hx)) v
    simp only [bfRound, List.foldl_cons, List.length_cons] at this ⊢
    omega
theorem bfRounds_bound {n : Nat} {ws : List Wy} (ho : OkW n ws) (hw : ws.length ≤ 40) (a : Nat) : ∀ r v, bfRounds ws a r v ≤ 4800 * r
  | 0, v => by simp only [bfRounds, bfStart, upd]; split <;> omega
  | r + 1, v => by
    have := bfRound_bound ws (bfRounds ws a r) (4800 * r) (bfRounds_bound ho hw a r) (fun m hm => by have := ho m hm; omega) v
    simp only [bfRounds]
    omega
/-- The reference's travels are the program's. -/
theorem bf_eq {n : Nat} {ws : List Wy} (ho : OkW n ws) (hn : n ≤ 12) (hw : ws.length ≤ 40) {a : Nat} (ha : a < n) {v : Nat} (hv : v < n) : bfRounds ws a n v = if travM n ws a v < 1000000 then travM n ws a v else -1 := by
  obtain ⟨hp, hc⟩ := bfRounds_ok ho ha n
  have hz : (List.range n).countP (un n ws a (bfRounds ws a n)) = 0 := by omega
  have hb := bfRounds_bound ho hw a n v
  split
  · rename_i hlt
    have h1 : ¬ un n ws a (bfRounds ws a n) v = true := fun h => by
      have := List.countP_pos_iff.2 ⟨v, List.mem_range.2 hv, h⟩
      omega
    unfold un at h1
    simpa [hlt] using h1
  · rename_i hlt
    have h1 := hp.1 v hv
    by_cases h0 : 0 ≤ bfRounds ws a n v
    · have := travM_le ho ha hv (h1.2 h0)
      omega
    · omega
end Go.Proofs.YteajkofgcmfaoaaGreatDoor
