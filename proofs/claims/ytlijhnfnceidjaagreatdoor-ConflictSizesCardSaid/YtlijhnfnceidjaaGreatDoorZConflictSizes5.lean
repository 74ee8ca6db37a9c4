/- Part 5 of the texts of this claim: what its theorem leans on. -/
import Derived.Test.YtlijhnfnceidjaaGreatDoorZConflictSizes3
import Derived.Test.YtlijhnfnceidjaaGreatDoorZConflictSizes1
import Derived.Test.YtlijhnfnceidjaaGreatDoorProg
import Derived.KernelRfl
namespace Go.GV
open Go Go.GK
section
variable {N : Nms}
def yI (ky : Nat) (ts : List Ty) : YL N (List (tupD N ts)) := ⟨ky, fun C As k => match argT N C ts As with
  | some y => match k false with
    | some [] => match k true with
      | some l => some (y :: l)
      | none => none
    | _ => none
  | none => none⟩
def cstO : List (Nat × RP) → Nat → List (Nat × SR N.T)
  | [], _ => []
  | p :: l, i => (p.1, .cst i) :: cstO l (i + 1)
def isO (O : List (Nat × SR N.T)) : List (Nat × RP) → Nat → Bool
  | [], _ => true
  | p :: l, i => (match lkA O p.1 with
    | some (.cst j) => Nat.beq i j
    | _ => false) && isO O l (i + 1)
def exI (pi : Pat) (ts : List Ty) (st : St N.T) : Option (List (tupD N ts)) := match isO st.O pi.ro 0 with
  | true => some []
  | false => none
def fdenI (cx : Cx N) (fu : Nat) (f : Func) (pi : Pat) (yi : Nat) (ts : List Ty) (x : tup N pi.hs) : Option (List (tupD N ts)) := match f.body, f.results.toList with
  | some c, [] => den cx (yI pi.nk ts) fu c (pi.nk + 1) false [] (pi.ro.map fun p => instR N pi.hs x p.2) ⟨(yi, .mp pi.nk) :: (emb N pi x).L, cstO pi.ro 0, pi.nk + 1⟩ (exI pi ts) (fun _ _ => none) (exI pi ts)
  | _, _ => none
def chkI (cx : Cx N) (pi : Pat) (yi : Nat) : Bool := (Nat.ble pi.sl.length cx.n && (Nat.blt yi pi.sl.length && (pi.sl.all fun p => p.2.pl))) && ((pi.sl.all fun p => Nat.blt p.1 pi.sl.length && p.2.ks.all fun k => Nat.blt k pi.nk) && ((pi.ro.all fun p => Nat.blt p.1 pi.nk && p.2.ks.all fun k => Nat.blt k pi.nk) && nodupB (pi.ro.map (·.1))))
theorem Calls.ofM {P : Program} {n : Nat} {f : FuncId} {fn : Func} {c : Code} {vs : List Value} {w : World} {X : Ending → World → Prop} (hf : P.funcs[f]? = some fn) (hb : fn.body = some c) (hn : fn.ntmps = n) (ha : Nat.ble vs.length n = true)
    (h : ∀ a, Fr a n (argL 0 vs) → c.wp P (bodyPostM Fence.wide 0 P fn X) a w) : Calls P f vs.toArray w X := by
  subst hn
  exact (callsIn_wide (n := 0)).1 (callsIn_of_wp_marks hf hb trivial ((wpIn_wide (n := 0)).2 (h _ (Fr.enter vs _ ha))) rfl)
theorem cstO_lk {CR : List (SR N.T)} {g : Nat × RP → SR N.T} : ∀ {l : List (Nat × RP)} {i : Nat}, (l.map (·.1)).Nodup → (∀ j p, l[j]? = some p → CR[i + j]? = some (g p)) → ∀ p ∈ l, ∃ j, lkA (cstO l i : List (Nat × SR N.T)) p.1 = some (.cst j) ∧ CR[j]? = some (g p)
  | [], _, _, _, p, h => by cases h
  | q :: l, i, hn, hc, p, h => by
    simp only [List.map_cons, List.nodup_cons] at hn
    simp only [cstO, lkA]
    cases hb : Nat.beq q.1 p.1 with
    | true =>
      have e := Nat.eq_of_beq_eq_true hb
      rcases List.mem_cons.1 h with rfl | h
      · exact ⟨i, rfl, by simpa using hc 0 _ rfl⟩
      · exact absurd (List.mem_map.2 ⟨p, h, e.symm⟩) hn.1
    | false =>
      rcases List.mem_cons.1 h with rfl | h
      · simp at hb
      · exact cstO_lk hn.2 (fun j p hj => by have := hc (j + 1) p (by simpa using hj); rw [show i + 1 + j = i + (j + 1) by omega]; exact this) p h
theorem cstO_keys : ∀ {l : List (Nat × RP)} {i : Nat}, keys (cstO l i : List (Nat × SR N.T)) = l.map (·.1)
  | [], _ => rfl
  | p :: l, i => by
    show p.1 :: keys (cstO l (i + 1) : List (Nat × SR N.T)) = _
    rw [cstO_keys]; rfl
theorem cstO_c : ∀ {l : List (Nat × RP)} {i k : Nat} {s : SR N.T}, lkA (cstO l i) k = some s → ∃ p ∈ l, p.1 = k
  | l, i, k, s, h => by
    have := lkA_key h
    rw [cstO_keys] at this
    obtain ⟨p, hp, e⟩ := List.mem_map.1 this
    exact ⟨p, hp, e⟩
theorem isO_ok {O : List (Nat × SR N.T)} {CR : List (SR N.T)} {g : Nat × RP → SR N.T} : ∀ {l : List (Nat × RP)} {i : Nat}, isO O l i = true → (∀ j p, l[j]? = some p → CR[i + j]? = some (g p)) → ∀ p ∈ l, rrOf CR O p.1 = some (g p)
  | [], _, _, _, p, h => by cases h
  | q :: l, i, hi, hc, p, h => by
    simp only [isO, Bool.and_eq_true] at hi
    rcases List.mem_cons.1 h with rfl | h
    · have h1 := hi.1
      unfold rrOf
      split at h1
      · rename_i j e
        have := Nat.eq_of_beq_eq_true h1
        subst this
        rw [e]
        have := hc 0 p rfl
        simp only [resR, List.getD_eq_getElem?_getD]
        rw [show CR[i]? = some (g p) from this]; rfl
      · cases h1
    · exact isO_ok hi.2 (fun j p hj => by have := hc (j + 1) p (by simpa using hj); rw [show i + 1 + j = i + (j + 1) by omega]; exact this) p h
def itG {R : Type} (G2 : Hp → List Res → R → Prop) : Hp → Fm → R → Prop := fun H Of r => ∃ M O, Of = mkM O M ∧ G2 H O r
theorem fdenI_ok {cx : Cx N} (hΦ : ∀ f q, cx.Φ f = some q → SoundC cx.P f q) (hm : cx.P.follows .mixedOrders = true) {fu f : Nat} {fn : Func} {pi : Pat} {yi : Nat} {ts : List Ty} (he : Ent cx.P f) (hf : cx.P.funcs[f]? = some fn) (hn : fn.ntmps = cx.n) (hc : chkI cx pi yi = true) : SoundI cx.P f ⟨pi, yi, ts, fdenI cx fu fn pi yi ts⟩ := by
  unfold chkI at hc
  simp only [Bool.and_eq_true] at hc
  obtain ⟨⟨c1, c2, c3⟩, c4, c5, c6⟩ := hc
  have c6 := nodupB_nd c6
  have c2 : yi < pi.sl.length := by simpa using c2
  have c4 : ∀ p ∈ pi.sl, p.1 < pi.sl.length ∧ ∀ k ∈ p.2.ks, k < pi.nk := fun p hp => by
    have := List.all_eq_true.1 c4 p hp
    rw [Bool.and_eq_true] at this
    exact ⟨by simpa using this.1, fun k hk => by simpa using List.all_eq_true.1 this.2 k hk⟩
  have c5 : ∀ p ∈ pi.ro, p.1 < pi.nk ∧ ∀ k ∈ p.2.ks, k < pi.nk := fun p hp => by
    have := List.all_eq_true.1 c5 p hp
    rw [Bool.and_eq_true] at this
    exact ⟨by simpa using this.1, fun k hk => by simpa using List.all_eq_true.1 this.2 k hk⟩
  refine ⟨he, fun x ys hys G2 yv hone mono2 yld2 η H O Y vs w hnd i1 i2 hyi i3 i4 hg hsh => ?_⟩
  have i1 : vs.length = pi.sl.length := i1
  have i2 : ∀ p ∈ pi.sl, ∃ v, vs[p.1]? = some v ∧ (inst N pi.hs x p.2).is [] η H v := i2
  have i3 : keys Y = pi.ro.map (·.1) := i3
  have i4 : ∀ p ∈ pi.ro, ∃ X, lkA Y p.1 = some X ∧ (instR N pi.hs x p.2).is [] η H p.1 X := i4
  have hys : fdenI cx fu fn pi yi ts x = some ys := hys
  unfold fdenI at hys
  split at hys
  case h_2 => cases hys
  rename_i c hb hrs
  generalize hCR : (pi.ro.map fun p => instR N pi.hs x p.2) = CR at hys
  have hcr : ∀ j p, pi.ro[j]? = some p → CR[0 + j]? = some (instR N pi.hs x p.2) := fun j p hj => by rw [← hCR, Nat.zero_add, List.getElem?_map, hj]; rfl
  obtain ⟨η', ηlt, ηy⟩ : ∃ η' : Nat → Value, (∀ k, k < pi.nk → η' k = η k) ∧ η' pi.nk = yv := ⟨fun k => match Nat.beq k pi.nk with
    | true => yv
    | false => η k, fun k hk => by
      cases hb : Nat.beq k pi.nk with
      | true => have := Nat.eq_of_beq_eq_true hb; omega
      | false => simp only [hb], by simp only [Nat.beq_refl]⟩
  obtain ⟨bs, hbs, hbm⟩ : ∃ bs : List (Nat × Value), (∀ p ∈ bs, p.1 < pi.nk + 1 ∧ η' p.1 = p.2) ∧ ∀ k, k < pi.nk + 1 → (k, η' k) ∈ bs := ⟨(List.range (pi.nk + 1)).map fun k => (k, η' k), fun p hp => by
    obtain ⟨k, hk, rfl⟩ := List.mem_map.1 hp
    exact ⟨List.mem_range.1 hk, rfl⟩, fun k hk => List.mem_map.2 ⟨k, List.mem_range.2 hk, rfl⟩⟩
  obtain ⟨G, hGd⟩ : ∃ G : Hp → Fm → List (tupD N ts) → Prop, G = itG G2 := ⟨_, rfl⟩
  have hG : ∀ H H' Of r, H.le H' → G H Of r → G H' Of r := by subst hGd; exact fun H H' Of r hle ⟨M, O, e, g⟩ => ⟨M, O, e, mono2 _ _ _ _ hle g⟩
  have hY : YOK cx.P bs (yI pi.nk ts) yv G := by
    subst hGd
    refine ⟨fun C As k r _ => ?_, fun C As k r Of H ⟨M, O, e, g⟩ hf η A vs w h1 h2 h3 => ?_⟩
    · have := hbm pi.nk (Nat.lt_succ_self _)
      rw [ηy] at this; exact this
    · subst e
      have hf : (match argT N C ts As with
        | some y => match k false with
          | some [] => match k true with
            | some l => some (y :: l)
            | none => none
          | _ => none
        | none => none) = some r := hf
      split at hf
      · rename_i y hy
        split at hf
        · rename_i hk0
          split at hf
          · rename_i l hk1
            cases hf
            have h3 : SH w H ((A ++ M.map markR) ++ O) := by rw [List.append_assoc]; exact h3
            refine (yld2 H O y l g (A ++ M.map markR) vs w (argV_of ts As vs y hy h1 h2) h3).mono fun b w' ⟨H', O', k1, k2, k3⟩ => ⟨H', mkM O' M, aft l b, k1, rfl, by rw [List.append_assoc] at k2; exact k2, ⟨M, O', rfl, k3⟩, ?_⟩
            cases b with
            | true => exact hk1
            | false => exact hk0
          · cases hf
        · cases hf
      · cases hf
  refine Calls.ofM hf hb hn (by rw [i1]; exact c1) fun a hfr => ?_
  have fin : Kn [] CR cx.n G bs H (exI pi ts) (bodyPostM Fence.wide 0 cx.P fn (fun e w' => ∃ v H' O' Y', e = .returned v ∧ H.le H' ∧ SH w' H' (Y'.map (·.2) ++ O') ∧ keys Y' = pi.ro.map (·.1) ∧ (∀ p ∈ pi.ro, ∃ X, lkA Y' p.1 = some X ∧ (instR N pi.hs x p.2).is [] η H' p.1 X) ∧ G2 H' O' []) .ret) := fun Of r st η1 H' a' w' hl hgg h1 _ h3 => by
    rw [hGd] at hgg
    obtain ⟨M, O', e, g⟩ := hgg
    subst e
    show LeavesInM _ _ _ _ _ _ a'.defers _ _
    rw [h1.defers]
    refine marks_ok h1 fun w' h1 => ?_
    unfold exI at h3
    split at h3
    case h_2 => cases h3
    rename_i hio
    cases h3
    obtain ⟨Y1, y1, y2, y3, y4⟩ := h1.own
    have rr := isO_ok (CR := CR) (g := fun p => instR N pi.hs x p.2) hio hcr
    have hx : ∀ p ∈ pi.ro, ∃ X, lkA Y1 p.1 = some X ∧ (instR N pi.hs x p.2).is [] η H' p.1 X := fun p hp => by
      rcases y4 p.1 _ (rr p hp) with e | ⟨X, x1, x2⟩
      · obtain ⟨X, _, hX⟩ := i4 p hp
        rw [e] at hX; exact hX.elim
      · have bb : ∀ k, k < pi.nk → η k = η1 k := fun k hk => by
          have := h1.base (k, η' k) (hbm k (by omega))
          have this : η1 k = η' k := this
          rw [this, ηlt k hk]
        exact ⟨X, x1, SR.is.env (bb p.1 (c5 p hp).1) (fun k hk => by cases hk) (fun k hk => bb k ((c5 p hp).2 k (by rw [← instR_ment]; exact hk))) x2⟩
    refine ⟨.tuple #[], ?_, .tuple #[], H', O', pi.ro.map (fun p => (p.1, (lkA Y1 p.1).getD .emp)), rfl, hl, ?_, ?_, fun p hp => ?_, g⟩
    · rw [results_eq]
      have : fn.results = #[] := by simpa using hrs
      rw [this]; simp
    · refine SH.subY (by simpa [mkM] using y2) ?_ fun p hp => ?_
      · unfold keys; rw [List.map_map]; exact c6
      · obtain ⟨z, hz, rfl⟩ := List.mem_map.1 hp
        obtain ⟨X, x1, _⟩ := hx z hz
        simp only [x1, Option.getD_some]
    · unfold keys; rw [List.map_map]; rfl
    · obtain ⟨X, x1, x2⟩ := hx p hp
      refine ⟨X, ?_, x2⟩
      have nd : (keys (pi.ro.map (fun p => (p.1, (lkA Y1 p.1).getD .emp)))).Nodup := by unfold keys; rw [List.map_map]; exact c6
      rw [lkA_nd nd (List.mem_map.2 ⟨p, hp, rfl⟩), x1]; rfl
  have key : ∀ (us : List Value) (i t : Nat) (v : Value), us[t - i]? = some v → i ≤ t → lk (argL i us) t = some v := by
    intro us
    induction us with
    | nil => intro i t v h; simp at h
    | cons u us ih =>
      intro i t v h hle
      simp only [argL, lk]
      cases hb : Nat.beq i t with
      | true =>
        have := Nat.eq_of_beq_eq_true hb; subst this
        simp at h; simp [h]
      | false =>
        have ne := Nat.ne_of_beq_eq_false hb
        refine ih (i + 1) t v ?_ (by omega)
        rw [show t - i = (t - (i + 1)) + 1 by omega] at h
        simpa using h
  refine wpIn_wide.1 (den_ok (bs := bs) (G := G) (Of := mkM O []) (r := ys) (ro := none) (yv := yv) (η := η') (H := H) hΦ hm c (fun _ => ⟨rfl, by subst hGd; exact fun _ _ _ D ⟨M, O, e, g⟩ => ⟨D :: M, O, by subst e; rfl, g⟩⟩) (fun q hq => (hbs q hq).1) hG hY (by subst hGd; exact ⟨[], O, rfl, hg⟩) (st := ⟨(yi, .mp pi.nk) :: (emb N pi x).L, cstO pi.ro 0, pi.nk + 1⟩) ⟨hfr.defers, hfr.size, fun t sv ht => ?_, fun p hp => (hbs p hp).2, Y, hnd, by simpa [mkM] using hsh, fun k hk => ?_, fun k sr hk => ?_⟩ ⟨fun p hp => (hbs p hp).1, fun j hj => ?_, ⟨fun _ => 0, fun t => ?_⟩, fun k hk => (by cases hk), fun s hs => (by cases hs)⟩ hys fin (fun i Of r st η H' a' w' _ _ _ _ h3 => by cases h3) fin)
  · simp only [lkA] at ht
    cases hb2 : Nat.beq yi t with
    | true =>
      rw [hb2] at ht; cases ht
      have := Nat.eq_of_beq_eq_true hb2; subst this
      rw [hfr.get yi yv (key vs 0 yi yv hyi (Nat.zero_le _))]
      exact ⟨ηy.symm, hone⟩
    | false =>
      rw [hb2] at ht
      obtain ⟨q, hq, rfl, rfl⟩ := embL_mem ht
      obtain ⟨v, h1, h2⟩ := i2 q hq
      rw [hfr.get q.1 v (key vs 0 q.1 v h1 (Nat.zero_le _))]
      have : (inst N pi.hs x q.2).is [] η' H v := h2.env (fun k hk => by cases hk) (fun k hk => ηlt k ((c4 q hq).2 k (by rw [← inst_ment]; exact hk)))
      exact SV.isG.imp (fun j v ⟨s, e, h⟩ => by simp at e) this
  · rw [i3] at hk
    obtain ⟨p, hp, rfl⟩ := List.mem_map.1 hk
    show p.1 < pi.nk + 1
    have := (c5 p hp).1
    omega
  · unfold rrOf at hk
    split at hk
    · rename_i s hs
      cases hk
      obtain ⟨p, hp, rfl⟩ := cstO_c hs
      obtain ⟨j, e1, e2⟩ := cstO_lk (CR := CR) (g := fun p => instR N pi.hs x p.2) c6 hcr p hp
      have hs : lkA (cstO pi.ro 0) p.1 = some s := hs
      rw [e1] at hs
      cases hs
      obtain ⟨X, x1, x2⟩ := i4 p hp
      refine .inr ⟨X, x1, ?_⟩
      simp only [resR, List.getD_eq_getElem?_getD, e2, Option.getD_some]
      exact SR.is.env (ηlt p.1 (c5 p hp).1) (fun k hk => by cases hk) (fun k hk => ηlt k ((c5 p hp).2 k (by rw [← instR_ment]; exact hk))) x2
    · cases hk
  · refine lkA_none fun hm => ?_
    have hm : j ∈ keys (cstO pi.ro 0 : List (Nat × SR N.T)) := hm
    rw [cstO_keys] at hm
    obtain ⟨p, hp, rfl⟩ := List.mem_map.1 hm
    have := (c5 p hp).1
    have hj : pi.nk + 1 ≤ p.1 := hj
    omega
  · unfold lkS
    simp only [lkA]
    cases hb2 : Nat.beq yi t with
    | true => trivial
    | false =>
      simp only
      cases ht : lkA (emb N pi x).L t with
      | none => trivial
      | some sv =>
        simp only
        obtain ⟨q, hq, rfl, rfl⟩ := embL_mem ht
        have hpl := List.all_eq_true.1 c3 q hq
        cases hp : q.2 with
        | v j t => exact prj_pl _ _ j
        | nat j => exact prj_pl _ _ j
        | hdr _ => trivial
        | loc _ _ => trivial
        | clo _ _ _ => trivial
        | keep => trivial
        | nl => trivial
        | sv ls => cases ls <;> trivial
        | _ => rw [hp] at hpl; cases hpl
end
end Go.GV
namespace Go.GV
open Go Go.GK
abbrev rxB : Ty := .st (.pr (.int .i64) (.pr .bs (.sl (.nm 0))))
def rxO (x : Rx) : Int × (BSet × List Rx) := (x.kind, x.set, x.subs)
def rxI (p : Int × (BSet × List Rx)) : Rx := .mk p.1 p.2.1 p.2.2
theorem rx_lay {H : Hp} {a : Rx} {cs : List Value} : cRx.Lay H a cs ↔ (cP cI64 (cP cBs (cL cRx))).Lay H (rxO a) cs := by
  rw [layRx]
  constructor
  · rintro ⟨v, rfl, h⟩
    exact ⟨[_], _, rfl, rfl, (bcs a.set).toList, [v], rfl, rfl, v, rfl, h⟩
  · rintro ⟨c1, c2, rfl, h1, c3, c4, rfl, h2, v, h3, h4⟩
    have h1 : c1 = [.int .i64 a.kind] := h1
    have h2 : c3 = (bcs a.set).toList := h2
    subst h1; subst h2; subst h3
    exact ⟨v, rfl, h4⟩
def nRx (t : Nat) : Nms where
  T _ := Rx
  body _ := rxB
  out _ x := rxO x
  inn _ p := rxI p
  size _ := 6
  id u := match Nat.beq u t with
    | true => some 0
    | false => none
  cd _ := cRx
  size_eq _ := rfl
  out_inn _ _ := rfl
  lay := rx_lay
def cE (n : Nat) : Cd Empty where
  sz := n
  Lay _ x _ := x.elim
  len {_ x _} _ := x.elim
  mono {_ _ x _} _ _ := x.elim
  one {_ x _} _ := x.elim
def nE (t0 t1 : Nat) : Nms where
  T _ := Empty
  body i := .nm i
  out _ x := x
  inn _ x := x
  size _ := 2
  id u := match Nat.beq u t0, Nat.beq u t1 with
    | true, _ => some 0
    | _, true => some 1
    | _, _ => none
  cd _ := cE 2
  size_eq _ := rfl
  out_inn _ _ := rfl
  lay := Iff.rfl
def idE : List (Nat × Nat) → Nat → Option Nat
  | [], _ => none
  | (t, i) :: l, u => match Nat.beq u t with
    | true => some i
    | false => idE l u
def nEs (ids : List (Nat × Nat)) (sz : List Nat) : Nms where
  T _ := Empty
  body i := .nm i
  out _ x := x
  inn _ x := x
  size i := sz.getD i 0
  id u := idE ids u
  cd i := cE (sz.getD i 0)
  size_eq _ := rfl
  out_inn _ _ := rfl
  lay := Iff.rfl
end Go.GV
namespace Go.GV
open Go Go.GK Go.Proofs
theorem follows : Tryz.prog.follows .mixedOrders = true := by kernel_rfl
theorem ent3 : Ent Tryz.prog 3 := ⟨Tryz.f3, Tryz.func3, by kernel_rfl, rfl⟩
theorem ent4 : Ent Tryz.prog 4 := ⟨Tryz.f4, Tryz.func4, by kernel_rfl, rfl⟩
theorem ent5 : Ent Tryz.prog 5 := ⟨Tryz.f5, Tryz.func5, by kernel_rfl, rfl⟩
theorem ent6 : Ent Tryz.prog 6 := ⟨Tryz.f6, Tryz.func6, by kernel_rfl, rfl⟩
theorem ent7 : Ent Tryz.prog 7 := ⟨Tryz.f7, Tryz.func7, by kernel_rfl, rfl⟩
theorem ent8 : Ent Tryz.prog 8 := ⟨Tryz.f8, Tryz.func8, by kernel_rfl, rfl⟩
theorem ent9 : Ent Tryz.prog 9 := ⟨Tryz.f9, Tryz.func9, by kernel_rfl, rfl⟩
theorem ent10 : Ent Tryz.prog 10 := ⟨Tryz.f10, Tryz.func10, by kernel_rfl, rfl⟩
theorem ent11 : Ent Tryz.prog 11 := ⟨Tryz.f11, Tryz.func11, by kernel_rfl, rfl⟩
theorem ent12 : Ent Tryz.prog 12 := ⟨Tryz.f12, Tryz.func12, by kernel_rfl, rfl⟩
theorem ent13 : Ent Tryz.prog 13 := ⟨Tryz.f13, Tryz.func13, by kernel_rfl, rfl⟩
theorem ent14 : Ent Tryz.prog 14 := ⟨Tryz.f14, Tryz.func14, by kernel_rfl, rfl⟩
theorem ent15 : Ent Tryz.prog 15 := ⟨Tryz.f15, Tryz.func15, by kernel_rfl, rfl⟩
theorem ent16 : Ent Tryz.prog 16 := ⟨Tryz.f16, Tryz.func16, by kernel_rfl, rfl⟩
theorem ent17 : Ent Tryz.prog 17 := ⟨Tryz.f17, Tryz.func17, by kernel_rfl, rfl⟩
theorem ent18 : Ent Tryz.prog 18 := ⟨Tryz.f18, Tryz.func18, by kernel_rfl, rfl⟩
theorem ent19 : Ent Tryz.prog 19 := ⟨Tryz.f19, Tryz.func19, by kernel_rfl, rfl⟩
theorem ent20 : Ent Tryz.prog 20 := ⟨Tryz.f20, Tryz.func20, by kernel_rfl, rfl⟩
theorem ent21 : Ent Tryz.prog 21 := ⟨Tryz.f21, Tryz.func21, by kernel_rfl, rfl⟩
theorem ent22 : Ent Tryz.prog 22 := ⟨Tryz.f22, Tryz.func22, by kernel_rfl, rfl⟩
theorem ent23 : Ent Tryz.prog 23 := ⟨Tryz.f23, Tryz.func23, by kernel_rfl, rfl⟩
theorem ent24 : Ent Tryz.prog 24 := ⟨Tryz.f24, Tryz.func24, by kernel_rfl, rfl⟩
theorem ent25 : Ent Tryz.prog 25 := ⟨Tryz.f25, Tryz.func25, by kernel_rfl, rfl⟩
theorem ent26 : Ent Tryz.prog 26 := ⟨Tryz.f26, Tryz.func26, by kernel_rfl, rfl⟩
theorem ent27 : Ent Tryz.prog 27 := ⟨Tryz.f27, Tryz.func27, by kernel_rfl, rfl⟩
theorem ent28 : Ent Tryz.prog 28 := ⟨Tryz.f28, Tryz.func28, by kernel_rfl, rfl⟩
theorem ent29 : Ent Tryz.prog 29 := ⟨Tryz.f29, Tryz.func29, by kernel_rfl, rfl⟩
theorem ent30 : Ent Tryz.prog 30 := ⟨Tryz.f30, Tryz.func30, by kernel_rfl, rfl⟩
theorem ent31 : Ent Tryz.prog 31 := ⟨Tryz.f31, Tryz.func31, by kernel_rfl, rfl⟩
theorem ent32 : Ent Tryz.prog 32 := ⟨Tryz.f32, Tryz.func32, by kernel_rfl, rfl⟩
theorem ent33 : Ent Tryz.prog 33 := ⟨Tryz.f33, Tryz.func33, by kernel_rfl, rfl⟩
theorem ent34 : Ent Tryz.prog 34 := ⟨Tryz.f34, Tryz.func34, by kernel_rfl, rfl⟩
theorem ent35 : Ent Tryz.prog 35 := ⟨Tryz.f35, Tryz.func35, by kernel_rfl, rfl⟩
theorem ent36 : Ent Tryz.prog 36 := ⟨Tryz.f36, Tryz.func36, by kernel_rfl, rfl⟩
theorem ent37 : Ent Tryz.prog 37 := ⟨Tryz.f37, Tryz.func37, by kernel_rfl, rfl⟩
theorem ent38 : Ent Tryz.prog 38 := ⟨Tryz.f38, Tryz.func38, by kernel_rfl, rfl⟩
theorem ent39 : Ent Tryz.prog 39 := ⟨Tryz.f39, Tryz.func39, by kernel_rfl, rfl⟩
theorem ent40 : Ent Tryz.prog 40 := ⟨Tryz.f40, Tryz.func40, by kernel_rfl, rfl⟩
theorem ent41 : Ent Tryz.prog 41 := ⟨Tryz.f41, Tryz.func41, by kernel_rfl, rfl⟩
theorem ent42 : Ent Tryz.prog 42 := ⟨Tryz.f42, Tryz.func42, by kernel_rfl, rfl⟩
theorem ent43 : Ent Tryz.prog 43 := ⟨Tryz.f43, Tryz.func43, by kernel_rfl, rfl⟩
theorem ent44 : Ent Tryz.prog 44 := ⟨Tryz.f44, Tryz.func44, by kernel_rfl, rfl⟩
theorem ent45 : Ent Tryz.prog 45 := ⟨Tryz.f45, Tryz.func45, by kernel_rfl, rfl⟩
theorem ent46 : Ent Tryz.prog 46 := ⟨Tryz.f46, Tryz.func46, by kernel_rfl, rfl⟩
theorem ent47 : Ent Tryz.prog 47 := ⟨Tryz.f47, Tryz.func47, by kernel_rfl, rfl⟩
theorem ent48 : Ent Tryz.prog 48 := ⟨Tryz.f48, Tryz.func48, by kernel_rfl, rfl⟩
theorem ent49 : Ent Tryz.prog 49 := ⟨Tryz.f49, Tryz.func49, by kernel_rfl, rfl⟩
theorem ent50 : Ent Tryz.prog 50 := ⟨Tryz.f50, Tryz.func50, by kernel_rfl, rfl⟩
theorem ent51 : Ent Tryz.prog 51 := ⟨Tryz.f51, Tryz.func51, by kernel_rfl, rfl⟩
theorem ent52 : Ent Tryz.prog 52 := ⟨Tryz.f52, Tryz.func52, by kernel_rfl, rfl⟩
theorem ent53 : Ent Tryz.prog 53 := ⟨Tryz.f53, Tryz.func53, by kernel_rfl, rfl⟩
theorem ent54 : Ent Tryz.prog 54 := ⟨Tryz.f54, Tryz.func54, by kernel_rfl, rfl⟩
theorem ent55 : Ent Tryz.prog 55 := ⟨Tryz.f55, Tryz.func55, by kernel_rfl, rfl⟩
theorem ent56 : Ent Tryz.prog 56 := ⟨Tryz.f56, Tryz.func56, by kernel_rfl, rfl⟩
theorem ent57 : Ent Tryz.prog 57 := ⟨Tryz.f57, Tryz.func57, by kernel_rfl, rfl⟩
theorem ent58 : Ent Tryz.prog 58 := ⟨Tryz.f58, Tryz.func58, by kernel_rfl, rfl⟩
theorem ent59 : Ent Tryz.prog 59 := ⟨Tryz.f59, Tryz.func59, by kernel_rfl, rfl⟩
theorem ent60 : Ent Tryz.prog 60 := ⟨Tryz.f60, Tryz.func60, by kernel_rfl, rfl⟩
theorem ent61 : Ent Tryz.prog 61 := ⟨Tryz.f61, Tryz.func61, by kernel_rfl, rfl⟩
theorem ent62 : Ent Tryz.prog 62 := ⟨Tryz.f62, Tryz.func62, by kernel_rfl, rfl⟩
theorem ent63 : Ent Tryz.prog 63 := ⟨Tryz.f63, Tryz.func63, by kernel_rfl, rfl⟩
theorem ent64 : Ent Tryz.prog 64 := ⟨Tryz.f64, Tryz.func64, by kernel_rfl, rfl⟩
theorem ent65 : Ent Tryz.prog 65 := ⟨Tryz.f65, Tryz.func65, by kernel_rfl, rfl⟩
theorem ent67 : Ent Tryz.prog 67 := ⟨Tryz.f67, Tryz.func67, by kernel_rfl, rfl⟩
theorem ent68 : Ent Tryz.prog 68 := ⟨Tryz.f68, Tryz.func68, by kernel_rfl, rfl⟩
theorem ent69 : Ent Tryz.prog 69 := ⟨Tryz.f69, Tryz.func69, by kernel_rfl, rfl⟩
theorem ent70 : Ent Tryz.prog 70 := ⟨Tryz.f70, Tryz.func70, by kernel_rfl, rfl⟩
theorem ent71 : Ent Tryz.prog 71 := ⟨Tryz.f71, Tryz.func71, by kernel_rfl, rfl⟩
theorem ent73 : Ent Tryz.prog 73 := ⟨Tryz.f73, Tryz.func73, by kernel_rfl, rfl⟩
theorem ent74 : Ent Tryz.prog 74 := ⟨Tryz.f74, Tryz.func74, by kernel_rfl, rfl⟩
theorem ent75 : Ent Tryz.prog 75 := ⟨Tryz.f75, Tryz.func75, by kernel_rfl, rfl⟩
theorem ent76 : Ent Tryz.prog 76 := ⟨Tryz.f76, Tryz.func76, by kernel_rfl, rfl⟩
theorem ent77 : Ent Tryz.prog 77 := ⟨Tryz.f77, Tryz.func77, by kernel_rfl, rfl⟩
theorem ent80 : Ent Tryz.prog 80 := ⟨Tryz.f80, Tryz.func80, by kernel_rfl, rfl⟩
theorem ent82 : Ent Tryz.prog 82 := ⟨Tryz.f82, Tryz.func82, by kernel_rfl, rfl⟩
theorem ent91 : Ent Tryz.prog 91 := ⟨Tryz.f91, Tryz.func91, by kernel_rfl, rfl⟩
theorem ent93 : Ent Tryz.prog 93 := ⟨Tryz.f93, Tryz.func93, by kernel_rfl, rfl⟩
theorem ent94 : Ent Tryz.prog 94 := ⟨Tryz.f94, Tryz.func94, by kernel_rfl, rfl⟩
theorem ent95 : Ent Tryz.prog 95 := ⟨Tryz.f95, Tryz.func95, by kernel_rfl, rfl⟩
theorem ent96 : Ent Tryz.prog 96 := ⟨Tryz.f96, Tryz.func96, by kernel_rfl, rfl⟩
theorem ent97 : Ent Tryz.prog 97 := ⟨Tryz.f97, Tryz.func97, by kernel_rfl, rfl⟩
theorem ent98 : Ent Tryz.prog 98 := ⟨Tryz.f98, Tryz.func98, by kernel_rfl, rfl⟩
theorem ent99 : Ent Tryz.prog 99 := ⟨Tryz.f99, Tryz.func99, by kernel_rfl, rfl⟩
theorem ent102 : Ent Tryz.prog 102 := ⟨Tryz.f102, Tryz.func102, by kernel_rfl, rfl⟩
theorem ent103 : Ent Tryz.prog 103 := ⟨Tryz.f103, Tryz.func103, by kernel_rfl, rfl⟩
theorem ent104 : Ent Tryz.prog 104 := ⟨Tryz.f104, Tryz.func104, by kernel_rfl, rfl⟩
theorem ent105 : Ent Tryz.prog 105 := ⟨Tryz.f105, Tryz.func105, by kernel_rfl, rfl⟩
theorem ent107 : Ent Tryz.prog 107 := ⟨Tryz.f107, Tryz.func107, by kernel_rfl, rfl⟩
theorem ent109 : Ent Tryz.prog 109 := ⟨Tryz.f109, Tryz.func109, by kernel_rfl, rfl⟩
theorem ent110 : Ent Tryz.prog 110 := ⟨Tryz.f110, Tryz.func110, by kernel_rfl, rfl⟩
theorem ent111 : Ent Tryz.prog 111 := ⟨Tryz.f111, Tryz.func111, by kernel_rfl, rfl⟩
theorem ent112 : Ent Tryz.prog 112 := ⟨Tryz.f112, Tryz.func112, by kernel_rfl, rfl⟩
theorem ent113 : Ent Tryz.prog 113 := ⟨Tryz.f113, Tryz.func113, by kernel_rfl, rfl⟩
theorem ent114 : Ent Tryz.prog 114 := ⟨Tryz.f114, Tryz.func114, by kernel_rfl, rfl⟩
theorem ent115 : Ent Tryz.prog 115 := ⟨Tryz.f115, Tryz.func115, by kernel_rfl, rfl⟩
theorem ent118 : Ent Tryz.prog 118 := ⟨Tryz.f118, Tryz.func118, by kernel_rfl, rfl⟩
theorem ent119 : Ent Tryz.prog 119 := ⟨Tryz.f119, Tryz.func119, by kernel_rfl, rfl⟩
theorem ent121 : Ent Tryz.prog 121 := ⟨Tryz.f121, Tryz.func121, by kernel_rfl, rfl⟩
theorem ent122 : Ent Tryz.prog 122 := ⟨Tryz.f122, Tryz.func122, by kernel_rfl, rfl⟩
theorem ent123 : Ent Tryz.prog 123 := ⟨Tryz.f123, Tryz.func123, by kernel_rfl, rfl⟩
theorem ent124 : Ent Tryz.prog 124 := ⟨Tryz.f124, Tryz.func124, by kernel_rfl, rfl⟩
theorem ent125 : Ent Tryz.prog 125 := ⟨Tryz.f125, Tryz.func125, by kernel_rfl, rfl⟩
theorem ent128 : Ent Tryz.prog 128 := ⟨Tryz.f128, Tryz.func128, by kernel_rfl, rfl⟩
theorem ent129 : Ent Tryz.prog 129 := ⟨Tryz.f129, Tryz.func129, by kernel_rfl, rfl⟩
theorem ent130 : Ent Tryz.prog 130 := ⟨Tryz.f130, Tryz.func130, by kernel_rfl, rfl⟩
theorem ent131 : Ent Tryz.prog 131 := ⟨Tryz.f131, Tryz.func131, by kernel_rfl, rfl⟩
theorem ent132 : Ent Tryz.prog 132 := ⟨Tryz.f132, Tryz.func132, by kernel_rfl, rfl⟩
theorem ent133 : Ent Tryz.prog 133 := ⟨Tryz.f133, Tryz.func133, by kernel_rfl, rfl⟩
theorem ent134 : Ent Tryz.prog 134 := ⟨Tryz.f134, Tryz.func134, by kernel_rfl, rfl⟩
theorem ent135 : Ent Tryz.prog 135 := ⟨Tryz.f135, Tryz.func135, by kernel_rfl, rfl⟩
theorem ent136 : Ent Tryz.prog 136 := ⟨Tryz.f136, Tryz.func136, by kernel_rfl, rfl⟩
theorem ent139 : Ent Tryz.prog 139 := ⟨Tryz.f139, Tryz.func139, by kernel_rfl, rfl⟩
theorem ent140 : Ent Tryz.prog 140 := ⟨Tryz.f140, Tryz.func140, by kernel_rfl, rfl⟩
theorem ent141 : Ent Tryz.prog 141 := ⟨Tryz.f141, Tryz.func141, by kernel_rfl, rfl⟩
theorem ent142 : Ent Tryz.prog 142 := ⟨Tryz.f142, Tryz.func142, by kernel_rfl, rfl⟩
theorem ent143 : Ent Tryz.prog 143 := ⟨Tryz.f143, Tryz.func143, by kernel_rfl, rfl⟩
theorem ent144 : Ent Tryz.prog 144 := ⟨Tryz.f144, Tryz.func144, by kernel_rfl, rfl⟩
theorem ent145 : Ent Tryz.prog 145 := ⟨Tryz.f145, Tryz.func145, by kernel_rfl, rfl⟩
theorem ent146 : Ent Tryz.prog 146 := ⟨Tryz.f146, Tryz.func146, by kernel_rfl, rfl⟩
theorem ent147 : Ent Tryz.prog 147 := ⟨Tryz.f147, Tryz.func147, by kernel_rfl, rfl⟩
theorem ent148 : Ent Tryz.prog 148 := ⟨Tryz.f148, Tryz.func148, by kernel_rfl, rfl⟩
theorem ent149 : Ent Tryz.prog 149 := ⟨Tryz.f149, Tryz.func149, by kernel_rfl, rfl⟩
theorem ent151 : Ent Tryz.prog 151 := ⟨Tryz.f151, Tryz.func151, by kernel_rfl, rfl⟩
theorem ent152 : Ent Tryz.prog 152 := ⟨Tryz.f152, Tryz.func152, by kernel_rfl, rfl⟩
theorem ent153 : Ent Tryz.prog 153 := ⟨Tryz.f153, Tryz.func153, by kernel_rfl, rfl⟩
theorem ent154 : Ent Tryz.prog 154 := ⟨Tryz.f154, Tryz.func154, by kernel_rfl, rfl⟩
theorem ent155 : Ent Tryz.prog 155 := ⟨Tryz.f155, Tryz.func155, by kernel_rfl, rfl⟩
theorem ent156 : Ent Tryz.prog 156 := ⟨Tryz.f156, Tryz.func156, by kernel_rfl, rfl⟩
theorem ent157 : Ent Tryz.prog 157 := ⟨Tryz.f157, Tryz.func157, by kernel_rfl, rfl⟩
theorem ent158 : Ent Tryz.prog 158 := ⟨Tryz.f158, Tryz.func158, by kernel_rfl, rfl⟩
theorem ent161 : Ent Tryz.prog 161 := ⟨Tryz.f161, Tryz.func161, by kernel_rfl, rfl⟩
theorem ent170 : Ent Tryz.prog 170 := ⟨Tryz.f170, Tryz.func170, by kernel_rfl, rfl⟩
theorem ent171 : Ent Tryz.prog 171 := ⟨Tryz.f171, Tryz.func171, by kernel_rfl, rfl⟩
theorem ent172 : Ent Tryz.prog 172 := ⟨Tryz.f172, Tryz.func172, by kernel_rfl, rfl⟩
theorem ent173 : Ent Tryz.prog 173 := ⟨Tryz.f173, Tryz.func173, by kernel_rfl, rfl⟩
theorem ent174 : Ent Tryz.prog 174 := ⟨Tryz.f174, Tryz.func174, by kernel_rfl, rfl⟩
theorem ent175 : Ent Tryz.prog 175 := ⟨Tryz.f175, Tryz.func175, by kernel_rfl, rfl⟩
theorem ent176 : Ent Tryz.prog 176 := ⟨Tryz.f176, Tryz.func176, by kernel_rfl, rfl⟩
theorem ent177 : Ent Tryz.prog 177 := ⟨Tryz.f177, Tryz.func177, by kernel_rfl, rfl⟩
theorem ent178 : Ent Tryz.prog 178 := ⟨Tryz.f178, Tryz.func178, by kernel_rfl, rfl⟩
theorem ent179 : Ent Tryz.prog 179 := ⟨Tryz.f179, Tryz.func179, by kernel_rfl, rfl⟩
theorem ent180 : Ent Tryz.prog 180 := ⟨Tryz.f180, Tryz.func180, by kernel_rfl, rfl⟩
theorem ent181 : Ent Tryz.prog 181 := ⟨Tryz.f181, Tryz.func181, by kernel_rfl, rfl⟩
theorem ent182 : Ent Tryz.prog 182 := ⟨Tryz.f182, Tryz.func182, by kernel_rfl, rfl⟩
theorem ent183 : Ent Tryz.prog 183 := ⟨Tryz.f183, Tryz.func183, by kernel_rfl, rfl⟩
theorem ent185 : Ent Tryz.prog 185 := ⟨Tryz.f185, Tryz.func185, by kernel_rfl, rfl⟩
theorem ent186 : Ent Tryz.prog 186 := ⟨Tryz.f186, Tryz.func186, by kernel_rfl, rfl⟩
theorem ent187 : Ent Tryz.prog 187 := ⟨Tryz.f187, Tryz.func187, by kernel_rfl, rfl⟩
theorem ent190 : Ent Tryz.prog 190 := ⟨Tryz.f190, Tryz.func190, by kernel_rfl, rfl⟩
theorem ent192 : Ent Tryz.prog 192 := ⟨Tryz.f192, Tryz.func192, by kernel_rfl, rfl⟩
theorem ent193 : Ent Tryz.prog 193 := ⟨Tryz.f193, Tryz.func193, by kernel_rfl, rfl⟩
theorem ent194 : Ent Tryz.prog 194 := ⟨Tryz.f194, Tryz.func194, by kernel_rfl, rfl⟩
theorem ent195 : Ent Tryz.prog 195 := ⟨Tryz.f195, Tryz.func195, by kernel_rfl, rfl⟩
theorem ent196 : Ent Tryz.prog 196 := ⟨Tryz.f196, Tryz.func196, by kernel_rfl, rfl⟩
theorem ent197 : Ent Tryz.prog 197 := ⟨Tryz.f197, Tryz.func197, by kernel_rfl, rfl⟩
theorem ent198 : Ent Tryz.prog 198 := ⟨Tryz.f198, Tryz.func198, by kernel_rfl, rfl⟩
theorem ent199 : Ent Tryz.prog 199 := ⟨Tryz.f199, Tryz.func199, by kernel_rfl, rfl⟩
theorem ent200 : Ent Tryz.prog 200 := ⟨Tryz.f200, Tryz.func200, by kernel_rfl, rfl⟩
theorem ent201 : Ent Tryz.prog 201 := ⟨Tryz.f201, Tryz.func201, by kernel_rfl, rfl⟩
theorem ent204 : Ent Tryz.prog 204 := ⟨Tryz.f204, Tryz.func204, by kernel_rfl, rfl⟩
theorem ent206 : Ent Tryz.prog 206 := ⟨Tryz.f206, Tryz.func206, by kernel_rfl, rfl⟩
theorem ent210 : Ent Tryz.prog 210 := ⟨Tryz.f210, Tryz.func210, by kernel_rfl, rfl⟩
theorem ent212 : Ent Tryz.prog 212 := ⟨Tryz.f212, Tryz.func212, by kernel_rfl, rfl⟩
theorem ent213 : Ent Tryz.prog 213 := ⟨Tryz.f213, Tryz.func213, by kernel_rfl, rfl⟩
theorem ent214 : Ent Tryz.prog 214 := ⟨Tryz.f214, Tryz.func214, by kernel_rfl, rfl⟩
theorem ent215 : Ent Tryz.prog 215 := ⟨Tryz.f215, Tryz.func215, by kernel_rfl, rfl⟩
theorem ent216 : Ent Tryz.prog 216 := ⟨Tryz.f216, Tryz.func216, by kernel_rfl, rfl⟩
theorem ent217 : Ent Tryz.prog 217 := ⟨Tryz.f217, Tryz.func217, by kernel_rfl, rfl⟩
theorem ent218 : Ent Tryz.prog 218 := ⟨Tryz.f218, Tryz.func218, by kernel_rfl, rfl⟩
theorem ent219 : Ent Tryz.prog 219 := ⟨Tryz.f219, Tryz.func219, by kernel_rfl, rfl⟩
theorem ent220 : Ent Tryz.prog 220 := ⟨Tryz.f220, Tryz.func220, by kernel_rfl, rfl⟩
theorem ent221 : Ent Tryz.prog 221 := ⟨Tryz.f221, Tryz.func221, by kernel_rfl, rfl⟩
theorem ent222 : Ent Tryz.prog 222 := ⟨Tryz.f222, Tryz.func222, by kernel_rfl, rfl⟩
theorem ent228 : Ent Tryz.prog 228 := ⟨Tryz.f228, Tryz.func228, by kernel_rfl, rfl⟩
theorem ent241 : Ent Tryz.prog 241 := ⟨Tryz.f241, Tryz.func241, by kernel_rfl, rfl⟩
theorem ent242 : Ent Tryz.prog 242 := ⟨Tryz.f242, Tryz.func242, by kernel_rfl, rfl⟩
theorem ent243 : Ent Tryz.prog 243 := ⟨Tryz.f243, Tryz.func243, by kernel_rfl, rfl⟩
theorem ent244 : Ent Tryz.prog 244 := ⟨Tryz.f244, Tryz.func244, by kernel_rfl, rfl⟩
theorem ent245 : Ent Tryz.prog 245 := ⟨Tryz.f245, Tryz.func245, by kernel_rfl, rfl⟩
theorem ent246 : Ent Tryz.prog 246 := ⟨Tryz.f246, Tryz.func246, by kernel_rfl, rfl⟩
theorem ent247 : Ent Tryz.prog 247 := ⟨Tryz.f247, Tryz.func247, by kernel_rfl, rfl⟩
theorem ent248 : Ent Tryz.prog 248 := ⟨Tryz.f248, Tryz.func248, by kernel_rfl, rfl⟩
theorem ent249 : Ent Tryz.prog 249 := ⟨Tryz.f249, Tryz.func249, by kernel_rfl, rfl⟩
theorem ent250 : Ent Tryz.prog 250 := ⟨Tryz.f250, Tryz.func250, by kernel_rfl, rfl⟩
theorem ent251 : Ent Tryz.prog 251 := ⟨Tryz.f251, Tryz.func251, by kernel_rfl, rfl⟩
theorem ent252 : Ent Tryz.prog 252 := ⟨Tryz.f252, Tryz.func252, by kernel_rfl, rfl⟩
theorem ent253 : Ent Tryz.prog 253 := ⟨Tryz.f253, Tryz.func253, by kernel_rfl, rfl⟩
theorem ent254 : Ent Tryz.prog 254 := ⟨Tryz.f254, Tryz.func254, by kernel_rfl, rfl⟩
theorem ent255 : Ent Tryz.prog 255 := ⟨Tryz.f255, Tryz.func255, by kernel_rfl, rfl⟩
theorem ent256 : Ent Tryz.prog 256 := ⟨Tryz.f256, Tryz.func256, by kernel_rfl, rfl⟩
theorem ent257 : Ent Tryz.prog 257 := ⟨Tryz.f257, Tryz.func257, by kernel_rfl, rfl⟩
theorem ent258 : Ent Tryz.prog 258 := ⟨Tryz.f258, Tryz.func258, by kernel_rfl, rfl⟩
theorem ent259 : Ent Tryz.prog 259 := ⟨Tryz.f259, Tryz.func259, by kernel_rfl, rfl⟩
theorem ent260 : Ent Tryz.prog 260 := ⟨Tryz.f260, Tryz.func260, by kernel_rfl, rfl⟩
theorem ent262 : Ent Tryz.prog 262 := ⟨Tryz.f262, Tryz.func262, by kernel_rfl, rfl⟩
theorem ent263 : Ent Tryz.prog 263 := ⟨Tryz.f263, Tryz.func263, by kernel_rfl, rfl⟩
theorem ent264 : Ent Tryz.prog 264 := ⟨Tryz.f264, Tryz.func264, by kernel_rfl, rfl⟩
theorem ent265 : Ent Tryz.prog 265 := ⟨Tryz.f265, Tryz.func265, by kernel_rfl, rfl⟩
theorem ent267 : Ent Tryz.prog 267 := ⟨Tryz.f267, Tryz.func267, by kernel_rfl, rfl⟩
theorem ent268 : Ent Tryz.prog 268 := ⟨Tryz.f268, Tryz.func268, by kernel_rfl, rfl⟩
theorem ent269 : Ent Tryz.prog 269 := ⟨Tryz.f269, Tryz.func269, by kernel_rfl, rfl⟩
theorem ent270 : Ent Tryz.prog 270 := ⟨Tryz.f270, Tryz.func270, by kernel_rfl, rfl⟩
theorem ent271 : Ent Tryz.prog 271 := ⟨Tryz.f271, Tryz.func271, by kernel_rfl, rfl⟩
theorem ent272 : Ent Tryz.prog 272 := ⟨Tryz.f272, Tryz.func272, by kernel_rfl, rfl⟩
theorem ent273 : Ent Tryz.prog 273 := ⟨Tryz.f273, Tryz.func273, by kernel_rfl, rfl⟩
theorem ent274 : Ent Tryz.prog 274 := ⟨Tryz.f274, Tryz.func274, by kernel_rfl, rfl⟩
theorem ent275 : Ent Tryz.prog 275 := ⟨Tryz.f275, Tryz.func275, by kernel_rfl, rfl⟩
theorem ent277 : Ent Tryz.prog 277 := ⟨Tryz.f277, Tryz.func277, by kernel_rfl, rfl⟩
theorem ent279 : Ent Tryz.prog 279 := ⟨Tryz.f279, Tryz.func279, by kernel_rfl, rfl⟩
theorem ent280 : Ent Tryz.prog 280 := ⟨Tryz.f280, Tryz.func280, by kernel_rfl, rfl⟩
theorem ent281 : Ent Tryz.prog 281 := ⟨Tryz.f281, Tryz.func281, by kernel_rfl, rfl⟩
theorem ent282 : Ent Tryz.prog 282 := ⟨Tryz.f282, Tryz.func282, by kernel_rfl, rfl⟩
theorem ent284 : Ent Tryz.prog 284 := ⟨Tryz.f284, Tryz.func284, by kernel_rfl, rfl⟩
theorem ent285 : Ent Tryz.prog 285 := ⟨Tryz.f285, Tryz.func285, by kernel_rfl, rfl⟩
theorem ent286 : Ent Tryz.prog 286 := ⟨Tryz.f286, Tryz.func286, by kernel_rfl, rfl⟩
theorem ent287 : Ent Tryz.prog 287 := ⟨Tryz.f287, Tryz.func287, by kernel_rfl, rfl⟩
theorem ent288 : Ent Tryz.prog 288 := ⟨Tryz.f288, Tryz.func288, by kernel_rfl, rfl⟩
theorem ent289 : Ent Tryz.prog 289 := ⟨Tryz.f289, Tryz.func289, by kernel_rfl, rfl⟩
theorem ent290 : Ent Tryz.prog 290 := ⟨Tryz.f290, Tryz.func290, by kernel_rfl, rfl⟩
theorem ent297 : Ent Tryz.prog 297 := ⟨Tryz.f297, Tryz.func297, by kernel_rfl, rfl⟩
theorem ent300 : Ent Tryz.prog 300 := ⟨Tryz.f300, Tryz.func300, by kernel_rfl, rfl⟩
theorem ent310 : Ent Tryz.prog 310 := ⟨Tryz.f310, Tryz.func310, by kernel_rfl, rfl⟩
theorem ent311 : Ent Tryz.prog 311 := ⟨Tryz.f311, Tryz.func311, by kernel_rfl, rfl⟩
theorem ent312 : Ent Tryz.prog 312 := ⟨Tryz.f312, Tryz.func312, by kernel_rfl, rfl⟩
theorem ent313 : Ent Tryz.prog 313 := ⟨Tryz.f313, Tryz.func313, by kernel_rfl, rfl⟩
theorem ent314 : Ent Tryz.prog 314 := ⟨Tryz.f314, Tryz.func314, by kernel_rfl, rfl⟩
theorem ent315 : Ent Tryz.prog 315 := ⟨Tryz.f315, Tryz.func315, by kernel_rfl, rfl⟩
theorem ent316 : Ent Tryz.prog 316 := ⟨Tryz.f316, Tryz.func316, by kernel_rfl, rfl⟩
theorem ent317 : Ent Tryz.prog 317 := ⟨Tryz.f317, Tryz.func317, by kernel_rfl, rfl⟩
theorem ent319 : Ent Tryz.prog 319 := ⟨Tryz.f319, Tryz.func319, by kernel_rfl, rfl⟩
theorem ent320 : Ent Tryz.prog 320 := ⟨Tryz.f320, Tryz.func320, by kernel_rfl, rfl⟩
theorem ent321 : Ent Tryz.prog 321 := ⟨Tryz.f321, Tryz.func321, by kernel_rfl, rfl⟩
theorem ent322 : Ent Tryz.prog 322 := ⟨Tryz.f322, Tryz.func322, by kernel_rfl, rfl⟩
theorem ent323 : Ent Tryz.prog 323 := ⟨Tryz.f323, Tryz.func323, by kernel_rfl, rfl⟩
theorem ent324 : Ent Tryz.prog 324 := ⟨Tryz.f324, Tryz.func324, by kernel_rfl, rfl⟩
theorem ent325 : Ent Tryz.prog 325 := ⟨Tryz.f325, Tryz.func325, by kernel_rfl, rfl⟩
theorem ent328 : Ent Tryz.prog 328 := ⟨Tryz.f328, Tryz.func328, by kernel_rfl, rfl⟩
theorem ent329 : Ent Tryz.prog 329 := ⟨Tryz.f329, Tryz.func329, by kernel_rfl, rfl⟩
theorem ent330 : Ent Tryz.prog 330 := ⟨Tryz.f330, Tryz.func330, by kernel_rfl, rfl⟩
theorem ent331 : Ent Tryz.prog 331 := ⟨Tryz.f331, Tryz.func331, by kernel_rfl, rfl⟩
theorem ent332 : Ent Tryz.prog 332 := ⟨Tryz.f332, Tryz.func332, by kernel_rfl, rfl⟩
theorem ent334 : Ent Tryz.prog 334 := ⟨Tryz.f334, Tryz.func334, by kernel_rfl, rfl⟩
theorem ent335 : Ent Tryz.prog 335 := ⟨Tryz.f335, Tryz.func335, by kernel_rfl, rfl⟩
theorem ent336 : Ent Tryz.prog 336 := ⟨Tryz.f336, Tryz.func336, by kernel_rfl, rfl⟩
theorem ent349 : Ent Tryz.prog 349 := ⟨Tryz.f349, Tryz.func349, by kernel_rfl, rfl⟩
theorem ent350 : Ent Tryz.prog 350 := ⟨Tryz.f350, Tryz.func350, by kernel_rfl, rfl⟩
theorem ent352 : Ent Tryz.prog 352 := ⟨Tryz.f352, Tryz.func352, by kernel_rfl, rfl⟩
theorem ent353 : Ent Tryz.prog 353 := ⟨Tryz.f353, Tryz.func353, by kernel_rfl, rfl⟩
theorem ent354 : Ent Tryz.prog 354 := ⟨Tryz.f354, Tryz.func354, by kernel_rfl, rfl⟩
theorem ent357 : Ent Tryz.prog 357 := ⟨Tryz.f357, Tryz.func357, by kernel_rfl, rfl⟩
theorem ent358 : Ent Tryz.prog 358 := ⟨Tryz.f358, Tryz.func358, by kernel_rfl, rfl⟩
theorem ent359 : Ent Tryz.prog 359 := ⟨Tryz.f359, Tryz.func359, by kernel_rfl, rfl⟩
theorem ent374 : Ent Tryz.prog 374 := ⟨Tryz.f374, Tryz.func374, by kernel_rfl, rfl⟩
theorem ent375 : Ent Tryz.prog 375 := ⟨Tryz.f375, Tryz.func375, by kernel_rfl, rfl⟩
theorem ent376 : Ent Tryz.prog 376 := ⟨Tryz.f376, Tryz.func376, by kernel_rfl, rfl⟩
theorem ent378 : Ent Tryz.prog 378 := ⟨Tryz.f378, Tryz.func378, by kernel_rfl, rfl⟩
theorem ent379 : Ent Tryz.prog 379 := ⟨Tryz.f379, Tryz.func379, by kernel_rfl, rfl⟩
theorem ent384 : Ent Tryz.prog 384 := ⟨Tryz.f384, Tryz.func384, by kernel_rfl, rfl⟩
theorem ent385 : Ent Tryz.prog 385 := ⟨Tryz.f385, Tryz.func385, by kernel_rfl, rfl⟩
theorem ent404 : Ent Tryz.prog 404 := ⟨Tryz.f404, Tryz.func404, by kernel_rfl, rfl⟩
theorem ent407 : Ent Tryz.prog 407 := ⟨Tryz.f407, Tryz.func407, by kernel_rfl, rfl⟩
theorem ent408 : Ent Tryz.prog 408 := ⟨Tryz.f408, Tryz.func408, by kernel_rfl, rfl⟩
theorem ent409 : Ent Tryz.prog 409 := ⟨Tryz.f409, Tryz.func409, by kernel_rfl, rfl⟩
theorem ent410 : Ent Tryz.prog 410 := ⟨Tryz.f410, Tryz.func410, by kernel_rfl, rfl⟩
theorem ent411 : Ent Tryz.prog 411 := ⟨Tryz.f411, Tryz.func411, by kernel_rfl, rfl⟩
theorem ent419 : Ent Tryz.prog 419 := ⟨Tryz.f419, Tryz.func419, by kernel_rfl, rfl⟩
theorem ent420 : Ent Tryz.prog 420 := ⟨Tryz.f420, Tryz.func420, by kernel_rfl, rfl⟩
theorem ent422 : Ent Tryz.prog 422 := ⟨Tryz.f422, Tryz.func422, by kernel_rfl, rfl⟩
theorem ent423 : Ent Tryz.prog 423 := ⟨Tryz.f423, Tryz.func423, by kernel_rfl, rfl⟩
theorem ent424 : Ent Tryz.prog 424 := ⟨Tryz.f424, Tryz.func424, by kernel_rfl, rfl⟩
theorem ent425 : Ent Tryz.prog 425 := ⟨Tryz.f425, Tryz.func425, by kernel_rfl, rfl⟩
theorem ent426 : Ent Tryz.prog 426 := ⟨Tryz.f426, Tryz.func426, by kernel_rfl, rfl⟩
theorem ent432 : Ent Tryz.prog 432 := ⟨Tryz.f432, Tryz.func432, by kernel_rfl, rfl⟩
theorem ent433 : Ent Tryz.prog 433 := ⟨Tryz.f433, Tryz.func433, by kernel_rfl, rfl⟩
theorem ent438 : Ent Tryz.prog 438 := ⟨Tryz.f438, Tryz.func438, by kernel_rfl, rfl⟩
theorem ent439 : Ent Tryz.prog 439 := ⟨Tryz.f439, Tryz.func439, by kernel_rfl, rfl⟩
theorem ent440 : Ent Tryz.prog 440 := ⟨Tryz.f440, Tryz.func440, by kernel_rfl, rfl⟩
theorem ent444 : Ent Tryz.prog 444 := ⟨Tryz.f444, Tryz.func444, by kernel_rfl, rfl⟩
theorem patsN {N : Nms} {P : Program} {f : Nat} : SoundC (N := N) P f (.pats []) := fun _ h => by cases h
theorem patsC {N : Nms} {P : Program} {f : Nat} {q : PQ N} {l : List (PQ N)} (h : SoundP P f q) (k : SoundC P f (.pats l)) : SoundC P f (.pats (q :: l)) := fun q' hq => by
  rcases List.mem_cons.1 hq with rfl | hq
  · exact h
  · exact k q' hq
theorem itsN {N : Nms} {P : Program} {f : Nat} : SoundC (N := N) P f (.its []) := fun _ h => by cases h
theorem itsC {N : Nms} {P : Program} {f : Nat} {q : IQ N} {l : List (IQ N)} (h : SoundI P f q) (k : SoundC P f (.its l)) : SoundC P f (.its (q :: l)) := fun q' hq => by
  rcases List.mem_cons.1 hq with rfl | hq
  · exact h
  · exact k q' hq
def la0 : Nat → Option Pat := fun _ => none
def pr0 : Nat → List Gh := fun _ => []
def po0 : Nat → List Gh := fun _ => []
def ph0 (_ : Nat) : Nat → Option (CQ (nEs [(80, 0), (81, 0), (88, 1), (89, 1), (110, 2), (111, 2)] [2, 2, 5])) := fun _ => none
theorem h0 (fu : Nat) : ∀ f q, ph0 fu f = some q → SoundC Tryz.prog f q := fun _ _ h => by cases h
noncomputable def cx0 (fu : Nat) : Cx (nEs [(80, 0), (81, 0), (88, 1), (89, 1), (110, 2), (111, 2)] [2, 2, 5]) := ⟨Tryz.prog, ph0 fu, la0, fun _ => none, pr0, po0, 1, 20⟩
def pi0 : Pat := ⟨[.dat (.int .i64), .dat (.st (.pr (.st (.pr (.int .i64) (.int .i64))) .bool))], [(0, .loc 0 0), (1, .v 0 (.int .i64))], [(0, .blk 171 [(3, .v 1 (.st (.pr (.st (.pr (.int .i64) (.int .i64))) .bool)))])], 1⟩
def qo0 : Pat := ⟨[.dat (.int .i64), .dat (.int .i64), .dat .bool], [], [(0, .blk 171 [(1, .v 0 (.int .i64)), (1, .v 1 (.int .i64)), (1, .v 2 .bool)])], 1⟩
noncomputable def Q0 (fu : Nat) : PQ (nEs [(80, 0), (81, 0), (88, 1), (89, 1), (110, 2), (111, 2)] [2, 2, 5]) := ⟨pi0, qo0, 0, [], fdenP (cx0 fu) fu Tryz.f270 pi0 qo0 0⟩
theorem zs0 (fu : Nat) : SoundP Tryz.prog 270 (Q0 fu) := fdenP_ok (cx := cx0 fu) (h0 fu) follows ent270 Tryz.func270 rfl rfl
def la1 : Nat → Option Pat := fun _ => none
def pr1 : Nat → List Gh := fun _ => []
def po1 : Nat → List Gh := fun _ => []
def ph1 (_ : Nat) : Nat → Option (CQ (nEs [(80, 0), (81, 0), (88, 1), (89, 1), (110, 2), (111, 2)] [2, 2, 5])) := fun _ => none
theorem h1 (fu : Nat) : ∀ f q, ph1 fu f = some q → SoundC Tryz.prog f q := fun _ _ h => by cases h
noncomputable def cx1 (fu : Nat) : Cx (nEs [(80, 0), (81, 0), (88, 1), (89, 1), (110, 2), (111, 2)] [2, 2, 5]) := ⟨Tryz.prog, ph1 fu, la1, fun _ => none, pr1, po1, 0, 33⟩
noncomputable def Q1 (fu : Nat) : FQ (nEs [(80, 0), (81, 0), (88, 1), (89, 1), (110, 2), (111, 2)] [2, 2, 5]) := ⟨[(.st (.pr .bool (.pr .bool (.pr .bool (.pr (.st (.pr (.sl (.st (.pr (.int .i64) (.int .i64)))) (.sl (.st (.pr (.int .i64) (.int .i64)))))) (.st (.sl (.st (.pr .bool (.sl (.st (.pr (.int .u8) (.pr (.int .u8) (.int .i64))))))))))))))], [.bool], fden (cx1 fu) fu Tryz.f48 [(.st (.pr .bool (.pr .bool (.pr .bool (.pr (.st (.pr (.sl (.st (.pr (.int .i64) (.int .i64)))) (.sl (.st (.pr (.int .i64) (.int .i64)))))) (.st (.sl (.st (.pr .bool (.sl (.st (.pr (.int .u8) (.pr (.int .u8) (.int .i64))))))))))))))] [.bool]⟩
theorem zs1 (fu : Nat) : SoundQ Tryz.prog 48 (Q1 fu) := fden_ok (cx := cx1 fu) (h1 fu) follows ent48 Tryz.func48 rfl rfl
def la2 : Nat → Option Pat := fun _ => none
def pr2 : Nat → List Gh := fun _ => []
def po2 : Nat → List Gh := fun _ => []
def ph2 (_ : Nat) : Nat → Option (CQ (nEs [(80, 0), (81, 0), (88, 1), (89, 1), (110, 2), (111, 2)] [2, 2, 5])) := fun _ => none
theorem h2 (fu : Nat) : ∀ f q, ph2 fu f = some q → SoundC Tryz.prog f q := fun _ _ h => by cases h
noncomputable def cx2 (fu : Nat) : Cx (nEs [(80, 0), (81, 0), (88, 1), (89, 1), (110, 2), (111, 2)] [2, 2, 5]) := ⟨Tryz.prog, ph2 fu, la2, fun _ => none, pr2, po2, 0, 25⟩
noncomputable def Q2 (fu : Nat) : FQ (nEs [(80, 0), (81, 0), (88, 1), (89, 1), (110, 2), (111, 2)] [2, 2, 5]) := ⟨[(.int .u64)], [(.int .i64)], fden (cx2 fu) fu Tryz.f73 [(.int .u64)] [(.int .i64)]⟩
theorem zs2 (fu : Nat) : SoundQ Tryz.prog 73 (Q2 fu) := fden_ok (cx := cx2 fu) (h2 fu) follows ent73 Tryz.func73 rfl rfl
def la3 : Nat → Option Pat := fun _ => none
def pr3 : Nat → List Gh := fun _ => []
def po3 : Nat → List Gh := fun _ => []
noncomputable def ph3 (fu : Nat) : Nat → Option (CQ (nEs [(80, 0), (81, 0), (88, 1), (89, 1), (110, 2), (111, 2)] [2, 2, 5]))
  | 73 => some (.dat (Q2 fu))
  | _ => none
theorem h3 (fu : Nat) : ∀ f q, ph3 fu f = some q → SoundC Tryz.prog f q := by
  intro f q h
  unfold ph3 at h
  split at h
  · cases h; exact zs2 fu
  · cases h
noncomputable def cx3 (fu : Nat) : Cx (nEs [(80, 0), (81, 0), (88, 1), (89, 1), (110, 2), (111, 2)] [2, 2, 5]) := ⟨Tryz.prog, ph3 fu, la3, fun _ => none, pr3, po3, 0, 8⟩
noncomputable def Q3 (fu : Nat) : FQ (nEs [(80, 0), (81, 0), (88, 1), (89, 1), (110, 2), (111, 2)] [2, 2, 5]) := ⟨[(.int .u64)], [(.int .i64)], fden (cx3 fu) fu Tryz.f43 [(.int .u64)] [(.int .i64)]⟩
theorem zs3 (fu : Nat) : SoundQ Tryz.prog 43 (Q3 fu) := fden_ok (cx := cx3 fu) (h3 fu) follows ent43 Tryz.func43 rfl rfl
def la4 : Nat → Option Pat := fun _ => none
def pr4 : Nat → List Gh := fun _ => []
def po4 : Nat → List Gh := fun _ => []
def ph4 (_ : Nat) : Nat → Option (CQ (nEs [(80, 0), (81, 0), (88, 1), (89, 1), (110, 2), (111, 2)] [2, 2, 5])) := fun _ => none
theorem h4 (fu : Nat) : ∀ f q, ph4 fu f = some q → SoundC Tryz.prog f q := fun _ _ h => by cases h
noncomputable def cx4 (fu : Nat) : Cx (nEs [(80, 0), (81, 0), (88, 1), (89, 1), (110, 2), (111, 2)] [2, 2, 5]) := ⟨Tryz.prog, ph4 fu, la4, fun _ => none, pr4, po4, 0, 6⟩
noncomputable def Q4 (fu : Nat) : FQ (nEs [(80, 0), (81, 0), (88, 1), (89, 1), (110, 2), (111, 2)] [2, 2, 5]) := ⟨[(.int .i64)], [.bool], fden (cx4 fu) fu Tryz.f375 [(.int .i64)] [.bool]⟩
theorem zs4 (fu : Nat) : SoundQ Tryz.prog 375 (Q4 fu) := fden_ok (cx := cx4 fu) (h4 fu) follows ent375 Tryz.func375 rfl rfl
def la5 : Nat → Option Pat := fun _ => none
def pr5 : Nat → List Gh := fun _ => []
def po5 : Nat → List Gh := fun _ => []
noncomputable def ph5 (fu : Nat) : Nat → Option (CQ (nEs [(80, 0), (81, 0), (88, 1), (89, 1), (110, 2), (111, 2)] [2, 2, 5]))
  | 375 => some (.dat (Q4 fu))
  | _ => none
theorem h5 (fu : Nat) : ∀ f q, ph5 fu f = some q → SoundC Tryz.prog f q := by
  intro f q h
  unfold ph5 at h
  split at h
  · cases h; exact zs4 fu
  · cases h
noncomputable def cx5 (fu : Nat) : Cx (nEs [(80, 0), (81, 0), (88, 1), (89, 1), (110, 2), (111, 2)] [2, 2, 5]) := ⟨Tryz.prog, ph5 fu, la5, fun _ => none, pr5, po5, 0, 20⟩
noncomputable def Q5 (fu : Nat) : FQ (nEs [(80, 0), (81, 0), (88, 1), (89, 1), (110, 2), (111, 2)] [2, 2, 5]) := ⟨[(.int .i64), (.int .i64)], [(.int .i64)], fden (cx5 fu) fu Tryz.f314 [(.int .i64), (.int .i64)] [(.int .i64)]⟩
theorem zs5 (fu : Nat) : SoundQ Tryz.prog 314 (Q5 fu) := fden_ok (cx := cx5 fu) (h5 fu) follows ent314 Tryz.func314 rfl rfl
def la6 : Nat → Option Pat := fun _ => none
def pr6 : Nat → List Gh := fun _ => []
def po6 : Nat → List Gh := fun _ => []
noncomputable def ph6 (fu : Nat) : Nat → Option (CQ (nEs [(80, 0), (81, 0), (88, 1), (89, 1), (110, 2), (111, 2)] [2, 2, 5]))
  | 314 => some (.dat (Q5 fu))
  | _ => none
theorem h6 (fu : Nat) : ∀ f q, ph6 fu f = some q → SoundC Tryz.prog f q := by
  intro f q h
  unfold ph6 at h
  split at h
  · cases h; exact zs5 fu
  · cases h
noncomputable def cx6 (fu : Nat) : Cx (nEs [(80, 0), (81, 0), (88, 1), (89, 1), (110, 2), (111, 2)] [2, 2, 5]) := ⟨Tryz.prog, ph6 fu, la6, fun _ => none, pr6, po6, 0, 10⟩
noncomputable def Q6 (fu : Nat) : FQ (nEs [(80, 0), (81, 0), (88, 1), (89, 1), (110, 2), (111, 2)] [2, 2, 5]) := ⟨[(.st (.pr (.int .i64) (.int .i64))), (.st (.pr (.int .i64) (.int .i64)))], [(.int .i64)], fden (cx6 fu) fu Tryz.f313 [(.st (.pr (.int .i64) (.int .i64))), (.st (.pr (.int .i64) (.int .i64)))] [(.int .i64)]⟩
theorem zs6 (fu : Nat) : SoundQ Tryz.prog 313 (Q6 fu) := fden_ok (cx := cx6 fu) (h6 fu) follows ent313 Tryz.func313 rfl rfl
def la7 : Nat → Option Pat
  | 1 => some ⟨[.dat (.sl (.st (.pr (.int .i64) (.int .i64)))), .dat (.int .i64)], [(0, .keep), (1, .keep), (2, .keep), (3, .keep), (8, .v 1 (.int .i64))], [(0, .row 52 0)], 1⟩
  | 4 => some ⟨[.dat (.sl (.st (.pr (.int .i64) (.int .i64)))), .dat (.int .i64)], [(0, .keep), (1, .keep), (2, .keep), (3, .keep), (8, .keep), (9, .v 1 (.int .i64))], [(0, .row 52 0)], 1⟩
  | _ => none
def pr7 : Nat → List Gh := fun _ => []
def po7 : Nat → List Gh := fun _ => []
noncomputable def ph7 (fu : Nat) : Nat → Option (CQ (nEs [(80, 0), (81, 0), (88, 1), (89, 1), (110, 2), (111, 2)] [2, 2, 5]))
  | 313 => some (.dat (Q6 fu))
  | _ => none
theorem h7 (fu : Nat) : ∀ f q, ph7 fu f = some q → SoundC Tryz.prog f q := by
  intro f q h
  unfold ph7 at h
  split at h
  · cases h; exact zs6 fu
  · cases h
noncomputable def cx7 (fu : Nat) : Cx (nEs [(80, 0), (81, 0), (88, 1), (89, 1), (110, 2), (111, 2)] [2, 2, 5]) := ⟨Tryz.prog, ph7 fu, la7, fun _ => none, pr7, po7, 1, 53⟩
def pi7 : Pat := ⟨[.dat (.int .i64), .dat (.int .i64), .dat (.sl (.st (.pr (.int .i64) (.int .i64))))], [(0, .hdr 0), (1, .v 0 (.int .i64)), (2, .v 1 (.int .i64)), (3, .clo 313 [] [])], [(0, .row 52 2)], 1⟩
def qo7 : Pat := ⟨[.dat (.sl (.st (.pr (.int .i64) (.int .i64))))], [], [(0, .row 52 0)], 1⟩
noncomputable def Q7 (fu : Nat) : PQ (nEs [(80, 0), (81, 0), (88, 1), (89, 1), (110, 2), (111, 2)] [2, 2, 5]) := ⟨pi7, qo7, 0, [], fdenP (cx7 fu) fu Tryz.f419 pi7 qo7 0⟩
theorem zs7 (fu : Nat) : SoundP Tryz.prog 419 (Q7 fu) := fdenP_ok (cx := cx7 fu) (h7 fu) follows ent419 Tryz.func419 rfl rfl
def la8 : Nat → Option Pat
  | 1 => some ⟨[.dat (.sl (.st (.pr (.int .i64) (.int .i64)))), .dat (.int .i64)], [(0, .keep), (2, .keep), (3, .keep), (4, .keep), (10, .v 1 (.int .i64))], [(0, .row 52 0)], 1⟩
  | _ => none
def pr8 : Nat → List Gh := fun _ => []
def po8 : Nat → List Gh := fun _ => []
noncomputable def ph8 (fu : Nat) : Nat → Option (CQ (nEs [(80, 0), (81, 0), (88, 1), (89, 1), (110, 2), (111, 2)] [2, 2, 5]))
  | 313 => some (.dat (Q6 fu))
  | _ => none
theorem h8 (fu : Nat) : ∀ f q, ph8 fu f = some q → SoundC Tryz.prog f q := by
  intro f q h
  unfold ph8 at h
  split at h
  · cases h; exact zs6 fu
  · cases h
noncomputable def cx8 (fu : Nat) : Cx (nEs [(80, 0), (81, 0), (88, 1), (89, 1), (110, 2), (111, 2)] [2, 2, 5]) := ⟨Tryz.prog, ph8 fu, la8, fun _ => none, pr8, po8, 1, 82⟩
def pi8 : Pat := ⟨[.dat (.int .i64), .dat (.int .i64), .dat (.int .i64), .dat (.sl (.st (.pr (.int .i64) (.int .i64))))], [(0, .hdr 0), (1, .v 0 (.int .i64)), (2, .v 1 (.int .i64)), (3, .v 2 (.int .i64)), (4, .clo 313 [] [])], [(0, .row 52 3)], 1⟩
def qo8 : Pat := ⟨[.dat (.sl (.st (.pr (.int .i64) (.int .i64))))], [], [(0, .row 52 0)], 1⟩
noncomputable def Q8 (fu : Nat) : PQ (nEs [(80, 0), (81, 0), (88, 1), (89, 1), (110, 2), (111, 2)] [2, 2, 5]) := ⟨pi8, qo8, 0, [], fdenP (cx8 fu) fu Tryz.f438 pi8 qo8 0⟩
theorem zs8 (fu : Nat) : SoundP Tryz.prog 438 (Q8 fu) := fdenP_ok (cx := cx8 fu) (h8 fu) follows ent438 Tryz.func438 rfl rfl
def la9 : Nat → Option Pat
  | 4 => some ⟨[.dat (.sl (.st (.pr (.int .i64) (.int .i64)))), .dat (.int .i64)], [(0, .keep), (3, .keep), (8, .keep), (9, .keep), (10, .keep), (11, .v 1 (.int .i64))], [(0, .row 52 0)], 1⟩
  | 8 => some ⟨[.dat (.sl (.st (.pr (.int .i64) (.int .i64)))), .dat (.int .i64)], [(0, .keep), (3, .keep), (8, .keep), (9, .keep), (12, .v 1 (.int .i64))], [(0, .row 52 0)], 1⟩
  | _ => none
def pr9 : Nat → List Gh := fun _ => []
def po9 : Nat → List Gh := fun _ => []
noncomputable def ph9 (fu : Nat) : Nat → Option (CQ (nEs [(80, 0), (81, 0), (88, 1), (89, 1), (110, 2), (111, 2)] [2, 2, 5]))
  | 438 => some (.pats [Q8 fu])
  | _ => none
theorem h9 (fu : Nat) : ∀ f q, ph9 fu f = some q → SoundC Tryz.prog f q := by
  intro f q h
  unfold ph9 at h
  split at h
  · cases h; exact (patsC (zs8 fu) patsN)
  · cases h
noncomputable def cx9 (fu : Nat) : Cx (nEs [(80, 0), (81, 0), (88, 1), (89, 1), (110, 2), (111, 2)] [2, 2, 5]) := ⟨Tryz.prog, ph9 fu, la9, fun _ => none, pr9, po9, 1, 60⟩
def pi9 : Pat := ⟨[.dat (.int .i64), .dat (.int .i64), .dat (.sl (.st (.pr (.int .i64) (.int .i64))))], [(0, .hdr 0), (1, .v 0 (.int .i64)), (2, .v 1 (.int .i64)), (3, .clo 313 [] [])], [(0, .row 52 2)], 1⟩
def qo9 : Pat := ⟨[.dat (.sl (.st (.pr (.int .i64) (.int .i64))))], [], [(0, .row 52 0)], 1⟩
noncomputable def Q9 (fu : Nat) : PQ (nEs [(80, 0), (81, 0), (88, 1), (89, 1), (110, 2), (111, 2)] [2, 2, 5]) := ⟨pi9, qo9, 0, [], fdenP (cx9 fu) fu Tryz.f420 pi9 qo9 0⟩
theorem zs9 (fu : Nat) : SoundP Tryz.prog 420 (Q9 fu) := fdenP_ok (cx := cx9 fu) (h9 fu) follows ent420 Tryz.func420 rfl rfl
def la10 : Nat → Option Pat := fun _ => none
def pr10 : Nat → List Gh := fun _ => []
def po10 : Nat → List Gh := fun _ => []
noncomputable def ph10 (fu : Nat) : Nat → Option (CQ (nEs [(80, 0), (81, 0), (88, 1), (89, 1), (110, 2), (111, 2)] [2, 2, 5]))
  | 313 => some (.dat (Q6 fu))
  | _ => none
theorem h10 (fu : Nat) : ∀ f q, ph10 fu f = some q → SoundC Tryz.prog f q := by
  intro f q h
  unfold ph10 at h
  split at h
  · cases h; exact zs6 fu
  · cases h
noncomputable def cx10 (fu : Nat) : Cx (nEs [(80, 0), (81, 0), (88, 1), (89, 1), (110, 2), (111, 2)] [2, 2, 5]) := ⟨Tryz.prog, ph10 fu, la10, fun _ => none, pr10, po10, 2, 32⟩
def pi10 : Pat := ⟨[.dat (.int .i64), .dat (.int .i64), .dat (.sl (.st (.pr (.int .i64) (.int .i64)))), .dat (.int .i64)], [(0, .hdr 0), (1, .v 0 (.int .i64)), (2, .v 1 (.int .i64)), (3, .loc 1 0), (4, .clo 313 [] [])], [(0, .row 52 2), (1, .blk 3 [(1, .v 3 (.int .i64))])], 2⟩
def qo10 : Pat := ⟨[.dat (.int .i64), .dat (.int .i64), .dat (.sl (.st (.pr (.int .i64) (.int .i64)))), .dat (.int .i64)], [(0, .v 0 (.int .i64)), (1, .v 1 (.int .i64))], [(0, .row 52 2), (1, .blk 3 [(1, .v 3 (.int .i64))])], 2⟩
noncomputable def Q10 (fu : Nat) : PQ (nEs [(80, 0), (81, 0), (88, 1), (89, 1), (110, 2), (111, 2)] [2, 2, 5]) := ⟨pi10, qo10, 2, [], fdenP (cx10 fu) fu Tryz.f444 pi10 qo10 2⟩
theorem zs10 (fu : Nat) : SoundP Tryz.prog 444 (Q10 fu) := fdenP_ok (cx := cx10 fu) (h10 fu) follows ent444 Tryz.func444 rfl rfl
def la11 : Nat → Option Pat := fun _ => none
def pr11 : Nat → List Gh := fun _ => []
def po11 : Nat → List Gh := fun _ => []
noncomputable def ph11 (fu : Nat) : Nat → Option (CQ (nEs [(80, 0), (81, 0), (88, 1), (89, 1), (110, 2), (111, 2)] [2, 2, 5]))
  | 444 => some (.pats [Q10 fu])
  | _ => none
theorem h11 (fu : Nat) : ∀ f q, ph11 fu f = some q → SoundC Tryz.prog f q := by
  intro f q h
  unfold ph11 at h
  split at h
  · cases h; exact (patsC (zs10 fu) patsN)
  · cases h
noncomputable def cx11 (fu : Nat) : Cx (nEs [(80, 0), (81, 0), (88, 1), (89, 1), (110, 2), (111, 2)] [2, 2, 5]) := ⟨Tryz.prog, ph11 fu, la11, fun _ => none, pr11, po11, 2, 41⟩
def pi11 : Pat := ⟨[.dat (.int .i64), .dat (.int .i64), .dat (.int .i64), .dat (.sl (.st (.pr (.int .i64) (.int .i64)))), .dat (.int .i64)], [(0, .hdr 0), (1, .v 0 (.int .i64)), (2, .v 1 (.int .i64)), (3, .v 2 (.int .i64)), (4, .loc 1 0), (5, .clo 313 [] [])], [(0, .row 52 3), (1, .blk 3 [(1, .v 4 (.int .i64))])], 2⟩
def qo11 : Pat := ⟨[.dat (.int .i64), .dat (.sl (.st (.pr (.int .i64) (.int .i64)))), .dat (.int .i64)], [(0, .v 0 (.int .i64))], [(0, .row 52 1), (1, .blk 3 [(1, .v 2 (.int .i64))])], 2⟩
noncomputable def Q11 (fu : Nat) : PQ (nEs [(80, 0), (81, 0), (88, 1), (89, 1), (110, 2), (111, 2)] [2, 2, 5]) := ⟨pi11, qo11, 1, [], fdenP (cx11 fu) fu Tryz.f440 pi11 qo11 1⟩
theorem zs11 (fu : Nat) : SoundP Tryz.prog 440 (Q11 fu) := fdenP_ok (cx := cx11 fu) (h11 fu) follows ent440 Tryz.func440 rfl rfl
def la12 : Nat → Option Pat := fun _ => none
def pr12 : Nat → List Gh := fun _ => []
def po12 : Nat → List Gh := fun _ => []
noncomputable def ph12 (fu : Nat) : Nat → Option (CQ (nEs [(80, 0), (81, 0), (88, 1), (89, 1), (110, 2), (111, 2)] [2, 2, 5]))
  | 440 => some (.pats [Q11 fu])
  | _ => none
theorem h12 (fu : Nat) : ∀ f q, ph12 fu f = some q → SoundC Tryz.prog f q := by
  intro f q h
  unfold ph12 at h
  split at h
  · cases h; exact (patsC (zs11 fu) patsN)
  · cases h
noncomputable def cx12 (fu : Nat) : Cx (nEs [(80, 0), (81, 0), (88, 1), (89, 1), (110, 2), (111, 2)] [2, 2, 5]) := ⟨Tryz.prog, ph12 fu, la12, fun _ => none, pr12, po12, 2, 18⟩
def pi12 : Pat := ⟨[.dat (.int .i64), .dat (.sl (.st (.pr (.int .i64) (.int .i64)))), .dat (.int .i64)], [(0, .hdr 0), (1, .v 0 (.int .i64)), (2, .loc 1 0), (3, .clo 313 [] [])], [(0, .row 52 1), (1, .blk 3 [(1, .v 2 (.int .i64))])], 2⟩
def qo12 : Pat := ⟨[.dat (.int .i64), .dat (.sl (.st (.pr (.int .i64) (.int .i64)))), .dat (.int .i64)], [(0, .v 0 (.int .i64))], [(0, .row 52 1), (1, .blk 3 [(1, .v 2 (.int .i64))])], 2⟩
noncomputable def Q12 (fu : Nat) : PQ (nEs [(80, 0), (81, 0), (88, 1), (89, 1), (110, 2), (111, 2)] [2, 2, 5]) := ⟨pi12, qo12, 1, [], fdenP (cx12 fu) fu Tryz.f439 pi12 qo12 1⟩
theorem zs12 (fu : Nat) : SoundP Tryz.prog 439 (Q12 fu) := fdenP_ok (cx := cx12 fu) (h12 fu) follows ent439 Tryz.func439 rfl rfl
def la13 : Nat → Option Pat := fun _ => none
def pr13 : Nat → List Gh := fun _ => []
def po13 : Nat → List Gh := fun _ => []
noncomputable def ph13 (fu : Nat) : Nat → Option (CQ (nEs [(80, 0), (81, 0), (88, 1), (89, 1), (110, 2), (111, 2)] [2, 2, 5]))
  | 439 => some (.pats [Q12 fu])
  | 440 => some (.pats [Q11 fu])
  | _ => none
theorem h13 (fu : Nat) : ∀ f q, ph13 fu f = some q → SoundC Tryz.prog f q := by
  intro f q h
  unfold ph13 at h
  split at h
  · cases h; exact (patsC (zs12 fu) patsN)
  · cases h; exact (patsC (zs11 fu) patsN)
  · cases h
noncomputable def cx13 (fu : Nat) : Cx (nEs [(80, 0), (81, 0), (88, 1), (89, 1), (110, 2), (111, 2)] [2, 2, 5]) := ⟨Tryz.prog, ph13 fu, la13, fun _ => none, pr13, po13, 1, 63⟩
def pi13 : Pat := ⟨[.dat (.int .i64), .dat (.int .i64), .dat (.sl (.st (.pr (.int .i64) (.int .i64))))], [(0, .hdr 0), (1, .v 0 (.int .i64)), (2, .v 1 (.int .i64)), (3, .clo 313 [] [])], [(0, .row 52 2)], 1⟩
def qo13 : Pat := ⟨[.dat (.int .i64), .dat (.int .i64), .dat (.sl (.st (.pr (.int .i64) (.int .i64))))], [(0, .v 0 (.int .i64)), (1, .v 1 (.int .i64))], [(0, .row 52 2)], 1⟩
noncomputable def Q13 (fu : Nat) : PQ (nEs [(80, 0), (81, 0), (88, 1), (89, 1), (110, 2), (111, 2)] [2, 2, 5]) := ⟨pi13, qo13, 2, [], fdenP (cx13 fu) fu Tryz.f422 pi13 qo13 2⟩
theorem zs13 (fu : Nat) : SoundP Tryz.prog 422 (Q13 fu) := fdenP_ok (cx := cx13 fu) (h13 fu) follows ent422 Tryz.func422 rfl rfl
def la14 : Nat → Option Pat
  | 2 => some ⟨[.dat (.sl (.st (.pr (.int .i64) (.int .i64)))), .dat (.int .i64), .dat (.int .i64)], [(0, .keep), (8, .v 1 (.int .i64)), (9, .v 2 (.int .i64))], [(0, .row 52 0)], 1⟩
  | _ => none
def pr14 : Nat → List Gh := fun _ => []
def po14 : Nat → List Gh := fun _ => []
def ph14 (_ : Nat) : Nat → Option (CQ (nEs [(80, 0), (81, 0), (88, 1), (89, 1), (110, 2), (111, 2)] [2, 2, 5])) := fun _ => none
theorem h14 (fu : Nat) : ∀ f q, ph14 fu f = some q → SoundC Tryz.prog f q := fun _ _ h => by cases h
noncomputable def cx14 (fu : Nat) : Cx (nEs [(80, 0), (81, 0), (88, 1), (89, 1), (110, 2), (111, 2)] [2, 2, 5]) := ⟨Tryz.prog, ph14 fu, la14, fun _ => none, pr14, po14, 1, 34⟩
def pi14 : Pat := ⟨[.dat (.int .i64), .dat (.int .i64), .dat (.sl (.st (.pr (.int .i64) (.int .i64))))], [(0, .hdr 0), (1, .v 0 (.int .i64)), (2, .v 1 (.int .i64)), (3, .clo 313 [] [])], [(0, .row 52 2)], 1⟩
def qo14 : Pat := ⟨[.dat (.sl (.st (.pr (.int .i64) (.int .i64))))], [], [(0, .row 52 0)], 1⟩
noncomputable def Q14 (fu : Nat) : PQ (nEs [(80, 0), (81, 0), (88, 1), (89, 1), (110, 2), (111, 2)] [2, 2, 5]) := ⟨pi14, qo14, 0, [], fdenP (cx14 fu) fu Tryz.f423 pi14 qo14 0⟩
theorem zs14 (fu : Nat) : SoundP Tryz.prog 423 (Q14 fu) := fdenP_ok (cx := cx14 fu) (h14 fu) follows ent423 Tryz.func423 rfl rfl
def la15 : Nat → Option Pat
  | 3 => some ⟨[.dat (.sl (.st (.pr (.int .i64) (.int .i64)))), .dat (.int .i64), .dat (.int .i64)], [(0, .keep), (1, .keep), (2, .keep), (3, .keep), (9, .v 1 (.int .i64)), (10, .v 2 (.int .i64))], [(0, .row 52 0)], 1⟩
  | 5 => some ⟨[.dat (.int .i64)], [(0, .keep), (1, .keep), (2, .keep), (3, .keep), (9, .v 0 (.int .i64)), (10, .keep)], [(0, .c 0)], 1⟩
  | 14 => some ⟨[.dat (.sl (.st (.pr (.int .i64) (.int .i64)))), .dat (.int .i64)], [(0, .keep), (1, .keep), (2, .keep), (3, .keep), (9, .keep), (10, .keep), (11, .v 1 (.int .i64))], [(0, .row 52 0)], 1⟩
  | 20 => some ⟨[.dat (.sl (.st (.pr (.int .i64) (.int .i64)))), .dat (.int .i64)], [(0, .keep), (1, .keep), (2, .keep), (3, .keep), (9, .keep), (10, .keep), (12, .v 1 (.int .i64))], [(0, .row 52 0)], 1⟩
  | _ => none
def pr15 : Nat → List Gh := fun _ => []
def po15 : Nat → List Gh := fun _ => []
noncomputable def ph15 (fu : Nat) : Nat → Option (CQ (nEs [(80, 0), (81, 0), (88, 1), (89, 1), (110, 2), (111, 2)] [2, 2, 5]))
  | 313 => some (.dat (Q6 fu))
  | _ => none
theorem h15 (fu : Nat) : ∀ f q, ph15 fu f = some q → SoundC Tryz.prog f q := by
  intro f q h
  unfold ph15 at h
  split at h
  · cases h; exact zs6 fu
  · cases h
noncomputable def cx15 (fu : Nat) : Cx (nEs [(80, 0), (81, 0), (88, 1), (89, 1), (110, 2), (111, 2)] [2, 2, 5]) := ⟨Tryz.prog, ph15 fu, la15, fun _ => none, pr15, po15, 1, 141⟩
def pi15 : Pat := ⟨[.dat (.int .i64), .dat (.int .i64), .dat (.sl (.st (.pr (.int .i64) (.int .i64))))], [(0, .hdr 0), (1, .v 0 (.int .i64)), (2, .v 1 (.int .i64)), (3, .clo 313 [] [])], [(0, .row 52 2)], 1⟩
def qo15 : Pat := ⟨[.dat .bool, .dat (.sl (.st (.pr (.int .i64) (.int .i64))))], [(0, .v 0 .bool)], [(0, .row 52 1)], 1⟩
noncomputable def Q15 (fu : Nat) : PQ (nEs [(80, 0), (81, 0), (88, 1), (89, 1), (110, 2), (111, 2)] [2, 2, 5]) := ⟨pi15, qo15, 1, [], fdenP (cx15 fu) fu Tryz.f424 pi15 qo15 1⟩
theorem zs15 (fu : Nat) : SoundP Tryz.prog 424 (Q15 fu) := fdenP_ok (cx := cx15 fu) (h15 fu) follows ent424 Tryz.func424 rfl rfl
def la16 : Nat → Option Pat
  | 3 => some ⟨[.dat (.sl (.st (.pr (.int .i64) (.int .i64)))), .dat (.int .i64), .dat (.int .i64)], [(0, .keep), (1, .keep), (4, .keep), (11, .v 1 (.int .i64)), (12, .v 2 (.int .i64))], [(0, .row 52 0)], 1⟩
  | 5 => some ⟨[.dat (.int .i64)], [(0, .keep), (1, .keep), (4, .keep), (11, .keep), (12, .v 0 (.int .i64))], [(0, .c 0)], 1⟩
  | _ => none
def pr16 : Nat → List Gh := fun _ => []
def po16 : Nat → List Gh := fun _ => []
noncomputable def ph16 (fu : Nat) : Nat → Option (CQ (nEs [(80, 0), (81, 0), (88, 1), (89, 1), (110, 2), (111, 2)] [2, 2, 5]))
  | 313 => some (.dat (Q6 fu))
  | _ => none
theorem h16 (fu : Nat) : ∀ f q, ph16 fu f = some q → SoundC Tryz.prog f q := by
  intro f q h
  unfold ph16 at h
  split at h
  · cases h; exact zs6 fu
  · cases h
noncomputable def cx16 (fu : Nat) : Cx (nEs [(80, 0), (81, 0), (88, 1), (89, 1), (110, 2), (111, 2)] [2, 2, 5]) := ⟨Tryz.prog, ph16 fu, la16, fun _ => none, pr16, po16, 1, 90⟩
def pi16 : Pat := ⟨[.dat (.int .i64), .dat (.int .i64), .dat (.int .i64), .dat (.sl (.st (.pr (.int .i64) (.int .i64))))], [(0, .hdr 0), (1, .v 0 (.int .i64)), (2, .v 1 (.int .i64)), (3, .v 2 (.int .i64)), (4, .clo 313 [] [])], [(0, .row 52 3)], 1⟩
def qo16 : Pat := ⟨[.dat (.int .i64), .dat (.sl (.st (.pr (.int .i64) (.int .i64))))], [(0, .v 0 (.int .i64))], [(0, .row 52 1)], 1⟩
noncomputable def Q16 (fu : Nat) : PQ (nEs [(80, 0), (81, 0), (88, 1), (89, 1), (110, 2), (111, 2)] [2, 2, 5]) := ⟨pi16, qo16, 1, [], fdenP (cx16 fu) fu Tryz.f425 pi16 qo16 1⟩
theorem zs16 (fu : Nat) : SoundP Tryz.prog 425 (Q16 fu) := fdenP_ok (cx := cx16 fu) (h16 fu) follows ent425 Tryz.func425 rfl rfl
def la17 : Nat → Option Pat
  | 3 => some ⟨[.dat (.int .i64)], [(0, .keep), (1, .keep), (4, .keep), (12, .v 0 (.int .i64)), (13, .keep)], [(0, .c 0)], 1⟩
  | 5 => some ⟨[.dat (.int .i64)], [(0, .keep), (1, .keep), (4, .keep), (12, .keep), (13, .v 0 (.int .i64))], [(0, .c 0)], 1⟩
  | 13 => some ⟨[.dat (.sl (.st (.pr (.int .i64) (.int .i64)))), .dat (.int .i64), .dat (.int .i64)], [(0, .keep), (1, .keep), (4, .keep), (12, .v 1 (.int .i64)), (13, .v 2 (.int .i64))], [(0, .row 52 0)], 1⟩
  | 15 => some ⟨[.dat (.int .i64)], [(0, .keep), (1, .keep), (4, .keep), (12, .keep), (13, .v 0 (.int .i64))], [(0, .c 0)], 1⟩
  | _ => none
def pr17 : Nat → List Gh := fun _ => []
def po17 : Nat → List Gh := fun _ => []
noncomputable def ph17 (fu : Nat) : Nat → Option (CQ (nEs [(80, 0), (81, 0), (88, 1), (89, 1), (110, 2), (111, 2)] [2, 2, 5]))
  | 313 => some (.dat (Q6 fu))
  | _ => none
theorem h17 (fu : Nat) : ∀ f q, ph17 fu f = some q → SoundC Tryz.prog f q := by
  intro f q h
  unfold ph17 at h
  split at h
  · cases h; exact zs6 fu
  · cases h
noncomputable def cx17 (fu : Nat) : Cx (nEs [(80, 0), (81, 0), (88, 1), (89, 1), (110, 2), (111, 2)] [2, 2, 5]) := ⟨Tryz.prog, ph17 fu, la17, fun _ => none, pr17, po17, 1, 178⟩
def pi17 : Pat := ⟨[.dat (.int .i64), .dat (.int .i64), .dat (.int .i64), .dat (.sl (.st (.pr (.int .i64) (.int .i64))))], [(0, .hdr 0), (1, .v 0 (.int .i64)), (2, .v 1 (.int .i64)), (3, .v 2 (.int .i64)), (4, .clo 313 [] [])], [(0, .row 52 3)], 1⟩
def qo17 : Pat := ⟨[.dat (.int .i64), .dat .bool, .dat (.sl (.st (.pr (.int .i64) (.int .i64))))], [(0, .v 0 (.int .i64)), (1, .v 1 .bool)], [(0, .row 52 2)], 1⟩
noncomputable def Q17 (fu : Nat) : PQ (nEs [(80, 0), (81, 0), (88, 1), (89, 1), (110, 2), (111, 2)] [2, 2, 5]) := ⟨pi17, qo17, 2, [], fdenP (cx17 fu) fu Tryz.f426 pi17 qo17 2⟩
theorem zs17 (fu : Nat) : SoundP Tryz.prog 426 (Q17 fu) := fdenP_ok (cx := cx17 fu) (h17 fu) follows ent426 Tryz.func426 rfl rfl
def la18 : Nat → Option Pat
  | 2 => some ⟨[.dat (.sl (.st (.pr (.int .i64) (.int .i64)))), .dat (.int .i64)], [(0, .keep), (1, .v 1 (.int .i64)), (2, .keep), (3, .keep), (4, .keep), (10, .keep), (11, .keep)], [(0, .row 52 0)], 1⟩
  | _ => none
def pr18 : Nat → List Gh := fun _ => []
def po18 : Nat → List Gh := fun _ => []
noncomputable def ph18 (fu : Nat) : Nat → Option (CQ (nEs [(80, 0), (81, 0), (88, 1), (89, 1), (110, 2), (111, 2)] [2, 2, 5]))
  | 313 => some (.dat (Q6 fu))
  | 419 => some (.pats [Q7 fu])
  | 420 => some (.pats [Q9 fu])
  | 422 => some (.pats [Q13 fu])
  | 423 => some (.pats [Q14 fu])
  | 424 => some (.pats [Q15 fu])
  | 425 => some (.pats [Q16 fu])
  | 426 => some (.pats [Q17 fu])
  | _ => none
theorem h18 (fu : Nat) : ∀ f q, ph18 fu f = some q → SoundC Tryz.prog f q := by
  intro f q h
  unfold ph18 at h
  split at h
  · cases h; exact zs6 fu
  · cases h; exact (patsC (zs7 fu) patsN)
  · cases h; exact (patsC (zs9 fu) patsN)
  · cases h; exact (patsC (zs13 fu) patsN)
  · cases h; exact (patsC (zs14 fu) patsN)
  · cases h; exact (patsC (zs15 fu) patsN)
  · cases h; exact (patsC (zs16 fu) patsN)
  · cases h; exact (patsC (zs17 fu) patsN)
  · cases h
noncomputable def cx18 (fu : Nat) : Cx (nEs [(80, 0), (81, 0), (88, 1), (89, 1), (110, 2), (111, 2)] [2, 2, 5]) := ⟨Tryz.prog, ph18 fu, la18, fun _ => none, pr18, po18, 1, 148⟩
def pi18 : Pat := ⟨[.dat (.int .i64), .dat (.int .i64), .dat (.int .i64), .dat (.sl (.st (.pr (.int .i64) (.int .i64))))], [(0, .hdr 0), (1, .v 0 (.int .i64)), (2, .v 1 (.int .i64)), (3, .v 2 (.int .i64)), (4, .clo 313 [] [])], [(0, .row 52 3)], 1⟩
def qo18 : Pat := ⟨[.dat (.sl (.st (.pr (.int .i64) (.int .i64))))], [], [(0, .row 52 0)], 1⟩
noncomputable def Q18 (fu : Nat) : PQ (nEs [(80, 0), (81, 0), (88, 1), (89, 1), (110, 2), (111, 2)] [2, 2, 5]) := ⟨pi18, qo18, 0, [], fdenP (cx18 fu) fu Tryz.f374 pi18 qo18 0⟩
theorem zs18 (fu : Nat) : SoundP Tryz.prog 374 (Q18 fu) := fdenP_ok (cx := cx18 fu) (h18 fu) follows ent374 Tryz.func374 rfl rfl
def la19 : Nat → Option Pat := fun _ => none
def pr19 : Nat → List Gh := fun _ => []
def po19 : Nat → List Gh := fun _ => []
noncomputable def ph19 (fu : Nat) : Nat → Option (CQ (nEs [(80, 0), (81, 0), (88, 1), (89, 1), (110, 2), (111, 2)] [2, 2, 5]))
  | 43 => some (.dat (Q3 fu))
  | 374 => some (.pats [Q18 fu])
  | _ => none
theorem h19 (fu : Nat) : ∀ f q, ph19 fu f = some q → SoundC Tryz.prog f q := by
  intro f q h
  unfold ph19 at h
  split at h
  · cases h; exact zs3 fu
  · cases h; exact (patsC (zs18 fu) patsN)
  · cases h
noncomputable def cx19 (fu : Nat) : Cx (nEs [(80, 0), (81, 0), (88, 1), (89, 1), (110, 2), (111, 2)] [2, 2, 5]) := ⟨Tryz.prog, ph19 fu, la19, fun _ => none, pr19, po19, 1, 14⟩
def pi19 : Pat := ⟨[.dat (.sl (.st (.pr (.int .i64) (.int .i64))))], [(0, .hdr 0), (1, .clo 313 [] [])], [(0, .row 52 0)], 1⟩
def qo19 : Pat := ⟨[.dat (.sl (.st (.pr (.int .i64) (.int .i64))))], [], [(0, .row 52 0)], 1⟩
noncomputable def Q19 (fu : Nat) : PQ (nEs [(80, 0), (81, 0), (88, 1), (89, 1), (110, 2), (111, 2)] [2, 2, 5]) := ⟨pi19, qo19, 0, [], fdenP (cx19 fu) fu Tryz.f312 pi19 qo19 0⟩
theorem zs19 (fu : Nat) : SoundP Tryz.prog 312 (Q19 fu) := fdenP_ok (cx := cx19 fu) (h19 fu) follows ent312 Tryz.func312 rfl rfl
def la20 : Nat → Option Pat := fun _ => none
def pr20 : Nat → List Gh := fun _ => []
def po20 : Nat → List Gh := fun _ => []
def ph20 (_ : Nat) : Nat → Option (CQ (nEs [(80, 0), (81, 0), (88, 1), (89, 1), (110, 2), (111, 2)] [2, 2, 5])) := fun _ => none
theorem h20 (fu : Nat) : ∀ f q, ph20 fu f = some q → SoundC Tryz.prog f q := fun _ _ h => by cases h
noncomputable def cx20 (fu : Nat) : Cx (nEs [(80, 0), (81, 0), (88, 1), (89, 1), (110, 2), (111, 2)] [2, 2, 5]) := ⟨Tryz.prog, ph20 fu, la20, fun _ => none, pr20, po20, 0, 5⟩
noncomputable def Q20 (fu : Nat) : FQ (nEs [(80, 0), (81, 0), (88, 1), (89, 1), (110, 2), (111, 2)] [2, 2, 5]) := ⟨[(.int .i64)], [(.int .i64)], fden (cx20 fu) fu Tryz.f247 [(.int .i64)] [(.int .i64)]⟩
theorem zs20 (fu : Nat) : SoundQ Tryz.prog 247 (Q20 fu) := fden_ok (cx := cx20 fu) (h20 fu) follows ent247 Tryz.func247 rfl rfl
def la21 : Nat → Option Pat
  | 6 => some ⟨[.dat (.sl (.st (.pr (.int .i64) (.int .i64)))), .nat], [(1, .keep), (6, .hdr 1), (18, .keep), (19, .keep), (20, .cnt 1 601)], [(0, .c 0), (1, .row 52 0)], 2⟩
  | _ => none
def pr21 : Nat → List Gh := fun _ => []
def po21 : Nat → List Gh
  | 5 => [.own 6 52 (.st (.pr (.int .i64) (.int .i64)))]
  | 13 => [.fz 4]
  | _ => []
noncomputable def ph21 (fu : Nat) : Nat → Option (CQ (nEs [(80, 0), (81, 0), (88, 1), (89, 1), (110, 2), (111, 2)] [2, 2, 5]))
  | 247 => some (.dat (Q20 fu))
  | 312 => some (.pats [Q19 fu])
  | _ => none
theorem h21 (fu : Nat) : ∀ f q, ph21 fu f = some q → SoundC Tryz.prog f q := by
  intro f q h
  unfold ph21 at h
  split at h
  · cases h; exact zs20 fu
  · cases h; exact (patsC (zs19 fu) patsN)
  · cases h
noncomputable def cx21 (fu : Nat) : Cx (nEs [(80, 0), (81, 0), (88, 1), (89, 1), (110, 2), (111, 2)] [2, 2, 5]) := ⟨Tryz.prog, ph21 fu, la21, fun _ => none, pr21, po21, 0, 61⟩
def pi21 : Pat := ⟨[.dat (.sl (.st (.pr (.int .i64) (.int .i64))))], [(0, .v 0 (.sl (.st (.pr (.int .i64) (.int .i64))))), (1, .clo 247 [] [])], [], 0⟩
def qo21 : Pat := ⟨[.dat (.sl (.st (.pr (.int .i64) (.int .i64))))], [(0, .v 0 (.sl (.st (.pr (.int .i64) (.int .i64)))))], [], 0⟩
noncomputable def Q21 (fu : Nat) : PQ (nEs [(80, 0), (81, 0), (88, 1), (89, 1), (110, 2), (111, 2)] [2, 2, 5]) := ⟨pi21, qo21, 1, [], fdenP (cx21 fu) fu Tryz.f246 pi21 qo21 1⟩
theorem zs21 (fu : Nat) : SoundP Tryz.prog 246 (Q21 fu) := fdenP_ok (cx := cx21 fu) (h21 fu) follows ent246 Tryz.func246 rfl rfl
def la22 : Nat → Option Pat := fun _ => none
def pr22 : Nat → List Gh := fun _ => []
def po22 : Nat → List Gh := fun _ => []
def ph22 (_ : Nat) : Nat → Option (CQ (nEs [(80, 0), (81, 0), (88, 1), (89, 1), (110, 2), (111, 2)] [2, 2, 5])) := fun _ => none
theorem h22 (fu : Nat) : ∀ f q, ph22 fu f = some q → SoundC Tryz.prog f q := fun _ _ h => by cases h
noncomputable def cx22 (fu : Nat) : Cx (nEs [(80, 0), (81, 0), (88, 1), (89, 1), (110, 2), (111, 2)] [2, 2, 5]) := ⟨Tryz.prog, ph22 fu, la22, fun _ => none, pr22, po22, 0, 11⟩
noncomputable def Q22 (fu : Nat) : FQ (nEs [(80, 0), (81, 0), (88, 1), (89, 1), (110, 2), (111, 2)] [2, 2, 5]) := ⟨[(.int .i64)], [(.int .i64)], fden (cx22 fu) fu Tryz.f248 [(.int .i64)] [(.int .i64)]⟩
theorem zs22 (fu : Nat) : SoundQ Tryz.prog 248 (Q22 fu) := fden_ok (cx := cx22 fu) (h22 fu) follows ent248 Tryz.func248 rfl rfl
def la23 : Nat → Option Pat
  | 6 => some ⟨[.dat (.sl (.st (.pr (.int .i64) (.int .i64)))), .nat], [(1, .keep), (6, .hdr 1), (18, .keep), (19, .keep), (20, .cnt 1 601)], [(0, .c 0), (1, .row 52 0)], 2⟩
  | _ => none
def pr23 : Nat → List Gh := fun _ => []
def po23 : Nat → List Gh
  | 5 => [.own 6 52 (.st (.pr (.int .i64) (.int .i64)))]
  | 13 => [.fz 4]
  | _ => []
noncomputable def ph23 (fu : Nat) : Nat → Option (CQ (nEs [(80, 0), (81, 0), (88, 1), (89, 1), (110, 2), (111, 2)] [2, 2, 5]))
  | 248 => some (.dat (Q22 fu))
  | 312 => some (.pats [Q19 fu])
  | _ => none
theorem h23 (fu : Nat) : ∀ f q, ph23 fu f = some q → SoundC Tryz.prog f q := by
  intro f q h
  unfold ph23 at h
  split at h
  · cases h; exact zs22 fu
  · cases h; exact (patsC (zs19 fu) patsN)
  · cases h
noncomputable def cx23 (fu : Nat) : Cx (nEs [(80, 0), (81, 0), (88, 1), (89, 1), (110, 2), (111, 2)] [2, 2, 5]) := ⟨Tryz.prog, ph23 fu, la23, fun _ => none, pr23, po23, 0, 61⟩
def pi23 : Pat := ⟨[.dat (.sl (.st (.pr (.int .i64) (.int .i64))))], [(0, .v 0 (.sl (.st (.pr (.int .i64) (.int .i64))))), (1, .clo 248 [] [])], [], 0⟩
def qo23 : Pat := ⟨[.dat (.sl (.st (.pr (.int .i64) (.int .i64))))], [(0, .v 0 (.sl (.st (.pr (.int .i64) (.int .i64)))))], [], 0⟩
noncomputable def Q23 (fu : Nat) : PQ (nEs [(80, 0), (81, 0), (88, 1), (89, 1), (110, 2), (111, 2)] [2, 2, 5]) := ⟨pi23, qo23, 1, [], fdenP (cx23 fu) fu Tryz.f246 pi23 qo23 1⟩
theorem zs23 (fu : Nat) : SoundP Tryz.prog 246 (Q23 fu) := fdenP_ok (cx := cx23 fu) (h23 fu) follows ent246 Tryz.func246 rfl rfl
def la24 : Nat → Option Pat
  | 3 => some ⟨[.dat (.sl (.st (.pr (.int .i64) (.int .i64)))), .nat], [(1, .keep), (2, .keep), (3, .hdr 2), (4, .keep), (10, .keep), (11, .keep), (12, .cnt 1 301)], [(1, .c 0), (0, .c 0), (2, .row 52 0)], 3⟩
  | 10 => some ⟨[.dat (.sl (.st (.pr (.int .i64) (.int .i64)))), .nat], [(2, .keep), (3, .keep), (4, .hdr 3), (34, .keep), (35, .keep), (36, .cnt 1 1001)], [(2, .c 0), (1, .c 0), (3, .row 52 0)], 4⟩
  | _ => none
def pr24 : Nat → List Gh
  | 20 => [.fz 3, .fz 4]
  | _ => []
def po24 : Nat → List Gh
  | 2 => [.own 3 52 (.st (.pr (.int .i64) (.int .i64)))]
  | 9 => [.own 4 52 (.st (.pr (.int .i64) (.int .i64)))]
  | _ => []
noncomputable def ph24 (fu : Nat) : Nat → Option (CQ (nEs [(80, 0), (81, 0), (88, 1), (89, 1), (110, 2), (111, 2)] [2, 2, 5]))
  | 246 => some (.pats [Q21 fu, Q23 fu])
  | _ => none
theorem h24 (fu : Nat) : ∀ f q, ph24 fu f = some q → SoundC Tryz.prog f q := by
  intro f q h
  unfold ph24 at h
  split at h
  · cases h; exact (patsC (zs21 fu) (patsC (zs23 fu) patsN))
  · cases h
noncomputable def cx24 (fu : Nat) : Cx (nEs [(80, 0), (81, 0), (88, 1), (89, 1), (110, 2), (111, 2)] [2, 2, 5]) := ⟨Tryz.prog, ph24 fu, la24, fun _ => none, pr24, po24, 0, 78⟩
noncomputable def Q24 (fu : Nat) : FQ (nEs [(80, 0), (81, 0), (88, 1), (89, 1), (110, 2), (111, 2)] [2, 2, 5]) := ⟨[(.st (.pr (.sl (.st (.pr (.int .i64) (.int .i64)))) (.sl (.st (.pr (.int .i64) (.int .i64))))))], [(.st (.pr (.sl (.st (.pr (.int .i64) (.int .i64)))) (.sl (.st (.pr (.int .i64) (.int .i64))))))], fden (cx24 fu) fu Tryz.f173 [(.st (.pr (.sl (.st (.pr (.int .i64) (.int .i64)))) (.sl (.st (.pr (.int .i64) (.int .i64))))))] [(.st (.pr (.sl (.st (.pr (.int .i64) (.int .i64)))) (.sl (.st (.pr (.int .i64) (.int .i64))))))]⟩
theorem zs24 (fu : Nat) : SoundQ Tryz.prog 173 (Q24 fu) := fden_ok (cx := cx24 fu) (h24 fu) follows ent173 Tryz.func173 rfl rfl
def la25 : Nat → Option Pat
  | 4 => some ⟨[.nat], [(0, .keep), (1, .keep), (12, .keep), (13, .cnt 0 400)], [], 0⟩
  | _ => none
def pr25 : Nat → List Gh := fun _ => []
def po25 : Nat → List Gh := fun _ => []
def ph25 (_ : Nat) : Nat → Option (CQ (nEs [(80, 0), (81, 0), (88, 1), (89, 1), (110, 2), (111, 2)] [2, 2, 5])) := fun _ => none
theorem h25 (fu : Nat) : ∀ f q, ph25 fu f = some q → SoundC Tryz.prog f q := fun _ _ h => by cases h
noncomputable def cx25 (fu : Nat) : Cx (nEs [(80, 0), (81, 0), (88, 1), (89, 1), (110, 2), (111, 2)] [2, 2, 5]) := ⟨Tryz.prog, ph25 fu, la25, fun _ => none, pr25, po25, 0, 26⟩
noncomputable def Q25 (fu : Nat) : FQ (nEs [(80, 0), (81, 0), (88, 1), (89, 1), (110, 2), (111, 2)] [2, 2, 5]) := ⟨[(.sl (.st (.pr (.int .i64) (.int .i64)))), (.sl (.st (.pr (.int .i64) (.int .i64))))], [.bool], fden (cx25 fu) fu Tryz.f221 [(.sl (.st (.pr (.int .i64) (.int .i64)))), (.sl (.st (.pr (.int .i64) (.int .i64))))] [.bool]⟩
theorem zs25 (fu : Nat) : SoundQ Tryz.prog 221 (Q25 fu) := fden_ok (cx := cx25 fu) (h25 fu) follows ent221 Tryz.func221 rfl rfl
def la26 : Nat → Option Pat := fun _ => none
def pr26 : Nat → List Gh := fun _ => []
def po26 : Nat → List Gh := fun _ => []
noncomputable def ph26 (fu : Nat) : Nat → Option (CQ (nEs [(80, 0), (81, 0), (88, 1), (89, 1), (110, 2), (111, 2)] [2, 2, 5]))
  | 221 => some (.dat (Q25 fu))
  | _ => none
theorem h26 (fu : Nat) : ∀ f q, ph26 fu f = some q → SoundC Tryz.prog f q := by
  intro f q h
  unfold ph26 at h
  split at h
  · cases h; exact zs25 fu
  · cases h
noncomputable def cx26 (fu : Nat) : Cx (nEs [(80, 0), (81, 0), (88, 1), (89, 1), (110, 2), (111, 2)] [2, 2, 5]) := ⟨Tryz.prog, ph26 fu, la26, fun _ => none, pr26, po26, 0, 17⟩
noncomputable def Q26 (fu : Nat) : FQ (nEs [(80, 0), (81, 0), (88, 1), (89, 1), (110, 2), (111, 2)] [2, 2, 5]) := ⟨[(.st (.pr (.sl (.st (.pr (.int .i64) (.int .i64)))) (.sl (.st (.pr (.int .i64) (.int .i64)))))), (.st (.pr (.sl (.st (.pr (.int .i64) (.int .i64)))) (.sl (.st (.pr (.int .i64) (.int .i64))))))], [.bool], fden (cx26 fu) fu Tryz.f311 [(.st (.pr (.sl (.st (.pr (.int .i64) (.int .i64)))) (.sl (.st (.pr (.int .i64) (.int .i64)))))), (.st (.pr (.sl (.st (.pr (.int .i64) (.int .i64)))) (.sl (.st (.pr (.int .i64) (.int .i64))))))] [.bool]⟩
theorem zs26 (fu : Nat) : SoundQ Tryz.prog 311 (Q26 fu) := fden_ok (cx := cx26 fu) (h26 fu) follows ent311 Tryz.func311 rfl rfl
def la27 : Nat → Option Pat := fun _ => none
def pr27 : Nat → List Gh := fun _ => []
def po27 : Nat → List Gh := fun _ => []
noncomputable def ph27 (fu : Nat) : Nat → Option (CQ (nEs [(80, 0), (81, 0), (88, 1), (89, 1), (110, 2), (111, 2)] [2, 2, 5]))
  | 173 => some (.dat (Q24 fu))
  | 311 => some (.dat (Q26 fu))
  | _ => none
theorem h27 (fu : Nat) : ∀ f q, ph27 fu f = some q → SoundC Tryz.prog f q := by
  intro f q h
  unfold ph27 at h
  split at h
  · cases h; exact zs24 fu
  · cases h; exact zs26 fu
  · cases h
noncomputable def cx27 (fu : Nat) : Cx (nEs [(80, 0), (81, 0), (88, 1), (89, 1), (110, 2), (111, 2)] [2, 2, 5]) := ⟨Tryz.prog, ph27 fu, la27, fun _ => none, pr27, po27, 0, 7⟩
noncomputable def Q27 (fu : Nat) : FQ (nEs [(80, 0), (81, 0), (88, 1), (89, 1), (110, 2), (111, 2)] [2, 2, 5]) := ⟨[(.st (.pr (.sl (.st (.pr (.int .i64) (.int .i64)))) (.sl (.st (.pr (.int .i64) (.int .i64))))))], [.bool], fden (cx27 fu) fu Tryz.f244 [(.st (.pr (.sl (.st (.pr (.int .i64) (.int .i64)))) (.sl (.st (.pr (.int .i64) (.int .i64))))))] [.bool]⟩
theorem zs27 (fu : Nat) : SoundQ Tryz.prog 244 (Q27 fu) := fden_ok (cx := cx27 fu) (h27 fu) follows ent244 Tryz.func244 rfl rfl
def la28 : Nat → Option Pat
  | 2 => some ⟨[.nat], [(0, .keep), (7, .keep), (8, .keep), (9, .cnt 0 200)], [], 0⟩
  | 5 => some ⟨[.nat], [(0, .keep), (4, .keep), (7, .keep), (8, .keep), (9, .keep), (14, .keep), (15, .keep), (16, .cnt 0 500)], [(0, .c 0)], 1⟩
  | _ => none
def pr28 : Nat → List Gh := fun _ => []
def po28 : Nat → List Gh := fun _ => []
def ph28 (_ : Nat) : Nat → Option (CQ (nEs [(80, 0), (81, 0), (88, 1), (89, 1), (110, 2), (111, 2)] [2, 2, 5])) := fun _ => none
theorem h28 (fu : Nat) : ∀ f q, ph28 fu f = some q → SoundC Tryz.prog f q := fun _ _ h => by cases h
noncomputable def cx28 (fu : Nat) : Cx (nEs [(80, 0), (81, 0), (88, 1), (89, 1), (110, 2), (111, 2)] [2, 2, 5]) := ⟨Tryz.prog, ph28 fu, la28, fun _ => none, pr28, po28, 0, 56⟩
noncomputable def Q28 (fu : Nat) : FQ (nEs [(80, 0), (81, 0), (88, 1), (89, 1), (110, 2), (111, 2)] [2, 2, 5]) := ⟨[(.sl (.st (.pr .bool (.sl (.st (.pr (.int .u8) (.pr (.int .u8) (.int .i64))))))))], [.bool], fden (cx28 fu) fu Tryz.f300 [(.sl (.st (.pr .bool (.sl (.st (.pr (.int .u8) (.pr (.int .u8) (.int .i64))))))))] [.bool]⟩
theorem zs28 (fu : Nat) : SoundQ Tryz.prog 300 (Q28 fu) := fden_ok (cx := cx28 fu) (h28 fu) follows ent300 Tryz.func300 rfl rfl
def la29 : Nat → Option Pat
  | 4 => some ⟨[.dat (.ar 257 .bool), .nat], [(3, .keep), (11, .keep), (12, .keep), (13, .cnt 1 401)], [(0, .blk 306 [(257, .v 0 (.ar 257 .bool))])], 1⟩
  | 7 => some ⟨[.dat (.ar 257 .bool), .nat], [(3, .keep), (11, .keep), (12, .keep), (13, .keep), (18, .keep), (19, .keep), (20, .cnt 1 701)], [(0, .blk 306 [(257, .v 0 (.ar 257 .bool))])], 2⟩
  | 15 => some ⟨[.dat (.sl (.int .i64)), .dat (.int .i64)], [(3, .keep), (8, .hdr 1), (34, .v 1 (.int .i64))], [(0, .c 0), (1, .row 3 0)], 2⟩
  | _ => none
def pr29 : Nat → List Gh := fun _ => []
def po29 : Nat → List Gh
  | 14 => [.own 8 3 (.int .i64)]
  | 20 => [.fz 2]
  | _ => []
def ph29 (_ : Nat) : Nat → Option (CQ (nEs [(80, 0), (81, 0), (88, 1), (89, 1), (110, 2), (111, 2)] [2, 2, 5])) := fun _ => none
theorem h29 (fu : Nat) : ∀ f q, ph29 fu f = some q → SoundC Tryz.prog f q := fun _ _ h => by cases h
noncomputable def cx29 (fu : Nat) : Cx (nEs [(80, 0), (81, 0), (88, 1), (89, 1), (110, 2), (111, 2)] [2, 2, 5]) := ⟨Tryz.prog, ph29 fu, la29, fun _ => none, pr29, po29, 0, 46⟩
noncomputable def Q29 (fu : Nat) : FQ (nEs [(80, 0), (81, 0), (88, 1), (89, 1), (110, 2), (111, 2)] [2, 2, 5]) := ⟨[(.sl (.st (.pr .bool (.sl (.st (.pr (.int .u8) (.pr (.int .u8) (.int .i64))))))))], [(.sl (.int .i64))], fden (cx29 fu) fu Tryz.f411 [(.sl (.st (.pr .bool (.sl (.st (.pr (.int .u8) (.pr (.int .u8) (.int .i64))))))))] [(.sl (.int .i64))]⟩
theorem zs29 (fu : Nat) : SoundQ Tryz.prog 411 (Q29 fu) := fden_ok (cx := cx29 fu) (h29 fu) follows ent411 Tryz.func411 rfl rfl
def la30 : Nat → Option Pat
  | 4 => some ⟨[.dat (.sl (.sl (.int .i64))), .dat (.sl .bool), .nat], [(3, .keep), (4, .keep), (20, .keep), (21, .keep), (22, .cnt 2 402)], [(0, .blk 359 [(1, .keep), (1, .hdr 1), (1, .hdr 2), (1, .keep)]), (1, .row 43 0), (2, .row 4 1)], 3⟩
  | 8 => some ⟨[.dat (.sl (.int .i64)), .nat], [(3, .keep), (4, .keep), (6, .keep), (7, .keep), (20, .keep), (21, .keep), (22, .keep), (35, .keep), (36, .keep), (37, .cnt 1 801)], [(4, .row 3 0), (3, .c 0), (0, .c 0), (2, .c 0), (1, .c 0)], 5⟩
  | 12 => some ⟨[.dat (.sl (.int .i64)), .nat], [(3, .keep), (4, .keep), (6, .keep), (7, .keep), (8, .keep), (9, .keep), (20, .keep), (21, .keep), (22, .keep), (35, .keep), (36, .keep), (37, .keep), (47, .keep), (48, .keep), (49, .cnt 1 1201)], [(4, .row 3 0), (3, .c 0), (0, .c 0), (2, .c 0), (1, .c 0)], 5⟩
  | 23 => some ⟨[.dat (.sl (.int .i64)), .nat], [(3, .keep), (4, .keep), (12, .keep), (101, .keep), (102, .cnt 1 2301)], [(3, .row 3 0), (0, .c 0), (2, .c 0), (1, .c 0)], 4⟩
  | _ => none
def pr30 : Nat → List Gh
  | 18 => [.fz 7]
  | 27 => [.fz 12]
  | _ => []
def po30 : Nat → List Gh
  | 3 => [.ownb 17 1 43 (.sl (.int .i64)), .ownb 17 2 4 .bool]
  | _ => []
noncomputable def ph30 (fu : Nat) : Nat → Option (CQ (nEs [(80, 0), (81, 0), (88, 1), (89, 1), (110, 2), (111, 2)] [2, 2, 5]))
  | 411 => some (.dat (Q29 fu))
  | _ => none
theorem h30 (fu : Nat) : ∀ f q, ph30 fu f = some q → SoundC Tryz.prog f q := by
  intro f q h
  unfold ph30 at h
  split at h
  · cases h; exact zs29 fu
  · cases h
noncomputable def cx30 (fu : Nat) : Cx (nEs [(80, 0), (81, 0), (88, 1), (89, 1), (110, 2), (111, 2)] [2, 2, 5]) := ⟨Tryz.prog, ph30 fu, la30, fun _ => none, pr30, po30, 0, 130⟩
def pi30 : Pat := ⟨[.dat (.sl (.st (.pr .bool (.sl (.st (.pr (.int .u8) (.pr (.int .u8) (.int .i64))))))))], [(0, .v 0 (.sl (.st (.pr .bool (.sl (.st (.pr (.int .u8) (.pr (.int .u8) (.int .i64)))))))))], [], 0⟩
def qo30 : Pat := ⟨[.dat (.sl (.int .i64)), .dat (.sl (.int .i64)), .dat (.sl (.sl (.int .i64))), .dat (.sl .bool)], [(0, .loc 0 0)], [(0, .blk 359 [(1, .v 0 (.sl (.int .i64))), (1, .hdr 1), (1, .hdr 2), (1, .v 1 (.sl (.int .i64)))]), (1, .row 43 2), (2, .row 4 3)], 3⟩
noncomputable def Q30 (fu : Nat) : PQ (nEs [(80, 0), (81, 0), (88, 1), (89, 1), (110, 2), (111, 2)] [2, 2, 5]) := ⟨pi30, qo30, 1, [], fdenP (cx30 fu) fu Tryz.f359 pi30 qo30 1⟩
theorem zs30 (fu : Nat) : SoundP Tryz.prog 359 (Q30 fu) := fdenP_ok (cx := cx30 fu) (h30 fu) follows ent359 Tryz.func359 rfl rfl
def la31 : Nat → Option Pat := fun _ => none
def pr31 : Nat → List Gh := fun _ => []
def po31 : Nat → List Gh := fun _ => []
noncomputable def ph31 (fu : Nat) : Nat → Option (CQ (nEs [(80, 0), (81, 0), (88, 1), (89, 1), (110, 2), (111, 2)] [2, 2, 5]))
  | 300 => some (.dat (Q28 fu))
  | 359 => some (.pats [Q30 fu])
  | _ => none
theorem h31 (fu : Nat) : ∀ f q, ph31 fu f = some q → SoundC Tryz.prog f q := by
  intro f q h
  unfold ph31 at h
  split at h
  · cases h; exact zs28 fu
  · cases h; exact (patsC (zs30 fu) patsN)
  · cases h
noncomputable def cx31 (fu : Nat) : Cx (nEs [(80, 0), (81, 0), (88, 1), (89, 1), (110, 2), (111, 2)] [2, 2, 5]) := ⟨Tryz.prog, ph31 fu, la31, fun _ => none, pr31, po31, 0, 19⟩
noncomputable def Q31 (fu : Nat) : FQ (nEs [(80, 0), (81, 0), (88, 1), (89, 1), (110, 2), (111, 2)] [2, 2, 5]) := ⟨[(.sl (.st (.pr .bool (.sl (.st (.pr (.int .u8) (.pr (.int .u8) (.int .i64))))))))], [(.st (.sl (.st (.pr .bool (.sl (.st (.pr (.int .u8) (.pr (.int .u8) (.int .i64))))))))), (.int .i64)], fden (cx31 fu) fu Tryz.f297 [(.sl (.st (.pr .bool (.sl (.st (.pr (.int .u8) (.pr (.int .u8) (.int .i64))))))))] [(.st (.sl (.st (.pr .bool (.sl (.st (.pr (.int .u8) (.pr (.int .u8) (.int .i64))))))))), (.int .i64)]⟩
theorem zs31 (fu : Nat) : SoundQ Tryz.prog 297 (Q31 fu) := fden_ok (cx := cx31 fu) (h31 fu) follows ent297 Tryz.func297 rfl rfl
def la32 : Nat → Option Pat
  | 4 => some ⟨[.nat], [(0, .keep), (1, .keep), (12, .keep), (13, .cnt 0 400)], [], 0⟩
  | _ => none
def pr32 : Nat → List Gh := fun _ => []
def po32 : Nat → List Gh := fun _ => []
def ph32 (_ : Nat) : Nat → Option (CQ (nEs [(80, 0), (81, 0), (88, 1), (89, 1), (110, 2), (111, 2)] [2, 2, 5])) := fun _ => none
theorem h32 (fu : Nat) : ∀ f q, ph32 fu f = some q → SoundC Tryz.prog f q := fun _ _ h => by cases h
noncomputable def cx32 (fu : Nat) : Cx (nEs [(80, 0), (81, 0), (88, 1), (89, 1), (110, 2), (111, 2)] [2, 2, 5]) := ⟨Tryz.prog, ph32 fu, la32, fun _ => none, pr32, po32, 0, 26⟩
noncomputable def Q32 (fu : Nat) : FQ (nEs [(80, 0), (81, 0), (88, 1), (89, 1), (110, 2), (111, 2)] [2, 2, 5]) := ⟨[(.sl (.st (.pr (.int .u8) (.pr (.int .u8) (.int .i64))))), (.sl (.st (.pr (.int .u8) (.pr (.int .u8) (.int .i64)))))], [.bool], fden (cx32 fu) fu Tryz.f290 [(.sl (.st (.pr (.int .u8) (.pr (.int .u8) (.int .i64))))), (.sl (.st (.pr (.int .u8) (.pr (.int .u8) (.int .i64)))))] [.bool]⟩
theorem zs32 (fu : Nat) : SoundQ Tryz.prog 290 (Q32 fu) := fden_ok (cx := cx32 fu) (h32 fu) follows ent290 Tryz.func290 rfl rfl
def la33 : Nat → Option Pat := fun _ => none
def pr33 : Nat → List Gh := fun _ => []
def po33 : Nat → List Gh := fun _ => []
noncomputable def ph33 (fu : Nat) : Nat → Option (CQ (nEs [(80, 0), (81, 0), (88, 1), (89, 1), (110, 2), (111, 2)] [2, 2, 5]))
  | 290 => some (.dat (Q32 fu))
  | _ => none
theorem h33 (fu : Nat) : ∀ f q, ph33 fu f = some q → SoundC Tryz.prog f q := by
  intro f q h
  unfold ph33 at h
  split at h
  · cases h; exact zs32 fu
  · cases h
noncomputable def cx33 (fu : Nat) : Cx (nEs [(80, 0), (81, 0), (88, 1), (89, 1), (110, 2), (111, 2)] [2, 2, 5]) := ⟨Tryz.prog, ph33 fu, la33, fun _ => none, pr33, po33, 0, 17⟩
noncomputable def Q33 (fu : Nat) : FQ (nEs [(80, 0), (81, 0), (88, 1), (89, 1), (110, 2), (111, 2)] [2, 2, 5]) := ⟨[(.st (.pr .bool (.sl (.st (.pr (.int .u8) (.pr (.int .u8) (.int .i64))))))), (.st (.pr .bool (.sl (.st (.pr (.int .u8) (.pr (.int .u8) (.int .i64)))))))], [.bool], fden (cx33 fu) fu Tryz.f289 [(.st (.pr .bool (.sl (.st (.pr (.int .u8) (.pr (.int .u8) (.int .i64))))))), (.st (.pr .bool (.sl (.st (.pr (.int .u8) (.pr (.int .u8) (.int .i64)))))))] [.bool]⟩
theorem zs33 (fu : Nat) : SoundQ Tryz.prog 289 (Q33 fu) := fden_ok (cx := cx33 fu) (h33 fu) follows ent289 Tryz.func289 rfl rfl
def la34 : Nat → Option Pat
  | 4 => some ⟨[.nat], [(1, .keep), (2, .keep), (15, .keep), (16, .keep), (17, .cnt 0 400)], [], 0⟩
  | _ => none
def pr34 : Nat → List Gh := fun _ => []
def po34 : Nat → List Gh := fun _ => []
noncomputable def ph34 (fu : Nat) : Nat → Option (CQ (nEs [(80, 0), (81, 0), (88, 1), (89, 1), (110, 2), (111, 2)] [2, 2, 5]))
  | 289 => some (.dat (Q33 fu))
  | _ => none
theorem h34 (fu : Nat) : ∀ f q, ph34 fu f = some q → SoundC Tryz.prog f q := by
  intro f q h
  unfold ph34 at h
  split at h
  · cases h; exact zs33 fu
  · cases h
noncomputable def cx34 (fu : Nat) : Cx (nEs [(80, 0), (81, 0), (88, 1), (89, 1), (110, 2), (111, 2)] [2, 2, 5]) := ⟨Tryz.prog, ph34 fu, la34, fun _ => none, pr34, po34, 0, 32⟩
def pi34 : Pat := ⟨[.dat (.sl (.st (.pr .bool (.sl (.st (.pr (.int .u8) (.pr (.int .u8) (.int .i64)))))))), .dat (.sl (.st (.pr .bool (.sl (.st (.pr (.int .u8) (.pr (.int .u8) (.int .i64))))))))], [(0, .v 0 (.sl (.st (.pr .bool (.sl (.st (.pr (.int .u8) (.pr (.int .u8) (.int .i64))))))))), (1, .v 1 (.sl (.st (.pr .bool (.sl (.st (.pr (.int .u8) (.pr (.int .u8) (.int .i64))))))))), (2, .clo 289 [] [])], [], 0⟩
def qo34 : Pat := ⟨[.dat .bool], [(0, .v 0 .bool)], [], 0⟩
noncomputable def Q34 (fu : Nat) : PQ (nEs [(80, 0), (81, 0), (88, 1), (89, 1), (110, 2), (111, 2)] [2, 2, 5]) := ⟨pi34, qo34, 1, [], fdenP (cx34 fu) fu Tryz.f288 pi34 qo34 1⟩
theorem zs34 (fu : Nat) : SoundP Tryz.prog 288 (Q34 fu) := fdenP_ok (cx := cx34 fu) (h34 fu) follows ent288 Tryz.func288 rfl rfl
def la35 : Nat → Option Pat := fun _ => none
def pr35 : Nat → List Gh := fun _ => []
def po35 : Nat → List Gh := fun _ => []
noncomputable def ph35 (fu : Nat) : Nat → Option (CQ (nEs [(80, 0), (81, 0), (88, 1), (89, 1), (110, 2), (111, 2)] [2, 2, 5]))
  | 288 => some (.pats [Q34 fu])
  | _ => none
theorem h35 (fu : Nat) : ∀ f q, ph35 fu f = some q → SoundC Tryz.prog f q := by
  intro f q h
  unfold ph35 at h
  split at h
  · cases h; exact (patsC (zs34 fu) patsN)
  · cases h
noncomputable def cx35 (fu : Nat) : Cx (nEs [(80, 0), (81, 0), (88, 1), (89, 1), (110, 2), (111, 2)] [2, 2, 5]) := ⟨Tryz.prog, ph35 fu, la35, fun _ => none, pr35, po35, 0, 10⟩
noncomputable def Q35 (fu : Nat) : FQ (nEs [(80, 0), (81, 0), (88, 1), (89, 1), (110, 2), (111, 2)] [2, 2, 5]) := ⟨[(.st (.sl (.st (.pr .bool (.sl (.st (.pr (.int .u8) (.pr (.int .u8) (.int .i64))))))))), (.st (.sl (.st (.pr .bool (.sl (.st (.pr (.int .u8) (.pr (.int .u8) (.int .i64)))))))))], [.bool], fden (cx35 fu) fu Tryz.f222 [(.st (.sl (.st (.pr .bool (.sl (.st (.pr (.int .u8) (.pr (.int .u8) (.int .i64))))))))), (.st (.sl (.st (.pr .bool (.sl (.st (.pr (.int .u8) (.pr (.int .u8) (.int .i64)))))))))] [.bool]⟩
theorem zs35 (fu : Nat) : SoundQ Tryz.prog 222 (Q35 fu) := fden_ok (cx := cx35 fu) (h35 fu) follows ent222 Tryz.func222 rfl rfl
def la36 : Nat → Option Pat := fun _ => none
def pr36 : Nat → List Gh := fun _ => []
def po36 : Nat → List Gh := fun _ => []
noncomputable def ph36 (fu : Nat) : Nat → Option (CQ (nEs [(80, 0), (81, 0), (88, 1), (89, 1), (110, 2), (111, 2)] [2, 2, 5]))
  | 222 => some (.dat (Q35 fu))
  | 297 => some (.dat (Q31 fu))
  | _ => none
theorem h36 (fu : Nat) : ∀ f q, ph36 fu f = some q → SoundC Tryz.prog f q := by
  intro f q h
  unfold ph36 at h
  split at h
  · cases h; exact zs35 fu
  · cases h; exact zs31 fu
  · cases h
noncomputable def cx36 (fu : Nat) : Cx (nEs [(80, 0), (81, 0), (88, 1), (89, 1), (110, 2), (111, 2)] [2, 2, 5]) := ⟨Tryz.prog, ph36 fu, la36, fun _ => none, pr36, po36, 0, 18⟩
noncomputable def Q36 (fu : Nat) : FQ (nEs [(80, 0), (81, 0), (88, 1), (89, 1), (110, 2), (111, 2)] [2, 2, 5]) := ⟨[(.st (.sl (.st (.pr .bool (.sl (.st (.pr (.int .u8) (.pr (.int .u8) (.int .i64)))))))))], [.bool], fden (cx36 fu) fu Tryz.f245 [(.st (.sl (.st (.pr .bool (.sl (.st (.pr (.int .u8) (.pr (.int .u8) (.int .i64)))))))))] [.bool]⟩
theorem zs36 (fu : Nat) : SoundQ Tryz.prog 245 (Q36 fu) := fden_ok (cx := cx36 fu) (h36 fu) follows ent245 Tryz.func245 rfl rfl
def la37 : Nat → Option Pat := fun _ => none
def pr37 : Nat → List Gh := fun _ => []
def po37 : Nat → List Gh := fun _ => []
noncomputable def ph37 (fu : Nat) : Nat → Option (CQ (nEs [(80, 0), (81, 0), (88, 1), (89, 1), (110, 2), (111, 2)] [2, 2, 5]))
  | 244 => some (.dat (Q27 fu))
  | 245 => some (.dat (Q36 fu))
  | _ => none
theorem h37 (fu : Nat) : ∀ f q, ph37 fu f = some q → SoundC Tryz.prog f q := by
  intro f q h
  unfold ph37 at h
  split at h
  · cases h; exact zs27 fu
  · cases h; exact zs36 fu
  · cases h
noncomputable def cx37 (fu : Nat) : Cx (nEs [(80, 0), (81, 0), (88, 1), (89, 1), (110, 2), (111, 2)] [2, 2, 5]) := ⟨Tryz.prog, ph37 fu, la37, fun _ => none, pr37, po37, 0, 11⟩
noncomputable def Q37 (fu : Nat) : FQ (nEs [(80, 0), (81, 0), (88, 1), (89, 1), (110, 2), (111, 2)] [2, 2, 5]) := ⟨[(.st (.pr .bool (.pr .bool (.pr .bool (.pr (.st (.pr (.sl (.st (.pr (.int .i64) (.int .i64)))) (.sl (.st (.pr (.int .i64) (.int .i64)))))) (.st (.sl (.st (.pr .bool (.sl (.st (.pr (.int .u8) (.pr (.int .u8) (.int .i64))))))))))))))], [.bool], fden (cx37 fu) fu Tryz.f172 [(.st (.pr .bool (.pr .bool (.pr .bool (.pr (.st (.pr (.sl (.st (.pr (.int .i64) (.int .i64)))) (.sl (.st (.pr (.int .i64) (.int .i64)))))) (.st (.sl (.st (.pr .bool (.sl (.st (.pr (.int .u8) (.pr (.int .u8) (.int .i64))))))))))))))] [.bool]⟩
theorem zs37 (fu : Nat) : SoundQ Tryz.prog 172 (Q37 fu) := fden_ok (cx := cx37 fu) (h37 fu) follows ent172 Tryz.func172 rfl rfl
def la38 : Nat → Option Pat
  | 4 => some ⟨[.nat], [(1, .keep), (23, .keep), (24, .keep), (25, .cnt 0 400)], [(0, .c 0)], 1⟩
  | 10 => some ⟨[.nat], [(1, .keep), (35, .keep), (36, .keep), (37, .cnt 0 1000)], [(0, .c 0)], 1⟩
  | _ => none
def pr38 : Nat → List Gh := fun _ => []
def po38 : Nat → List Gh := fun _ => []
noncomputable def ph38 (fu : Nat) : Nat → Option (CQ (nEs [(80, 0), (81, 0), (88, 1), (89, 1), (110, 2), (111, 2)] [2, 2, 5]))
  | 48 => some (.dat (Q1 fu))
  | 172 => some (.dat (Q37 fu))
  | _ => none
theorem h38 (fu : Nat) : ∀ f q, ph38 fu f = some q → SoundC Tryz.prog f q := by
  intro f q h
  unfold ph38 at h
  split at h
  · cases h; exact zs1 fu
  · cases h; exact zs37 fu
  · cases h
noncomputable def cx38 (fu : Nat) : Cx (nEs [(80, 0), (81, 0), (88, 1), (89, 1), (110, 2), (111, 2)] [2, 2, 5]) := ⟨Tryz.prog, ph38 fu, la38, fun _ => none, pr38, po38, 0, 54⟩
noncomputable def Q38 (fu : Nat) : FQ (nEs [(80, 0), (81, 0), (88, 1), (89, 1), (110, 2), (111, 2)] [2, 2, 5]) := ⟨[(.st (.pr .bool (.pr (.st (.pr .bool (.pr .bool (.pr .bool (.pr (.st (.pr (.sl (.st (.pr (.int .i64) (.int .i64)))) (.sl (.st (.pr (.int .i64) (.int .i64)))))) (.st (.sl (.st (.pr .bool (.sl (.st (.pr (.int .u8) (.pr (.int .u8) (.int .i64)))))))))))))) (.pr (.sl (.nm 0)) (.sl (.nm 1))))))], [.bool], fden (cx38 fu) fu Tryz.f271 [(.st (.pr .bool (.pr (.st (.pr .bool (.pr .bool (.pr .bool (.pr (.st (.pr (.sl (.st (.pr (.int .i64) (.int .i64)))) (.sl (.st (.pr (.int .i64) (.int .i64)))))) (.st (.sl (.st (.pr .bool (.sl (.st (.pr (.int .u8) (.pr (.int .u8) (.int .i64)))))))))))))) (.pr (.sl (.nm 0)) (.sl (.nm 1))))))] [.bool]⟩
theorem zs38 (fu : Nat) : SoundQ Tryz.prog 271 (Q38 fu) := fden_ok (cx := cx38 fu) (h38 fu) follows ent271 Tryz.func271 rfl rfl
def la39 : Nat → Option Pat := fun _ => none
def pr39 : Nat → List Gh := fun _ => []
def po39 : Nat → List Gh := fun _ => []
def ph39 (_ : Nat) : Nat → Option (CQ (nEs [(80, 0), (81, 0), (88, 1), (89, 1), (110, 2), (111, 2)] [2, 2, 5])) := fun _ => none
theorem h39 (fu : Nat) : ∀ f q, ph39 fu f = some q → SoundC Tryz.prog f q := fun _ _ h => by cases h
noncomputable def cx39 (fu : Nat) : Cx (nEs [(80, 0), (81, 0), (88, 1), (89, 1), (110, 2), (111, 2)] [2, 2, 5]) := ⟨Tryz.prog, ph39 fu, la39, fun _ => none, pr39, po39, 0, 9⟩
noncomputable def Q39 (fu : Nat) : FQ (nEs [(80, 0), (81, 0), (88, 1), (89, 1), (110, 2), (111, 2)] [2, 2, 5]) := ⟨[(.nm 0)], [(.sl (.st (.pr (.st (.pr .bool (.pr (.st (.pr .bool (.pr .bool (.pr .bool (.pr (.st (.pr (.sl (.st (.pr (.int .i64) (.int .i64)))) (.sl (.st (.pr (.int .i64) (.int .i64)))))) (.st (.sl (.st (.pr .bool (.sl (.st (.pr (.int .u8) (.pr (.int .u8) (.int .i64)))))))))))))) (.pr (.sl (.nm 0)) (.sl (.nm 1)))))) (.st (.pr .bool (.pr (.st (.pr .bool (.pr .bool (.pr .bool (.pr (.st (.pr (.sl (.st (.pr (.int .i64) (.int .i64)))) (.sl (.st (.pr (.int .i64) (.int .i64)))))) (.st (.sl (.st (.pr .bool (.sl (.st (.pr (.int .u8) (.pr (.int .u8) (.int .i64)))))))))))))) (.pr (.sl (.nm 0)) (.sl (.nm 1)))))))))], fden (cx39 fu) fu Tryz.f151 [(.nm 0)] [(.sl (.st (.pr (.st (.pr .bool (.pr (.st (.pr .bool (.pr .bool (.pr .bool (.pr (.st (.pr (.sl (.st (.pr (.int .i64) (.int .i64)))) (.sl (.st (.pr (.int .i64) (.int .i64)))))) (.st (.sl (.st (.pr .bool (.sl (.st (.pr (.int .u8) (.pr (.int .u8) (.int .i64)))))))))))))) (.pr (.sl (.nm 0)) (.sl (.nm 1)))))) (.st (.pr .bool (.pr (.st (.pr .bool (.pr .bool (.pr .bool (.pr (.st (.pr (.sl (.st (.pr (.int .i64) (.int .i64)))) (.sl (.st (.pr (.int .i64) (.int .i64)))))) (.st (.sl (.st (.pr .bool (.sl (.st (.pr (.int .u8) (.pr (.int .u8) (.int .i64)))))))))))))) (.pr (.sl (.nm 0)) (.sl (.nm 1)))))))))]⟩
theorem zs39 (fu : Nat) : SoundQ Tryz.prog 151 (Q39 fu) := fden_ok (cx := cx39 fu) (h39 fu) follows ent151 Tryz.func151 rfl rfl
def la40 : Nat → Option Pat := fun _ => none
def pr40 : Nat → List Gh := fun _ => []
def po40 : Nat → List Gh := fun _ => []
def ph40 (_ : Nat) : Nat → Option (CQ (nEs [(80, 0), (81, 0), (88, 1), (89, 1), (110, 2), (111, 2)] [2, 2, 5])) := fun _ => none
theorem h40 (fu : Nat) : ∀ f q, ph40 fu f = some q → SoundC Tryz.prog f q := fun _ _ h => by cases h
noncomputable def cx40 (fu : Nat) : Cx (nEs [(80, 0), (81, 0), (88, 1), (89, 1), (110, 2), (111, 2)] [2, 2, 5]) := ⟨Tryz.prog, ph40 fu, la40, fun _ => none, pr40, po40, 0, 35⟩
noncomputable def Q40 (fu : Nat) : FQ (nEs [(80, 0), (81, 0), (88, 1), (89, 1), (110, 2), (111, 2)] [2, 2, 5]) := ⟨[(.nm 1)], [(.sl (.st (.pr (.st (.pr .bool (.pr (.st (.pr .bool (.pr .bool (.pr .bool (.pr (.st (.pr (.sl (.st (.pr (.int .i64) (.int .i64)))) (.sl (.st (.pr (.int .i64) (.int .i64)))))) (.st (.sl (.st (.pr .bool (.sl (.st (.pr (.int .u8) (.pr (.int .u8) (.int .i64)))))))))))))) (.pr (.sl (.nm 0)) (.sl (.nm 1)))))) (.st (.pr .bool (.pr (.st (.pr .bool (.pr .bool (.pr .bool (.pr (.st (.pr (.sl (.st (.pr (.int .i64) (.int .i64)))) (.sl (.st (.pr (.int .i64) (.int .i64)))))) (.st (.sl (.st (.pr .bool (.sl (.st (.pr (.int .u8) (.pr (.int .u8) (.int .i64)))))))))))))) (.pr (.sl (.nm 0)) (.sl (.nm 1)))))))))], fden (cx40 fu) fu Tryz.f328 [(.nm 1)] [(.sl (.st (.pr (.st (.pr .bool (.pr (.st (.pr .bool (.pr .bool (.pr .bool (.pr (.st (.pr (.sl (.st (.pr (.int .i64) (.int .i64)))) (.sl (.st (.pr (.int .i64) (.int .i64)))))) (.st (.sl (.st (.pr .bool (.sl (.st (.pr (.int .u8) (.pr (.int .u8) (.int .i64)))))))))))))) (.pr (.sl (.nm 0)) (.sl (.nm 1)))))) (.st (.pr .bool (.pr (.st (.pr .bool (.pr .bool (.pr .bool (.pr (.st (.pr (.sl (.st (.pr (.int .i64) (.int .i64)))) (.sl (.st (.pr (.int .i64) (.int .i64)))))) (.st (.sl (.st (.pr .bool (.sl (.st (.pr (.int .u8) (.pr (.int .u8) (.int .i64)))))))))))))) (.pr (.sl (.nm 0)) (.sl (.nm 1)))))))))]⟩
theorem zs40 (fu : Nat) : SoundQ Tryz.prog 328 (Q40 fu) := fden_ok (cx := cx40 fu) (h40 fu) follows ent328 Tryz.func328 rfl rfl
def la41 : Nat → Option Pat
  | 3 => some ⟨[.dat (.sl (.st (.pr (.st (.pr .bool (.pr (.st (.pr .bool (.pr .bool (.pr .bool (.pr (.st (.pr (.sl (.st (.pr (.int .i64) (.int .i64)))) (.sl (.st (.pr (.int .i64) (.int .i64)))))) (.st (.sl (.st (.pr .bool (.sl (.st (.pr (.int .u8) (.pr (.int .u8) (.int .i64)))))))))))))) (.pr (.sl (.nm 0)) (.sl (.nm 1)))))) (.st (.pr .bool (.pr (.st (.pr .bool (.pr .bool (.pr .bool (.pr (.st (.pr (.sl (.st (.pr (.int .i64) (.int .i64)))) (.sl (.st (.pr (.int .i64) (.int .i64)))))) (.st (.sl (.st (.pr .bool (.sl (.st (.pr (.int .u8) (.pr (.int .u8) (.int .i64)))))))))))))) (.pr (.sl (.nm 0)) (.sl (.nm 1))))))))), .nat], [(1, .keep), (3, .hdr 1), (9, .keep), (10, .keep), (11, .cnt 1 301)], [(0, .c 0), (1, .row 36 0)], 2⟩
  | 8 => some ⟨[.dat (.sl (.st (.pr (.st (.pr .bool (.pr (.st (.pr .bool (.pr .bool (.pr .bool (.pr (.st (.pr (.sl (.st (.pr (.int .i64) (.int .i64)))) (.sl (.st (.pr (.int .i64) (.int .i64)))))) (.st (.sl (.st (.pr .bool (.sl (.st (.pr (.int .u8) (.pr (.int .u8) (.int .i64)))))))))))))) (.pr (.sl (.nm 0)) (.sl (.nm 1)))))) (.st (.pr .bool (.pr (.st (.pr .bool (.pr .bool (.pr .bool (.pr (.st (.pr (.sl (.st (.pr (.int .i64) (.int .i64)))) (.sl (.st (.pr (.int .i64) (.int .i64)))))) (.st (.sl (.st (.pr .bool (.sl (.st (.pr (.int .u8) (.pr (.int .u8) (.int .i64)))))))))))))) (.pr (.sl (.nm 0)) (.sl (.nm 1))))))))), .nat], [(3, .hdr 1), (21, .keep), (22, .keep), (23, .cnt 1 801)], [(1, .row 36 0)], 2⟩
  | _ => none
def pr41 : Nat → List Gh := fun _ => []
def po41 : Nat → List Gh
  | 2 => [.own 3 36 (.st (.pr (.st (.pr .bool (.pr (.st (.pr .bool (.pr .bool (.pr .bool (.pr (.st (.pr (.sl (.st (.pr (.int .i64) (.int .i64)))) (.sl (.st (.pr (.int .i64) (.int .i64)))))) (.st (.sl (.st (.pr .bool (.sl (.st (.pr (.int .u8) (.pr (.int .u8) (.int .i64)))))))))))))) (.pr (.sl (.nm 0)) (.sl (.nm 1)))))) (.st (.pr .bool (.pr (.st (.pr .bool (.pr .bool (.pr .bool (.pr (.st (.pr (.sl (.st (.pr (.int .i64) (.int .i64)))) (.sl (.st (.pr (.int .i64) (.int .i64)))))) (.st (.sl (.st (.pr .bool (.sl (.st (.pr (.int .u8) (.pr (.int .u8) (.int .i64)))))))))))))) (.pr (.sl (.nm 0)) (.sl (.nm 1))))))))]
  | 12 => [.fz 2]
  | _ => []
noncomputable def ph41 (fu : Nat) : Nat → Option (CQ (nEs [(80, 0), (81, 0), (88, 1), (89, 1), (110, 2), (111, 2)] [2, 2, 5]))
  | 151 => some (.dat (Q39 fu))
  | 328 => some (.dat (Q40 fu))
  | _ => none
theorem h41 (fu : Nat) : ∀ f q, ph41 fu f = some q → SoundC Tryz.prog f q := by
  intro f q h
  unfold ph41 at h
  split at h
  · cases h; exact zs39 fu
  · cases h; exact zs40 fu
  · cases h
noncomputable def cx41 (fu : Nat) : Cx (nEs [(80, 0), (81, 0), (88, 1), (89, 1), (110, 2), (111, 2)] [2, 2, 5]) := ⟨Tryz.prog, ph41 fu, la41, fun _ => none, pr41, po41, 0, 33⟩
noncomputable def Q41 (fu : Nat) : FQ (nEs [(80, 0), (81, 0), (88, 1), (89, 1), (110, 2), (111, 2)] [2, 2, 5]) := ⟨[(.st (.pr .bool (.pr (.st (.pr .bool (.pr .bool (.pr .bool (.pr (.st (.pr (.sl (.st (.pr (.int .i64) (.int .i64)))) (.sl (.st (.pr (.int .i64) (.int .i64)))))) (.st (.sl (.st (.pr .bool (.sl (.st (.pr (.int .u8) (.pr (.int .u8) (.int .i64)))))))))))))) (.pr (.sl (.nm 0)) (.sl (.nm 1))))))], [(.sl (.st (.pr (.st (.pr .bool (.pr (.st (.pr .bool (.pr .bool (.pr .bool (.pr (.st (.pr (.sl (.st (.pr (.int .i64) (.int .i64)))) (.sl (.st (.pr (.int .i64) (.int .i64)))))) (.st (.sl (.st (.pr .bool (.sl (.st (.pr (.int .u8) (.pr (.int .u8) (.int .i64)))))))))))))) (.pr (.sl (.nm 0)) (.sl (.nm 1)))))) (.st (.pr .bool (.pr (.st (.pr .bool (.pr .bool (.pr .bool (.pr (.st (.pr (.sl (.st (.pr (.int .i64) (.int .i64)))) (.sl (.st (.pr (.int .i64) (.int .i64)))))) (.st (.sl (.st (.pr .bool (.sl (.st (.pr (.int .u8) (.pr (.int .u8) (.int .i64)))))))))))))) (.pr (.sl (.nm 0)) (.sl (.nm 1)))))))))], fden (cx41 fu) fu Tryz.f272 [(.st (.pr .bool (.pr (.st (.pr .bool (.pr .bool (.pr .bool (.pr (.st (.pr (.sl (.st (.pr (.int .i64) (.int .i64)))) (.sl (.st (.pr (.int .i64) (.int .i64)))))) (.st (.sl (.st (.pr .bool (.sl (.st (.pr (.int .u8) (.pr (.int .u8) (.int .i64)))))))))))))) (.pr (.sl (.nm 0)) (.sl (.nm 1))))))] [(.sl (.st (.pr (.st (.pr .bool (.pr (.st (.pr .bool (.pr .bool (.pr .bool (.pr (.st (.pr (.sl (.st (.pr (.int .i64) (.int .i64)))) (.sl (.st (.pr (.int .i64) (.int .i64)))))) (.st (.sl (.st (.pr .bool (.sl (.st (.pr (.int .u8) (.pr (.int .u8) (.int .i64)))))))))))))) (.pr (.sl (.nm 0)) (.sl (.nm 1)))))) (.st (.pr .bool (.pr (.st (.pr .bool (.pr .bool (.pr .bool (.pr (.st (.pr (.sl (.st (.pr (.int .i64) (.int .i64)))) (.sl (.st (.pr (.int .i64) (.int .i64)))))) (.st (.sl (.st (.pr .bool (.sl (.st (.pr (.int .u8) (.pr (.int .u8) (.int .i64)))))))))))))) (.pr (.sl (.nm 0)) (.sl (.nm 1)))))))))]⟩
theorem zs41 (fu : Nat) : SoundQ Tryz.prog 272 (Q41 fu) := fden_ok (cx := cx41 fu) (h41 fu) follows ent272 Tryz.func272 rfl rfl
def la42 : Nat → Option Pat := fun _ => none
def pr42 : Nat → List Gh := fun _ => []
def po42 : Nat → List Gh := fun _ => []
def ph42 (_ : Nat) : Nat → Option (CQ (nEs [(80, 0), (81, 0), (88, 1), (89, 1), (110, 2), (111, 2)] [2, 2, 5])) := fun _ => none
theorem h42 (fu : Nat) : ∀ f q, ph42 fu f = some q → SoundC Tryz.prog f q := fun _ _ h => by cases h
noncomputable def cx42 (fu : Nat) : Cx (nEs [(80, 0), (81, 0), (88, 1), (89, 1), (110, 2), (111, 2)] [2, 2, 5]) := ⟨Tryz.prog, ph42 fu, la42, fun _ => none, pr42, po42, 1, 20⟩
def pi42 : Pat := ⟨[.dat (.int .i64), .dat (.int .i64), .dat (.int .i64), .dat .bool], [(0, .loc 0 0), (1, .v 0 (.int .i64))], [(0, .blk 171 [(1, .v 1 (.int .i64)), (1, .v 2 (.int .i64)), (1, .v 3 .bool)])], 1⟩
def qo42 : Pat := ⟨[.dat (.int .i64), .dat (.int .i64), .dat .bool], [], [(0, .blk 171 [(1, .v 0 (.int .i64)), (1, .v 1 (.int .i64)), (1, .v 2 .bool)])], 1⟩
noncomputable def Q42 (fu : Nat) : PQ (nEs [(80, 0), (81, 0), (88, 1), (89, 1), (110, 2), (111, 2)] [2, 2, 5]) := ⟨pi42, qo42, 0, [], fdenP (cx42 fu) fu Tryz.f270 pi42 qo42 0⟩
theorem zs42 (fu : Nat) : SoundP Tryz.prog 270 (Q42 fu) := fdenP_ok (cx := cx42 fu) (h42 fu) follows ent270 Tryz.func270 rfl rfl
def la43 : Nat → Option Pat
  | 5 => some ⟨[.nat], [(0, .keep), (2, .keep), (24, .keep), (25, .keep), (26, .cnt 0 500)], [(0, .c 0)], 2⟩
  | _ => none
def pr43 : Nat → List Gh := fun _ => []
def po43 : Nat → List Gh := fun _ => []
noncomputable def ph43 (fu : Nat) : Nat → Option (CQ (nEs [(80, 0), (81, 0), (88, 1), (89, 1), (110, 2), (111, 2)] [2, 2, 5]))
  | 270 => some (.pats [Q42 fu])
  | 271 => some (.dat (Q38 fu))
  | 272 => some (.dat (Q41 fu))
  | _ => none
theorem h43 (fu : Nat) : ∀ f q, ph43 fu f = some q → SoundC Tryz.prog f q := by
  intro f q h
  unfold ph43 at h
  split at h
  · cases h; exact (patsC (zs42 fu) patsN)
  · cases h; exact zs38 fu
  · cases h; exact zs41 fu
  · cases h
noncomputable def cx43 (fu : Nat) : Cx (nEs [(80, 0), (81, 0), (88, 1), (89, 1), (110, 2), (111, 2)] [2, 2, 5]) := ⟨Tryz.prog, ph43 fu, la43, fun _ => none, pr43, po43, 1, 43⟩
def pi43 : Pat := ⟨[.dat (.st (.pr .bool (.pr (.st (.pr .bool (.pr .bool (.pr .bool (.pr (.st (.pr (.sl (.st (.pr (.int .i64) (.int .i64)))) (.sl (.st (.pr (.int .i64) (.int .i64)))))) (.st (.sl (.st (.pr .bool (.sl (.st (.pr (.int .u8) (.pr (.int .u8) (.int .i64)))))))))))))) (.pr (.sl (.nm 0)) (.sl (.nm 1)))))), .dat (.int .i64), .dat (.int .i64), .dat (.int .i64), .dat .bool], [(0, .loc 0 0), (1, .v 0 (.st (.pr .bool (.pr (.st (.pr .bool (.pr .bool (.pr .bool (.pr (.st (.pr (.sl (.st (.pr (.int .i64) (.int .i64)))) (.sl (.st (.pr (.int .i64) (.int .i64)))))) (.st (.sl (.st (.pr .bool (.sl (.st (.pr (.int .u8) (.pr (.int .u8) (.int .i64)))))))))))))) (.pr (.sl (.nm 0)) (.sl (.nm 1))))))), (2, .v 1 (.int .i64))], [(0, .blk 171 [(1, .v 2 (.int .i64)), (1, .v 3 (.int .i64)), (1, .v 4 .bool)])], 1⟩
def qo43 : Pat := ⟨[.dat (.int .i64), .dat (.int .i64), .dat .bool], [], [(0, .blk 171 [(1, .v 0 (.int .i64)), (1, .v 1 (.int .i64)), (1, .v 2 .bool)])], 1⟩
noncomputable def Q43 (fu : Nat) : PQ (nEs [(80, 0), (81, 0), (88, 1), (89, 1), (110, 2), (111, 2)] [2, 2, 5]) := ⟨pi43, qo43, 0, [], fdenP (cx43 fu) fu Tryz.f200 pi43 qo43 0⟩
theorem zs43 (fu : Nat) : SoundP Tryz.prog 200 (Q43 fu) := fdenP_ok (cx := cx43 fu) (h43 fu) follows ent200 Tryz.func200 rfl rfl
def la44 : Nat → Option Pat
  | 5 => some ⟨[.dat (.int .i64), .dat (.int .i64), .dat .bool, .nat], [(0, .keep), (2, .keep), (24, .keep), (25, .keep), (26, .cnt 3 503)], [(0, .blk 171 [(1, .v 0 (.int .i64)), (1, .v 1 (.int .i64)), (1, .v 2 .bool)])], 2⟩
  | _ => none
def pr44 : Nat → List Gh := fun _ => []
def po44 : Nat → List Gh := fun _ => []
noncomputable def ph44 (fu : Nat) : Nat → Option (CQ (nEs [(80, 0), (81, 0), (88, 1), (89, 1), (110, 2), (111, 2)] [2, 2, 5]))
  | 200 => some (.pats [Q43 fu])
  | 270 => some (.pats [Q0 fu])
  | 271 => some (.dat (Q38 fu))
  | 272 => some (.dat (Q41 fu))
  | _ => none
theorem h44 (fu : Nat) : ∀ f q, ph44 fu f = some q → SoundC Tryz.prog f q := by
  intro f q h
  unfold ph44 at h
  split at h
  · cases h; exact (patsC (zs43 fu) patsN)
  · cases h; exact (patsC (zs0 fu) patsN)
  · cases h; exact zs38 fu
  · cases h; exact zs41 fu
  · cases h
noncomputable def cx44 (fu : Nat) : Cx (nEs [(80, 0), (81, 0), (88, 1), (89, 1), (110, 2), (111, 2)] [2, 2, 5]) := ⟨Tryz.prog, ph44 fu, la44, fun _ => none, pr44, po44, 1, 43⟩
def pi44 : Pat := ⟨[.dat (.st (.pr .bool (.pr (.st (.pr .bool (.pr .bool (.pr .bool (.pr (.st (.pr (.sl (.st (.pr (.int .i64) (.int .i64)))) (.sl (.st (.pr (.int .i64) (.int .i64)))))) (.st (.sl (.st (.pr .bool (.sl (.st (.pr (.int .u8) (.pr (.int .u8) (.int .i64)))))))))))))) (.pr (.sl (.nm 0)) (.sl (.nm 1)))))), .dat (.int .i64), .dat (.st (.pr (.st (.pr (.int .i64) (.int .i64))) .bool))], [(0, .loc 0 0), (1, .v 0 (.st (.pr .bool (.pr (.st (.pr .bool (.pr .bool (.pr .bool (.pr (.st (.pr (.sl (.st (.pr (.int .i64) (.int .i64)))) (.sl (.st (.pr (.int .i64) (.int .i64)))))) (.st (.sl (.st (.pr .bool (.sl (.st (.pr (.int .u8) (.pr (.int .u8) (.int .i64)))))))))))))) (.pr (.sl (.nm 0)) (.sl (.nm 1))))))), (2, .v 1 (.int .i64))], [(0, .blk 171 [(3, .v 2 (.st (.pr (.st (.pr (.int .i64) (.int .i64))) .bool)))])], 1⟩
def qo44 : Pat := ⟨[.dat (.int .i64), .dat (.int .i64), .dat .bool], [], [(0, .blk 171 [(1, .v 0 (.int .i64)), (1, .v 1 (.int .i64)), (1, .v 2 .bool)])], 1⟩
noncomputable def Q44 (fu : Nat) : PQ (nEs [(80, 0), (81, 0), (88, 1), (89, 1), (110, 2), (111, 2)] [2, 2, 5]) := ⟨pi44, qo44, 0, [], fdenP (cx44 fu) fu Tryz.f200 pi44 qo44 0⟩
theorem zs44 (fu : Nat) : SoundP Tryz.prog 200 (Q44 fu) := fdenP_ok (cx := cx44 fu) (h44 fu) follows ent200 Tryz.func200 rfl rfl
def la45 : Nat → Option Pat := fun _ => none
def pr45 : Nat → List Gh := fun _ => []
def po45 : Nat → List Gh := fun _ => []
noncomputable def ph45 (fu : Nat) : Nat → Option (CQ (nEs [(80, 0), (81, 0), (88, 1), (89, 1), (110, 2), (111, 2)] [2, 2, 5]))
  | 200 => some (.pats [Q44 fu])
  | _ => none
theorem h45 (fu : Nat) : ∀ f q, ph45 fu f = some q → SoundC Tryz.prog f q := by
  intro f q h
  unfold ph45 at h
  split at h
  · cases h; exact (patsC (zs44 fu) patsN)
  · cases h
noncomputable def cx45 (fu : Nat) : Cx (nEs [(80, 0), (81, 0), (88, 1), (89, 1), (110, 2), (111, 2)] [2, 2, 5]) := ⟨Tryz.prog, ph45 fu, la45, fun _ => none, pr45, po45, 0, 10⟩
def pi45 : Pat := ⟨[.dat (.st (.pr .bool (.pr (.st (.pr .bool (.pr .bool (.pr .bool (.pr (.st (.pr (.sl (.st (.pr (.int .i64) (.int .i64)))) (.sl (.st (.pr (.int .i64) (.int .i64)))))) (.st (.sl (.st (.pr .bool (.sl (.st (.pr (.int .u8) (.pr (.int .u8) (.int .i64)))))))))))))) (.pr (.sl (.nm 0)) (.sl (.nm 1))))))], [(0, .v 0 (.st (.pr .bool (.pr (.st (.pr .bool (.pr .bool (.pr .bool (.pr (.st (.pr (.sl (.st (.pr (.int .i64) (.int .i64)))) (.sl (.st (.pr (.int .i64) (.int .i64)))))) (.st (.sl (.st (.pr .bool (.sl (.st (.pr (.int .u8) (.pr (.int .u8) (.int .i64)))))))))))))) (.pr (.sl (.nm 0)) (.sl (.nm 1)))))))], [], 0⟩
def qo45 : Pat := ⟨[.dat (.int .i64), .dat (.int .i64), .dat .bool], [(0, .loc 0 0)], [(0, .blk 171 [(1, .v 0 (.int .i64)), (1, .v 1 (.int .i64)), (1, .v 2 .bool)])], 1⟩
noncomputable def Q45 (fu : Nat) : PQ (nEs [(80, 0), (81, 0), (88, 1), (89, 1), (110, 2), (111, 2)] [2, 2, 5]) := ⟨pi45, qo45, 1, [], fdenP (cx45 fu) fu Tryz.f135 pi45 qo45 1⟩
theorem zs45 (fu : Nat) : SoundP Tryz.prog 135 (Q45 fu) := fdenP_ok (cx := cx45 fu) (h45 fu) follows ent135 Tryz.func135 rfl rfl
def la46 : Nat → Option Pat := fun _ => none
def pr46 : Nat → List Gh := fun _ => []
def po46 : Nat → List Gh := fun _ => []
noncomputable def ph46 (fu : Nat) : Nat → Option (CQ (nEs [(80, 0), (81, 0), (88, 1), (89, 1), (110, 2), (111, 2)] [2, 2, 5]))
  | 135 => some (.pats [Q45 fu])
  | _ => none
theorem h46 (fu : Nat) : ∀ f q, ph46 fu f = some q → SoundC Tryz.prog f q := by
  intro f q h
  unfold ph46 at h
  split at h
  · cases h; exact (patsC (zs45 fu) patsN)
  · cases h
noncomputable def cx46 (fu : Nat) : Cx (nEs [(80, 0), (81, 0), (88, 1), (89, 1), (110, 2), (111, 2)] [2, 2, 5]) := ⟨Tryz.prog, ph46 fu, la46, fun _ => none, pr46, po46, 0, 9⟩
noncomputable def Q46 (fu : Nat) : FQ (nEs [(80, 0), (81, 0), (88, 1), (89, 1), (110, 2), (111, 2)] [2, 2, 5]) := ⟨[(.st (.pr .bool (.pr (.st (.pr .bool (.pr .bool (.pr .bool (.pr (.st (.pr (.sl (.st (.pr (.int .i64) (.int .i64)))) (.sl (.st (.pr (.int .i64) (.int .i64)))))) (.st (.sl (.st (.pr .bool (.sl (.st (.pr (.int .u8) (.pr (.int .u8) (.int .i64)))))))))))))) (.pr (.sl (.nm 0)) (.sl (.nm 1))))))], [.bool], fden (cx46 fu) fu Tryz.f95 [(.st (.pr .bool (.pr (.st (.pr .bool (.pr .bool (.pr .bool (.pr (.st (.pr (.sl (.st (.pr (.int .i64) (.int .i64)))) (.sl (.st (.pr (.int .i64) (.int .i64)))))) (.st (.sl (.st (.pr .bool (.sl (.st (.pr (.int .u8) (.pr (.int .u8) (.int .i64)))))))))))))) (.pr (.sl (.nm 0)) (.sl (.nm 1))))))] [.bool]⟩
theorem zs46 (fu : Nat) : SoundQ Tryz.prog 95 (Q46 fu) := fden_ok (cx := cx46 fu) (h46 fu) follows ent95 Tryz.func95 rfl rfl
def la47 : Nat → Option Pat := fun _ => none
def pr47 : Nat → List Gh := fun _ => []
def po47 : Nat → List Gh := fun _ => []
noncomputable def ph47 (fu : Nat) : Nat → Option (CQ (nEs [(80, 0), (81, 0), (88, 1), (89, 1), (110, 2), (111, 2)] [2, 2, 5]))
  | 95 => some (.dat (Q46 fu))
  | _ => none
theorem h47 (fu : Nat) : ∀ f q, ph47 fu f = some q → SoundC Tryz.prog f q := by
  intro f q h
  unfold ph47 at h
  split at h
  · cases h; exact zs46 fu
  · cases h
noncomputable def cx47 (fu : Nat) : Cx (nEs [(80, 0), (81, 0), (88, 1), (89, 1), (110, 2), (111, 2)] [2, 2, 5]) := ⟨Tryz.prog, ph47 fu, la47, fun _ => none, pr47, po47, 0, 11⟩
noncomputable def Q47 (fu : Nat) : FQ (nEs [(80, 0), (81, 0), (88, 1), (89, 1), (110, 2), (111, 2)] [2, 2, 5]) := ⟨[(.st (.pr (.st (.pr .bool (.pr (.st (.pr .bool (.pr .bool (.pr .bool (.pr (.st (.pr (.sl (.st (.pr (.int .i64) (.int .i64)))) (.sl (.st (.pr (.int .i64) (.int .i64)))))) (.st (.sl (.st (.pr .bool (.sl (.st (.pr (.int .u8) (.pr (.int .u8) (.int .i64)))))))))))))) (.pr (.sl (.nm 0)) (.sl (.nm 1)))))) (.st (.pr .bool (.pr (.st (.pr .bool (.pr .bool (.pr .bool (.pr (.st (.pr (.sl (.st (.pr (.int .i64) (.int .i64)))) (.sl (.st (.pr (.int .i64) (.int .i64)))))) (.st (.sl (.st (.pr .bool (.sl (.st (.pr (.int .u8) (.pr (.int .u8) (.int .i64)))))))))))))) (.pr (.sl (.nm 0)) (.sl (.nm 1))))))))], [.bool], fden (cx47 fu) fu Tryz.f61 [(.st (.pr (.st (.pr .bool (.pr (.st (.pr .bool (.pr .bool (.pr .bool (.pr (.st (.pr (.sl (.st (.pr (.int .i64) (.int .i64)))) (.sl (.st (.pr (.int .i64) (.int .i64)))))) (.st (.sl (.st (.pr .bool (.sl (.st (.pr (.int .u8) (.pr (.int .u8) (.int .i64)))))))))))))) (.pr (.sl (.nm 0)) (.sl (.nm 1)))))) (.st (.pr .bool (.pr (.st (.pr .bool (.pr .bool (.pr .bool (.pr (.st (.pr (.sl (.st (.pr (.int .i64) (.int .i64)))) (.sl (.st (.pr (.int .i64) (.int .i64)))))) (.st (.sl (.st (.pr .bool (.sl (.st (.pr (.int .u8) (.pr (.int .u8) (.int .i64)))))))))))))) (.pr (.sl (.nm 0)) (.sl (.nm 1))))))))] [.bool]⟩
theorem zs47 (fu : Nat) : SoundQ Tryz.prog 61 (Q47 fu) := fden_ok (cx := cx47 fu) (h47 fu) follows ent61 Tryz.func61 rfl rfl
def la48 : Nat → Option Pat := fun _ => none
def pr48 : Nat → List Gh := fun _ => []
def po48 : Nat → List Gh := fun _ => []
noncomputable def ph48 (fu : Nat) : Nat → Option (CQ (nEs [(80, 0), (81, 0), (88, 1), (89, 1), (110, 2), (111, 2)] [2, 2, 5]))
  | 172 => some (.dat (Q37 fu))
  | _ => none
theorem h48 (fu : Nat) : ∀ f q, ph48 fu f = some q → SoundC Tryz.prog f q := by
  intro f q h
  unfold ph48 at h
  split at h
  · cases h; exact zs37 fu
  · cases h
noncomputable def cx48 (fu : Nat) : Cx (nEs [(80, 0), (81, 0), (88, 1), (89, 1), (110, 2), (111, 2)] [2, 2, 5]) := ⟨Tryz.prog, ph48 fu, la48, fun _ => none, pr48, po48, 0, 8⟩
noncomputable def Q48 (fu : Nat) : FQ (nEs [(80, 0), (81, 0), (88, 1), (89, 1), (110, 2), (111, 2)] [2, 2, 5]) := ⟨[(.st (.pr .bool (.pr .bool (.pr .bool (.pr (.st (.pr (.sl (.st (.pr (.int .i64) (.int .i64)))) (.sl (.st (.pr (.int .i64) (.int .i64)))))) (.st (.sl (.st (.pr .bool (.sl (.st (.pr (.int .u8) (.pr (.int .u8) (.int .i64))))))))))))))], [(.st (.pr .bool (.pr .bool (.pr .bool (.pr (.st (.pr (.sl (.st (.pr (.int .i64) (.int .i64)))) (.sl (.st (.pr (.int .i64) (.int .i64)))))) (.st (.sl (.st (.pr .bool (.sl (.st (.pr (.int .u8) (.pr (.int .u8) (.int .i64))))))))))))))], fden (cx48 fu) fu Tryz.f111 [(.st (.pr .bool (.pr .bool (.pr .bool (.pr (.st (.pr (.sl (.st (.pr (.int .i64) (.int .i64)))) (.sl (.st (.pr (.int .i64) (.int .i64)))))) (.st (.sl (.st (.pr .bool (.sl (.st (.pr (.int .u8) (.pr (.int .u8) (.int .i64))))))))))))))] [(.st (.pr .bool (.pr .bool (.pr .bool (.pr (.st (.pr (.sl (.st (.pr (.int .i64) (.int .i64)))) (.sl (.st (.pr (.int .i64) (.int .i64)))))) (.st (.sl (.st (.pr .bool (.sl (.st (.pr (.int .u8) (.pr (.int .u8) (.int .i64))))))))))))))]⟩
theorem zs48 (fu : Nat) : SoundQ Tryz.prog 111 (Q48 fu) := fden_ok (cx := cx48 fu) (h48 fu) follows ent111 Tryz.func111 rfl rfl
def la49 : Nat → Option Pat := fun _ => none
def pr49 : Nat → List Gh := fun _ => []
def po49 : Nat → List Gh := fun _ => []
def ph49 (_ : Nat) : Nat → Option (CQ (nEs [(80, 0), (81, 0), (88, 1), (89, 1), (110, 2), (111, 2)] [2, 2, 5])) := fun _ => none
theorem h49 (fu : Nat) : ∀ f q, ph49 fu f = some q → SoundC Tryz.prog f q := fun _ _ h => by cases h
noncomputable def cx49 (fu : Nat) : Cx (nEs [(80, 0), (81, 0), (88, 1), (89, 1), (110, 2), (111, 2)] [2, 2, 5]) := ⟨Tryz.prog, ph49 fu, la49, fun _ => none, pr49, po49, 0, 9⟩
noncomputable def Q49 (fu : Nat) : FQ (nEs [(80, 0), (81, 0), (88, 1), (89, 1), (110, 2), (111, 2)] [2, 2, 5]) := ⟨[.bool, .bool], [.bool], fden (cx49 fu) fu Tryz.f273 [.bool, .bool] [.bool]⟩
theorem zs49 (fu : Nat) : SoundQ Tryz.prog 273 (Q49 fu) := fden_ok (cx := cx49 fu) (h49 fu) follows ent273 Tryz.func273 rfl rfl
def la50 : Nat → Option Pat := fun _ => none
def pr50 : Nat → List Gh := fun _ => []
def po50 : Nat → List Gh
  | 6 => [.own 4 52 (.st (.pr (.int .i64) (.int .i64)))]
  | _ => []
def ph50 (_ : Nat) : Nat → Option (CQ (nEs [(80, 0), (81, 0), (88, 1), (89, 1), (110, 2), (111, 2)] [2, 2, 5])) := fun _ => none
theorem h50 (fu : Nat) : ∀ f q, ph50 fu f = some q → SoundC Tryz.prog f q := fun _ _ h => by cases h
noncomputable def cx50 (fu : Nat) : Cx (nEs [(80, 0), (81, 0), (88, 1), (89, 1), (110, 2), (111, 2)] [2, 2, 5]) := ⟨Tryz.prog, ph50 fu, la50, fun _ => none, pr50, po50, 0, 27⟩
def pi50 : Pat := ⟨[.dat (.int .i64)], [(0, .nl), (1, .v 0 (.int .i64))], [], 0⟩
def qo50 : Pat := ⟨[.dat (.sl (.st (.pr (.int .i64) (.int .i64))))], [(0, .hdr 0)], [(0, .row 52 0)], 1⟩
noncomputable def Q50 (fu : Nat) : PQ (nEs [(80, 0), (81, 0), (88, 1), (89, 1), (110, 2), (111, 2)] [2, 2, 5]) := ⟨pi50, qo50, 1, [], fdenP (cx50 fu) fu Tryz.f384 pi50 qo50 1⟩
theorem zs50 (fu : Nat) : SoundP Tryz.prog 384 (Q50 fu) := fdenP_ok (cx := cx50 fu) (h50 fu) follows ent384 Tryz.func384 rfl rfl
def la51 : Nat → Option Pat
  | 3 => some ⟨[.dat (.int .i64), .nat], [(0, .keep), (3, .v 0 (.int .i64)), (9, .keep), (10, .keep), (11, .cnt 1 301)], [], 0⟩
  | 11 => some ⟨[.dat (.sl (.st (.pr (.int .i64) (.int .i64)))), .nat], [(6, .hdr 0), (25, .keep), (26, .keep), (27, .cnt 1 1101)], [(0, .row 52 0)], 1⟩
  | _ => none
def pr51 : Nat → List Gh := fun _ => []
def po51 : Nat → List Gh
  | 15 => [.fz 2]
  | _ => []
noncomputable def ph51 (fu : Nat) : Nat → Option (CQ (nEs [(80, 0), (81, 0), (88, 1), (89, 1), (110, 2), (111, 2)] [2, 2, 5]))
  | 384 => some (.pats [Q50 fu])
  | _ => none
theorem h51 (fu : Nat) : ∀ f q, ph51 fu f = some q → SoundC Tryz.prog f q := by
  intro f q h
  unfold ph51 at h
  split at h
  · cases h; exact (patsC (zs50 fu) patsN)
  · cases h
noncomputable def cx51 (fu : Nat) : Cx (nEs [(80, 0), (81, 0), (88, 1), (89, 1), (110, 2), (111, 2)] [2, 2, 5]) := ⟨Tryz.prog, ph51 fu, la51, fun _ => none, pr51, po51, 0, 36⟩
noncomputable def Q51 (fu : Nat) : FQ (nEs [(80, 0), (81, 0), (88, 1), (89, 1), (110, 2), (111, 2)] [2, 2, 5]) := ⟨[(.sl (.sl (.st (.pr (.int .i64) (.int .i64)))))], [(.sl (.st (.pr (.int .i64) (.int .i64))))], fden (cx51 fu) fu Tryz.f329 [(.sl (.sl (.st (.pr (.int .i64) (.int .i64)))))] [(.sl (.st (.pr (.int .i64) (.int .i64))))]⟩
theorem zs51 (fu : Nat) : SoundQ Tryz.prog 329 (Q51 fu) := fden_ok (cx := cx51 fu) (h51 fu) follows ent329 Tryz.func329 rfl rfl
def la52 : Nat → Option Pat := fun _ => none
def pr52 : Nat → List Gh := fun _ => []
def po52 : Nat → List Gh := fun _ => []
noncomputable def ph52 (fu : Nat) : Nat → Option (CQ (nEs [(80, 0), (81, 0), (88, 1), (89, 1), (110, 2), (111, 2)] [2, 2, 5]))
  | 173 => some (.dat (Q24 fu))
  | 329 => some (.dat (Q51 fu))
  | _ => none
theorem h52 (fu : Nat) : ∀ f q, ph52 fu f = some q → SoundC Tryz.prog f q := by
  intro f q h
  unfold ph52 at h
  split at h
  · cases h; exact zs24 fu
  · cases h; exact zs51 fu
  · cases h
noncomputable def cx52 (fu : Nat) : Cx (nEs [(80, 0), (81, 0), (88, 1), (89, 1), (110, 2), (111, 2)] [2, 2, 5]) := ⟨Tryz.prog, ph52 fu, la52, fun _ => none, pr52, po52, 0, 19⟩
noncomputable def Q52 (fu : Nat) : FQ (nEs [(80, 0), (81, 0), (88, 1), (89, 1), (110, 2), (111, 2)] [2, 2, 5]) := ⟨[(.st (.pr (.sl (.st (.pr (.int .i64) (.int .i64)))) (.sl (.st (.pr (.int .i64) (.int .i64)))))), (.st (.pr (.sl (.st (.pr (.int .i64) (.int .i64)))) (.sl (.st (.pr (.int .i64) (.int .i64))))))], [(.st (.pr (.sl (.st (.pr (.int .i64) (.int .i64)))) (.sl (.st (.pr (.int .i64) (.int .i64))))))], fden (cx52 fu) fu Tryz.f274 [(.st (.pr (.sl (.st (.pr (.int .i64) (.int .i64)))) (.sl (.st (.pr (.int .i64) (.int .i64)))))), (.st (.pr (.sl (.st (.pr (.int .i64) (.int .i64)))) (.sl (.st (.pr (.int .i64) (.int .i64))))))] [(.st (.pr (.sl (.st (.pr (.int .i64) (.int .i64)))) (.sl (.st (.pr (.int .i64) (.int .i64))))))]⟩
theorem zs52 (fu : Nat) : SoundQ Tryz.prog 274 (Q52 fu) := fden_ok (cx := cx52 fu) (h52 fu) follows ent274 Tryz.func274 rfl rfl
def la53 : Nat → Option Pat := fun _ => none
def pr53 : Nat → List Gh := fun _ => []
def po53 : Nat → List Gh := fun _ => []
noncomputable def ph53 (fu : Nat) : Nat → Option (CQ (nEs [(80, 0), (81, 0), (88, 1), (89, 1), (110, 2), (111, 2)] [2, 2, 5]))
  | 245 => some (.dat (Q36 fu))
  | _ => none
theorem h53 (fu : Nat) : ∀ f q, ph53 fu f = some q → SoundC Tryz.prog f q := by
  intro f q h
  unfold ph53 at h
  split at h
  · cases h; exact zs36 fu
  · cases h
noncomputable def cx53 (fu : Nat) : Cx (nEs [(80, 0), (81, 0), (88, 1), (89, 1), (110, 2), (111, 2)] [2, 2, 5]) := ⟨Tryz.prog, ph53 fu, la53, fun _ => none, pr53, po53, 0, 8⟩
noncomputable def Q53 (fu : Nat) : FQ (nEs [(80, 0), (81, 0), (88, 1), (89, 1), (110, 2), (111, 2)] [2, 2, 5]) := ⟨[(.st (.sl (.st (.pr .bool (.sl (.st (.pr (.int .u8) (.pr (.int .u8) (.int .i64)))))))))], [(.st (.sl (.st (.pr .bool (.sl (.st (.pr (.int .u8) (.pr (.int .u8) (.int .i64)))))))))], fden (cx53 fu) fu Tryz.f241 [(.st (.sl (.st (.pr .bool (.sl (.st (.pr (.int .u8) (.pr (.int .u8) (.int .i64)))))))))] [(.st (.sl (.st (.pr .bool (.sl (.st (.pr (.int .u8) (.pr (.int .u8) (.int .i64)))))))))]⟩
theorem zs53 (fu : Nat) : SoundQ Tryz.prog 241 (Q53 fu) := fden_ok (cx := cx53 fu) (h53 fu) follows ent241 Tryz.func241 rfl rfl
def la54 : Nat → Option Pat := fun _ => none
def pr54 : Nat → List Gh := fun _ => []
def po54 : Nat → List Gh := fun _ => []
def ph54 (_ : Nat) : Nat → Option (CQ (nEs [(80, 0), (81, 0), (88, 1), (89, 1), (110, 2), (111, 2)] [2, 2, 5])) := fun _ => none
theorem h54 (fu : Nat) : ∀ f q, ph54 fu f = some q → SoundC Tryz.prog f q := fun _ _ h => by cases h
noncomputable def cx54 (fu : Nat) : Cx (nEs [(80, 0), (81, 0), (88, 1), (89, 1), (110, 2), (111, 2)] [2, 2, 5]) := ⟨Tryz.prog, ph54 fu, la54, fun _ => none, pr54, po54, 0, 8⟩
noncomputable def Q54 (fu : Nat) : FQ (nEs [(80, 0), (81, 0), (88, 1), (89, 1), (110, 2), (111, 2)] [2, 2, 5]) := ⟨[(.sl (.st (.pr (.int .u8) (.pr (.int .u8) (.int .i64)))))], [(.sl (.st (.pr (.int .u8) (.pr (.int .u8) (.int .i64)))))], fden (cx54 fu) fu Tryz.f330 [(.sl (.st (.pr (.int .u8) (.pr (.int .u8) (.int .i64)))))] [(.sl (.st (.pr (.int .u8) (.pr (.int .u8) (.int .i64)))))]⟩
theorem zs54 (fu : Nat) : SoundQ Tryz.prog 330 (Q54 fu) := fden_ok (cx := cx54 fu) (h54 fu) follows ent330 Tryz.func330 rfl rfl
def la55 : Nat → Option Pat
  | 3 => some ⟨[.dat (.sl (.st (.pr .bool (.sl (.st (.pr (.int .u8) (.pr (.int .u8) (.int .i64)))))))), .nat], [(2, .keep), (3, .keep), (7, .keep), (8, .keep), (9, .cnt 1 301)], [(2, .blk 28 [(1, .hdr 3)]), (1, .c 0), (3, .row 216 0)], 4⟩
  | _ => none
def pr55 : Nat → List Gh := fun _ => []
def po55 : Nat → List Gh
  | 2 => [.ownb 3 0 216 (.st (.pr .bool (.sl (.st (.pr (.int .u8) (.pr (.int .u8) (.int .i64)))))))]
  | 7 => [.fzb 2 0]
  | _ => []
noncomputable def ph55 (fu : Nat) : Nat → Option (CQ (nEs [(80, 0), (81, 0), (88, 1), (89, 1), (110, 2), (111, 2)] [2, 2, 5]))
  | 330 => some (.dat (Q54 fu))
  | _ => none
theorem h55 (fu : Nat) : ∀ f q, ph55 fu f = some q → SoundC Tryz.prog f q := by
  intro f q h
  unfold ph55 at h
  split at h
  · cases h; exact zs54 fu
  · cases h
noncomputable def cx55 (fu : Nat) : Cx (nEs [(80, 0), (81, 0), (88, 1), (89, 1), (110, 2), (111, 2)] [2, 2, 5]) := ⟨Tryz.prog, ph55 fu, la55, fun _ => none, pr55, po55, 0, 26⟩
noncomputable def Q55 (fu : Nat) : FQ (nEs [(80, 0), (81, 0), (88, 1), (89, 1), (110, 2), (111, 2)] [2, 2, 5]) := ⟨[(.st (.sl (.st (.pr .bool (.sl (.st (.pr (.int .u8) (.pr (.int .u8) (.int .i64)))))))))], [(.st (.sl (.st (.pr .bool (.sl (.st (.pr (.int .u8) (.pr (.int .u8) (.int .i64)))))))))], fden (cx55 fu) fu Tryz.f275 [(.st (.sl (.st (.pr .bool (.sl (.st (.pr (.int .u8) (.pr (.int .u8) (.int .i64)))))))))] [(.st (.sl (.st (.pr .bool (.sl (.st (.pr (.int .u8) (.pr (.int .u8) (.int .i64)))))))))]⟩
theorem zs55 (fu : Nat) : SoundQ Tryz.prog 275 (Q55 fu) := fden_ok (cx := cx55 fu) (h55 fu) follows ent275 Tryz.func275 rfl rfl
def la62 : Nat → Option Pat := fun _ => none
def pr62 : Nat → List Gh := fun _ => []
def po62 : Nat → List Gh := fun _ => []
noncomputable def ph62 (fu : Nat) : Nat → Option (CQ (nEs [(80, 0), (81, 0), (88, 1), (89, 1), (110, 2), (111, 2)] [2, 2, 5]))
  | 241 => some (.dat (Q53 fu))
  | 275 => some (.dat (Q55 fu))
  | _ => none
theorem h62 (fu : Nat) : ∀ f q, ph62 fu f = some q → SoundC Tryz.prog f q := by
  intro f q h
  unfold ph62 at h
  split at h
  · cases h; exact zs53 fu
  · cases h; exact zs55 fu
  · cases h
noncomputable def cx62 (fu : Nat) : Cx (nEs [(80, 0), (81, 0), (88, 1), (89, 1), (110, 2), (111, 2)] [2, 2, 5]) := ⟨Tryz.prog, ph62 fu, la62, fun _ => none, pr62, po62, 0, 24⟩
noncomputable def Q62 (fu : Nat) : FQ (nEs [(80, 0), (81, 0), (88, 1), (89, 1), (110, 2), (111, 2)] [2, 2, 5]) := ⟨[(.st (.sl (.st (.pr .bool (.sl (.st (.pr (.int .u8) (.pr (.int .u8) (.int .i64))))))))), (.st (.sl (.st (.pr .bool (.sl (.st (.pr (.int .u8) (.pr (.int .u8) (.int .i64)))))))))], [(.st (.sl (.st (.pr .bool (.sl (.st (.pr (.int .u8) (.pr (.int .u8) (.int .i64)))))))))], fden (cx62 fu) fu Tryz.f204 [(.st (.sl (.st (.pr .bool (.sl (.st (.pr (.int .u8) (.pr (.int .u8) (.int .i64))))))))), (.st (.sl (.st (.pr .bool (.sl (.st (.pr (.int .u8) (.pr (.int .u8) (.int .i64)))))))))] [(.st (.sl (.st (.pr .bool (.sl (.st (.pr (.int .u8) (.pr (.int .u8) (.int .i64)))))))))]⟩
theorem zs62 (fu : Nat) : SoundQ Tryz.prog 204 (Q62 fu) := fden_ok (cx := cx62 fu) (h62 fu) follows ent204 Tryz.func204 rfl rfl
def la63 : Nat → Option Pat := fun _ => none
def pr63 : Nat → List Gh := fun _ => []
def po63 : Nat → List Gh := fun _ => []
noncomputable def ph63 (fu : Nat) : Nat → Option (CQ (nEs [(80, 0), (81, 0), (88, 1), (89, 1), (110, 2), (111, 2)] [2, 2, 5]))
  | 111 => some (.dat (Q48 fu))
  | 204 => some (.dat (Q62 fu))
  | 273 => some (.dat (Q49 fu))
  | 274 => some (.dat (Q52 fu))
  | _ => none
theorem h63 (fu : Nat) : ∀ f q, ph63 fu f = some q → SoundC Tryz.prog f q := by
  intro f q h
  unfold ph63 at h
  split at h
  · cases h; exact zs48 fu
  · cases h; exact zs62 fu
  · cases h; exact zs49 fu
  · cases h; exact zs52 fu
  · cases h
noncomputable def cx63 (fu : Nat) : Cx (nEs [(80, 0), (81, 0), (88, 1), (89, 1), (110, 2), (111, 2)] [2, 2, 5]) := ⟨Tryz.prog, ph63 fu, la63, fun _ => none, pr63, po63, 0, 46⟩
def pi63 : Pat := ⟨[.dat (.st (.pr .bool (.pr .bool (.pr .bool (.pr (.st (.pr (.sl (.st (.pr (.int .i64) (.int .i64)))) (.sl (.st (.pr (.int .i64) (.int .i64)))))) (.st (.sl (.st (.pr .bool (.sl (.st (.pr (.int .u8) (.pr (.int .u8) (.int .i64)))))))))))))), .dat (.st (.pr .bool (.pr .bool (.pr .bool (.pr (.st (.pr (.sl (.st (.pr (.int .i64) (.int .i64)))) (.sl (.st (.pr (.int .i64) (.int .i64)))))) (.st (.sl (.st (.pr .bool (.sl (.st (.pr (.int .u8) (.pr (.int .u8) (.int .i64))))))))))))))], [(0, .v 0 (.st (.pr .bool (.pr .bool (.pr .bool (.pr (.st (.pr (.sl (.st (.pr (.int .i64) (.int .i64)))) (.sl (.st (.pr (.int .i64) (.int .i64)))))) (.st (.sl (.st (.pr .bool (.sl (.st (.pr (.int .u8) (.pr (.int .u8) (.int .i64))))))))))))))), (1, .v 1 (.st (.pr .bool (.pr .bool (.pr .bool (.pr (.st (.pr (.sl (.st (.pr (.int .i64) (.int .i64)))) (.sl (.st (.pr (.int .i64) (.int .i64)))))) (.st (.sl (.st (.pr .bool (.sl (.st (.pr (.int .u8) (.pr (.int .u8) (.int .i64))))))))))))))), (2, .clo 273 [] []), (3, .clo 274 [] []), (4, .clo 204 [] [])], [], 0⟩
def qo63 : Pat := ⟨[.dat (.st (.pr .bool (.pr .bool (.pr .bool (.pr (.st (.pr (.sl (.st (.pr (.int .i64) (.int .i64)))) (.sl (.st (.pr (.int .i64) (.int .i64)))))) (.st (.sl (.st (.pr .bool (.sl (.st (.pr (.int .u8) (.pr (.int .u8) (.int .i64))))))))))))))], [(0, .v 0 (.st (.pr .bool (.pr .bool (.pr .bool (.pr (.st (.pr (.sl (.st (.pr (.int .i64) (.int .i64)))) (.sl (.st (.pr (.int .i64) (.int .i64)))))) (.st (.sl (.st (.pr .bool (.sl (.st (.pr (.int .u8) (.pr (.int .u8) (.int .i64)))))))))))))))], [], 0⟩
noncomputable def Q63 (fu : Nat) : PQ (nEs [(80, 0), (81, 0), (88, 1), (89, 1), (110, 2), (111, 2)] [2, 2, 5]) := ⟨pi63, qo63, 1, [], fdenP (cx63 fu) fu Tryz.f154 pi63 qo63 1⟩
theorem zs63 (fu : Nat) : SoundP Tryz.prog 154 (Q63 fu) := fdenP_ok (cx := cx63 fu) (h63 fu) follows ent154 Tryz.func154 rfl rfl
def la64 : Nat → Option Pat := fun _ => none
def pr64 : Nat → List Gh := fun _ => []
def po64 : Nat → List Gh := fun _ => []
noncomputable def ph64 (fu : Nat) : Nat → Option (CQ (nEs [(80, 0), (81, 0), (88, 1), (89, 1), (110, 2), (111, 2)] [2, 2, 5]))
  | 154 => some (.pats [Q63 fu])
  | _ => none
theorem h64 (fu : Nat) : ∀ f q, ph64 fu f = some q → SoundC Tryz.prog f q := by
  intro f q h
  unfold ph64 at h
  split at h
  · cases h; exact (patsC (zs63 fu) patsN)
  · cases h
noncomputable def cx64 (fu : Nat) : Cx (nEs [(80, 0), (81, 0), (88, 1), (89, 1), (110, 2), (111, 2)] [2, 2, 5]) := ⟨Tryz.prog, ph64 fu, la64, fun _ => none, pr64, po64, 0, 8⟩
noncomputable def Q64 (fu : Nat) : FQ (nEs [(80, 0), (81, 0), (88, 1), (89, 1), (110, 2), (111, 2)] [2, 2, 5]) := ⟨[(.st (.pr .bool (.pr .bool (.pr .bool (.pr (.st (.pr (.sl (.st (.pr (.int .i64) (.int .i64)))) (.sl (.st (.pr (.int .i64) (.int .i64)))))) (.st (.sl (.st (.pr .bool (.sl (.st (.pr (.int .u8) (.pr (.int .u8) (.int .i64)))))))))))))), (.st (.pr .bool (.pr .bool (.pr .bool (.pr (.st (.pr (.sl (.st (.pr (.int .i64) (.int .i64)))) (.sl (.st (.pr (.int .i64) (.int .i64)))))) (.st (.sl (.st (.pr .bool (.sl (.st (.pr (.int .u8) (.pr (.int .u8) (.int .i64))))))))))))))], [(.st (.pr .bool (.pr .bool (.pr .bool (.pr (.st (.pr (.sl (.st (.pr (.int .i64) (.int .i64)))) (.sl (.st (.pr (.int .i64) (.int .i64)))))) (.st (.sl (.st (.pr .bool (.sl (.st (.pr (.int .u8) (.pr (.int .u8) (.int .i64))))))))))))))], fden (cx64 fu) fu Tryz.f201 [(.st (.pr .bool (.pr .bool (.pr .bool (.pr (.st (.pr (.sl (.st (.pr (.int .i64) (.int .i64)))) (.sl (.st (.pr (.int .i64) (.int .i64)))))) (.st (.sl (.st (.pr .bool (.sl (.st (.pr (.int .u8) (.pr (.int .u8) (.int .i64)))))))))))))), (.st (.pr .bool (.pr .bool (.pr .bool (.pr (.st (.pr (.sl (.st (.pr (.int .i64) (.int .i64)))) (.sl (.st (.pr (.int .i64) (.int .i64)))))) (.st (.sl (.st (.pr .bool (.sl (.st (.pr (.int .u8) (.pr (.int .u8) (.int .i64))))))))))))))] [(.st (.pr .bool (.pr .bool (.pr .bool (.pr (.st (.pr (.sl (.st (.pr (.int .i64) (.int .i64)))) (.sl (.st (.pr (.int .i64) (.int .i64)))))) (.st (.sl (.st (.pr .bool (.sl (.st (.pr (.int .u8) (.pr (.int .u8) (.int .i64))))))))))))))]⟩
theorem zs64 (fu : Nat) : SoundQ Tryz.prog 201 (Q64 fu) := fden_ok (cx := cx64 fu) (h64 fu) follows ent201 Tryz.func201 rfl rfl
def la65 : Nat → Option Pat := fun _ => none
def pr65 : Nat → List Gh := fun _ => []
def po65 : Nat → List Gh := fun _ => []
noncomputable def ph65 (fu : Nat) : Nat → Option (CQ (nEs [(80, 0), (81, 0), (88, 1), (89, 1), (110, 2), (111, 2)] [2, 2, 5]))
  | 201 => some (.dat (Q64 fu))
  | _ => none
theorem h65 (fu : Nat) : ∀ f q, ph65 fu f = some q → SoundC Tryz.prog f q := by
  intro f q h
  unfold ph65 at h
  split at h
  · cases h; exact zs64 fu
  · cases h
noncomputable def cx65 (fu : Nat) : Cx (nEs [(80, 0), (81, 0), (88, 1), (89, 1), (110, 2), (111, 2)] [2, 2, 5]) := ⟨Tryz.prog, ph65 fu, la65, fun _ => none, pr65, po65, 0, 6⟩
noncomputable def Q65 (fu : Nat) : FQ (nEs [(80, 0), (81, 0), (88, 1), (89, 1), (110, 2), (111, 2)] [2, 2, 5]) := ⟨[(.st (.pr .bool (.pr .bool (.pr .bool (.pr (.st (.pr (.sl (.st (.pr (.int .i64) (.int .i64)))) (.sl (.st (.pr (.int .i64) (.int .i64)))))) (.st (.sl (.st (.pr .bool (.sl (.st (.pr (.int .u8) (.pr (.int .u8) (.int .i64))))))))))))))], [(.st (.pr .bool (.pr .bool (.pr .bool (.pr (.st (.pr (.sl (.st (.pr (.int .i64) (.int .i64)))) (.sl (.st (.pr (.int .i64) (.int .i64)))))) (.st (.sl (.st (.pr .bool (.sl (.st (.pr (.int .u8) (.pr (.int .u8) (.int .i64))))))))))))))], fden (cx65 fu) fu Tryz.f136 [(.st (.pr .bool (.pr .bool (.pr .bool (.pr (.st (.pr (.sl (.st (.pr (.int .i64) (.int .i64)))) (.sl (.st (.pr (.int .i64) (.int .i64)))))) (.st (.sl (.st (.pr .bool (.sl (.st (.pr (.int .u8) (.pr (.int .u8) (.int .i64))))))))))))))] [(.st (.pr .bool (.pr .bool (.pr .bool (.pr (.st (.pr (.sl (.st (.pr (.int .i64) (.int .i64)))) (.sl (.st (.pr (.int .i64) (.int .i64)))))) (.st (.sl (.st (.pr .bool (.sl (.st (.pr (.int .u8) (.pr (.int .u8) (.int .i64))))))))))))))]⟩
theorem zs65 (fu : Nat) : SoundQ Tryz.prog 136 (Q65 fu) := fden_ok (cx := cx65 fu) (h65 fu) follows ent136 Tryz.func136 rfl rfl
def la66 : Nat → Option Pat
  | 1 => some ⟨[.dat (.int .i64)], [(0, .keep), (1, .keep), (2, .keep), (3, .keep), (8, .v 0 (.int .i64))], [(0, .c 0)], 1⟩
  | 4 => some ⟨[], [(0, .keep), (1, .keep), (2, .keep), (3, .keep), (8, .keep), (9, .keep)], [(0, .c 0)], 1⟩
  | _ => none
def pr66 : Nat → List Gh := fun _ => []
def po66 : Nat → List Gh := fun _ => []
def ph66 (_ : Nat) : Nat → Option (CQ (nEs [(80, 0), (81, 0), (88, 1), (89, 1), (110, 2), (111, 2)] [2, 2, 5])) := fun _ => none
theorem h66 (fu : Nat) : ∀ f q, ph66 fu f = some q → SoundC Tryz.prog f q := fun _ _ h => by cases h
noncomputable def cx66 (fu : Nat) : Cx (nEs [(80, 0), (81, 0), (88, 1), (89, 1), (110, 2), (111, 2)] [2, 2, 5]) := ⟨Tryz.prog, ph66 fu, la66, fun _ => none, pr66, po66, 1, 53⟩
def pi66 : Pat := ⟨[.dat (.int .i64), .dat (.int .i64)], [(0, .nl), (1, .v 0 (.int .i64)), (2, .v 1 (.int .i64)), (3, .clo 207 [] [0])], [(0, .blk 83 [(1, .clo 141 [] [])])], 1⟩
def qo66 : Pat := ⟨[], [], [(0, .blk 83 [(1, .clo 141 [] [])])], 1⟩
noncomputable def Q66 (fu : Nat) : PQ (nEs [(80, 0), (81, 0), (88, 1), (89, 1), (110, 2), (111, 2)] [2, 2, 5]) := ⟨pi66, qo66, 0, [], fdenP (cx66 fu) fu Tryz.f331 pi66 qo66 0⟩
theorem zs66 (fu : Nat) : SoundP Tryz.prog 331 (Q66 fu) := fdenP_ok (cx := cx66 fu) (h66 fu) follows ent331 Tryz.func331 rfl rfl
def la67 : Nat → Option Pat
  | 1 => some ⟨[], [(0, .keep), (2, .keep), (3, .keep), (4, .keep), (10, .keep)], [(0, .c 0)], 1⟩
  | _ => none
def pr67 : Nat → List Gh := fun _ => []
def po67 : Nat → List Gh := fun _ => []
def ph67 (_ : Nat) : Nat → Option (CQ (nEs [(80, 0), (81, 0), (88, 1), (89, 1), (110, 2), (111, 2)] [2, 2, 5])) := fun _ => none
theorem h67 (fu : Nat) : ∀ f q, ph67 fu f = some q → SoundC Tryz.prog f q := fun _ _ h => by cases h
noncomputable def cx67 (fu : Nat) : Cx (nEs [(80, 0), (81, 0), (88, 1), (89, 1), (110, 2), (111, 2)] [2, 2, 5]) := ⟨Tryz.prog, ph67 fu, la67, fun _ => none, pr67, po67, 1, 82⟩
def pi67 : Pat := ⟨[.dat (.int .i64), .dat (.int .i64), .dat (.int .i64)], [(0, .nl), (1, .v 0 (.int .i64)), (2, .v 1 (.int .i64)), (3, .v 2 (.int .i64)), (4, .clo 207 [] [0])], [(0, .blk 83 [(1, .clo 141 [] [])])], 1⟩
def qo67 : Pat := ⟨[], [], [(0, .blk 83 [(1, .clo 141 [] [])])], 1⟩
noncomputable def Q67 (fu : Nat) : PQ (nEs [(80, 0), (81, 0), (88, 1), (89, 1), (110, 2), (111, 2)] [2, 2, 5]) := ⟨pi67, qo67, 0, [], fdenP (cx67 fu) fu Tryz.f385 pi67 qo67 0⟩
theorem zs67 (fu : Nat) : SoundP Tryz.prog 385 (Q67 fu) := fdenP_ok (cx := cx67 fu) (h67 fu) follows ent385 Tryz.func385 rfl rfl
def la68 : Nat → Option Pat
  | 4 => some ⟨[.dat (.int .i64)], [(0, .keep), (3, .keep), (8, .keep), (9, .keep), (10, .keep), (11, .v 0 (.int .i64))], [(0, .blk 83 [(1, .clo 141 [] [])])], 1⟩
  | 8 => some ⟨[], [(0, .keep), (3, .keep), (8, .keep), (9, .keep), (12, .keep)], [(0, .c 0)], 1⟩
  | _ => none
def pr68 : Nat → List Gh := fun _ => []
def po68 : Nat → List Gh := fun _ => []
noncomputable def ph68 (fu : Nat) : Nat → Option (CQ (nEs [(80, 0), (81, 0), (88, 1), (89, 1), (110, 2), (111, 2)] [2, 2, 5]))
  | 385 => some (.pats [Q67 fu])
  | _ => none
theorem h68 (fu : Nat) : ∀ f q, ph68 fu f = some q → SoundC Tryz.prog f q := by
  intro f q h
  unfold ph68 at h
  split at h
  · cases h; exact (patsC (zs67 fu) patsN)
  · cases h
noncomputable def cx68 (fu : Nat) : Cx (nEs [(80, 0), (81, 0), (88, 1), (89, 1), (110, 2), (111, 2)] [2, 2, 5]) := ⟨Tryz.prog, ph68 fu, la68, fun _ => none, pr68, po68, 1, 60⟩
def pi68 : Pat := ⟨[.dat (.int .i64), .dat (.int .i64)], [(0, .nl), (1, .v 0 (.int .i64)), (2, .v 1 (.int .i64)), (3, .clo 207 [] [0])], [(0, .blk 83 [(1, .clo 141 [] [])])], 1⟩
def qo68 : Pat := ⟨[], [], [(0, .blk 83 [(1, .clo 141 [] [])])], 1⟩
noncomputable def Q68 (fu : Nat) : PQ (nEs [(80, 0), (81, 0), (88, 1), (89, 1), (110, 2), (111, 2)] [2, 2, 5]) := ⟨pi68, qo68, 0, [], fdenP (cx68 fu) fu Tryz.f332 pi68 qo68 0⟩
theorem zs68 (fu : Nat) : SoundP Tryz.prog 332 (Q68 fu) := fdenP_ok (cx := cx68 fu) (h68 fu) follows ent332 Tryz.func332 rfl rfl
def la69 : Nat → Option Pat := fun _ => none
def pr69 : Nat → List Gh := fun _ => []
def po69 : Nat → List Gh := fun _ => []
def ph69 (_ : Nat) : Nat → Option (CQ (nEs [(80, 0), (81, 0), (88, 1), (89, 1), (110, 2), (111, 2)] [2, 2, 5])) := fun _ => none
theorem h69 (fu : Nat) : ∀ f q, ph69 fu f = some q → SoundC Tryz.prog f q := fun _ _ h => by cases h
noncomputable def cx69 (fu : Nat) : Cx (nEs [(80, 0), (81, 0), (88, 1), (89, 1), (110, 2), (111, 2)] [2, 2, 5]) := ⟨Tryz.prog, ph69 fu, la69, fun _ => none, pr69, po69, 1, 63⟩
def pi69 : Pat := ⟨[.dat (.int .i64), .dat (.int .i64)], [(0, .nl), (1, .v 0 (.int .i64)), (2, .v 1 (.int .i64)), (3, .clo 207 [] [0])], [(0, .blk 83 [(1, .clo 141 [] [])])], 1⟩
def qo69 : Pat := ⟨[.dat (.int .i64), .dat (.int .i64)], [(0, .v 0 (.int .i64)), (1, .v 1 (.int .i64))], [(0, .blk 83 [(1, .clo 141 [] [])])], 1⟩
noncomputable def Q69 (fu : Nat) : PQ (nEs [(80, 0), (81, 0), (88, 1), (89, 1), (110, 2), (111, 2)] [2, 2, 5]) := ⟨pi69, qo69, 2, [], fdenP (cx69 fu) fu Tryz.f334 pi69 qo69 2⟩
theorem zs69 (fu : Nat) : SoundP Tryz.prog 334 (Q69 fu) := fdenP_ok (cx := cx69 fu) (h69 fu) follows ent334 Tryz.func334 rfl rfl
def la70 : Nat → Option Pat
  | 2 => some ⟨[], [(0, .keep), (8, .keep), (9, .keep)], [(0, .c 0)], 1⟩
  | _ => none
def pr70 : Nat → List Gh := fun _ => []
def po70 : Nat → List Gh := fun _ => []
def ph70 (_ : Nat) : Nat → Option (CQ (nEs [(80, 0), (81, 0), (88, 1), (89, 1), (110, 2), (111, 2)] [2, 2, 5])) := fun _ => none
theorem h70 (fu : Nat) : ∀ f q, ph70 fu f = some q → SoundC Tryz.prog f q := fun _ _ h => by cases h
noncomputable def cx70 (fu : Nat) : Cx (nEs [(80, 0), (81, 0), (88, 1), (89, 1), (110, 2), (111, 2)] [2, 2, 5]) := ⟨Tryz.prog, ph70 fu, la70, fun _ => none, pr70, po70, 1, 34⟩
def pi70 : Pat := ⟨[.dat (.int .i64), .dat (.int .i64)], [(0, .nl), (1, .v 0 (.int .i64)), (2, .v 1 (.int .i64)), (3, .clo 207 [] [0])], [(0, .blk 83 [(1, .clo 141 [] [])])], 1⟩
def qo70 : Pat := ⟨[], [], [(0, .blk 83 [(1, .clo 141 [] [])])], 1⟩
noncomputable def Q70 (fu : Nat) : PQ (nEs [(80, 0), (81, 0), (88, 1), (89, 1), (110, 2), (111, 2)] [2, 2, 5]) := ⟨pi70, qo70, 0, [], fdenP (cx70 fu) fu Tryz.f335 pi70 qo70 0⟩
theorem zs70 (fu : Nat) : SoundP Tryz.prog 335 (Q70 fu) := fdenP_ok (cx := cx70 fu) (h70 fu) follows ent335 Tryz.func335 rfl rfl
def la71 : Nat → Option Pat
  | 3 => some ⟨[.nat], [(0, .keep), (1, .keep), (2, .keep), (3, .keep), (9, .keep), (10, .cnt 0 300)], [(0, .c 0)], 1⟩
  | 5 => some ⟨[], [(0, .keep), (1, .keep), (2, .keep), (3, .keep), (9, .keep), (10, .keep)], [(0, .c 0)], 1⟩
  | _ => none
def pr71 : Nat → List Gh := fun _ => []
def po71 : Nat → List Gh := fun _ => []
def ph71 (_ : Nat) : Nat → Option (CQ (nEs [(80, 0), (81, 0), (88, 1), (89, 1), (110, 2), (111, 2)] [2, 2, 5])) := fun _ => none
theorem h71 (fu : Nat) : ∀ f q, ph71 fu f = some q → SoundC Tryz.prog f q := fun _ _ h => by cases h
noncomputable def cx71 (fu : Nat) : Cx (nEs [(80, 0), (81, 0), (88, 1), (89, 1), (110, 2), (111, 2)] [2, 2, 5]) := ⟨Tryz.prog, ph71 fu, la71, fun _ => none, pr71, po71, 1, 141⟩
def pi71 : Pat := ⟨[.dat (.int .i64), .dat (.int .i64)], [(0, .nl), (1, .v 0 (.int .i64)), (2, .v 1 (.int .i64)), (3, .clo 207 [] [0])], [(0, .blk 83 [(1, .clo 141 [] [])])], 1⟩
def qo71 : Pat := ⟨[.dat .bool], [(0, .v 0 .bool)], [(0, .blk 83 [(1, .clo 141 [] [])])], 1⟩
noncomputable def Q71 (fu : Nat) : PQ (nEs [(80, 0), (81, 0), (88, 1), (89, 1), (110, 2), (111, 2)] [2, 2, 5]) := ⟨pi71, qo71, 1, [], fdenP (cx71 fu) fu Tryz.f336 pi71 qo71 1⟩
theorem zs71 (fu : Nat) : SoundP Tryz.prog 336 (Q71 fu) := fdenP_ok (cx := cx71 fu) (h71 fu) follows ent336 Tryz.func336 rfl rfl
def la72 : Nat → Option Pat
  | 2 => some ⟨[], [(0, .keep), (1, .keep), (2, .keep), (3, .keep), (4, .keep), (10, .keep), (11, .keep)], [(0, .c 0)], 1⟩
  | _ => none
def pr72 : Nat → List Gh := fun _ => []
def po72 : Nat → List Gh := fun _ => []
noncomputable def ph72 (fu : Nat) : Nat → Option (CQ (nEs [(80, 0), (81, 0), (88, 1), (89, 1), (110, 2), (111, 2)] [2, 2, 5]))
  | 331 => some (.pats [Q66 fu])
  | 332 => some (.pats [Q68 fu])
  | 334 => some (.pats [Q69 fu])
  | 335 => some (.pats [Q70 fu])
  | 336 => some (.pats [Q71 fu])
  | _ => none
theorem h72 (fu : Nat) : ∀ f q, ph72 fu f = some q → SoundC Tryz.prog f q := by
  intro f q h
  unfold ph72 at h
  split at h
  · cases h; exact (patsC (zs66 fu) patsN)
  · cases h; exact (patsC (zs68 fu) patsN)
  · cases h; exact (patsC (zs69 fu) patsN)
  · cases h; exact (patsC (zs70 fu) patsN)
  · cases h; exact (patsC (zs71 fu) patsN)
  · cases h
noncomputable def cx72 (fu : Nat) : Cx (nEs [(80, 0), (81, 0), (88, 1), (89, 1), (110, 2), (111, 2)] [2, 2, 5]) := ⟨Tryz.prog, ph72 fu, la72, fun _ => none, pr72, po72, 1, 148⟩
def pi72 : Pat := ⟨[.dat (.int .i64), .dat (.int .i64), .dat (.int .i64)], [(0, .nl), (1, .v 0 (.int .i64)), (2, .v 1 (.int .i64)), (3, .v 2 (.int .i64)), (4, .clo 207 [] [0])], [(0, .blk 83 [(1, .clo 141 [] [])])], 1⟩
def qo72 : Pat := ⟨[], [], [(0, .blk 83 [(1, .clo 141 [] [])])], 1⟩
noncomputable def Q72 (fu : Nat) : PQ (nEs [(80, 0), (81, 0), (88, 1), (89, 1), (110, 2), (111, 2)] [2, 2, 5]) := ⟨pi72, qo72, 0, [], fdenP (cx72 fu) fu Tryz.f277 pi72 qo72 0⟩
theorem zs72 (fu : Nat) : SoundP Tryz.prog 277 (Q72 fu) := fdenP_ok (cx := cx72 fu) (h72 fu) follows ent277 Tryz.func277 rfl rfl
def la73 : Nat → Option Pat := fun _ => none
def pr73 : Nat → List Gh := fun _ => []
def po73 : Nat → List Gh := fun _ => []
noncomputable def ph73 (fu : Nat) : Nat → Option (CQ (nEs [(80, 0), (81, 0), (88, 1), (89, 1), (110, 2), (111, 2)] [2, 2, 5]))
  | 43 => some (.dat (Q3 fu))
  | 277 => some (.pats [Q72 fu])
  | _ => none
theorem h73 (fu : Nat) : ∀ f q, ph73 fu f = some q → SoundC Tryz.prog f q := by
  intro f q h
  unfold ph73 at h
  split at h
  · cases h; exact zs3 fu
  · cases h; exact (patsC (zs72 fu) patsN)
  · cases h
noncomputable def cx73 (fu : Nat) : Cx (nEs [(80, 0), (81, 0), (88, 1), (89, 1), (110, 2), (111, 2)] [2, 2, 5]) := ⟨Tryz.prog, ph73 fu, la73, fun _ => none, pr73, po73, 1, 14⟩
def pi73 : Pat := ⟨[], [(0, .nl), (1, .clo 207 [] [0])], [(0, .blk 83 [(1, .clo 141 [] [])])], 1⟩
def qo73 : Pat := ⟨[], [], [(0, .blk 83 [(1, .clo 141 [] [])])], 1⟩
noncomputable def Q73 (fu : Nat) : PQ (nEs [(80, 0), (81, 0), (88, 1), (89, 1), (110, 2), (111, 2)] [2, 2, 5]) := ⟨pi73, qo73, 0, [], fdenP (cx73 fu) fu Tryz.f206 pi73 qo73 0⟩
theorem zs73 (fu : Nat) : SoundP Tryz.prog 206 (Q73 fu) := fdenP_ok (cx := cx73 fu) (h73 fu) follows ent206 Tryz.func206 rfl rfl
def la74 : Nat → Option Pat
  | 3 => some ⟨[.nat], [(0, .keep), (1, .keep), (5, .keep), (7, .keep), (12, .keep), (13, .keep), (14, .cnt 0 300)], [(0, .c 0)], 1⟩
  | _ => none
def pr74 : Nat → List Gh := fun _ => []
def po74 : Nat → List Gh := fun _ => []
noncomputable def ph74 (fu : Nat) : Nat → Option (CQ (nEs [(80, 0), (81, 0), (88, 1), (89, 1), (110, 2), (111, 2)] [2, 2, 5]))
  | 206 => some (.pats [Q73 fu])
  | _ => none
theorem h74 (fu : Nat) : ∀ f q, ph74 fu f = some q → SoundC Tryz.prog f q := by
  intro f q h
  unfold ph74 at h
  split at h
  · cases h; exact (patsC (zs73 fu) patsN)
  · cases h
noncomputable def cx74 (fu : Nat) : Cx (nEs [(80, 0), (81, 0), (88, 1), (89, 1), (110, 2), (111, 2)] [2, 2, 5]) := ⟨Tryz.prog, ph74 fu, la74, fun _ => none, pr74, po74, 0, 57⟩
def pi74 : Pat := ⟨[], [(0, .nl), (1, .clo 140 [] []), (2, .clo 141 [] [])], [], 0⟩
def qo74 : Pat := ⟨[.dat (.sl (.nm 0))], [(0, .v 0 (.sl (.nm 0)))], [], 0⟩
noncomputable def Q74 (fu : Nat) : PQ (nEs [(80, 0), (81, 0), (88, 1), (89, 1), (110, 2), (111, 2)] [2, 2, 5]) := ⟨pi74, qo74, 1, [], fdenP (cx74 fu) fu Tryz.f139 pi74 qo74 1⟩
theorem zs74 (fu : Nat) : SoundP Tryz.prog 139 (Q74 fu) := fdenP_ok (cx := cx74 fu) (h74 fu) follows ent139 Tryz.func139 rfl rfl
def la75 : Nat → Option Pat
  | 1 => some ⟨[.dat (.int .i64)], [(0, .keep), (1, .keep), (2, .keep), (3, .keep), (8, .v 0 (.int .i64))], [(0, .c 0)], 1⟩
  | 4 => some ⟨[], [(0, .keep), (1, .keep), (2, .keep), (3, .keep), (8, .keep), (9, .keep)], [(0, .c 0)], 1⟩
  | _ => none
def pr75 : Nat → List Gh := fun _ => []
def po75 : Nat → List Gh := fun _ => []
def ph75 (_ : Nat) : Nat → Option (CQ (nEs [(80, 0), (81, 0), (88, 1), (89, 1), (110, 2), (111, 2)] [2, 2, 5])) := fun _ => none
theorem h75 (fu : Nat) : ∀ f q, ph75 fu f = some q → SoundC Tryz.prog f q := fun _ _ h => by cases h
noncomputable def cx75 (fu : Nat) : Cx (nEs [(80, 0), (81, 0), (88, 1), (89, 1), (110, 2), (111, 2)] [2, 2, 5]) := ⟨Tryz.prog, ph75 fu, la75, fun _ => none, pr75, po75, 1, 53⟩
def pi75 : Pat := ⟨[.dat (.int .i64), .dat (.int .i64)], [(0, .nl), (1, .v 0 (.int .i64)), (2, .v 1 (.int .i64)), (3, .clo 211 [] [0])], [(0, .blk 90 [(1, .clo 144 [] [])])], 1⟩
def qo75 : Pat := ⟨[], [], [(0, .blk 90 [(1, .clo 144 [] [])])], 1⟩
noncomputable def Q75 (fu : Nat) : PQ (nEs [(80, 0), (81, 0), (88, 1), (89, 1), (110, 2), (111, 2)] [2, 2, 5]) := ⟨pi75, qo75, 0, [], fdenP (cx75 fu) fu Tryz.f349 pi75 qo75 0⟩
theorem zs75 (fu : Nat) : SoundP Tryz.prog 349 (Q75 fu) := fdenP_ok (cx := cx75 fu) (h75 fu) follows ent349 Tryz.func349 rfl rfl
def la76 : Nat → Option Pat
  | 1 => some ⟨[], [(0, .keep), (2, .keep), (3, .keep), (4, .keep), (10, .keep)], [(0, .c 0)], 1⟩
  | _ => none
def pr76 : Nat → List Gh := fun _ => []
def po76 : Nat → List Gh := fun _ => []
def ph76 (_ : Nat) : Nat → Option (CQ (nEs [(80, 0), (81, 0), (88, 1), (89, 1), (110, 2), (111, 2)] [2, 2, 5])) := fun _ => none
theorem h76 (fu : Nat) : ∀ f q, ph76 fu f = some q → SoundC Tryz.prog f q := fun _ _ h => by cases h
noncomputable def cx76 (fu : Nat) : Cx (nEs [(80, 0), (81, 0), (88, 1), (89, 1), (110, 2), (111, 2)] [2, 2, 5]) := ⟨Tryz.prog, ph76 fu, la76, fun _ => none, pr76, po76, 1, 82⟩
def pi76 : Pat := ⟨[.dat (.int .i64), .dat (.int .i64), .dat (.int .i64)], [(0, .nl), (1, .v 0 (.int .i64)), (2, .v 1 (.int .i64)), (3, .v 2 (.int .i64)), (4, .clo 211 [] [0])], [(0, .blk 90 [(1, .clo 144 [] [])])], 1⟩
def qo76 : Pat := ⟨[], [], [(0, .blk 90 [(1, .clo 144 [] [])])], 1⟩
noncomputable def Q76 (fu : Nat) : PQ (nEs [(80, 0), (81, 0), (88, 1), (89, 1), (110, 2), (111, 2)] [2, 2, 5]) := ⟨pi76, qo76, 0, [], fdenP (cx76 fu) fu Tryz.f404 pi76 qo76 0⟩
theorem zs76 (fu : Nat) : SoundP Tryz.prog 404 (Q76 fu) := fdenP_ok (cx := cx76 fu) (h76 fu) follows ent404 Tryz.func404 rfl rfl
def la77 : Nat → Option Pat
  | 4 => some ⟨[.dat (.int .i64)], [(0, .keep), (3, .keep), (8, .keep), (9, .keep), (10, .keep), (11, .v 0 (.int .i64))], [(0, .blk 90 [(1, .clo 144 [] [])])], 1⟩
  | 8 => some ⟨[], [(0, .keep), (3, .keep), (8, .keep), (9, .keep), (12, .keep)], [(0, .c 0)], 1⟩
  | _ => none
def pr77 : Nat → List Gh := fun _ => []
def po77 : Nat → List Gh := fun _ => []
noncomputable def ph77 (fu : Nat) : Nat → Option (CQ (nEs [(80, 0), (81, 0), (88, 1), (89, 1), (110, 2), (111, 2)] [2, 2, 5]))
  | 404 => some (.pats [Q76 fu])
  | _ => none
theorem h77 (fu : Nat) : ∀ f q, ph77 fu f = some q → SoundC Tryz.prog f q := by
  intro f q h
  unfold ph77 at h
  split at h
  · cases h; exact (patsC (zs76 fu) patsN)
  · cases h
noncomputable def cx77 (fu : Nat) : Cx (nEs [(80, 0), (81, 0), (88, 1), (89, 1), (110, 2), (111, 2)] [2, 2, 5]) := ⟨Tryz.prog, ph77 fu, la77, fun _ => none, pr77, po77, 1, 60⟩
def pi77 : Pat := ⟨[.dat (.int .i64), .dat (.int .i64)], [(0, .nl), (1, .v 0 (.int .i64)), (2, .v 1 (.int .i64)), (3, .clo 211 [] [0])], [(0, .blk 90 [(1, .clo 144 [] [])])], 1⟩
def qo77 : Pat := ⟨[], [], [(0, .blk 90 [(1, .clo 144 [] [])])], 1⟩
noncomputable def Q77 (fu : Nat) : PQ (nEs [(80, 0), (81, 0), (88, 1), (89, 1), (110, 2), (111, 2)] [2, 2, 5]) := ⟨pi77, qo77, 0, [], fdenP (cx77 fu) fu Tryz.f350 pi77 qo77 0⟩
theorem zs77 (fu : Nat) : SoundP Tryz.prog 350 (Q77 fu) := fdenP_ok (cx := cx77 fu) (h77 fu) follows ent350 Tryz.func350 rfl rfl
def la78 : Nat → Option Pat := fun _ => none
def pr78 : Nat → List Gh := fun _ => []
def po78 : Nat → List Gh := fun _ => []
def ph78 (_ : Nat) : Nat → Option (CQ (nEs [(80, 0), (81, 0), (88, 1), (89, 1), (110, 2), (111, 2)] [2, 2, 5])) := fun _ => none
theorem h78 (fu : Nat) : ∀ f q, ph78 fu f = some q → SoundC Tryz.prog f q := fun _ _ h => by cases h
noncomputable def cx78 (fu : Nat) : Cx (nEs [(80, 0), (81, 0), (88, 1), (89, 1), (110, 2), (111, 2)] [2, 2, 5]) := ⟨Tryz.prog, ph78 fu, la78, fun _ => none, pr78, po78, 1, 63⟩
def pi78 : Pat := ⟨[.dat (.int .i64), .dat (.int .i64)], [(0, .nl), (1, .v 0 (.int .i64)), (2, .v 1 (.int .i64)), (3, .clo 211 [] [0])], [(0, .blk 90 [(1, .clo 144 [] [])])], 1⟩
def qo78 : Pat := ⟨[.dat (.int .i64), .dat (.int .i64)], [(0, .v 0 (.int .i64)), (1, .v 1 (.int .i64))], [(0, .blk 90 [(1, .clo 144 [] [])])], 1⟩
noncomputable def Q78 (fu : Nat) : PQ (nEs [(80, 0), (81, 0), (88, 1), (89, 1), (110, 2), (111, 2)] [2, 2, 5]) := ⟨pi78, qo78, 2, [], fdenP (cx78 fu) fu Tryz.f352 pi78 qo78 2⟩
theorem zs78 (fu : Nat) : SoundP Tryz.prog 352 (Q78 fu) := fdenP_ok (cx := cx78 fu) (h78 fu) follows ent352 Tryz.func352 rfl rfl
def la79 : Nat → Option Pat
  | 2 => some ⟨[], [(0, .keep), (8, .keep), (9, .keep)], [(0, .c 0)], 1⟩
  | _ => none
def pr79 : Nat → List Gh := fun _ => []
def po79 : Nat → List Gh := fun _ => []
def ph79 (_ : Nat) : Nat → Option (CQ (nEs [(80, 0), (81, 0), (88, 1), (89, 1), (110, 2), (111, 2)] [2, 2, 5])) := fun _ => none
theorem h79 (fu : Nat) : ∀ f q, ph79 fu f = some q → SoundC Tryz.prog f q := fun _ _ h => by cases h
noncomputable def cx79 (fu : Nat) : Cx (nEs [(80, 0), (81, 0), (88, 1), (89, 1), (110, 2), (111, 2)] [2, 2, 5]) := ⟨Tryz.prog, ph79 fu, la79, fun _ => none, pr79, po79, 1, 34⟩
def pi79 : Pat := ⟨[.dat (.int .i64), .dat (.int .i64)], [(0, .nl), (1, .v 0 (.int .i64)), (2, .v 1 (.int .i64)), (3, .clo 211 [] [0])], [(0, .blk 90 [(1, .clo 144 [] [])])], 1⟩
def qo79 : Pat := ⟨[], [], [(0, .blk 90 [(1, .clo 144 [] [])])], 1⟩
noncomputable def Q79 (fu : Nat) : PQ (nEs [(80, 0), (81, 0), (88, 1), (89, 1), (110, 2), (111, 2)] [2, 2, 5]) := ⟨pi79, qo79, 0, [], fdenP (cx79 fu) fu Tryz.f353 pi79 qo79 0⟩
theorem zs79 (fu : Nat) : SoundP Tryz.prog 353 (Q79 fu) := fdenP_ok (cx := cx79 fu) (h79 fu) follows ent353 Tryz.func353 rfl rfl
def la80 : Nat → Option Pat
  | 3 => some ⟨[.nat], [(0, .keep), (1, .keep), (2, .keep), (3, .keep), (9, .keep), (10, .cnt 0 300)], [(0, .c 0)], 1⟩
  | 5 => some ⟨[], [(0, .keep), (1, .keep), (2, .keep), (3, .keep), (9, .keep), (10, .keep)], [(0, .c 0)], 1⟩
  | _ => none
def pr80 : Nat → List Gh := fun _ => []
def po80 : Nat → List Gh := fun _ => []
def ph80 (_ : Nat) : Nat → Option (CQ (nEs [(80, 0), (81, 0), (88, 1), (89, 1), (110, 2), (111, 2)] [2, 2, 5])) := fun _ => none
theorem h80 (fu : Nat) : ∀ f q, ph80 fu f = some q → SoundC Tryz.prog f q := fun _ _ h => by cases h
noncomputable def cx80 (fu : Nat) : Cx (nEs [(80, 0), (81, 0), (88, 1), (89, 1), (110, 2), (111, 2)] [2, 2, 5]) := ⟨Tryz.prog, ph80 fu, la80, fun _ => none, pr80, po80, 1, 141⟩
def pi80 : Pat := ⟨[.dat (.int .i64), .dat (.int .i64)], [(0, .nl), (1, .v 0 (.int .i64)), (2, .v 1 (.int .i64)), (3, .clo 211 [] [0])], [(0, .blk 90 [(1, .clo 144 [] [])])], 1⟩
def qo80 : Pat := ⟨[.dat .bool], [(0, .v 0 .bool)], [(0, .blk 90 [(1, .clo 144 [] [])])], 1⟩
noncomputable def Q80 (fu : Nat) : PQ (nEs [(80, 0), (81, 0), (88, 1), (89, 1), (110, 2), (111, 2)] [2, 2, 5]) := ⟨pi80, qo80, 1, [], fdenP (cx80 fu) fu Tryz.f354 pi80 qo80 1⟩
theorem zs80 (fu : Nat) : SoundP Tryz.prog 354 (Q80 fu) := fdenP_ok (cx := cx80 fu) (h80 fu) follows ent354 Tryz.func354 rfl rfl
def la81 : Nat → Option Pat
  | 2 => some ⟨[], [(0, .keep), (1, .keep), (2, .keep), (3, .keep), (4, .keep), (10, .keep), (11, .keep)], [(0, .c 0)], 1⟩
  | _ => none
def pr81 : Nat → List Gh := fun _ => []
def po81 : Nat → List Gh := fun _ => []
noncomputable def ph81 (fu : Nat) : Nat → Option (CQ (nEs [(80, 0), (81, 0), (88, 1), (89, 1), (110, 2), (111, 2)] [2, 2, 5]))
  | 349 => some (.pats [Q75 fu])
  | 350 => some (.pats [Q77 fu])
  | 352 => some (.pats [Q78 fu])
  | 353 => some (.pats [Q79 fu])
  | 354 => some (.pats [Q80 fu])
  | _ => none
theorem h81 (fu : Nat) : ∀ f q, ph81 fu f = some q → SoundC Tryz.prog f q := by
  intro f q h
  unfold ph81 at h
  split at h
  · cases h; exact (patsC (zs75 fu) patsN)
  · cases h; exact (patsC (zs77 fu) patsN)
  · cases h; exact (patsC (zs78 fu) patsN)
  · cases h; exact (patsC (zs79 fu) patsN)
  · cases h; exact (patsC (zs80 fu) patsN)
  · cases h
noncomputable def cx81 (fu : Nat) : Cx (nEs [(80, 0), (81, 0), (88, 1), (89, 1), (110, 2), (111, 2)] [2, 2, 5]) := ⟨Tryz.prog, ph81 fu, la81, fun _ => none, pr81, po81, 1, 148⟩
def pi81 : Pat := ⟨[.dat (.int .i64), .dat (.int .i64), .dat (.int .i64)], [(0, .nl), (1, .v 0 (.int .i64)), (2, .v 1 (.int .i64)), (3, .v 2 (.int .i64)), (4, .clo 211 [] [0])], [(0, .blk 90 [(1, .clo 144 [] [])])], 1⟩
def qo81 : Pat := ⟨[], [], [(0, .blk 90 [(1, .clo 144 [] [])])], 1⟩
noncomputable def Q81 (fu : Nat) : PQ (nEs [(80, 0), (81, 0), (88, 1), (89, 1), (110, 2), (111, 2)] [2, 2, 5]) := ⟨pi81, qo81, 0, [], fdenP (cx81 fu) fu Tryz.f279 pi81 qo81 0⟩
theorem zs81 (fu : Nat) : SoundP Tryz.prog 279 (Q81 fu) := fdenP_ok (cx := cx81 fu) (h81 fu) follows ent279 Tryz.func279 rfl rfl
def la82 : Nat → Option Pat := fun _ => none
def pr82 : Nat → List Gh := fun _ => []
def po82 : Nat → List Gh := fun _ => []
noncomputable def ph82 (fu : Nat) : Nat → Option (CQ (nEs [(80, 0), (81, 0), (88, 1), (89, 1), (110, 2), (111, 2)] [2, 2, 5]))
  | 43 => some (.dat (Q3 fu))
  | 279 => some (.pats [Q81 fu])
  | _ => none
theorem h82 (fu : Nat) : ∀ f q, ph82 fu f = some q → SoundC Tryz.prog f q := by
  intro f q h
  unfold ph82 at h
  split at h
  · cases h; exact zs3 fu
  · cases h; exact (patsC (zs81 fu) patsN)
  · cases h
noncomputable def cx82 (fu : Nat) : Cx (nEs [(80, 0), (81, 0), (88, 1), (89, 1), (110, 2), (111, 2)] [2, 2, 5]) := ⟨Tryz.prog, ph82 fu, la82, fun _ => none, pr82, po82, 1, 14⟩
def pi82 : Pat := ⟨[], [(0, .nl), (1, .clo 211 [] [0])], [(0, .blk 90 [(1, .clo 144 [] [])])], 1⟩
def qo82 : Pat := ⟨[], [], [(0, .blk 90 [(1, .clo 144 [] [])])], 1⟩
noncomputable def Q82 (fu : Nat) : PQ (nEs [(80, 0), (81, 0), (88, 1), (89, 1), (110, 2), (111, 2)] [2, 2, 5]) := ⟨pi82, qo82, 0, [], fdenP (cx82 fu) fu Tryz.f210 pi82 qo82 0⟩
theorem zs82 (fu : Nat) : SoundP Tryz.prog 210 (Q82 fu) := fdenP_ok (cx := cx82 fu) (h82 fu) follows ent210 Tryz.func210 rfl rfl
def la83 : Nat → Option Pat
  | 3 => some ⟨[.nat], [(0, .keep), (1, .keep), (5, .keep), (7, .keep), (12, .keep), (13, .keep), (14, .cnt 0 300)], [(0, .c 0)], 1⟩
  | _ => none
def pr83 : Nat → List Gh := fun _ => []
def po83 : Nat → List Gh := fun _ => []
noncomputable def ph83 (fu : Nat) : Nat → Option (CQ (nEs [(80, 0), (81, 0), (88, 1), (89, 1), (110, 2), (111, 2)] [2, 2, 5]))
  | 210 => some (.pats [Q82 fu])
  | _ => none
theorem h83 (fu : Nat) : ∀ f q, ph83 fu f = some q → SoundC Tryz.prog f q := by
  intro f q h
  unfold ph83 at h
  split at h
  · cases h; exact (patsC (zs82 fu) patsN)
  · cases h
noncomputable def cx83 (fu : Nat) : Cx (nEs [(80, 0), (81, 0), (88, 1), (89, 1), (110, 2), (111, 2)] [2, 2, 5]) := ⟨Tryz.prog, ph83 fu, la83, fun _ => none, pr83, po83, 0, 57⟩
def pi83 : Pat := ⟨[], [(0, .nl), (1, .clo 143 [] []), (2, .clo 144 [] [])], [], 0⟩
def qo83 : Pat := ⟨[.dat (.sl (.nm 1))], [(0, .v 0 (.sl (.nm 1)))], [], 0⟩
noncomputable def Q83 (fu : Nat) : PQ (nEs [(80, 0), (81, 0), (88, 1), (89, 1), (110, 2), (111, 2)] [2, 2, 5]) := ⟨pi83, qo83, 1, [], fdenP (cx83 fu) fu Tryz.f142 pi83 qo83 1⟩
theorem zs83 (fu : Nat) : SoundP Tryz.prog 142 (Q83 fu) := fdenP_ok (cx := cx83 fu) (h83 fu) follows ent142 Tryz.func142 rfl rfl
def la84 : Nat → Option Pat := fun _ => none
def pr84 : Nat → List Gh := fun _ => []
def po84 : Nat → List Gh
  | 1 => [.fzb 0 0]
  | _ => []
def ph84 (_ : Nat) : Nat → Option (CQ (nEs [(80, 0), (81, 0), (88, 1), (89, 1), (110, 2), (111, 2)] [2, 2, 5])) := fun _ => none
theorem h84 (fu : Nat) : ∀ f q, ph84 fu f = some q → SoundC Tryz.prog f q := fun _ _ h => by cases h
noncomputable def cx84 (fu : Nat) : Cx (nEs [(80, 0), (81, 0), (88, 1), (89, 1), (110, 2), (111, 2)] [2, 2, 5]) := ⟨Tryz.prog, ph84 fu, la84, fun _ => none, pr84, po84, 0, 4⟩
noncomputable def Q84 (fu : Nat) : FQ (nEs [(80, 0), (81, 0), (88, 1), (89, 1), (110, 2), (111, 2)] [2, 2, 5]) := ⟨[], [(.st (.pr (.sl (.st (.pr (.int .i64) (.int .i64)))) (.sl (.st (.pr (.int .i64) (.int .i64))))))], fden (cx84 fu) fu Tryz.f357 [] [(.st (.pr (.sl (.st (.pr (.int .i64) (.int .i64)))) (.sl (.st (.pr (.int .i64) (.int .i64))))))]⟩
theorem zs84 (fu : Nat) : SoundQ Tryz.prog 357 (Q84 fu) := fden_ok (cx := cx84 fu) (h84 fu) follows ent357 Tryz.func357 rfl rfl
def la85 : Nat → Option Pat := fun _ => none
def pr85 : Nat → List Gh := fun _ => []
def po85 : Nat → List Gh
  | 3 => [.fzb 0 1]
  | _ => []
noncomputable def ph85 (fu : Nat) : Nat → Option (CQ (nEs [(80, 0), (81, 0), (88, 1), (89, 1), (110, 2), (111, 2)] [2, 2, 5]))
  | 357 => some (.dat (Q84 fu))
  | _ => none
theorem h85 (fu : Nat) : ∀ f q, ph85 fu f = some q → SoundC Tryz.prog f q := by
  intro f q h
  unfold ph85 at h
  split at h
  · cases h; exact zs84 fu
  · cases h
noncomputable def cx85 (fu : Nat) : Cx (nEs [(80, 0), (81, 0), (88, 1), (89, 1), (110, 2), (111, 2)] [2, 2, 5]) := ⟨Tryz.prog, ph85 fu, la85, fun _ => none, pr85, po85, 0, 7⟩
noncomputable def Q85 (fu : Nat) : FQ (nEs [(80, 0), (81, 0), (88, 1), (89, 1), (110, 2), (111, 2)] [2, 2, 5]) := ⟨[], [(.st (.pr (.sl (.st (.pr (.int .i64) (.int .i64)))) (.sl (.st (.pr (.int .i64) (.int .i64))))))], fden (cx85 fu) fu Tryz.f281 [] [(.st (.pr (.sl (.st (.pr (.int .i64) (.int .i64)))) (.sl (.st (.pr (.int .i64) (.int .i64))))))]⟩
theorem zs85 (fu : Nat) : SoundQ Tryz.prog 281 (Q85 fu) := fden_ok (cx := cx85 fu) (h85 fu) follows ent281 Tryz.func281 rfl rfl
def la86 : Nat → Option Pat := fun _ => none
def pr86 : Nat → List Gh := fun _ => []
def po86 : Nat → List Gh
  | 1 => [.fzb 0 0]
  | _ => []
def ph86 (_ : Nat) : Nat → Option (CQ (nEs [(80, 0), (81, 0), (88, 1), (89, 1), (110, 2), (111, 2)] [2, 2, 5])) := fun _ => none
theorem h86 (fu : Nat) : ∀ f q, ph86 fu f = some q → SoundC Tryz.prog f q := fun _ _ h => by cases h
noncomputable def cx86 (fu : Nat) : Cx (nEs [(80, 0), (81, 0), (88, 1), (89, 1), (110, 2), (111, 2)] [2, 2, 5]) := ⟨Tryz.prog, ph86 fu, la86, fun _ => none, pr86, po86, 0, 6⟩
noncomputable def Q86 (fu : Nat) : FQ (nEs [(80, 0), (81, 0), (88, 1), (89, 1), (110, 2), (111, 2)] [2, 2, 5]) := ⟨[], [(.st (.sl (.st (.pr .bool (.sl (.st (.pr (.int .u8) (.pr (.int .u8) (.int .i64)))))))))], fden (cx86 fu) fu Tryz.f282 [] [(.st (.sl (.st (.pr .bool (.sl (.st (.pr (.int .u8) (.pr (.int .u8) (.int .i64)))))))))]⟩
theorem zs86 (fu : Nat) : SoundQ Tryz.prog 282 (Q86 fu) := fden_ok (cx := cx86 fu) (h86 fu) follows ent282 Tryz.func282 rfl rfl
def la87 : Nat → Option Pat := fun _ => none
def pr87 : Nat → List Gh := fun _ => []
def po87 : Nat → List Gh := fun _ => []
noncomputable def ph87 (fu : Nat) : Nat → Option (CQ (nEs [(80, 0), (81, 0), (88, 1), (89, 1), (110, 2), (111, 2)] [2, 2, 5]))
  | 281 => some (.dat (Q85 fu))
  | 282 => some (.dat (Q86 fu))
  | _ => none
theorem h87 (fu : Nat) : ∀ f q, ph87 fu f = some q → SoundC Tryz.prog f q := by
  intro f q h
  unfold ph87 at h
  split at h
  · cases h; exact zs85 fu
  · cases h; exact zs86 fu
  · cases h
noncomputable def cx87 (fu : Nat) : Cx (nEs [(80, 0), (81, 0), (88, 1), (89, 1), (110, 2), (111, 2)] [2, 2, 5]) := ⟨Tryz.prog, ph87 fu, la87, fun _ => none, pr87, po87, 0, 4⟩
noncomputable def Q87 (fu : Nat) : FQ (nEs [(80, 0), (81, 0), (88, 1), (89, 1), (110, 2), (111, 2)] [2, 2, 5]) := ⟨[], [(.st (.pr .bool (.pr .bool (.pr .bool (.pr (.st (.pr (.sl (.st (.pr (.int .i64) (.int .i64)))) (.sl (.st (.pr (.int .i64) (.int .i64)))))) (.st (.sl (.st (.pr .bool (.sl (.st (.pr (.int .u8) (.pr (.int .u8) (.int .i64))))))))))))))], fden (cx87 fu) fu Tryz.f213 [] [(.st (.pr .bool (.pr .bool (.pr .bool (.pr (.st (.pr (.sl (.st (.pr (.int .i64) (.int .i64)))) (.sl (.st (.pr (.int .i64) (.int .i64)))))) (.st (.sl (.st (.pr .bool (.sl (.st (.pr (.int .u8) (.pr (.int .u8) (.int .i64))))))))))))))]⟩
theorem zs87 (fu : Nat) : SoundQ Tryz.prog 213 (Q87 fu) := fden_ok (cx := cx87 fu) (h87 fu) follows ent213 Tryz.func213 rfl rfl
def la88 : Nat → Option Pat := fun _ => none
def pr88 : Nat → List Gh := fun _ => []
def po88 : Nat → List Gh := fun _ => []
def ph88 (_ : Nat) : Nat → Option (CQ (nEs [(80, 0), (81, 0), (88, 1), (89, 1), (110, 2), (111, 2)] [2, 2, 5])) := fun _ => none
theorem h88 (fu : Nat) : ∀ f q, ph88 fu f = some q → SoundC Tryz.prog f q := fun _ _ h => by cases h
noncomputable def cx88 (fu : Nat) : Cx (nEs [(80, 0), (81, 0), (88, 1), (89, 1), (110, 2), (111, 2)] [2, 2, 5]) := ⟨Tryz.prog, ph88 fu, la88, fun _ => none, pr88, po88, 0, 10⟩
def pi88 : Pat := ⟨[.dat (.sl (.st (.pr (.int .i64) (.int .i64)))), .dat (.st (.pr (.int .i64) (.int .i64)))], [(0, .v 0 (.sl (.st (.pr (.int .i64) (.int .i64))))), (1, .v 1 (.st (.pr (.int .i64) (.int .i64)))), (2, .clo 247 [] []), (3, .clo 409 [] [])], [], 0⟩
def qo88 : Pat := ⟨[.dat (.st (.pr (.int .i64) (.int .i64))), .dat (.sl (.st (.pr (.int .i64) (.int .i64))))], [(0, .clo 433 [] [0, 1, 2, 3])], [(0, .blk 52 [(2, .v 0 (.st (.pr (.int .i64) (.int .i64))))]), (1, .blk 23 [(1, .v 1 (.sl (.st (.pr (.int .i64) (.int .i64)))))]), (2, .blk 255 [(1, .clo 409 [] [])]), (3, .blk 255 [(1, .clo 247 [] [])])], 4⟩
noncomputable def Q88 (fu : Nat) : PQ (nEs [(80, 0), (81, 0), (88, 1), (89, 1), (110, 2), (111, 2)] [2, 2, 5]) := ⟨pi88, qo88, 1, [], fdenP (cx88 fu) fu Tryz.f408 pi88 qo88 1⟩
theorem zs88 (fu : Nat) : SoundP Tryz.prog 408 (Q88 fu) := fdenP_ok (cx := cx88 fu) (h88 fu) follows ent408 Tryz.func408 rfl rfl
def la89 : Nat → Option Pat := fun _ => none
def pr89 : Nat → List Gh := fun _ => []
def po89 : Nat → List Gh := fun _ => []
def ph89 (_ : Nat) : Nat → Option (CQ (nEs [(80, 0), (81, 0), (88, 1), (89, 1), (110, 2), (111, 2)] [2, 2, 5])) := fun _ => none
theorem h89 (fu : Nat) : ∀ f q, ph89 fu f = some q → SoundC Tryz.prog f q := fun _ _ h => by cases h
noncomputable def cx89 (fu : Nat) : Cx (nEs [(80, 0), (81, 0), (88, 1), (89, 1), (110, 2), (111, 2)] [2, 2, 5]) := ⟨Tryz.prog, ph89 fu, la89, fun _ => none, pr89, po89, 0, 5⟩
noncomputable def Q89 (fu : Nat) : FQ (nEs [(80, 0), (81, 0), (88, 1), (89, 1), (110, 2), (111, 2)] [2, 2, 5]) := ⟨[(.int .i64)], [(.int .i64)], fden (cx89 fu) fu Tryz.f409 [(.int .i64)] [(.int .i64)]⟩
theorem zs89 (fu : Nat) : SoundQ Tryz.prog 409 (Q89 fu) := fden_ok (cx := cx89 fu) (h89 fu) follows ent409 Tryz.func409 rfl rfl
def la90 : Nat → Option Pat
  | 2 => some ⟨[.dat (.int .i64), .nat], [(0, .keep), (1, .keep), (3, .keep), (4, .keep), (6, .v 0 (.int .i64)), (13, .keep), (14, .keep), (15, .cnt 1 201)], [(3, .c 0), (2, .c 0), (0, .c 0), (1, .c 0)], 5⟩
  | _ => none
def pr90 : Nat → List Gh := fun _ => []
def po90 : Nat → List Gh := fun _ => []
noncomputable def ph90 (fu : Nat) : Nat → Option (CQ (nEs [(80, 0), (81, 0), (88, 1), (89, 1), (110, 2), (111, 2)] [2, 2, 5]))
  | 247 => some (.dat (Q20 fu))
  | 409 => some (.dat (Q89 fu))
  | _ => none
theorem h90 (fu : Nat) : ∀ f q, ph90 fu f = some q → SoundC Tryz.prog f q := by
  intro f q h
  unfold ph90 at h
  split at h
  · cases h; exact zs20 fu
  · cases h; exact zs89 fu
  · cases h
noncomputable def cx90 (fu : Nat) : Cx (nEs [(80, 0), (81, 0), (88, 1), (89, 1), (110, 2), (111, 2)] [2, 2, 5]) := ⟨Tryz.prog, ph90 fu, la90, fun _ => none, pr90, po90, 4, 53⟩
def pi90 : Pat := ⟨[.dat (.st (.pr (.int .i64) (.int .i64))), .dat (.sl (.st (.pr (.int .i64) (.int .i64))))], [(0, .keep), (1, .loc 0 0), (2, .loc 1 0), (3, .loc 2 0), (4, .loc 3 0)], [(0, .blk 52 [(2, .v 0 (.st (.pr (.int .i64) (.int .i64))))]), (1, .blk 23 [(1, .v 1 (.sl (.st (.pr (.int .i64) (.int .i64)))))]), (2, .blk 255 [(1, .clo 409 [] [])]), (3, .blk 255 [(1, .clo 247 [] [])])], 4⟩
noncomputable def Q90 (fu : Nat) : IQ (nEs [(80, 0), (81, 0), (88, 1), (89, 1), (110, 2), (111, 2)] [2, 2, 5]) := ⟨pi90, 0, [(.st (.pr (.int .i64) (.int .i64)))], fdenI (cx90 fu) fu Tryz.f433 pi90 0 [(.st (.pr (.int .i64) (.int .i64)))]⟩
theorem zs90 (fu : Nat) : SoundI Tryz.prog 433 (Q90 fu) := fdenI_ok (cx := cx90 fu) (h90 fu) follows ent433 Tryz.func433 rfl rfl
def la91 : Nat → Option Pat
  | 2 => some ⟨[.dat (.sl (.st (.pr (.int .i64) (.int .i64))))], [(2, .keep), (4, .keep), (6, .keep)], [(4, .blk 23 [(1, .hdr 6)]), (6, .row 52 0)], 7⟩
  | _ => none
def pr91 : Nat → List Gh := fun _ => []
def po91 : Nat → List Gh
  | 1 => [.ownb 2 0 52 (.st (.pr (.int .i64) (.int .i64)))]
  | 4 => [.fz 4]
  | _ => []
noncomputable def ph91 (fu : Nat) : Nat → Option (CQ (nEs [(80, 0), (81, 0), (88, 1), (89, 1), (110, 2), (111, 2)] [2, 2, 5]))
  | 433 => some (.its [Q90 fu])
  | _ => none
theorem h91 (fu : Nat) : ∀ f q, ph91 fu f = some q → SoundC Tryz.prog f q := by
  intro f q h
  unfold ph91 at h
  split at h
  · cases h; exact (itsC (zs90 fu) itsN)
  · cases h
noncomputable def cx91 (fu : Nat) : Cx (nEs [(80, 0), (81, 0), (88, 1), (89, 1), (110, 2), (111, 2)] [2, 2, 5]) := ⟨Tryz.prog, ph91 fu, la91, fun _ => none, pr91, po91, 4, 13⟩
def pi91 : Pat := ⟨[.dat (.st (.pr (.int .i64) (.int .i64))), .dat (.sl (.st (.pr (.int .i64) (.int .i64))))], [(0, .nl), (1, .clo 433 [] [0, 1, 2, 3])], [(0, .blk 52 [(2, .v 0 (.st (.pr (.int .i64) (.int .i64))))]), (1, .blk 23 [(1, .v 1 (.sl (.st (.pr (.int .i64) (.int .i64)))))]), (2, .blk 255 [(1, .clo 409 [] [])]), (3, .blk 255 [(1, .clo 247 [] [])])], 4⟩
def qo91 : Pat := ⟨[.dat (.sl (.st (.pr (.int .i64) (.int .i64)))), .dat (.st (.pr (.int .i64) (.int .i64))), .dat (.sl (.st (.pr (.int .i64) (.int .i64))))], [(0, .v 0 (.sl (.st (.pr (.int .i64) (.int .i64)))))], [(0, .blk 52 [(2, .v 1 (.st (.pr (.int .i64) (.int .i64))))]), (1, .blk 23 [(1, .v 2 (.sl (.st (.pr (.int .i64) (.int .i64)))))]), (2, .blk 255 [(1, .clo 409 [] [])]), (3, .blk 255 [(1, .clo 247 [] [])])], 4⟩
noncomputable def Q91 (fu : Nat) : PQ (nEs [(80, 0), (81, 0), (88, 1), (89, 1), (110, 2), (111, 2)] [2, 2, 5]) := ⟨pi91, qo91, 1, [], fdenP (cx91 fu) fu Tryz.f432 pi91 qo91 1⟩
theorem zs91 (fu : Nat) : SoundP Tryz.prog 432 (Q91 fu) := fdenP_ok (cx := cx91 fu) (h91 fu) follows ent432 Tryz.func432 rfl rfl
def la92 : Nat → Option Pat := fun _ => none
def pr92 : Nat → List Gh := fun _ => []
def po92 : Nat → List Gh := fun _ => []
noncomputable def ph92 (fu : Nat) : Nat → Option (CQ (nEs [(80, 0), (81, 0), (88, 1), (89, 1), (110, 2), (111, 2)] [2, 2, 5]))
  | 432 => some (.pats [Q91 fu])
  | _ => none
theorem h92 (fu : Nat) : ∀ f q, ph92 fu f = some q → SoundC Tryz.prog f q := by
  intro f q h
  unfold ph92 at h
  split at h
  · cases h; exact (patsC (zs91 fu) patsN)
  · cases h
noncomputable def cx92 (fu : Nat) : Cx (nEs [(80, 0), (81, 0), (88, 1), (89, 1), (110, 2), (111, 2)] [2, 2, 5]) := ⟨Tryz.prog, ph92 fu, la92, fun _ => none, pr92, po92, 4, 5⟩
def pi92 : Pat := ⟨[.dat (.st (.pr (.int .i64) (.int .i64))), .dat (.sl (.st (.pr (.int .i64) (.int .i64))))], [(0, .clo 433 [] [0, 1, 2, 3])], [(0, .blk 52 [(2, .v 0 (.st (.pr (.int .i64) (.int .i64))))]), (1, .blk 23 [(1, .v 1 (.sl (.st (.pr (.int .i64) (.int .i64)))))]), (2, .blk 255 [(1, .clo 409 [] [])]), (3, .blk 255 [(1, .clo 247 [] [])])], 4⟩
def qo92 : Pat := ⟨[.dat (.sl (.st (.pr (.int .i64) (.int .i64)))), .dat (.st (.pr (.int .i64) (.int .i64))), .dat (.sl (.st (.pr (.int .i64) (.int .i64))))], [(0, .v 0 (.sl (.st (.pr (.int .i64) (.int .i64)))))], [(0, .blk 52 [(2, .v 1 (.st (.pr (.int .i64) (.int .i64))))]), (1, .blk 23 [(1, .v 2 (.sl (.st (.pr (.int .i64) (.int .i64)))))]), (2, .blk 255 [(1, .clo 409 [] [])]), (3, .blk 255 [(1, .clo 247 [] [])])], 4⟩
noncomputable def Q92 (fu : Nat) : PQ (nEs [(80, 0), (81, 0), (88, 1), (89, 1), (110, 2), (111, 2)] [2, 2, 5]) := ⟨pi92, qo92, 1, [], fdenP (cx92 fu) fu Tryz.f407 pi92 qo92 1⟩
theorem zs92 (fu : Nat) : SoundP Tryz.prog 407 (Q92 fu) := fdenP_ok (cx := cx92 fu) (h92 fu) follows ent407 Tryz.func407 rfl rfl
def la93 : Nat → Option Pat := fun _ => none
def pr93 : Nat → List Gh := fun _ => []
def po93 : Nat → List Gh := fun _ => []
def ph93 (_ : Nat) : Nat → Option (CQ (nEs [(80, 0), (81, 0), (88, 1), (89, 1), (110, 2), (111, 2)] [2, 2, 5])) := fun _ => none
theorem h93 (fu : Nat) : ∀ f q, ph93 fu f = some q → SoundC Tryz.prog f q := fun _ _ h => by cases h
noncomputable def cx93 (fu : Nat) : Cx (nEs [(80, 0), (81, 0), (88, 1), (89, 1), (110, 2), (111, 2)] [2, 2, 5]) := ⟨Tryz.prog, ph93 fu, la93, fun _ => none, pr93, po93, 0, 10⟩
def pi93 : Pat := ⟨[.dat (.sl (.st (.pr (.int .i64) (.int .i64)))), .dat (.st (.pr (.int .i64) (.int .i64)))], [(0, .v 0 (.sl (.st (.pr (.int .i64) (.int .i64))))), (1, .v 1 (.st (.pr (.int .i64) (.int .i64)))), (2, .clo 248 [] []), (3, .clo 410 [] [])], [], 0⟩
def qo93 : Pat := ⟨[.dat (.st (.pr (.int .i64) (.int .i64))), .dat (.sl (.st (.pr (.int .i64) (.int .i64))))], [(0, .clo 433 [] [0, 1, 2, 3])], [(0, .blk 52 [(2, .v 0 (.st (.pr (.int .i64) (.int .i64))))]), (1, .blk 23 [(1, .v 1 (.sl (.st (.pr (.int .i64) (.int .i64)))))]), (2, .blk 255 [(1, .clo 410 [] [])]), (3, .blk 255 [(1, .clo 248 [] [])])], 4⟩
noncomputable def Q93 (fu : Nat) : PQ (nEs [(80, 0), (81, 0), (88, 1), (89, 1), (110, 2), (111, 2)] [2, 2, 5]) := ⟨pi93, qo93, 1, [], fdenP (cx93 fu) fu Tryz.f408 pi93 qo93 1⟩
theorem zs93 (fu : Nat) : SoundP Tryz.prog 408 (Q93 fu) := fdenP_ok (cx := cx93 fu) (h93 fu) follows ent408 Tryz.func408 rfl rfl
def la94 : Nat → Option Pat := fun _ => none
def pr94 : Nat → List Gh := fun _ => []
def po94 : Nat → List Gh := fun _ => []
def ph94 (_ : Nat) : Nat → Option (CQ (nEs [(80, 0), (81, 0), (88, 1), (89, 1), (110, 2), (111, 2)] [2, 2, 5])) := fun _ => none
theorem h94 (fu : Nat) : ∀ f q, ph94 fu f = some q → SoundC Tryz.prog f q := fun _ _ h => by cases h
noncomputable def cx94 (fu : Nat) : Cx (nEs [(80, 0), (81, 0), (88, 1), (89, 1), (110, 2), (111, 2)] [2, 2, 5]) := ⟨Tryz.prog, ph94 fu, la94, fun _ => none, pr94, po94, 0, 11⟩
noncomputable def Q94 (fu : Nat) : FQ (nEs [(80, 0), (81, 0), (88, 1), (89, 1), (110, 2), (111, 2)] [2, 2, 5]) := ⟨[(.int .i64)], [(.int .i64)], fden (cx94 fu) fu Tryz.f410 [(.int .i64)] [(.int .i64)]⟩
theorem zs94 (fu : Nat) : SoundQ Tryz.prog 410 (Q94 fu) := fden_ok (cx := cx94 fu) (h94 fu) follows ent410 Tryz.func410 rfl rfl
def la95 : Nat → Option Pat
  | 2 => some ⟨[.dat (.int .i64), .nat], [(0, .keep), (1, .keep), (3, .keep), (4, .keep), (6, .v 0 (.int .i64)), (13, .keep), (14, .keep), (15, .cnt 1 201)], [(3, .c 0), (2, .c 0), (0, .c 0), (1, .c 0)], 5⟩
  | _ => none
def pr95 : Nat → List Gh := fun _ => []
def po95 : Nat → List Gh := fun _ => []
noncomputable def ph95 (fu : Nat) : Nat → Option (CQ (nEs [(80, 0), (81, 0), (88, 1), (89, 1), (110, 2), (111, 2)] [2, 2, 5]))
  | 248 => some (.dat (Q22 fu))
  | 410 => some (.dat (Q94 fu))
  | _ => none
theorem h95 (fu : Nat) : ∀ f q, ph95 fu f = some q → SoundC Tryz.prog f q := by
  intro f q h
  unfold ph95 at h
  split at h
  · cases h; exact zs22 fu
  · cases h; exact zs94 fu
  · cases h
noncomputable def cx95 (fu : Nat) : Cx (nEs [(80, 0), (81, 0), (88, 1), (89, 1), (110, 2), (111, 2)] [2, 2, 5]) := ⟨Tryz.prog, ph95 fu, la95, fun _ => none, pr95, po95, 4, 53⟩
def pi95 : Pat := ⟨[.dat (.st (.pr (.int .i64) (.int .i64))), .dat (.sl (.st (.pr (.int .i64) (.int .i64))))], [(0, .keep), (1, .loc 0 0), (2, .loc 1 0), (3, .loc 2 0), (4, .loc 3 0)], [(0, .blk 52 [(2, .v 0 (.st (.pr (.int .i64) (.int .i64))))]), (1, .blk 23 [(1, .v 1 (.sl (.st (.pr (.int .i64) (.int .i64)))))]), (2, .blk 255 [(1, .clo 410 [] [])]), (3, .blk 255 [(1, .clo 248 [] [])])], 4⟩
noncomputable def Q95 (fu : Nat) : IQ (nEs [(80, 0), (81, 0), (88, 1), (89, 1), (110, 2), (111, 2)] [2, 2, 5]) := ⟨pi95, 0, [(.st (.pr (.int .i64) (.int .i64)))], fdenI (cx95 fu) fu Tryz.f433 pi95 0 [(.st (.pr (.int .i64) (.int .i64)))]⟩
theorem zs95 (fu : Nat) : SoundI Tryz.prog 433 (Q95 fu) := fdenI_ok (cx := cx95 fu) (h95 fu) follows ent433 Tryz.func433 rfl rfl
def la96 : Nat → Option Pat
  | 2 => some ⟨[.dat (.sl (.st (.pr (.int .i64) (.int .i64))))], [(2, .keep), (4, .keep), (6, .keep)], [(4, .blk 23 [(1, .hdr 6)]), (6, .row 52 0)], 7⟩
  | _ => none
def pr96 : Nat → List Gh := fun _ => []
def po96 : Nat → List Gh
  | 1 => [.ownb 2 0 52 (.st (.pr (.int .i64) (.int .i64)))]
  | 4 => [.fz 4]
  | _ => []
noncomputable def ph96 (fu : Nat) : Nat → Option (CQ (nEs [(80, 0), (81, 0), (88, 1), (89, 1), (110, 2), (111, 2)] [2, 2, 5]))
  | 433 => some (.its [Q95 fu])
  | _ => none
theorem h96 (fu : Nat) : ∀ f q, ph96 fu f = some q → SoundC Tryz.prog f q := by
  intro f q h
  unfold ph96 at h
  split at h
  · cases h; exact (itsC (zs95 fu) itsN)
  · cases h
noncomputable def cx96 (fu : Nat) : Cx (nEs [(80, 0), (81, 0), (88, 1), (89, 1), (110, 2), (111, 2)] [2, 2, 5]) := ⟨Tryz.prog, ph96 fu, la96, fun _ => none, pr96, po96, 4, 13⟩
def pi96 : Pat := ⟨[.dat (.st (.pr (.int .i64) (.int .i64))), .dat (.sl (.st (.pr (.int .i64) (.int .i64))))], [(0, .nl), (1, .clo 433 [] [0, 1, 2, 3])], [(0, .blk 52 [(2, .v 0 (.st (.pr (.int .i64) (.int .i64))))]), (1, .blk 23 [(1, .v 1 (.sl (.st (.pr (.int .i64) (.int .i64)))))]), (2, .blk 255 [(1, .clo 410 [] [])]), (3, .blk 255 [(1, .clo 248 [] [])])], 4⟩
def qo96 : Pat := ⟨[.dat (.sl (.st (.pr (.int .i64) (.int .i64)))), .dat (.st (.pr (.int .i64) (.int .i64))), .dat (.sl (.st (.pr (.int .i64) (.int .i64))))], [(0, .v 0 (.sl (.st (.pr (.int .i64) (.int .i64)))))], [(0, .blk 52 [(2, .v 1 (.st (.pr (.int .i64) (.int .i64))))]), (1, .blk 23 [(1, .v 2 (.sl (.st (.pr (.int .i64) (.int .i64)))))]), (2, .blk 255 [(1, .clo 410 [] [])]), (3, .blk 255 [(1, .clo 248 [] [])])], 4⟩
noncomputable def Q96 (fu : Nat) : PQ (nEs [(80, 0), (81, 0), (88, 1), (89, 1), (110, 2), (111, 2)] [2, 2, 5]) := ⟨pi96, qo96, 1, [], fdenP (cx96 fu) fu Tryz.f432 pi96 qo96 1⟩
theorem zs96 (fu : Nat) : SoundP Tryz.prog 432 (Q96 fu) := fdenP_ok (cx := cx96 fu) (h96 fu) follows ent432 Tryz.func432 rfl rfl
def la97 : Nat → Option Pat := fun _ => none
def pr97 : Nat → List Gh := fun _ => []
def po97 : Nat → List Gh := fun _ => []
noncomputable def ph97 (fu : Nat) : Nat → Option (CQ (nEs [(80, 0), (81, 0), (88, 1), (89, 1), (110, 2), (111, 2)] [2, 2, 5]))
  | 432 => some (.pats [Q96 fu])
  | _ => none
theorem h97 (fu : Nat) : ∀ f q, ph97 fu f = some q → SoundC Tryz.prog f q := by
  intro f q h
  unfold ph97 at h
  split at h
  · cases h; exact (patsC (zs96 fu) patsN)
  · cases h
noncomputable def cx97 (fu : Nat) : Cx (nEs [(80, 0), (81, 0), (88, 1), (89, 1), (110, 2), (111, 2)] [2, 2, 5]) := ⟨Tryz.prog, ph97 fu, la97, fun _ => none, pr97, po97, 4, 5⟩
def pi97 : Pat := ⟨[.dat (.st (.pr (.int .i64) (.int .i64))), .dat (.sl (.st (.pr (.int .i64) (.int .i64))))], [(0, .clo 433 [] [0, 1, 2, 3])], [(0, .blk 52 [(2, .v 0 (.st (.pr (.int .i64) (.int .i64))))]), (1, .blk 23 [(1, .v 1 (.sl (.st (.pr (.int .i64) (.int .i64)))))]), (2, .blk 255 [(1, .clo 410 [] [])]), (3, .blk 255 [(1, .clo 248 [] [])])], 4⟩
def qo97 : Pat := ⟨[.dat (.sl (.st (.pr (.int .i64) (.int .i64)))), .dat (.st (.pr (.int .i64) (.int .i64))), .dat (.sl (.st (.pr (.int .i64) (.int .i64))))], [(0, .v 0 (.sl (.st (.pr (.int .i64) (.int .i64)))))], [(0, .blk 52 [(2, .v 1 (.st (.pr (.int .i64) (.int .i64))))]), (1, .blk 23 [(1, .v 2 (.sl (.st (.pr (.int .i64) (.int .i64)))))]), (2, .blk 255 [(1, .clo 410 [] [])]), (3, .blk 255 [(1, .clo 248 [] [])])], 4⟩
noncomputable def Q97 (fu : Nat) : PQ (nEs [(80, 0), (81, 0), (88, 1), (89, 1), (110, 2), (111, 2)] [2, 2, 5]) := ⟨pi97, qo97, 1, [], fdenP (cx97 fu) fu Tryz.f407 pi97 qo97 1⟩
theorem zs97 (fu : Nat) : SoundP Tryz.prog 407 (Q97 fu) := fdenP_ok (cx := cx97 fu) (h97 fu) follows ent407 Tryz.func407 rfl rfl
def la98 : Nat → Option Pat := fun _ => none
def pr98 : Nat → List Gh := fun _ => []
def po98 : Nat → List Gh := fun _ => []
noncomputable def ph98 (fu : Nat) : Nat → Option (CQ (nEs [(80, 0), (81, 0), (88, 1), (89, 1), (110, 2), (111, 2)] [2, 2, 5]))
  | 173 => some (.dat (Q24 fu))
  | 281 => some (.dat (Q85 fu))
  | 407 => some (.pats [Q92 fu, Q97 fu])
  | 408 => some (.pats [Q88 fu, Q93 fu])
  | _ => none
theorem h98 (fu : Nat) : ∀ f q, ph98 fu f = some q → SoundC Tryz.prog f q := by
  intro f q h
  unfold ph98 at h
  split at h
  · cases h; exact zs24 fu
  · cases h; exact zs85 fu
  · cases h; exact (patsC (zs92 fu) (patsC (zs97 fu) patsN))
  · cases h; exact (patsC (zs88 fu) (patsC (zs93 fu) patsN))
  · cases h
noncomputable def cx98 (fu : Nat) : Cx (nEs [(80, 0), (81, 0), (88, 1), (89, 1), (110, 2), (111, 2)] [2, 2, 5]) := ⟨Tryz.prog, ph98 fu, la98, fun _ => none, pr98, po98, 0, 26⟩
noncomputable def Q98 (fu : Nat) : FQ (nEs [(80, 0), (81, 0), (88, 1), (89, 1), (110, 2), (111, 2)] [2, 2, 5]) := ⟨[(.st (.pr (.sl (.st (.pr (.int .i64) (.int .i64)))) (.sl (.st (.pr (.int .i64) (.int .i64))))))], [(.st (.pr (.sl (.st (.pr (.int .i64) (.int .i64)))) (.sl (.st (.pr (.int .i64) (.int .i64))))))], fden (cx98 fu) fu Tryz.f358 [(.st (.pr (.sl (.st (.pr (.int .i64) (.int .i64)))) (.sl (.st (.pr (.int .i64) (.int .i64))))))] [(.st (.pr (.sl (.st (.pr (.int .i64) (.int .i64)))) (.sl (.st (.pr (.int .i64) (.int .i64))))))]⟩
theorem zs98 (fu : Nat) : SoundQ Tryz.prog 358 (Q98 fu) := fden_ok (cx := cx98 fu) (h98 fu) follows ent358 Tryz.func358 rfl rfl
def la99 : Nat → Option Pat
  | 3 => some ⟨[.dat (.sl (.st (.pr (.int .i64) (.int .i64)))), .nat], [(1, .keep), (5, .hdr 0), (11, .keep), (12, .keep), (13, .cnt 1 301)], [(0, .row 52 0)], 1⟩
  | 6 => some ⟨[.dat (.sl (.st (.pr (.int .i64) (.int .i64)))), .nat], [(1, .keep), (5, .hdr 0), (7, .keep), (11, .keep), (12, .keep), (13, .keep), (17, .keep), (18, .keep), (19, .cnt 1 601)], [(1, .c 0), (0, .row 52 0)], 2⟩
  | _ => none
def pr99 : Nat → List Gh := fun _ => []
def po99 : Nat → List Gh
  | 2 => [.own 5 52 (.st (.pr (.int .i64) (.int .i64)))]
  | 13 => [.fz 4]
  | _ => []
def ph99 (_ : Nat) : Nat → Option (CQ (nEs [(80, 0), (81, 0), (88, 1), (89, 1), (110, 2), (111, 2)] [2, 2, 5])) := fun _ => none
theorem h99 (fu : Nat) : ∀ f q, ph99 fu f = some q → SoundC Tryz.prog f q := fun _ _ h => by cases h
noncomputable def cx99 (fu : Nat) : Cx (nEs [(80, 0), (81, 0), (88, 1), (89, 1), (110, 2), (111, 2)] [2, 2, 5]) := ⟨Tryz.prog, ph99 fu, la99, fun _ => none, pr99, po99, 0, 46⟩
noncomputable def Q99 (fu : Nat) : FQ (nEs [(80, 0), (81, 0), (88, 1), (89, 1), (110, 2), (111, 2)] [2, 2, 5]) := ⟨[(.sl (.st (.pr (.int .i64) (.int .i64)))), (.sl (.st (.pr (.int .i64) (.int .i64))))], [(.sl (.st (.pr (.int .i64) (.int .i64))))], fden (cx99 fu) fu Tryz.f228 [(.sl (.st (.pr (.int .i64) (.int .i64)))), (.sl (.st (.pr (.int .i64) (.int .i64))))] [(.sl (.st (.pr (.int .i64) (.int .i64))))]⟩
theorem zs99 (fu : Nat) : SoundQ Tryz.prog 228 (Q99 fu) := fden_ok (cx := cx99 fu) (h99 fu) follows ent228 Tryz.func228 rfl rfl
def la100 : Nat → Option Pat := fun _ => none
def pr100 : Nat → List Gh := fun _ => []
def po100 : Nat → List Gh := fun _ => []
noncomputable def ph100 (fu : Nat) : Nat → Option (CQ (nEs [(80, 0), (81, 0), (88, 1), (89, 1), (110, 2), (111, 2)] [2, 2, 5]))
  | 173 => some (.dat (Q24 fu))
  | 228 => some (.dat (Q99 fu))
  | _ => none
theorem h100 (fu : Nat) : ∀ f q, ph100 fu f = some q → SoundC Tryz.prog f q := by
  intro f q h
  unfold ph100 at h
  split at h
  · cases h; exact zs24 fu
  · cases h; exact zs99 fu
  · cases h
noncomputable def cx100 (fu : Nat) : Cx (nEs [(80, 0), (81, 0), (88, 1), (89, 1), (110, 2), (111, 2)] [2, 2, 5]) := ⟨Tryz.prog, ph100 fu, la100, fun _ => none, pr100, po100, 0, 23⟩
noncomputable def Q100 (fu : Nat) : FQ (nEs [(80, 0), (81, 0), (88, 1), (89, 1), (110, 2), (111, 2)] [2, 2, 5]) := ⟨[(.st (.pr (.sl (.st (.pr (.int .i64) (.int .i64)))) (.sl (.st (.pr (.int .i64) (.int .i64)))))), (.st (.pr (.sl (.st (.pr (.int .i64) (.int .i64)))) (.sl (.st (.pr (.int .i64) (.int .i64))))))], [(.st (.pr (.sl (.st (.pr (.int .i64) (.int .i64)))) (.sl (.st (.pr (.int .i64) (.int .i64))))))], fden (cx100 fu) fu Tryz.f156 [(.st (.pr (.sl (.st (.pr (.int .i64) (.int .i64)))) (.sl (.st (.pr (.int .i64) (.int .i64)))))), (.st (.pr (.sl (.st (.pr (.int .i64) (.int .i64)))) (.sl (.st (.pr (.int .i64) (.int .i64))))))] [(.st (.pr (.sl (.st (.pr (.int .i64) (.int .i64)))) (.sl (.st (.pr (.int .i64) (.int .i64))))))]⟩
theorem zs100 (fu : Nat) : SoundQ Tryz.prog 156 (Q100 fu) := fden_ok (cx := cx100 fu) (h100 fu) follows ent156 Tryz.func156 rfl rfl
def la101 : Nat → Option Pat := fun _ => none
def pr101 : Nat → List Gh := fun _ => []
def po101 : Nat → List Gh := fun _ => []
noncomputable def ph101 (fu : Nat) : Nat → Option (CQ (nEs [(80, 0), (81, 0), (88, 1), (89, 1), (110, 2), (111, 2)] [2, 2, 5]))
  | 156 => some (.dat (Q100 fu))
  | 358 => some (.dat (Q98 fu))
  | _ => none
theorem h101 (fu : Nat) : ∀ f q, ph101 fu f = some q → SoundC Tryz.prog f q := by
  intro f q h
  unfold ph101 at h
  split at h
  · cases h; exact zs100 fu
  · cases h; exact zs98 fu
  · cases h
noncomputable def cx101 (fu : Nat) : Cx (nEs [(80, 0), (81, 0), (88, 1), (89, 1), (110, 2), (111, 2)] [2, 2, 5]) := ⟨Tryz.prog, ph101 fu, la101, fun _ => none, pr101, po101, 0, 9⟩
noncomputable def Q101 (fu : Nat) : FQ (nEs [(80, 0), (81, 0), (88, 1), (89, 1), (110, 2), (111, 2)] [2, 2, 5]) := ⟨[(.st (.pr (.sl (.st (.pr (.int .i64) (.int .i64)))) (.sl (.st (.pr (.int .i64) (.int .i64)))))), (.st (.pr (.sl (.st (.pr (.int .i64) (.int .i64)))) (.sl (.st (.pr (.int .i64) (.int .i64))))))], [(.st (.pr (.sl (.st (.pr (.int .i64) (.int .i64)))) (.sl (.st (.pr (.int .i64) (.int .i64))))))], fden (cx101 fu) fu Tryz.f285 [(.st (.pr (.sl (.st (.pr (.int .i64) (.int .i64)))) (.sl (.st (.pr (.int .i64) (.int .i64)))))), (.st (.pr (.sl (.st (.pr (.int .i64) (.int .i64)))) (.sl (.st (.pr (.int .i64) (.int .i64))))))] [(.st (.pr (.sl (.st (.pr (.int .i64) (.int .i64)))) (.sl (.st (.pr (.int .i64) (.int .i64))))))]⟩
theorem zs101 (fu : Nat) : SoundQ Tryz.prog 285 (Q101 fu) := fden_ok (cx := cx101 fu) (h101 fu) follows ent285 Tryz.func285 rfl rfl
def la102 : Nat → Option Pat := fun _ => none
def pr102 : Nat → List Gh := fun _ => []
def po102 : Nat → List Gh := fun _ => []
def ph102 (_ : Nat) : Nat → Option (CQ (nEs [(80, 0), (81, 0), (88, 1), (89, 1), (110, 2), (111, 2)] [2, 2, 5])) := fun _ => none
theorem h102 (fu : Nat) : ∀ f q, ph102 fu f = some q → SoundC Tryz.prog f q := fun _ _ h => by cases h
noncomputable def cx102 (fu : Nat) : Cx (nEs [(80, 0), (81, 0), (88, 1), (89, 1), (110, 2), (111, 2)] [2, 2, 5]) := ⟨Tryz.prog, ph102 fu, la102, fun _ => none, pr102, po102, 0, 18⟩
noncomputable def Q102 (fu : Nat) : FQ (nEs [(80, 0), (81, 0), (88, 1), (89, 1), (110, 2), (111, 2)] [2, 2, 5]) := ⟨[(.st (.pr (.int .i64) (.int .i64))), (.int .i64)], [(.int .i64)], fden (cx102 fu) fu Tryz.f176 [(.st (.pr (.int .i64) (.int .i64))), (.int .i64)] [(.int .i64)]⟩
theorem zs102 (fu : Nat) : SoundQ Tryz.prog 176 (Q102 fu) := fden_ok (cx := cx102 fu) (h102 fu) follows ent176 Tryz.func176 rfl rfl
def la103 : Nat → Option Pat := fun _ => none
def pr103 : Nat → List Gh := fun _ => []
def po103 : Nat → List Gh := fun _ => []
def ph103 (_ : Nat) : Nat → Option (CQ (nEs [(80, 0), (81, 0), (88, 1), (89, 1), (110, 2), (111, 2)] [2, 2, 5])) := fun _ => none
theorem h103 (fu : Nat) : ∀ f q, ph103 fu f = some q → SoundC Tryz.prog f q := fun _ _ h => by cases h
noncomputable def cx103 (fu : Nat) : Cx (nEs [(80, 0), (81, 0), (88, 1), (89, 1), (110, 2), (111, 2)] [2, 2, 5]) := ⟨Tryz.prog, ph103 fu, la103, fun _ => none, pr103, po103, 0, 28⟩
noncomputable def Q103 (fu : Nat) : FQ (nEs [(80, 0), (81, 0), (88, 1), (89, 1), (110, 2), (111, 2)] [2, 2, 5]) := ⟨[(.int .i64), (.int .i64)], [.bool], fden (cx103 fu) fu Tryz.f175 [(.int .i64), (.int .i64)] [.bool]⟩
theorem zs103 (fu : Nat) : SoundQ Tryz.prog 175 (Q103 fu) := fden_ok (cx := cx103 fu) (h103 fu) follows ent175 Tryz.func175 rfl rfl
def la104 : Nat → Option Pat := fun _ => none
def pr104 : Nat → List Gh := fun _ => []
def po104 : Nat → List Gh := fun _ => []
noncomputable def ph104 (fu : Nat) : Nat → Option (CQ (nEs [(80, 0), (81, 0), (88, 1), (89, 1), (110, 2), (111, 2)] [2, 2, 5]))
  | 175 => some (.dat (Q103 fu))
  | _ => none
theorem h104 (fu : Nat) : ∀ f q, ph104 fu f = some q → SoundC Tryz.prog f q := by
  intro f q h
  unfold ph104 at h
  split at h
  · cases h; exact zs103 fu
  · cases h
noncomputable def cx104 (fu : Nat) : Cx (nEs [(80, 0), (81, 0), (88, 1), (89, 1), (110, 2), (111, 2)] [2, 2, 5]) := ⟨Tryz.prog, ph104 fu, la104, fun _ => none, pr104, po104, 2, 12⟩
def pi104 : Pat := ⟨[.dat (.int .i64), .dat .bool, .dat (.int .i64)], [(0, .v 0 (.int .i64)), (1, .loc 0 0), (2, .loc 1 0)], [(0, .blk 4 [(1, .v 1 .bool)]), (1, .blk 2 [(1, .v 2 (.int .i64))])], 2⟩
def qo104 : Pat := ⟨[.dat .bool, .dat (.int .i64)], [], [(0, .blk 4 [(1, .v 0 .bool)]), (1, .blk 2 [(1, .v 1 (.int .i64))])], 2⟩
noncomputable def Q104 (fu : Nat) : PQ (nEs [(80, 0), (81, 0), (88, 1), (89, 1), (110, 2), (111, 2)] [2, 2, 5]) := ⟨pi104, qo104, 0, [], fdenP (cx104 fu) fu Tryz.f174 pi104 qo104 0⟩
theorem zs104 (fu : Nat) : SoundP Tryz.prog 174 (Q104 fu) := fdenP_ok (cx := cx104 fu) (h104 fu) follows ent174 Tryz.func174 rfl rfl
def la105 : Nat → Option Pat
  | 5 => some ⟨[.dat (.int .i64), .dat .bool, .nat], [(4, .keep), (5, .keep), (6, .keep), (7, .keep), (16, .keep), (17, .keep), (18, .cnt 2 502)], [(2, .blk 2 [(1, .v 0 (.int .i64))]), (3, .blk 4 [(1, .v 1 .bool)]), (1, .c 0)], 4⟩
  | 10 => some ⟨[.dat (.int .i64), .dat .bool, .nat], [(5, .keep), (6, .keep), (7, .keep), (29, .keep), (30, .keep), (31, .cnt 2 1002)], [(2, .blk 2 [(1, .v 0 (.int .i64))]), (3, .blk 4 [(1, .v 1 .bool)])], 4⟩
  | _ => none
def pr105 : Nat → List Gh := fun _ => []
def po105 : Nat → List Gh := fun _ => []
noncomputable def ph105 (fu : Nat) : Nat → Option (CQ (nEs [(80, 0), (81, 0), (88, 1), (89, 1), (110, 2), (111, 2)] [2, 2, 5]))
  | 173 => some (.dat (Q24 fu))
  | 174 => some (.pats [Q104 fu])
  | 176 => some (.dat (Q102 fu))
  | _ => none
theorem h105 (fu : Nat) : ∀ f q, ph105 fu f = some q → SoundC Tryz.prog f q := by
  intro f q h
  unfold ph105 at h
  split at h
  · cases h; exact zs24 fu
  · cases h; exact (patsC (zs104 fu) patsN)
  · cases h; exact zs102 fu
  · cases h
noncomputable def cx105 (fu : Nat) : Cx (nEs [(80, 0), (81, 0), (88, 1), (89, 1), (110, 2), (111, 2)] [2, 2, 5]) := ⟨Tryz.prog, ph105 fu, la105, fun _ => none, pr105, po105, 0, 42⟩
noncomputable def Q105 (fu : Nat) : FQ (nEs [(80, 0), (81, 0), (88, 1), (89, 1), (110, 2), (111, 2)] [2, 2, 5]) := ⟨[(.st (.pr (.sl (.st (.pr (.int .i64) (.int .i64)))) (.sl (.st (.pr (.int .i64) (.int .i64))))))], [(.int .i64), .bool], fden (cx105 fu) fu Tryz.f112 [(.st (.pr (.sl (.st (.pr (.int .i64) (.int .i64)))) (.sl (.st (.pr (.int .i64) (.int .i64))))))] [(.int .i64), .bool]⟩
theorem zs105 (fu : Nat) : SoundQ Tryz.prog 112 (Q105 fu) := fden_ok (cx := cx105 fu) (h105 fu) follows ent112 Tryz.func112 rfl rfl
def la106 : Nat → Option Pat := fun _ => none
def pr106 : Nat → List Gh := fun _ => []
def po106 : Nat → List Gh := fun _ => []
noncomputable def ph106 (fu : Nat) : Nat → Option (CQ (nEs [(80, 0), (81, 0), (88, 1), (89, 1), (110, 2), (111, 2)] [2, 2, 5]))
  | 112 => some (.dat (Q105 fu))
  | 175 => some (.dat (Q103 fu))
  | 285 => some (.dat (Q101 fu))
  | _ => none
theorem h106 (fu : Nat) : ∀ f q, ph106 fu f = some q → SoundC Tryz.prog f q := by
  intro f q h
  unfold ph106 at h
  split at h
  · cases h; exact zs105 fu
  · cases h; exact zs103 fu
  · cases h; exact zs101 fu
  · cases h
noncomputable def cx106 (fu : Nat) : Cx (nEs [(80, 0), (81, 0), (88, 1), (89, 1), (110, 2), (111, 2)] [2, 2, 5]) := ⟨Tryz.prog, ph106 fu, la106, fun _ => none, pr106, po106, 0, 41⟩
noncomputable def Q106 (fu : Nat) : FQ (nEs [(80, 0), (81, 0), (88, 1), (89, 1), (110, 2), (111, 2)] [2, 2, 5]) := ⟨[(.st (.pr (.sl (.st (.pr (.int .i64) (.int .i64)))) (.sl (.st (.pr (.int .i64) (.int .i64)))))), (.st (.pr (.sl (.st (.pr (.int .i64) (.int .i64)))) (.sl (.st (.pr (.int .i64) (.int .i64))))))], [(.int .i64)], fden (cx106 fu) fu Tryz.f280 [(.st (.pr (.sl (.st (.pr (.int .i64) (.int .i64)))) (.sl (.st (.pr (.int .i64) (.int .i64)))))), (.st (.pr (.sl (.st (.pr (.int .i64) (.int .i64)))) (.sl (.st (.pr (.int .i64) (.int .i64))))))] [(.int .i64)]⟩
theorem zs106 (fu : Nat) : SoundQ Tryz.prog 280 (Q106 fu) := fden_ok (cx := cx106 fu) (h106 fu) follows ent280 Tryz.func280 rfl rfl
def la108 : Nat → Option Pat := fun _ => none
def pr108 : Nat → List Gh := fun _ => []
def po108 : Nat → List Gh := fun _ => []
noncomputable def ph108 (fu : Nat) : Nat → Option (CQ (nEs [(80, 0), (81, 0), (88, 1), (89, 1), (110, 2), (111, 2)] [2, 2, 5]))
  | 241 => some (.dat (Q53 fu))
  | 275 => some (.dat (Q55 fu))
  | _ => none
theorem h108 (fu : Nat) : ∀ f q, ph108 fu f = some q → SoundC Tryz.prog f q := by
  intro f q h
  unfold ph108 at h
  split at h
  · cases h; exact zs53 fu
  · cases h; exact zs55 fu
  · cases h
noncomputable def cx108 (fu : Nat) : Cx (nEs [(80, 0), (81, 0), (88, 1), (89, 1), (110, 2), (111, 2)] [2, 2, 5]) := ⟨Tryz.prog, ph108 fu, la108, fun _ => none, pr108, po108, 0, 22⟩
noncomputable def Q108 (fu : Nat) : FQ (nEs [(80, 0), (81, 0), (88, 1), (89, 1), (110, 2), (111, 2)] [2, 2, 5]) := ⟨[(.st (.sl (.st (.pr .bool (.sl (.st (.pr (.int .u8) (.pr (.int .u8) (.int .i64))))))))), (.st (.sl (.st (.pr .bool (.sl (.st (.pr (.int .u8) (.pr (.int .u8) (.int .i64)))))))))], [(.st (.sl (.st (.pr .bool (.sl (.st (.pr (.int .u8) (.pr (.int .u8) (.int .i64)))))))))], fden (cx108 fu) fu Tryz.f242 [(.st (.sl (.st (.pr .bool (.sl (.st (.pr (.int .u8) (.pr (.int .u8) (.int .i64))))))))), (.st (.sl (.st (.pr .bool (.sl (.st (.pr (.int .u8) (.pr (.int .u8) (.int .i64)))))))))] [(.st (.sl (.st (.pr .bool (.sl (.st (.pr (.int .u8) (.pr (.int .u8) (.int .i64)))))))))]⟩
theorem zs108 (fu : Nat) : SoundQ Tryz.prog 242 (Q108 fu) := fden_ok (cx := cx108 fu) (h108 fu) follows ent242 Tryz.func242 rfl rfl
def la109 : Nat → Option Pat := fun _ => none
def pr109 : Nat → List Gh := fun _ => []
def po109 : Nat → List Gh := fun _ => []
def ph109 (_ : Nat) : Nat → Option (CQ (nEs [(80, 0), (81, 0), (88, 1), (89, 1), (110, 2), (111, 2)] [2, 2, 5])) := fun _ => none
theorem h109 (fu : Nat) : ∀ f q, ph109 fu f = some q → SoundC Tryz.prog f q := fun _ _ h => by cases h
noncomputable def cx109 (fu : Nat) : Cx (nEs [(80, 0), (81, 0), (88, 1), (89, 1), (110, 2), (111, 2)] [2, 2, 5]) := ⟨Tryz.prog, ph109 fu, la109, fun _ => none, pr109, po109, 0, 4⟩
def pi109 : Pat := ⟨[.dat (.st (.sl (.st (.pr .bool (.sl (.st (.pr (.int .u8) (.pr (.int .u8) (.int .i64)))))))))], [(0, .v 0 (.st (.sl (.st (.pr .bool (.sl (.st (.pr (.int .u8) (.pr (.int .u8) (.int .i64))))))))))], [], 0⟩
def qo109 : Pat := ⟨[.dat (.st (.sl (.st (.pr .bool (.sl (.st (.pr (.int .u8) (.pr (.int .u8) (.int .i64)))))))))], [(0, .clo 315 [] [0])], [(0, .blk 28 [(1, .v 0 (.st (.sl (.st (.pr .bool (.sl (.st (.pr (.int .u8) (.pr (.int .u8) (.int .i64))))))))))])], 1⟩
noncomputable def Q109 (fu : Nat) : PQ (nEs [(80, 0), (81, 0), (88, 1), (89, 1), (110, 2), (111, 2)] [2, 2, 5]) := ⟨pi109, qo109, 1, [], fdenP (cx109 fu) fu Tryz.f249 pi109 qo109 1⟩
theorem zs109 (fu : Nat) : SoundP Tryz.prog 249 (Q109 fu) := fdenP_ok (cx := cx109 fu) (h109 fu) follows ent249 Tryz.func249 rfl rfl
def la110 : Nat → Option Pat
  | 3 => some ⟨[.dat (.sl .bool), .nat], [(1, .keep), (2, .keep), (5, .keep), (15, .keep), (16, .cnt 1 301)], [(1, .row 4 0), (0, .c 0)], 2⟩
  | 6 => some ⟨[.dat (.sl .bool), .nat], [(1, .keep), (2, .keep), (5, .keep), (6, .keep), (15, .keep), (16, .keep), (24, .keep), (25, .keep), (26, .cnt 1 601)], [(1, .row 4 0), (0, .c 0)], 2⟩
  | _ => none
def pr110 : Nat → List Gh := fun _ => []
def po110 : Nat → List Gh
  | 11 => [.fz 4]
  | _ => []
def ph110 (_ : Nat) : Nat → Option (CQ (nEs [(80, 0), (81, 0), (88, 1), (89, 1), (110, 2), (111, 2)] [2, 2, 5])) := fun _ => none
theorem h110 (fu : Nat) : ∀ f q, ph110 fu f = some q → SoundC Tryz.prog f q := fun _ _ h => by cases h
noncomputable def cx110 (fu : Nat) : Cx (nEs [(80, 0), (81, 0), (88, 1), (89, 1), (110, 2), (111, 2)] [2, 2, 5]) := ⟨Tryz.prog, ph110 fu, la110, fun _ => none, pr110, po110, 0, 47⟩
noncomputable def Q110 (fu : Nat) : FQ (nEs [(80, 0), (81, 0), (88, 1), (89, 1), (110, 2), (111, 2)] [2, 2, 5]) := ⟨[(.st (.sl (.st (.pr .bool (.sl (.st (.pr (.int .u8) (.pr (.int .u8) (.int .i64))))))))), (.sl .bool)], [(.sl .bool)], fden (cx110 fu) fu Tryz.f316 [(.st (.sl (.st (.pr .bool (.sl (.st (.pr (.int .u8) (.pr (.int .u8) (.int .i64))))))))), (.sl .bool)] [(.sl .bool)]⟩
theorem zs110 (fu : Nat) : SoundQ Tryz.prog 316 (Q110 fu) := fden_ok (cx := cx110 fu) (h110 fu) follows ent316 Tryz.func316 rfl rfl
def la111 : Nat → Option Pat
  | 2 => some ⟨[.nat], [(0, .keep), (1, .keep), (7, .keep), (8, .cnt 0 200)], [], 0⟩
  | _ => none
def pr111 : Nat → List Gh := fun _ => []
def po111 : Nat → List Gh := fun _ => []
def ph111 (_ : Nat) : Nat → Option (CQ (nEs [(80, 0), (81, 0), (88, 1), (89, 1), (110, 2), (111, 2)] [2, 2, 5])) := fun _ => none
theorem h111 (fu : Nat) : ∀ f q, ph111 fu f = some q → SoundC Tryz.prog f q := fun _ _ h => by cases h
noncomputable def cx111 (fu : Nat) : Cx (nEs [(80, 0), (81, 0), (88, 1), (89, 1), (110, 2), (111, 2)] [2, 2, 5]) := ⟨Tryz.prog, ph111 fu, la111, fun _ => none, pr111, po111, 0, 19⟩
noncomputable def Q111 (fu : Nat) : FQ (nEs [(80, 0), (81, 0), (88, 1), (89, 1), (110, 2), (111, 2)] [2, 2, 5]) := ⟨[(.sl .bool), .bool], [(.int .i64)], fden (cx111 fu) fu Tryz.f376 [(.sl .bool), .bool] [(.int .i64)]⟩
theorem zs111 (fu : Nat) : SoundQ Tryz.prog 376 (Q111 fu) := fden_ok (cx := cx111 fu) (h111 fu) follows ent376 Tryz.func376 rfl rfl
def la112 : Nat → Option Pat := fun _ => none
def pr112 : Nat → List Gh := fun _ => []
def po112 : Nat → List Gh := fun _ => []
noncomputable def ph112 (fu : Nat) : Nat → Option (CQ (nEs [(80, 0), (81, 0), (88, 1), (89, 1), (110, 2), (111, 2)] [2, 2, 5]))
  | 376 => some (.dat (Q111 fu))
  | _ => none
theorem h112 (fu : Nat) : ∀ f q, ph112 fu f = some q → SoundC Tryz.prog f q := by
  intro f q h
  unfold ph112 at h
  split at h
  · cases h; exact zs111 fu
  · cases h
noncomputable def cx112 (fu : Nat) : Cx (nEs [(80, 0), (81, 0), (88, 1), (89, 1), (110, 2), (111, 2)] [2, 2, 5]) := ⟨Tryz.prog, ph112 fu, la112, fun _ => none, pr112, po112, 0, 9⟩
noncomputable def Q112 (fu : Nat) : FQ (nEs [(80, 0), (81, 0), (88, 1), (89, 1), (110, 2), (111, 2)] [2, 2, 5]) := ⟨[(.sl .bool), .bool], [.bool], fden (cx112 fu) fu Tryz.f317 [(.sl .bool), .bool] [.bool]⟩
theorem zs112 (fu : Nat) : SoundQ Tryz.prog 317 (Q112 fu) := fden_ok (cx := cx112 fu) (h112 fu) follows ent317 Tryz.func317 rfl rfl
def la113 : Nat → Option Pat
  | 3 => some ⟨[.dat (.sl .bool), .nat], [(0, .keep), (1, .keep), (3, .keep), (4, .hdr 2), (9, .keep), (10, .cnt 1 301)], [(0, .c 0), (2, .row 4 0)], 3⟩
  | 9 => some ⟨[.nat], [(0, .keep), (1, .keep), (3, .keep), (6, .cnt 0 900)], [(4, .c 0), (0, .c 0)], 5⟩
  | _ => none
def pr113 : Nat → List Gh
  | 7 => [.fz 4]
  | _ => []
def po113 : Nat → List Gh
  | 2 => [.own 4 4 .bool]
  | _ => []
noncomputable def ph113 (fu : Nat) : Nat → Option (CQ (nEs [(80, 0), (81, 0), (88, 1), (89, 1), (110, 2), (111, 2)] [2, 2, 5]))
  | 316 => some (.dat (Q110 fu))
  | 317 => some (.dat (Q112 fu))
  | _ => none
theorem h113 (fu : Nat) : ∀ f q, ph113 fu f = some q → SoundC Tryz.prog f q := by
  intro f q h
  unfold ph113 at h
  split at h
  · cases h; exact zs110 fu
  · cases h; exact zs112 fu
  · cases h
noncomputable def cx113 (fu : Nat) : Cx (nEs [(80, 0), (81, 0), (88, 1), (89, 1), (110, 2), (111, 2)] [2, 2, 5]) := ⟨Tryz.prog, ph113 fu, la113, fun _ => none, pr113, po113, 1, 66⟩
def pi113 : Pat := ⟨[.dat (.st (.sl (.st (.pr .bool (.sl (.st (.pr (.int .u8) (.pr (.int .u8) (.int .i64)))))))))], [(0, .keep), (1, .loc 0 0)], [(0, .blk 28 [(1, .v 0 (.st (.sl (.st (.pr .bool (.sl (.st (.pr (.int .u8) (.pr (.int .u8) (.int .i64))))))))))])], 1⟩
noncomputable def Q113 (fu : Nat) : IQ (nEs [(80, 0), (81, 0), (88, 1), (89, 1), (110, 2), (111, 2)] [2, 2, 5]) := ⟨pi113, 0, [.un], fdenI (cx113 fu) fu Tryz.f315 pi113 0 [.un]⟩
theorem zs113 (fu : Nat) : SoundI Tryz.prog 315 (Q113 fu) := fdenI_ok (cx := cx113 fu) (h113 fu) follows ent315 Tryz.func315 rfl rfl
def la114 : Nat → Option Pat
  | 5 => some ⟨[], [(3, .keep), (4, .keep), (5, .keep), (12, .keep)], [(0, .c 0), (1, .c 0), (2, .c 0)], 4⟩
  | _ => none
def pr114 : Nat → List Gh := fun _ => []
def po114 : Nat → List Gh := fun _ => []
noncomputable def ph114 (fu : Nat) : Nat → Option (CQ (nEs [(80, 0), (81, 0), (88, 1), (89, 1), (110, 2), (111, 2)] [2, 2, 5]))
  | 241 => some (.dat (Q53 fu))
  | 249 => some (.pats [Q109 fu])
  | 315 => some (.its [Q113 fu])
  | _ => none
theorem h114 (fu : Nat) : ∀ f q, ph114 fu f = some q → SoundC Tryz.prog f q := by
  intro f q h
  unfold ph114 at h
  split at h
  · cases h; exact zs53 fu
  · cases h; exact (patsC (zs109 fu) patsN)
  · cases h; exact (itsC (zs113 fu) itsN)
  · cases h
noncomputable def cx114 (fu : Nat) : Cx (nEs [(80, 0), (81, 0), (88, 1), (89, 1), (110, 2), (111, 2)] [2, 2, 5]) := ⟨Tryz.prog, ph114 fu, la114, fun _ => none, pr114, po114, 0, 24⟩
noncomputable def Q114 (fu : Nat) : FQ (nEs [(80, 0), (81, 0), (88, 1), (89, 1), (110, 2), (111, 2)] [2, 2, 5]) := ⟨[(.st (.sl (.st (.pr .bool (.sl (.st (.pr (.int .u8) (.pr (.int .u8) (.int .i64))))))))), (.int .i64)], [(.sl .str)], fden (cx114 fu) fu Tryz.f177 [(.st (.sl (.st (.pr .bool (.sl (.st (.pr (.int .u8) (.pr (.int .u8) (.int .i64))))))))), (.int .i64)] [(.sl .str)]⟩
theorem zs114 (fu : Nat) : SoundQ Tryz.prog 177 (Q114 fu) := fden_ok (cx := cx114 fu) (h114 fu) follows ent177 Tryz.func177 rfl rfl
def la115 : Nat → Option Pat := fun _ => none
def pr115 : Nat → List Gh := fun _ => []
def po115 : Nat → List Gh := fun _ => []
noncomputable def ph115 (fu : Nat) : Nat → Option (CQ (nEs [(80, 0), (81, 0), (88, 1), (89, 1), (110, 2), (111, 2)] [2, 2, 5]))
  | 177 => some (.dat (Q114 fu))
  | _ => none
theorem h115 (fu : Nat) : ∀ f q, ph115 fu f = some q → SoundC Tryz.prog f q := by
  intro f q h
  unfold ph115 at h
  split at h
  · cases h; exact zs114 fu
  · cases h
noncomputable def cx115 (fu : Nat) : Cx (nEs [(80, 0), (81, 0), (88, 1), (89, 1), (110, 2), (111, 2)] [2, 2, 5]) := ⟨Tryz.prog, ph115 fu, la115, fun _ => none, pr115, po115, 0, 13⟩
noncomputable def Q115 (fu : Nat) : FQ (nEs [(80, 0), (81, 0), (88, 1), (89, 1), (110, 2), (111, 2)] [2, 2, 5]) := ⟨[(.st (.sl (.st (.pr .bool (.sl (.st (.pr (.int .u8) (.pr (.int .u8) (.int .i64)))))))))], [.str, .bool], fden (cx115 fu) fu Tryz.f113 [(.st (.sl (.st (.pr .bool (.sl (.st (.pr (.int .u8) (.pr (.int .u8) (.int .i64)))))))))] [.str, .bool]⟩
theorem zs115 (fu : Nat) : SoundQ Tryz.prog 113 (Q115 fu) := fden_ok (cx := cx115 fu) (h115 fu) follows ent113 Tryz.func113 rfl rfl
def la116 : Nat → Option Pat := fun _ => none
def pr116 : Nat → List Gh := fun _ => []
def po116 : Nat → List Gh := fun _ => []
def ph116 (_ : Nat) : Nat → Option (CQ (nEs [(80, 0), (81, 0), (88, 1), (89, 1), (110, 2), (111, 2)] [2, 2, 5])) := fun _ => none
theorem h116 (fu : Nat) : ∀ f q, ph116 fu f = some q → SoundC Tryz.prog f q := fun _ _ h => by cases h
noncomputable def cx116 (fu : Nat) : Cx (nEs [(80, 0), (81, 0), (88, 1), (89, 1), (110, 2), (111, 2)] [2, 2, 5]) := ⟨Tryz.prog, ph116 fu, la116, fun _ => none, pr116, po116, 0, 6⟩
noncomputable def Q116 (fu : Nat) : FQ (nEs [(80, 0), (81, 0), (88, 1), (89, 1), (110, 2), (111, 2)] [2, 2, 5]) := ⟨[(.int .i64)], [.bool], fden (cx116 fu) fu Tryz.f44 [(.int .i64)] [.bool]⟩
theorem zs116 (fu : Nat) : SoundQ Tryz.prog 44 (Q116 fu) := fden_ok (cx := cx116 fu) (h116 fu) follows ent44 Tryz.func44 rfl rfl
def la117 : Nat → Option Pat := fun _ => none
def pr117 : Nat → List Gh := fun _ => []
def po117 : Nat → List Gh := fun _ => []
noncomputable def ph117 (fu : Nat) : Nat → Option (CQ (nEs [(80, 0), (81, 0), (88, 1), (89, 1), (110, 2), (111, 2)] [2, 2, 5]))
  | 44 => some (.dat (Q116 fu))
  | _ => none
theorem h117 (fu : Nat) : ∀ f q, ph117 fu f = some q → SoundC Tryz.prog f q := by
  intro f q h
  unfold ph117 at h
  split at h
  · cases h; exact zs116 fu
  · cases h
noncomputable def cx117 (fu : Nat) : Cx (nEs [(80, 0), (81, 0), (88, 1), (89, 1), (110, 2), (111, 2)] [2, 2, 5]) := ⟨Tryz.prog, ph117 fu, la117, fun _ => none, pr117, po117, 0, 20⟩
noncomputable def Q117 (fu : Nat) : FQ (nEs [(80, 0), (81, 0), (88, 1), (89, 1), (110, 2), (111, 2)] [2, 2, 5]) := ⟨[(.int .i64), (.int .i64)], [(.int .i64)], fden (cx117 fu) fu Tryz.f26 [(.int .i64), (.int .i64)] [(.int .i64)]⟩
theorem zs117 (fu : Nat) : SoundQ Tryz.prog 26 (Q117 fu) := fden_ok (cx := cx117 fu) (h117 fu) follows ent26 Tryz.func26 rfl rfl
def la118 : Nat → Option Pat := fun _ => none
def pr118 : Nat → List Gh := fun _ => []
def po118 : Nat → List Gh := fun _ => []
def ph118 (_ : Nat) : Nat → Option (CQ (nEs [(80, 0), (81, 0), (88, 1), (89, 1), (110, 2), (111, 2)] [2, 2, 5])) := fun _ => none
theorem h118 (fu : Nat) : ∀ f q, ph118 fu f = some q → SoundC Tryz.prog f q := fun _ _ h => by cases h
noncomputable def cx118 (fu : Nat) : Cx (nEs [(80, 0), (81, 0), (88, 1), (89, 1), (110, 2), (111, 2)] [2, 2, 5]) := ⟨Tryz.prog, ph118 fu, la118, fun _ => none, pr118, po118, 0, 6⟩
noncomputable def Q118 (fu : Nat) : FQ (nEs [(80, 0), (81, 0), (88, 1), (89, 1), (110, 2), (111, 2)] [2, 2, 5]) := ⟨[.str], [.bool], fden (cx118 fu) fu Tryz.f310 [.str] [.bool]⟩
theorem zs118 (fu : Nat) : SoundQ Tryz.prog 310 (Q118 fu) := fden_ok (cx := cx118 fu) (h118 fu) follows ent310 Tryz.func310 rfl rfl
def la119 : Nat → Option Pat := fun _ => none
def pr119 : Nat → List Gh := fun _ => []
def po119 : Nat → List Gh := fun _ => []
noncomputable def ph119 (fu : Nat) : Nat → Option (CQ (nEs [(80, 0), (81, 0), (88, 1), (89, 1), (110, 2), (111, 2)] [2, 2, 5]))
  | 310 => some (.dat (Q118 fu))
  | _ => none
theorem h119 (fu : Nat) : ∀ f q, ph119 fu f = some q → SoundC Tryz.prog f q := by
  intro f q h
  unfold ph119 at h
  split at h
  · cases h; exact zs118 fu
  · cases h
noncomputable def cx119 (fu : Nat) : Cx (nEs [(80, 0), (81, 0), (88, 1), (89, 1), (110, 2), (111, 2)] [2, 2, 5]) := ⟨Tryz.prog, ph119 fu, la119, fun _ => none, pr119, po119, 0, 20⟩
noncomputable def Q119 (fu : Nat) : FQ (nEs [(80, 0), (81, 0), (88, 1), (89, 1), (110, 2), (111, 2)] [2, 2, 5]) := ⟨[.str, .str], [(.int .i64)], fden (cx119 fu) fu Tryz.f243 [.str, .str] [(.int .i64)]⟩
theorem zs119 (fu : Nat) : SoundQ Tryz.prog 243 (Q119 fu) := fden_ok (cx := cx119 fu) (h119 fu) follows ent243 Tryz.func243 rfl rfl
def la120 : Nat → Option Pat
  | 3 => some ⟨[.nat], [(3, .keep), (6, .keep), (7, .keep), (8, .cnt 0 300)], [], 0⟩
  | _ => none
def pr120 : Nat → List Gh := fun _ => []
def po120 : Nat → List Gh := fun _ => []
def ph120 (_ : Nat) : Nat → Option (CQ (nEs [(80, 0), (81, 0), (88, 1), (89, 1), (110, 2), (111, 2)] [2, 2, 5])) := fun _ => none
theorem h120 (fu : Nat) : ∀ f q, ph120 fu f = some q → SoundC Tryz.prog f q := fun _ _ h => by cases h
noncomputable def cx120 (fu : Nat) : Cx (nEs [(80, 0), (81, 0), (88, 1), (89, 1), (110, 2), (111, 2)] [2, 2, 5]) := ⟨Tryz.prog, ph120 fu, la120, fun _ => none, pr120, po120, 0, 18⟩
noncomputable def Q120 (fu : Nat) : FQ (nEs [(80, 0), (81, 0), (88, 1), (89, 1), (110, 2), (111, 2)] [2, 2, 5]) := ⟨[(.sl (.int .i64))], [(.int .i64)], fden (cx120 fu) fu Tryz.f25 [(.sl (.int .i64))] [(.int .i64)]⟩
theorem zs120 (fu : Nat) : SoundQ Tryz.prog 25 (Q120 fu) := fden_ok (cx := cx120 fu) (h120 fu) follows ent25 Tryz.func25 rfl rfl
def la121 : Nat → Option Pat := fun _ => none
def pr121 : Nat → List Gh := fun _ => []
def po121 : Nat → List Gh := fun _ => []
noncomputable def ph121 (fu : Nat) : Nat → Option (CQ (nEs [(80, 0), (81, 0), (88, 1), (89, 1), (110, 2), (111, 2)] [2, 2, 5]))
  | 25 => some (.dat (Q120 fu))
  | 26 => some (.dat (Q117 fu))
  | 113 => some (.dat (Q115 fu))
  | 241 => some (.dat (Q53 fu))
  | 242 => some (.dat (Q108 fu))
  | 243 => some (.dat (Q119 fu))
  | _ => none
theorem h121 (fu : Nat) : ∀ f q, ph121 fu f = some q → SoundC Tryz.prog f q := by
  intro f q h
  unfold ph121 at h
  split at h
  · cases h; exact zs120 fu
  · cases h; exact zs117 fu
  · cases h; exact zs115 fu
  · cases h; exact zs53 fu
  · cases h; exact zs108 fu
  · cases h; exact zs119 fu
  · cases h
noncomputable def cx121 (fu : Nat) : Cx (nEs [(80, 0), (81, 0), (88, 1), (89, 1), (110, 2), (111, 2)] [2, 2, 5]) := ⟨Tryz.prog, ph121 fu, la121, fun _ => none, pr121, po121, 0, 50⟩
noncomputable def Q121 (fu : Nat) : FQ (nEs [(80, 0), (81, 0), (88, 1), (89, 1), (110, 2), (111, 2)] [2, 2, 5]) := ⟨[(.st (.sl (.st (.pr .bool (.sl (.st (.pr (.int .u8) (.pr (.int .u8) (.int .i64))))))))), (.st (.sl (.st (.pr .bool (.sl (.st (.pr (.int .u8) (.pr (.int .u8) (.int .i64)))))))))], [(.int .i64)], fden (cx121 fu) fu Tryz.f170 [(.st (.sl (.st (.pr .bool (.sl (.st (.pr (.int .u8) (.pr (.int .u8) (.int .i64))))))))), (.st (.sl (.st (.pr .bool (.sl (.st (.pr (.int .u8) (.pr (.int .u8) (.int .i64)))))))))] [(.int .i64)]⟩
theorem zs121 (fu : Nat) : SoundQ Tryz.prog 170 (Q121 fu) := fden_ok (cx := cx121 fu) (h121 fu) follows ent170 Tryz.func170 rfl rfl
def la122 : Nat → Option Pat
  | 4 => some ⟨[.nat], [(2, .keep), (3, .keep), (32, .keep), (33, .cnt 0 400)], [(1, .c 0), (0, .c 0)], 2⟩
  | _ => none
def pr122 : Nat → List Gh := fun _ => []
def po122 : Nat → List Gh := fun _ => []
noncomputable def ph122 (fu : Nat) : Nat → Option (CQ (nEs [(80, 0), (81, 0), (88, 1), (89, 1), (110, 2), (111, 2)] [2, 2, 5]))
  | 170 => some (.dat (Q121 fu))
  | 172 => some (.dat (Q37 fu))
  | 280 => some (.dat (Q106 fu))
  | _ => none
theorem h122 (fu : Nat) : ∀ f q, ph122 fu f = some q → SoundC Tryz.prog f q := by
  intro f q h
  unfold ph122 at h
  split at h
  · cases h; exact zs121 fu
  · cases h; exact zs37 fu
  · cases h; exact zs106 fu
  · cases h
noncomputable def cx122 (fu : Nat) : Cx (nEs [(80, 0), (81, 0), (88, 1), (89, 1), (110, 2), (111, 2)] [2, 2, 5]) := ⟨Tryz.prog, ph122 fu, la122, fun _ => none, pr122, po122, 0, 58⟩
noncomputable def Q122 (fu : Nat) : FQ (nEs [(80, 0), (81, 0), (88, 1), (89, 1), (110, 2), (111, 2)] [2, 2, 5]) := ⟨[(.st (.pr .bool (.pr .bool (.pr .bool (.pr (.st (.pr (.sl (.st (.pr (.int .i64) (.int .i64)))) (.sl (.st (.pr (.int .i64) (.int .i64)))))) (.st (.sl (.st (.pr .bool (.sl (.st (.pr (.int .u8) (.pr (.int .u8) (.int .i64)))))))))))))), (.st (.pr .bool (.pr .bool (.pr .bool (.pr (.st (.pr (.sl (.st (.pr (.int .i64) (.int .i64)))) (.sl (.st (.pr (.int .i64) (.int .i64)))))) (.st (.sl (.st (.pr .bool (.sl (.st (.pr (.int .u8) (.pr (.int .u8) (.int .i64))))))))))))))], [(.int .i64)], fden (cx122 fu) fu Tryz.f212 [(.st (.pr .bool (.pr .bool (.pr .bool (.pr (.st (.pr (.sl (.st (.pr (.int .i64) (.int .i64)))) (.sl (.st (.pr (.int .i64) (.int .i64)))))) (.st (.sl (.st (.pr .bool (.sl (.st (.pr (.int .u8) (.pr (.int .u8) (.int .i64)))))))))))))), (.st (.pr .bool (.pr .bool (.pr .bool (.pr (.st (.pr (.sl (.st (.pr (.int .i64) (.int .i64)))) (.sl (.st (.pr (.int .i64) (.int .i64)))))) (.st (.sl (.st (.pr .bool (.sl (.st (.pr (.int .u8) (.pr (.int .u8) (.int .i64))))))))))))))] [(.int .i64)]⟩
theorem zs122 (fu : Nat) : SoundQ Tryz.prog 212 (Q122 fu) := fden_ok (cx := cx122 fu) (h122 fu) follows ent212 Tryz.func212 rfl rfl
def la123 : Nat → Option Pat := fun _ => none
def pr123 : Nat → List Gh := fun _ => []
def po123 : Nat → List Gh := fun _ => []
def ph123 (_ : Nat) : Nat → Option (CQ (nEs [(80, 0), (81, 0), (88, 1), (89, 1), (110, 2), (111, 2)] [2, 2, 5])) := fun _ => none
theorem h123 (fu : Nat) : ∀ f q, ph123 fu f = some q → SoundC Tryz.prog f q := fun _ _ h => by cases h
noncomputable def cx123 (fu : Nat) : Cx (nEs [(80, 0), (81, 0), (88, 1), (89, 1), (110, 2), (111, 2)] [2, 2, 5]) := ⟨Tryz.prog, ph123 fu, la123, fun _ => none, pr123, po123, 0, 20⟩
noncomputable def Q123 (fu : Nat) : FQ (nEs [(80, 0), (81, 0), (88, 1), (89, 1), (110, 2), (111, 2)] [2, 2, 5]) := ⟨[(.nm 0)], [.bool], fden (cx123 fu) fu Tryz.f214 [(.nm 0)] [.bool]⟩
theorem zs123 (fu : Nat) : SoundQ Tryz.prog 214 (Q123 fu) := fden_ok (cx := cx123 fu) (h123 fu) follows ent214 Tryz.func214 rfl rfl
def la124 : Nat → Option Pat := fun _ => none
def pr124 : Nat → List Gh := fun _ => []
def po124 : Nat → List Gh := fun _ => []
def ph124 (_ : Nat) : Nat → Option (CQ (nEs [(80, 0), (81, 0), (88, 1), (89, 1), (110, 2), (111, 2)] [2, 2, 5])) := fun _ => none
theorem h124 (fu : Nat) : ∀ f q, ph124 fu f = some q → SoundC Tryz.prog f q := fun _ _ h => by cases h
noncomputable def cx124 (fu : Nat) : Cx (nEs [(80, 0), (81, 0), (88, 1), (89, 1), (110, 2), (111, 2)] [2, 2, 5]) := ⟨Tryz.prog, ph124 fu, la124, fun _ => none, pr124, po124, 0, 21⟩
noncomputable def Q124 (fu : Nat) : FQ (nEs [(80, 0), (81, 0), (88, 1), (89, 1), (110, 2), (111, 2)] [2, 2, 5]) := ⟨[(.nm 1)], [.bool], fden (cx124 fu) fu Tryz.f215 [(.nm 1)] [.bool]⟩
theorem zs124 (fu : Nat) : SoundQ Tryz.prog 215 (Q124 fu) := fden_ok (cx := cx124 fu) (h124 fu) follows ent215 Tryz.func215 rfl rfl
def la125 : Nat → Option Pat := fun _ => none
def pr125 : Nat → List Gh := fun _ => []
def po125 : Nat → List Gh := fun _ => []
noncomputable def ph125 (fu : Nat) : Nat → Option (CQ (nEs [(80, 0), (81, 0), (88, 1), (89, 1), (110, 2), (111, 2)] [2, 2, 5]))
  | 212 => some (.dat (Q122 fu))
  | 213 => some (.dat (Q87 fu))
  | 214 => some (.dat (Q123 fu))
  | 215 => some (.dat (Q124 fu))
  | _ => none
theorem h125 (fu : Nat) : ∀ f q, ph125 fu f = some q → SoundC Tryz.prog f q := by
  intro f q h
  unfold ph125 at h
  split at h
  · cases h; exact zs122 fu
  · cases h; exact zs87 fu
  · cases h; exact zs123 fu
  · cases h; exact zs124 fu
  · cases h
noncomputable def cx125 (fu : Nat) : Cx (nEs [(80, 0), (81, 0), (88, 1), (89, 1), (110, 2), (111, 2)] [2, 2, 5]) := ⟨Tryz.prog, ph125 fu, la125, fun _ => none, pr125, po125, 0, 34⟩
noncomputable def Q125 (fu : Nat) : FQ (nEs [(80, 0), (81, 0), (88, 1), (89, 1), (110, 2), (111, 2)] [2, 2, 5]) := ⟨[(.st (.pr .bool (.pr (.st (.pr .bool (.pr .bool (.pr .bool (.pr (.st (.pr (.sl (.st (.pr (.int .i64) (.int .i64)))) (.sl (.st (.pr (.int .i64) (.int .i64)))))) (.st (.sl (.st (.pr .bool (.sl (.st (.pr (.int .u8) (.pr (.int .u8) (.int .i64)))))))))))))) (.pr (.sl (.nm 0)) (.sl (.nm 1))))))], [.bool], fden (cx125 fu) fu Tryz.f145 [(.st (.pr .bool (.pr (.st (.pr .bool (.pr .bool (.pr .bool (.pr (.st (.pr (.sl (.st (.pr (.int .i64) (.int .i64)))) (.sl (.st (.pr (.int .i64) (.int .i64)))))) (.st (.sl (.st (.pr .bool (.sl (.st (.pr (.int .u8) (.pr (.int .u8) (.int .i64)))))))))))))) (.pr (.sl (.nm 0)) (.sl (.nm 1))))))] [.bool]⟩
theorem zs125 (fu : Nat) : SoundQ Tryz.prog 145 (Q125 fu) := fden_ok (cx := cx125 fu) (h125 fu) follows ent145 Tryz.func145 rfl rfl
def la126 : Nat → Option Pat
  | 6 => some ⟨[.nat], [(1, .keep), (2, .keep), (4, .keep), (5, .keep), (25, .keep), (26, .keep), (27, .cnt 0 600)], [(2, .c 0), (1, .c 0), (0, .c 0)], 3⟩
  | 16 => some ⟨[.nat], [(2, .keep), (4, .keep), (5, .keep), (11, .keep), (47, .keep), (48, .keep), (49, .cnt 0 1600)], [(2, .c 0), (1, .c 0)], 3⟩
  | _ => none
def pr126 : Nat → List Gh := fun _ => []
def po126 : Nat → List Gh := fun _ => []
noncomputable def ph126 (fu : Nat) : Nat → Option (CQ (nEs [(80, 0), (81, 0), (88, 1), (89, 1), (110, 2), (111, 2)] [2, 2, 5]))
  | 136 => some (.dat (Q65 fu))
  | 139 => some (.pats [Q74 fu])
  | 142 => some (.pats [Q83 fu])
  | 145 => some (.dat (Q125 fu))
  | _ => none
theorem h126 (fu : Nat) : ∀ f q, ph126 fu f = some q → SoundC Tryz.prog f q := by
  intro f q h
  unfold ph126 at h
  split at h
  · cases h; exact zs65 fu
  · cases h; exact (patsC (zs74 fu) patsN)
  · cases h; exact (patsC (zs83 fu) patsN)
  · cases h; exact zs125 fu
  · cases h
noncomputable def cx126 (fu : Nat) : Cx (nEs [(80, 0), (81, 0), (88, 1), (89, 1), (110, 2), (111, 2)] [2, 2, 5]) := ⟨Tryz.prog, ph126 fu, la126, fun _ => none, pr126, po126, 0, 78⟩
noncomputable def Q126 (fu : Nat) : FQ (nEs [(80, 0), (81, 0), (88, 1), (89, 1), (110, 2), (111, 2)] [2, 2, 5]) := ⟨[(.st (.pr .bool (.pr (.st (.pr .bool (.pr .bool (.pr .bool (.pr (.st (.pr (.sl (.st (.pr (.int .i64) (.int .i64)))) (.sl (.st (.pr (.int .i64) (.int .i64)))))) (.st (.sl (.st (.pr .bool (.sl (.st (.pr (.int .u8) (.pr (.int .u8) (.int .i64)))))))))))))) (.pr (.sl (.nm 0)) (.sl (.nm 1))))))], [(.st (.pr .bool (.pr (.st (.pr .bool (.pr .bool (.pr .bool (.pr (.st (.pr (.sl (.st (.pr (.int .i64) (.int .i64)))) (.sl (.st (.pr (.int .i64) (.int .i64)))))) (.st (.sl (.st (.pr .bool (.sl (.st (.pr (.int .u8) (.pr (.int .u8) (.int .i64)))))))))))))) (.pr (.sl (.nm 0)) (.sl (.nm 1)))))), .bool], fden (cx126 fu) fu Tryz.f96 [(.st (.pr .bool (.pr (.st (.pr .bool (.pr .bool (.pr .bool (.pr (.st (.pr (.sl (.st (.pr (.int .i64) (.int .i64)))) (.sl (.st (.pr (.int .i64) (.int .i64)))))) (.st (.sl (.st (.pr .bool (.sl (.st (.pr (.int .u8) (.pr (.int .u8) (.int .i64)))))))))))))) (.pr (.sl (.nm 0)) (.sl (.nm 1))))))] [(.st (.pr .bool (.pr (.st (.pr .bool (.pr .bool (.pr .bool (.pr (.st (.pr (.sl (.st (.pr (.int .i64) (.int .i64)))) (.sl (.st (.pr (.int .i64) (.int .i64)))))) (.st (.sl (.st (.pr .bool (.sl (.st (.pr (.int .u8) (.pr (.int .u8) (.int .i64)))))))))))))) (.pr (.sl (.nm 0)) (.sl (.nm 1)))))), .bool]⟩
theorem zs126 (fu : Nat) : SoundQ Tryz.prog 96 (Q126 fu) := fden_ok (cx := cx126 fu) (h126 fu) follows ent96 Tryz.func96 rfl rfl
def la127 : Nat → Option Pat := fun _ => none
def pr127 : Nat → List Gh := fun _ => []
def po127 : Nat → List Gh := fun _ => []
noncomputable def ph127 (fu : Nat) : Nat → Option (CQ (nEs [(80, 0), (81, 0), (88, 1), (89, 1), (110, 2), (111, 2)] [2, 2, 5]))
  | 221 => some (.dat (Q25 fu))
  | 222 => some (.dat (Q35 fu))
  | _ => none
theorem h127 (fu : Nat) : ∀ f q, ph127 fu f = some q → SoundC Tryz.prog f q := by
  intro f q h
  unfold ph127 at h
  split at h
  · cases h; exact zs25 fu
  · cases h; exact zs35 fu
  · cases h
noncomputable def cx127 (fu : Nat) : Cx (nEs [(80, 0), (81, 0), (88, 1), (89, 1), (110, 2), (111, 2)] [2, 2, 5]) := ⟨Tryz.prog, ph127 fu, la127, fun _ => none, pr127, po127, 0, 49⟩
noncomputable def Q127 (fu : Nat) : FQ (nEs [(80, 0), (81, 0), (88, 1), (89, 1), (110, 2), (111, 2)] [2, 2, 5]) := ⟨[(.st (.pr .bool (.pr .bool (.pr .bool (.pr (.st (.pr (.sl (.st (.pr (.int .i64) (.int .i64)))) (.sl (.st (.pr (.int .i64) (.int .i64)))))) (.st (.sl (.st (.pr .bool (.sl (.st (.pr (.int .u8) (.pr (.int .u8) (.int .i64)))))))))))))), (.st (.pr .bool (.pr .bool (.pr .bool (.pr (.st (.pr (.sl (.st (.pr (.int .i64) (.int .i64)))) (.sl (.st (.pr (.int .i64) (.int .i64)))))) (.st (.sl (.st (.pr .bool (.sl (.st (.pr (.int .u8) (.pr (.int .u8) (.int .i64))))))))))))))], [.bool], fden (cx127 fu) fu Tryz.f149 [(.st (.pr .bool (.pr .bool (.pr .bool (.pr (.st (.pr (.sl (.st (.pr (.int .i64) (.int .i64)))) (.sl (.st (.pr (.int .i64) (.int .i64)))))) (.st (.sl (.st (.pr .bool (.sl (.st (.pr (.int .u8) (.pr (.int .u8) (.int .i64)))))))))))))), (.st (.pr .bool (.pr .bool (.pr .bool (.pr (.st (.pr (.sl (.st (.pr (.int .i64) (.int .i64)))) (.sl (.st (.pr (.int .i64) (.int .i64)))))) (.st (.sl (.st (.pr .bool (.sl (.st (.pr (.int .u8) (.pr (.int .u8) (.int .i64))))))))))))))] [.bool]⟩
theorem zs127 (fu : Nat) : SoundQ Tryz.prog 149 (Q127 fu) := fden_ok (cx := cx127 fu) (h127 fu) follows ent149 Tryz.func149 rfl rfl
def la128 : Nat → Option Pat := fun _ => none
def pr128 : Nat → List Gh := fun _ => []
def po128 : Nat → List Gh := fun _ => []
def ph128 (_ : Nat) : Nat → Option (CQ (nEs [(80, 0), (81, 0), (88, 1), (89, 1), (110, 2), (111, 2)] [2, 2, 5])) := fun _ => none
theorem h128 (fu : Nat) : ∀ f q, ph128 fu f = some q → SoundC Tryz.prog f q := fun _ _ h => by cases h
noncomputable def cx128 (fu : Nat) : Cx (nEs [(80, 0), (81, 0), (88, 1), (89, 1), (110, 2), (111, 2)] [2, 2, 5]) := ⟨Tryz.prog, ph128 fu, la128, fun _ => none, pr128, po128, 0, 17⟩
noncomputable def Q128 (fu : Nat) : FQ (nEs [(80, 0), (81, 0), (88, 1), (89, 1), (110, 2), (111, 2)] [2, 2, 5]) := ⟨[(.nm 1), (.nm 1)], [.bool], fden (cx128 fu) fu Tryz.f152 [(.nm 1), (.nm 1)] [.bool]⟩
theorem zs128 (fu : Nat) : SoundQ Tryz.prog 152 (Q128 fu) := fden_ok (cx := cx128 fu) (h128 fu) follows ent152 Tryz.func152 rfl rfl
def la129 : Nat → Option Pat
  | 4 => some ⟨[.nat], [(2, .keep), (3, .keep), (42, .keep), (43, .cnt 0 400)], [(1, .c 0), (0, .c 0)], 2⟩
  | 11 => some ⟨[.nat], [(2, .keep), (3, .keep), (74, .keep), (75, .cnt 0 1100)], [(1, .c 0), (0, .c 0)], 2⟩
  | _ => none
def pr129 : Nat → List Gh := fun _ => []
def po129 : Nat → List Gh := fun _ => []
noncomputable def ph129 (fu : Nat) : Nat → Option (CQ (nEs [(80, 0), (81, 0), (88, 1), (89, 1), (110, 2), (111, 2)] [2, 2, 5]))
  | 149 => some (.dat (Q127 fu))
  | 152 => some (.dat (Q128 fu))
  | _ => none
theorem h129 (fu : Nat) : ∀ f q, ph129 fu f = some q → SoundC Tryz.prog f q := by
  intro f q h
  unfold ph129 at h
  split at h
  · cases h; exact zs127 fu
  · cases h; exact zs128 fu
  · cases h
noncomputable def cx129 (fu : Nat) : Cx (nEs [(80, 0), (81, 0), (88, 1), (89, 1), (110, 2), (111, 2)] [2, 2, 5]) := ⟨Tryz.prog, ph129 fu, la129, fun _ => none, pr129, po129, 0, 91⟩
noncomputable def Q129 (fu : Nat) : FQ (nEs [(80, 0), (81, 0), (88, 1), (89, 1), (110, 2), (111, 2)] [2, 2, 5]) := ⟨[(.st (.pr .bool (.pr (.st (.pr .bool (.pr .bool (.pr .bool (.pr (.st (.pr (.sl (.st (.pr (.int .i64) (.int .i64)))) (.sl (.st (.pr (.int .i64) (.int .i64)))))) (.st (.sl (.st (.pr .bool (.sl (.st (.pr (.int .u8) (.pr (.int .u8) (.int .i64)))))))))))))) (.pr (.sl (.nm 0)) (.sl (.nm 1)))))), (.st (.pr .bool (.pr (.st (.pr .bool (.pr .bool (.pr .bool (.pr (.st (.pr (.sl (.st (.pr (.int .i64) (.int .i64)))) (.sl (.st (.pr (.int .i64) (.int .i64)))))) (.st (.sl (.st (.pr .bool (.sl (.st (.pr (.int .u8) (.pr (.int .u8) (.int .i64)))))))))))))) (.pr (.sl (.nm 0)) (.sl (.nm 1))))))], [.bool], fden (cx129 fu) fu Tryz.f98 [(.st (.pr .bool (.pr (.st (.pr .bool (.pr .bool (.pr .bool (.pr (.st (.pr (.sl (.st (.pr (.int .i64) (.int .i64)))) (.sl (.st (.pr (.int .i64) (.int .i64)))))) (.st (.sl (.st (.pr .bool (.sl (.st (.pr (.int .u8) (.pr (.int .u8) (.int .i64)))))))))))))) (.pr (.sl (.nm 0)) (.sl (.nm 1)))))), (.st (.pr .bool (.pr (.st (.pr .bool (.pr .bool (.pr .bool (.pr (.st (.pr (.sl (.st (.pr (.int .i64) (.int .i64)))) (.sl (.st (.pr (.int .i64) (.int .i64)))))) (.st (.sl (.st (.pr .bool (.sl (.st (.pr (.int .u8) (.pr (.int .u8) (.int .i64)))))))))))))) (.pr (.sl (.nm 0)) (.sl (.nm 1))))))] [.bool]⟩
theorem zs129 (fu : Nat) : SoundQ Tryz.prog 98 (Q129 fu) := fden_ok (cx := cx129 fu) (h129 fu) follows ent98 Tryz.func98 rfl rfl
def la130 : Nat → Option Pat := fun _ => none
def pr130 : Nat → List Gh := fun _ => []
def po130 : Nat → List Gh := fun _ => []
noncomputable def ph130 (fu : Nat) : Nat → Option (CQ (nEs [(80, 0), (81, 0), (88, 1), (89, 1), (110, 2), (111, 2)] [2, 2, 5]))
  | 98 => some (.dat (Q129 fu))
  | _ => none
theorem h130 (fu : Nat) : ∀ f q, ph130 fu f = some q → SoundC Tryz.prog f q := by
  intro f q h
  unfold ph130 at h
  split at h
  · cases h; exact zs129 fu
  · cases h
noncomputable def cx130 (fu : Nat) : Cx (nEs [(80, 0), (81, 0), (88, 1), (89, 1), (110, 2), (111, 2)] [2, 2, 5]) := ⟨Tryz.prog, ph130 fu, la130, fun _ => none, pr130, po130, 0, 17⟩
noncomputable def Q130 (fu : Nat) : FQ (nEs [(80, 0), (81, 0), (88, 1), (89, 1), (110, 2), (111, 2)] [2, 2, 5]) := ⟨[(.st (.pr (.st (.pr .bool (.pr (.st (.pr .bool (.pr .bool (.pr .bool (.pr (.st (.pr (.sl (.st (.pr (.int .i64) (.int .i64)))) (.sl (.st (.pr (.int .i64) (.int .i64)))))) (.st (.sl (.st (.pr .bool (.sl (.st (.pr (.int .u8) (.pr (.int .u8) (.int .i64)))))))))))))) (.pr (.sl (.nm 0)) (.sl (.nm 1)))))) (.st (.pr .bool (.pr (.st (.pr .bool (.pr .bool (.pr .bool (.pr (.st (.pr (.sl (.st (.pr (.int .i64) (.int .i64)))) (.sl (.st (.pr (.int .i64) (.int .i64)))))) (.st (.sl (.st (.pr .bool (.sl (.st (.pr (.int .u8) (.pr (.int .u8) (.int .i64)))))))))))))) (.pr (.sl (.nm 0)) (.sl (.nm 1)))))))), (.st (.pr (.st (.pr .bool (.pr (.st (.pr .bool (.pr .bool (.pr .bool (.pr (.st (.pr (.sl (.st (.pr (.int .i64) (.int .i64)))) (.sl (.st (.pr (.int .i64) (.int .i64)))))) (.st (.sl (.st (.pr .bool (.sl (.st (.pr (.int .u8) (.pr (.int .u8) (.int .i64)))))))))))))) (.pr (.sl (.nm 0)) (.sl (.nm 1)))))) (.st (.pr .bool (.pr (.st (.pr .bool (.pr .bool (.pr .bool (.pr (.st (.pr (.sl (.st (.pr (.int .i64) (.int .i64)))) (.sl (.st (.pr (.int .i64) (.int .i64)))))) (.st (.sl (.st (.pr .bool (.sl (.st (.pr (.int .u8) (.pr (.int .u8) (.int .i64)))))))))))))) (.pr (.sl (.nm 0)) (.sl (.nm 1))))))))], [.bool], fden (cx130 fu) fu Tryz.f63 [(.st (.pr (.st (.pr .bool (.pr (.st (.pr .bool (.pr .bool (.pr .bool (.pr (.st (.pr (.sl (.st (.pr (.int .i64) (.int .i64)))) (.sl (.st (.pr (.int .i64) (.int .i64)))))) (.st (.sl (.st (.pr .bool (.sl (.st (.pr (.int .u8) (.pr (.int .u8) (.int .i64)))))))))))))) (.pr (.sl (.nm 0)) (.sl (.nm 1)))))) (.st (.pr .bool (.pr (.st (.pr .bool (.pr .bool (.pr .bool (.pr (.st (.pr (.sl (.st (.pr (.int .i64) (.int .i64)))) (.sl (.st (.pr (.int .i64) (.int .i64)))))) (.st (.sl (.st (.pr .bool (.sl (.st (.pr (.int .u8) (.pr (.int .u8) (.int .i64)))))))))))))) (.pr (.sl (.nm 0)) (.sl (.nm 1)))))))), (.st (.pr (.st (.pr .bool (.pr (.st (.pr .bool (.pr .bool (.pr .bool (.pr (.st (.pr (.sl (.st (.pr (.int .i64) (.int .i64)))) (.sl (.st (.pr (.int .i64) (.int .i64)))))) (.st (.sl (.st (.pr .bool (.sl (.st (.pr (.int .u8) (.pr (.int .u8) (.int .i64)))))))))))))) (.pr (.sl (.nm 0)) (.sl (.nm 1)))))) (.st (.pr .bool (.pr (.st (.pr .bool (.pr .bool (.pr .bool (.pr (.st (.pr (.sl (.st (.pr (.int .i64) (.int .i64)))) (.sl (.st (.pr (.int .i64) (.int .i64)))))) (.st (.sl (.st (.pr .bool (.sl (.st (.pr (.int .u8) (.pr (.int .u8) (.int .i64)))))))))))))) (.pr (.sl (.nm 0)) (.sl (.nm 1))))))))] [.bool]⟩
theorem zs130 (fu : Nat) : SoundQ Tryz.prog 63 (Q130 fu) := fden_ok (cx := cx130 fu) (h130 fu) follows ent63 Tryz.func63 rfl rfl
def la131 : Nat → Option Pat := fun _ => none
def pr131 : Nat → List Gh := fun _ => []
def po131 : Nat → List Gh := fun _ => []
noncomputable def ph131 (fu : Nat) : Nat → Option (CQ (nEs [(80, 0), (81, 0), (88, 1), (89, 1), (110, 2), (111, 2)] [2, 2, 5]))
  | 63 => some (.dat (Q130 fu))
  | _ => none
theorem h131 (fu : Nat) : ∀ f q, ph131 fu f = some q → SoundC Tryz.prog f q := by
  intro f q h
  unfold ph131 at h
  split at h
  · cases h; exact zs130 fu
  · cases h
noncomputable def cx131 (fu : Nat) : Cx (nEs [(80, 0), (81, 0), (88, 1), (89, 1), (110, 2), (111, 2)] [2, 2, 5]) := ⟨Tryz.prog, ph131 fu, la131, fun _ => none, pr131, po131, 0, 8⟩
noncomputable def Q131 (fu : Nat) : FQ (nEs [(80, 0), (81, 0), (88, 1), (89, 1), (110, 2), (111, 2)] [2, 2, 5]) := ⟨[(.st (.pr (.st (.pr .bool (.pr (.st (.pr .bool (.pr .bool (.pr .bool (.pr (.st (.pr (.sl (.st (.pr (.int .i64) (.int .i64)))) (.sl (.st (.pr (.int .i64) (.int .i64)))))) (.st (.sl (.st (.pr .bool (.sl (.st (.pr (.int .u8) (.pr (.int .u8) (.int .i64)))))))))))))) (.pr (.sl (.nm 0)) (.sl (.nm 1)))))) (.st (.pr .bool (.pr (.st (.pr .bool (.pr .bool (.pr .bool (.pr (.st (.pr (.sl (.st (.pr (.int .i64) (.int .i64)))) (.sl (.st (.pr (.int .i64) (.int .i64)))))) (.st (.sl (.st (.pr .bool (.sl (.st (.pr (.int .u8) (.pr (.int .u8) (.int .i64)))))))))))))) (.pr (.sl (.nm 0)) (.sl (.nm 1)))))))), (.st (.pr (.st (.pr .bool (.pr (.st (.pr .bool (.pr .bool (.pr .bool (.pr (.st (.pr (.sl (.st (.pr (.int .i64) (.int .i64)))) (.sl (.st (.pr (.int .i64) (.int .i64)))))) (.st (.sl (.st (.pr .bool (.sl (.st (.pr (.int .u8) (.pr (.int .u8) (.int .i64)))))))))))))) (.pr (.sl (.nm 0)) (.sl (.nm 1)))))) (.st (.pr .bool (.pr (.st (.pr .bool (.pr .bool (.pr .bool (.pr (.st (.pr (.sl (.st (.pr (.int .i64) (.int .i64)))) (.sl (.st (.pr (.int .i64) (.int .i64)))))) (.st (.sl (.st (.pr .bool (.sl (.st (.pr (.int .u8) (.pr (.int .u8) (.int .i64)))))))))))))) (.pr (.sl (.nm 0)) (.sl (.nm 1))))))))], [.bool], fden (cx131 fu) fu Tryz.f41 [(.st (.pr (.st (.pr .bool (.pr (.st (.pr .bool (.pr .bool (.pr .bool (.pr (.st (.pr (.sl (.st (.pr (.int .i64) (.int .i64)))) (.sl (.st (.pr (.int .i64) (.int .i64)))))) (.st (.sl (.st (.pr .bool (.sl (.st (.pr (.int .u8) (.pr (.int .u8) (.int .i64)))))))))))))) (.pr (.sl (.nm 0)) (.sl (.nm 1)))))) (.st (.pr .bool (.pr (.st (.pr .bool (.pr .bool (.pr .bool (.pr (.st (.pr (.sl (.st (.pr (.int .i64) (.int .i64)))) (.sl (.st (.pr (.int .i64) (.int .i64)))))) (.st (.sl (.st (.pr .bool (.sl (.st (.pr (.int .u8) (.pr (.int .u8) (.int .i64)))))))))))))) (.pr (.sl (.nm 0)) (.sl (.nm 1)))))))), (.st (.pr (.st (.pr .bool (.pr (.st (.pr .bool (.pr .bool (.pr .bool (.pr (.st (.pr (.sl (.st (.pr (.int .i64) (.int .i64)))) (.sl (.st (.pr (.int .i64) (.int .i64)))))) (.st (.sl (.st (.pr .bool (.sl (.st (.pr (.int .u8) (.pr (.int .u8) (.int .i64)))))))))))))) (.pr (.sl (.nm 0)) (.sl (.nm 1)))))) (.st (.pr .bool (.pr (.st (.pr .bool (.pr .bool (.pr .bool (.pr (.st (.pr (.sl (.st (.pr (.int .i64) (.int .i64)))) (.sl (.st (.pr (.int .i64) (.int .i64)))))) (.st (.sl (.st (.pr .bool (.sl (.st (.pr (.int .u8) (.pr (.int .u8) (.int .i64)))))))))))))) (.pr (.sl (.nm 0)) (.sl (.nm 1))))))))] [.bool]⟩
theorem zs131 (fu : Nat) : SoundQ Tryz.prog 41 (Q131 fu) := fden_ok (cx := cx131 fu) (h131 fu) follows ent41 Tryz.func41 rfl rfl
def la132 : Nat → Option Pat := fun _ => none
def pr132 : Nat → List Gh := fun _ => []
def po132 : Nat → List Gh := fun _ => []
def ph132 (_ : Nat) : Nat → Option (CQ (nEs [(80, 0), (81, 0), (88, 1), (89, 1), (110, 2), (111, 2)] [2, 2, 5])) := fun _ => none
theorem h132 (fu : Nat) : ∀ f q, ph132 fu f = some q → SoundC Tryz.prog f q := fun _ _ h => by cases h
noncomputable def cx132 (fu : Nat) : Cx (nEs [(80, 0), (81, 0), (88, 1), (89, 1), (110, 2), (111, 2)] [2, 2, 5]) := ⟨Tryz.prog, ph132 fu, la132, fun _ => none, pr132, po132, 0, 10⟩
noncomputable def Q132 (fu : Nat) : FQ (nEs [(80, 0), (81, 0), (88, 1), (89, 1), (110, 2), (111, 2)] [2, 2, 5]) := ⟨[.bool, .bool], [.bool], fden (cx132 fu) fu Tryz.f284 [.bool, .bool] [.bool]⟩
theorem zs132 (fu : Nat) : SoundQ Tryz.prog 284 (Q132 fu) := fden_ok (cx := cx132 fu) (h132 fu) follows ent284 Tryz.func284 rfl rfl
def la133 : Nat → Option Pat := fun _ => none
def pr133 : Nat → List Gh := fun _ => []
def po133 : Nat → List Gh := fun _ => []
noncomputable def ph133 (fu : Nat) : Nat → Option (CQ (nEs [(80, 0), (81, 0), (88, 1), (89, 1), (110, 2), (111, 2)] [2, 2, 5]))
  | 111 => some (.dat (Q48 fu))
  | 242 => some (.dat (Q108 fu))
  | 284 => some (.dat (Q132 fu))
  | 285 => some (.dat (Q101 fu))
  | _ => none
theorem h133 (fu : Nat) : ∀ f q, ph133 fu f = some q → SoundC Tryz.prog f q := by
  intro f q h
  unfold ph133 at h
  split at h
  · cases h; exact zs48 fu
  · cases h; exact zs108 fu
  · cases h; exact zs132 fu
  · cases h; exact zs101 fu
  · cases h
noncomputable def cx133 (fu : Nat) : Cx (nEs [(80, 0), (81, 0), (88, 1), (89, 1), (110, 2), (111, 2)] [2, 2, 5]) := ⟨Tryz.prog, ph133 fu, la133, fun _ => none, pr133, po133, 0, 46⟩
def pi133 : Pat := ⟨[.dat (.st (.pr .bool (.pr .bool (.pr .bool (.pr (.st (.pr (.sl (.st (.pr (.int .i64) (.int .i64)))) (.sl (.st (.pr (.int .i64) (.int .i64)))))) (.st (.sl (.st (.pr .bool (.sl (.st (.pr (.int .u8) (.pr (.int .u8) (.int .i64)))))))))))))), .dat (.st (.pr .bool (.pr .bool (.pr .bool (.pr (.st (.pr (.sl (.st (.pr (.int .i64) (.int .i64)))) (.sl (.st (.pr (.int .i64) (.int .i64)))))) (.st (.sl (.st (.pr .bool (.sl (.st (.pr (.int .u8) (.pr (.int .u8) (.int .i64))))))))))))))], [(0, .v 0 (.st (.pr .bool (.pr .bool (.pr .bool (.pr (.st (.pr (.sl (.st (.pr (.int .i64) (.int .i64)))) (.sl (.st (.pr (.int .i64) (.int .i64)))))) (.st (.sl (.st (.pr .bool (.sl (.st (.pr (.int .u8) (.pr (.int .u8) (.int .i64))))))))))))))), (1, .v 1 (.st (.pr .bool (.pr .bool (.pr .bool (.pr (.st (.pr (.sl (.st (.pr (.int .i64) (.int .i64)))) (.sl (.st (.pr (.int .i64) (.int .i64)))))) (.st (.sl (.st (.pr .bool (.sl (.st (.pr (.int .u8) (.pr (.int .u8) (.int .i64))))))))))))))), (2, .clo 284 [] []), (3, .clo 285 [] []), (4, .clo 242 [] [])], [], 0⟩
def qo133 : Pat := ⟨[.dat (.st (.pr .bool (.pr .bool (.pr .bool (.pr (.st (.pr (.sl (.st (.pr (.int .i64) (.int .i64)))) (.sl (.st (.pr (.int .i64) (.int .i64)))))) (.st (.sl (.st (.pr .bool (.sl (.st (.pr (.int .u8) (.pr (.int .u8) (.int .i64))))))))))))))], [(0, .v 0 (.st (.pr .bool (.pr .bool (.pr .bool (.pr (.st (.pr (.sl (.st (.pr (.int .i64) (.int .i64)))) (.sl (.st (.pr (.int .i64) (.int .i64)))))) (.st (.sl (.st (.pr .bool (.sl (.st (.pr (.int .u8) (.pr (.int .u8) (.int .i64)))))))))))))))], [], 0⟩
noncomputable def Q133 (fu : Nat) : PQ (nEs [(80, 0), (81, 0), (88, 1), (89, 1), (110, 2), (111, 2)] [2, 2, 5]) := ⟨pi133, qo133, 1, [], fdenP (cx133 fu) fu Tryz.f154 pi133 qo133 1⟩
theorem zs133 (fu : Nat) : SoundP Tryz.prog 154 (Q133 fu) := fdenP_ok (cx := cx133 fu) (h133 fu) follows ent154 Tryz.func154 rfl rfl
def la134 : Nat → Option Pat := fun _ => none
def pr134 : Nat → List Gh := fun _ => []
def po134 : Nat → List Gh := fun _ => []
noncomputable def ph134 (fu : Nat) : Nat → Option (CQ (nEs [(80, 0), (81, 0), (88, 1), (89, 1), (110, 2), (111, 2)] [2, 2, 5]))
  | 154 => some (.pats [Q133 fu])
  | _ => none
theorem h134 (fu : Nat) : ∀ f q, ph134 fu f = some q → SoundC Tryz.prog f q := by
  intro f q h
  unfold ph134 at h
  split at h
  · cases h; exact (patsC (zs133 fu) patsN)
  · cases h
noncomputable def cx134 (fu : Nat) : Cx (nEs [(80, 0), (81, 0), (88, 1), (89, 1), (110, 2), (111, 2)] [2, 2, 5]) := ⟨Tryz.prog, ph134 fu, la134, fun _ => none, pr134, po134, 0, 8⟩
noncomputable def Q134 (fu : Nat) : FQ (nEs [(80, 0), (81, 0), (88, 1), (89, 1), (110, 2), (111, 2)] [2, 2, 5]) := ⟨[(.st (.pr .bool (.pr .bool (.pr .bool (.pr (.st (.pr (.sl (.st (.pr (.int .i64) (.int .i64)))) (.sl (.st (.pr (.int .i64) (.int .i64)))))) (.st (.sl (.st (.pr .bool (.sl (.st (.pr (.int .u8) (.pr (.int .u8) (.int .i64)))))))))))))), (.st (.pr .bool (.pr .bool (.pr .bool (.pr (.st (.pr (.sl (.st (.pr (.int .i64) (.int .i64)))) (.sl (.st (.pr (.int .i64) (.int .i64)))))) (.st (.sl (.st (.pr .bool (.sl (.st (.pr (.int .u8) (.pr (.int .u8) (.int .i64))))))))))))))], [(.st (.pr .bool (.pr .bool (.pr .bool (.pr (.st (.pr (.sl (.st (.pr (.int .i64) (.int .i64)))) (.sl (.st (.pr (.int .i64) (.int .i64)))))) (.st (.sl (.st (.pr .bool (.sl (.st (.pr (.int .u8) (.pr (.int .u8) (.int .i64))))))))))))))], fden (cx134 fu) fu Tryz.f216 [(.st (.pr .bool (.pr .bool (.pr .bool (.pr (.st (.pr (.sl (.st (.pr (.int .i64) (.int .i64)))) (.sl (.st (.pr (.int .i64) (.int .i64)))))) (.st (.sl (.st (.pr .bool (.sl (.st (.pr (.int .u8) (.pr (.int .u8) (.int .i64)))))))))))))), (.st (.pr .bool (.pr .bool (.pr .bool (.pr (.st (.pr (.sl (.st (.pr (.int .i64) (.int .i64)))) (.sl (.st (.pr (.int .i64) (.int .i64)))))) (.st (.sl (.st (.pr .bool (.sl (.st (.pr (.int .u8) (.pr (.int .u8) (.int .i64))))))))))))))] [(.st (.pr .bool (.pr .bool (.pr .bool (.pr (.st (.pr (.sl (.st (.pr (.int .i64) (.int .i64)))) (.sl (.st (.pr (.int .i64) (.int .i64)))))) (.st (.sl (.st (.pr .bool (.sl (.st (.pr (.int .u8) (.pr (.int .u8) (.int .i64))))))))))))))]⟩
theorem zs134 (fu : Nat) : SoundQ Tryz.prog 216 (Q134 fu) := fden_ok (cx := cx134 fu) (h134 fu) follows ent216 Tryz.func216 rfl rfl
end Go.GV
