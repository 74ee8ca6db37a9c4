/- Part 8 of the texts of this claim: what its theorem leans on. -/
import Derived.Test.YtjmbmodmepdmjaaGreatDoorZAutomatonOf7
namespace Go.GL
open Go.GK
def K6(n:Nat)(f:Nat→Bool):List Int:=ints ((List.range n).filter f)
theorem Kv{n:Nat}{f:Nat→Bool}{x:Int} :x∈K6 n f↔0≤x∧x<n∧f x.toNat=true:=by
 unfold K6 ints
 rw[List.mem_map]
 constructor
 ·rintro⟨s,hs,rfl⟩
  have:=List.mem_filter.1 hs
  have h1:=List.mem_range.1 this.1
  exact⟨by omega,by omega,by simpa using this.2⟩
 ·rintro⟨h1,h2,h3⟩
  exact⟨x.toNat,List.mem_filter.2 ⟨List.mem_range.2 (by omega),h3⟩,by omega⟩
theorem Ia{n:Nat}{f g:Nat→Bool}(h:∀s,s<n→f s=g s):K6 n f=K6 n g:=by
 unfold K6
 rw[List.filter_congr fun s hs=>h s (List.mem_range.1 hs)]
theorem Jp(n:Nat)(f:Nat→Bool):(K6 n f).length≤n:=by
 unfold K6 ints
 have:=List.length_filter_le f (List.range n)
 rw[List.length_range]at this
 simpa using this
def wt(D:List (List Int))(f:Nat→Bool):Nat→Nat
 |0=>0
 |k+1=>wt D f k+(if f k then 0 else(D.getD k []).length)
theorem Me{D:List (List Int)}{f g:Nat→Bool} :∀ {k:Nat},(∀s,s<k→f s=g s)→wt D f k=wt D g k
 |0,_=>rfl
 |k+1,h=>by unfold wt;rw[Me fun s hs=>h s (by omega),h k (by omega)]
theorem TE{D:List (List Int)}{f:Nat→Bool}{x:Nat}(hf:f x=false):∀ {k:Nat},x<k→wt D (fun j=>if j=x then true else f j) k+(D.getD x []).length=wt D f k
 |0,h=>absurd h (Nat.not_lt_zero _)
 |k+1,h=>by
  unfold wt
  by_cases e:k=x
  ·subst e
   rw[if_pos (by simp),hf,Me (g:=f) fun s hs=>by rw[if_neg (by omega)]]
   simp
  ·rw[if_neg e]
   have:=TE (D:=D) hf (k:=k) (by omega)
   omega
theorem WR{D:List (List Int)}{f:Nat→Bool}{c:Nat}(h:∀l∈D,l.length≤c):∀k,wt D f k≤k*c
 |0=>Nat.zero_le _
 |k+1=>by
  unfold wt
  have:=WR (f:=f) h k
  have h2:(D.getD k []).length≤c:=by
   rw[List.getD_eq_getElem?_getD]
   cases hk:D[k]? with
   |none=>simp
   |some l=>exact h l (List.mem_of_getElem? hk)
  rw[Nat.add_mul,Nat.one_mul]
  split<;>omega
def fr(N:NT)(l:List Int)(s:Nat):Prop:= ∃x∈l,Cl (QT N.1) x [] s
open Classical in
noncomputable def Cq(N:NT)(l:List Int):List Int:=K6 N.1.length fun s=>decide (fr N l s)
theorem It{N:NT}{l:List Int}{x:Int} :x∈Cq N l↔0≤x∧x<N.1.length∧fr N l x.toNat:=by
 unfold Cq;rw[Kv];simp
theorem Lm{D:List (List Int)}{f:Int→Prop}(hf:∀s u,f s→(∃l,0≤s∧D[s.toNat]?=some l∧u∈l)→f u){s u:Int}{w:List UInt8}(h:Cl (QT D) s w u)(hs:f s):f u:=by
 induction h with
 |refl _=>exact hs
 |step h1 _ ih=>exact ih (hf _ _ hs ⟨h1.2.2.choose,h1.2.1,h1.2.2.choose_spec⟩)
theorem Ge {N : NT} {c fu : Nat} {l : List Int} (hN : NB N c) (hc : c ≤ 4000) (hl : ∀ x ∈ l, 0 ≤ x ∧ x < N.1.length) (hll : l.length ≤ 100000000) (hf : 200000000 ≤ fu) : Ok (CP fu N l) (fun r => r = Cq N l) := by
  have heq := hN.eq
  have hlen := hN.len
  have hM : N.1.length * c ≤ 4000 * 4000 := Nat.mul_le_mul (by omega) hc
  have hw0 := fun f => WR (D := N.1) (f := f) hN.r1 N.1.length
  unfold CP
  rw [show N.2.1.length = N.1.length from heq.symm, E4]
  refine Ok.A0 (by unfold AH; omega) ?_
  refine Ok.loop (fun (x : List Int × List Bool) => ∃ f, x.2 = CY N.1.length f ∧ (∀ y ∈ x.1, (0 ≤ y ∧ y < N.1.length) ∧ fr N l y.toNat) ∧ (∀ s, s < N.1.length → f s = true → fr N l s) ∧ (∀ y ∈ l, f y.toNat = true ∨ y ∈ x.1) ∧
      (∀ s, s < N.1.length → f s = true → ∀ u ∈ N.1.getD s [], f u.toNat = true ∨ u ∈ x.1) ∧ x.1.length + wt N.1 f N.1.length ≤ 116000000)
    (fun (x : List Int × List Bool) => x.1.length + wt N.1 (fun j => x.2.getD j false) N.1.length) ⟨fun _ => false, rfl, fun y hy => ⟨hl y hy, y, hy, by have := hl y hy; rw [show ((y.toNat : Nat) : Int) = y by omega]; exact .refl y⟩, fun s _ h => (by cases h), fun y hy => .inr hy, fun s _ h => (by cases h), by have := hw0 fun _ => false; dsimp only; omega⟩ ?_ fun x nx hI hm hn => ?_
  · have := hw0 fun j => (CY N.1.length fun _ => false).getD j false
    dsimp only; omega
  · obtain ⟨l', seen⟩ := x
    obtain ⟨f, rfl, i1, i2, i3, i4, i5⟩ := hI
    dsimp only at i1 i3 i4 i5 hm hn
    have hgt : ∀ g : Nat → Bool, wt N.1 (fun j => (CY N.1.length g).getD j false) N.1.length = wt N.1 g N.1.length := fun g => Me fun s hs => by
      rw [List.getD_eq_getElem?_getD, EU hs]; rfl
    rw [hgt] at hn
    unfold DG
    dsimp only
    rcases Fo l' with rfl | ⟨l1, x, rfl⟩
    ·
      refine Ok.iF (by simp) ?_
      have hall : ∀ s, s < N.1.length → (f s = true ↔ fr N l s) := fun s hs => by
        refine ⟨i2 s hs, fun ⟨y, hy, hc⟩ => ?_⟩
        have h1 := hl y hy
        have hcl := Lm (f := fun u => 0 ≤ u ∧ u < N.1.length ∧ f u.toNat = true) (fun s u hs ⟨row, h2, h3, h4⟩ => by
          have hm := List.mem_of_getElem? h3
          have ht := hN.t1 row hm u h4
          refine ⟨ht.1, ht.2, (i4 s.toNat (by omega) hs.2.2 u ?_).elim id fun h => by cases h⟩
          rw [List.getD_eq_getElem?_getD, h3]; exact h4) hc ⟨h1.1, h1.2, (i3 y hy).elim id fun h => by cases h⟩
        simpa using hcl.2.2
      have hres : Cq N l = K6 N.1.length f := Ia fun s hs => by
        have := hall s hs
        by_cases h : fr N l s
        · simp [h, this.2 h]
        · have h2 : ¬ f s = true := fun h' => h (this.1 h')
          simp [h]; simpa using h2
      rw [hres]
      refine Ok.range (fun k x => x = K6 k f) N.1.length rf (by omega) (fun k x nx' hk hx hn' => ?_) (fun x nx' hx => ?_)
      · subst hx
        unfold CR
        have hkl := Jp k f
        refine Ok.iT (by dsimp only; rw [BS]; omega) (Ok.BZ (Bw hk) (Ok.bif (fun h => Ok.A0 (by simp; unfold AH; omega) (hn' _ ?_)) fun h => hn' _ ?_))
        · unfold K6; rw [BM, Iv, if_pos h]; rfl
        · unfold K6; rw [BM, if_neg (by rw [h]; decide), List.append_nil]
      · subst hx
        unfold CR
        exact Ok.iF (by dsimp only; rw [BS]; omega) (Ok.some rf)
    · have hx := i1 x (by simp)
      have hlx : ((l1 ++ [x]).length : Int) = l1.length + 1 := by simp
      have hpos : (((l1 ++ [x]).length : Nat) : Int) - 1 = l1.length := by omega
      have hlx' : (l1 ++ [x]).length = l1.length + 1 := by simp
      rw [hlx'] at i5
      have htk : (l1 ++ [x]).take ((((l1 ++ [x]).length : Nat) : Int) - 1).toNat = l1 := by rw [hpos, Int.toNat_natCast]; simp
      rw [htk]
      have hrow : N.1[x.toNat]? = some (N.1.getD x.toNat []) := by
        rw [List.getD_eq_getElem?_getD, List.getElem?_eq_getElem (by omega)]; rfl
      have i1' : ∀ y ∈ l1, (0 ≤ y ∧ y < N.1.length) ∧ fr N l y.toNat := fun y hy => i1 y (by simp [hy])
      refine Ok.iT (by omega) (Ok.A0 (by unfold C0; omega) (Ok.I8 (a := x) (by omega) (by rw [hpos, Int.toNat_natCast]; simp) (Ok.A0 (by unfold C0; omega) (Ok.A0 (by omega) (Ok.BZ (DF hx.1.1 (by omega)) (Ok.bif (fun h => ?_) fun h => ?_))))))
      · have hfx : f x.toNat = false := by cases hh : f x.toNat <;> simp [hh] at h ⊢
        have hws := TE (D := N.1) hfx (k := N.1.length) (by omega)
        have hrm := List.mem_of_getElem? hrow
        have ht1 := hN.t1 _ hrm
        refine Ok.BZ (DF hx.1.1 (by omega)) (Ok.I8 hx.1.1 hrow ?_)
        generalize hR : N.1.getD x.toNat [] = row at hrow hws ht1
        refine Ok.A0 (by unfold AH; omega) (hn (l1 ++ row, _) ⟨fun j => if j = x.toNat then true else f j, Cx _ _ _ _, fun y hy => ?_, fun s hs h => ?_, fun y hy => ?_, fun s hs h u hu => ?_, ?_⟩ ?_)
        · rcases List.mem_append.1 hy with hy | hy
          · exact i1' y hy
          · have := ht1 y hy
            obtain ⟨z, hz, hcl⟩ := hx.2
            refine ⟨this, z, hz, ?_⟩
            rw [show ((x.toNat : Nat) : Int) = x by omega] at hcl
            rw [show ((y.toNat : Nat) : Int) = y by omega]
            exact hcl.trans (Cl.one (T := QT N.1) ⟨rf, hx.1.1, row, hrow, hy⟩)
        · by_cases e : s = x.toNat
          · subst e; exact hx.2
          · dsimp only at h; rw [if_neg e] at h; exact i2 s hs h
        · by_cases e : y.toNat = x.toNat
          · exact .inl (by simp [e])
          · dsimp only; rw [if_neg e]
            rcases i3 y hy with h | h
            · exact .inl h
            · rcases List.mem_append.1 h with h | h
              · exact .inr (List.mem_append.2 (.inl h))
              · simp at h; subst h; exact absurd rfl e
        · by_cases e : u.toNat = x.toNat
          · exact .inl (by simp [e])
          · dsimp only at h ⊢; rw [if_neg e]
            by_cases e2 : s = x.toNat
            · subst e2; rw [hR] at hu; exact .inr (List.mem_append.2 (.inr hu))
            · rw [if_neg e2] at h
              rcases i4 s hs h u hu with h | h
              · exact .inl h
              · rcases List.mem_append.1 h with h | h
                · exact .inr (List.mem_append.2 (.inl h))
                · simp at h; subst h; exact absurd rfl e
        · dsimp only; rw [List.length_append]; omega
        · dsimp only
          rw [Cx, hgt, List.length_append, hlx']; omega
      · have hfx : f x.toNat = true := by cases hh : f x.toNat <;> simp [hh] at h ⊢
        refine hn (l1, _) ⟨f, rf, i1', i2, fun y hy => ?_, fun s hs h u hu => ?_, by dsimp only; omega⟩ (by dsimp only; rw [hgt, hlx']; omega)
        · rcases i3 y hy with h | h
          · exact .inl h
          · rcases List.mem_append.1 h with h | h
            · exact .inr h
            · simp at h; subst h; exact .inl hfx
        · rcases i4 s hs h u hu with h | h
          · exact .inl h
          · rcases List.mem_append.1 h with h | h
            · exact .inr h
            · simp at h; subst h; exact .inl hfx
theorem Te(l:List Int)(x:Int):ER (l++[x])=ER l++(Lib.itoa x++([44]:Cb)):=by simp[ER]
theorem OZ{l:List Int}{fu:Nat}(hl:∀x∈l,0≤x∧x<10000000000)(hll:l.length≤100000000)(hf:200000000≤fu):Ok (Kf fu l) (fun r=>r=ER l∧r.length≤11*l.length):=by
 unfold Kf
 refine Ok.range (fun k s=>s=ER (l.take k)∧s.length≤11*k) l.length ⟨rf,by simp⟩ (by omega) (fun k s nx hk hJ hn=>?_) (fun s nx hJ=>?_)
 ·obtain⟨rfl,hs⟩:=hJ
  unfold Hf
  dsimp only
  have hx:=hl _ (List.getElem_mem hk)
  have hi:(Lib.itoa l[k]).length≤10:=by
   have:=Qo (u:=l[k].toNat) (by omega)
   rwa [show((l[k].toNat:Nat):Int)=l[k] by omega]at this
  refine Ok.iT (by omega) (Ok.BX hk (Ok.A0 (by unfold C0;omega) (Ok.A0 (by simp;unfold AH;omega) (Ok.A0 (by rw[List.length_append];simp only[List.length_cons,List.length_nil];unfold AH;omega) (hn _ ⟨?_,?_⟩)))))
  ·rw[←List.take_append_getElem hk,Te]
  ·rw[List.length_append,List.length_append];simp only[List.length_cons,List.length_nil];omega
 ·obtain⟨rfl,hs⟩:=hJ
  unfold Hf
  dsimp only
  rw[List.take_of_length_le (Nat.le_refl _)]at hs⊢
  exact Ok.iF (by omega) (Ok.some ⟨rf,hs⟩)
def CK(N:NT):List AD:=N.2.1.flatMap fun l=>l.map (·.1)
theorem GH{α β:Type}{g:α→List β}{c:Nat} :∀ {l:List α},(∀x∈l,(g x).length≤c)→(l.flatMap g).length≤l.length*c
 | [],_=>by simp
 |x::l,h=>by
  rw[List.flatMap_cons,List.length_append,List.length_cons,Nat.add_mul,Nat.one_mul]
  have:=GH (g:=g) (c:=c) (l:=l) fun y hy=>h y (by simp[hy])
  have:=h x (by simp)
  omega
theorem OC{N:NT}{c fu:Nat}(hN:NB N c)(hc:c≤4000)(hf:200000000≤fu):Ok (Fv fu N) (fun r=>r=CK N∧r.length≤16000000):=by
 have heq:=hN.eq
 have hlen:=hN.len
 have hfl:∀k,k≤N.2.1.length→((N.2.1.take k).flatMap fun l=>l.map (·.1)).length≤16000000:=fun k hk=>by
  have h1:=GH (l:=N.2.1.take k) (g:=fun l=>l.map (·.1)) (c:=4000) fun l hl=>by have:=hN.r2 l (List.mem_of_mem_take hl);simp;omega
  have h2:(N.2.1.take k).length≤4000:=by rw[List.length_take];omega
  have:=Nat.mul_le_mul h2 (Nat.le_refl 4000)
  omega
 unfold Fv
 refine Ok.range (fun k s=>s=(N.2.1.take k).flatMap fun l=>l.map (·.1)) N.2.1.length rf (by omega) (fun k s nx hk hJ hn=>?_) (fun s nx hJ=>?_)
 ·subst hJ
  unfold D2
  dsimp only
  refine Ok.iT (by omega) (Ok.BX hk ?_)
  have hr:=hN.r2 _ (List.getElem_mem hk)
  have h1:=hfl k (by omega)
  have hnx:(N.2.1.take (k+1)).flatMap (fun l=>l.map (·.1))=(N.2.1.take k).flatMap (fun l=>l.map (·.1))++(N.2.1[k]).map (·.1):=by
   rw[←List.take_append_getElem hk,List.flatMap_append];simp
  generalize(N.2.1.take k).flatMap (fun l=>l.map (·.1))=pre at h1 hnx
  generalize N.2.1[k]=row at hr hnx
  refine Ok.range (fun j s=>s=pre++(row.take j).map (·.1)) row.length (by simp) (by omega) (fun j s nx2 hj hJ hn2=>?_) (fun s nx2 hJ=>?_)
  ·subst hJ
   unfold D1
   dsimp only
   refine Ok.iT (by omega) (Ok.BX hj (Ok.A0 (by simp;unfold AH;omega) (hn2 _ ?_)))
   rw[show row.take (j+1)=row.take j++[row[j]]from(List.take_append_getElem hj).symm,List.map_append,←List.append_assoc];rfl
  ·subst hJ
   unfold D1
   dsimp only
   rw[List.take_of_length_le (Nat.le_refl _)]
   exact Ok.iF (by omega) (hn _ hnx.symm)
 ·subst hJ
  unfold D2
  dsimp only
  have:=hfl N.2.1.length (by omega)
  rw[List.take_of_length_le (Nat.le_refl _)]at this⊢
  exact Ok.iF (by omega) (Ok.some ⟨rf,this⟩)
end Go.GL
namespace Go.GL
open Go.GK
def sk(n:Nat)(t:Int):Int:=if t<0 then n else t
def I6(l:Tb)(cs:List Int)(q i:Nat):Int:=sk l.length (D8 l (q:Nat) (cs.getD i 0).toNat)
def Pr(l:Tb)(q:Nat):Bool:=(Cs l (q:Nat)).1
def R2(l:Tb)(cs:List Int)(q:Nat):List Int:=CY cs.length (I6 l cs q)
def HW(l:Tb)(cs cl:List Int):List Int×List (List Int)×List Bool×List Int:=(cs,CY (l.length+1) (R2 l cs),CY (l.length+1) (Pr l),cl)
theorem getD_at{cs:List Int}{i:Nat}(h:i<cs.length):cs.getD i 0=cs[i]:=by rw[List.getD_eq_getElem?_getD,List.getElem?_eq_getElem h];rfl
theorem Up(l:Tb)(t:Int)(h:t<l.length):Bt l (sk l.length t)=Bt l t:=by
 unfold sk
 split
 ·rename_i h
  funext w
  rw[FI h]
  have hr:Cs l (l.length:Nat)=(false,[]):=by unfold Cs;simp
  cases w with
  |nil=>simp[Bt,runT,fin,hr]
  |cons c w=>
   have:D8 l (l.length:Nat) c.toNat= -1:=by unfold D8;rw[if_neg (by omega),hr];rfl
   show Bt l (D8 l (l.length:Nat) c.toNat) w=false
   rw[this];exact FI (by decide) w
 ·rfl
theorem Yt{l:Tb}(hw:E0 l)(q:Int)(b:Nat):0≤sk l.length (D8 l q b)∧sk l.length (D8 l q b)<(l.length+1:Nat):=by
 have:=hw.st q b
 unfold sk;split<;>omega
theorem NX{c:Nat} :∀ {es:List Fw} {m n:Nat} (_:D9 es m n) (a:Int),es.foldl (fun a e=>if EL c e then e.2.2 else a) a=match es.find? (EL c)with|some e=>e.2.2|none=>a
 | [],_,_,_,_=>rfl
 |e::es,m,n,h,a=>by
  have h':D9 es m n:=⟨fun x hx=>h.rg x (by simp[hx]),(List.pairwise_cons.1 h.so).2⟩
  rw[List.foldl_cons,NX h',List.find?_cons]
  by_cases he:EL c e=true
  ·rw[he,if_pos rfl]
   have:es.find? (EL c)=none:=List.find?_eq_none.2 fun x hx=>by
    have h1:=(List.pairwise_cons.1 h.so).1 x hx
    simp[EL]at he⊢;omega
   rw[this]
  ·rw[if_neg he];simp[he]
theorem SL{c:Nat}{es:List Fw}{m n:Nat}(h:D9 es m n):es.foldl (fun a e=>if EL c e then e.2.2 else a) (n:Int)=sk n (BW es c):=by
 rw[NX h]
 unfold BW
 cases he:es.find? (EL c)with
 |some e=>
  have:=h.rg e (List.mem_of_find?_eq_some he)
  simp only[sk];rw[if_neg (by omega)]
 |none=>rfl
theorem QD{l:Tb}{n fu:Nat}(hw:E0 l)(hs:Nd l n)(hn:n<4294967296)(hf:n<fu)(hf':256<fu):Ok (GM fu l) (fun x=> ∃cs,Co cs∧Gk cs l∧x=HW l cs []):=by
 unfold GM
 refine Ok.AX (U7 hw hs hf hf') fun cs ⟨hc1,hc2⟩=>?_
 have hcl:=hc1.le
 have hln:=hs.1
 refine Ok.FX (fun k y x=>x=CY k (Pr l)∧y=CY k (R2 l cs)) l.length ⟨rf,rf⟩ (by omega) (fun k x y nx hk hJ hnx=>?_) (fun x y nx hJ=>?_)
 ·obtain⟨rfl,rfl⟩:=hJ
  unfold D7;dsimp only
  have hm:l[k]∈l:=List.getElem_mem hk
  have hsl:=hs.2 _ hm
  have hE:=hw _ hm
  have hrow:Cs l (k:Nat)=l[k]:=Gv (by omega) (by omega)
  refine Ok.iT (by omega) (Ok.BX hk (Ok.A0 (by unfold AH;omega) ?_))
  rw[E4]
  refine Ok.range (fun i x=>x=CY cs.length (fun j=>if j<i then I6 l cs k j else 0)) cs.length (by simp) (by omega) (fun i x nx' hi hE' hn'=>?_) (fun x nx' hE'=>?_)
  ·subst hE'
   unfold D6;dsimp only
   refine Ok.iT (by omega) (Ok.BX hi (Ok.BZ (Bw hi) ?_))
   rw[Cx]
   have hci:=hc1.rg _ (List.getElem_mem hi)
   refine Ok.range (fun j x=>x=CY cs.length (fun q=>if q=i then(l[k].2.take j).foldl (fun a e=>if EL cs[i].toNat e then e.2.2 else a) (l.length:Int)else if q<i then I6 l cs k q else 0)) l[k].2.length (by simp) (by omega) (fun j x nx2 hj hx hn2=>?_) (fun x nx2 hx=>?_)
   ·subst hx
    unfold D5;dsimp only
    refine Ok.iT (by omega) (Ok.BX hj ?_)
    have hs:(l[k].2.take (j+1)).foldl (fun a e=>if EL cs[i].toNat e then e.2.2 else a) (l.length:Int)=if EL cs[i].toNat l[k].2[j]then l[k].2[j].2.2 else(l[k].2.take j).foldl (fun a e=>if EL cs[i].toNat e then e.2.2 else a) (l.length:Int):=by
     rw[←List.take_append_getElem hj,List.foldl_append];rfl
    have hno:EL cs[i].toNat l[k].2[j]=false→Ok (nx2 (CY cs.length (fun q=>if q=i then(l[k].2.take j).foldl (fun a e=>if EL cs[i].toNat e then e.2.2 else a) (l.length:Int)else if q<i then I6 l cs k q else 0),j+1)) (fun x=> ∃cs,Co cs∧Gk cs l∧x=HW l cs []):=fun h=>hn2 _ (by rw[hs,h];rfl)
    refine Ok.ite (fun h1=>Ok.ite (fun h2=>Ok.BZ (Bw hi) ?_) fun h2=>?_) fun h1=>?_
    ·rw[Cx]
     refine hn2 _ (BT fun q hq=>?_)
     rw[hs,show EL cs[i].toNat l[k].2[j]=true by simp[EL];omega]
     by_cases h:q=i<;>simp[h]
    ·exact hno (by simp only[EL,Bool.and_eq_false_iff,decide_eq_false_iff_not];omega)
    ·exact hno (by simp only[EL,Bool.and_eq_false_iff,decide_eq_false_iff_not];omega)
   ·subst hx
    unfold D5;dsimp only
    refine Ok.iF (by omega) (hn' _ (BT fun q hq=>?_))
    rw[DN,SL hE]
    by_cases h:q=i
    ·subst h
     simp only[if_true,Nat.lt_succ_self]
     unfold I6 D8;rw[if_neg (by omega),hrow,getD_at hi]
    ·rw[if_neg h]
     by_cases h2:q<i
     ·rw[if_pos h2,if_pos (by omega)]
     ·rw[if_neg h2,if_neg (by omega)]
  ·subst hE'
   unfold D6;dsimp only
   refine Ok.iF (by omega) (Ok.A0 (by rw[BS];unfold AH;simp;omega) (Ok.A0 (by rw[BS];unfold AH;simp;omega) (hnx _ _ ⟨?_,?_⟩)))
   ·rw[Hk];unfold Pr;rw[hrow]
   ·rw[Hk];congr 1
    unfold R2
    rw[BT (g:=I6 l cs k) fun j hj=>by rw[if_pos hj]]
 ·obtain⟨rfl,rfl⟩:=hJ
  unfold D7;dsimp only
  refine Ok.iF (by omega) (Ok.A0 (by unfold AH;omega) ?_)
  have hr:Cs l (l.length:Nat)=(false,[]):=by unfold Cs;simp
  refine Ok.range (fun i x=>x=CY cs.length (fun j=>if j<i then(l.length:Int)else 0)) cs.length (by rw[E4];rfl) (by omega) (fun i x nx' hi hx hn'=>?_) (fun x nx' hx=>?_)
  ·subst hx
   unfold D4;dsimp only
   refine Ok.iT (by simp;omega) (Ok.BZ (Bw hi) (hn' _ ?_))
   rw[Cx]
   refine BT fun q hq=>?_
   by_cases h:q=i
   ·subst h;simp
   ·rw[if_neg h]
    by_cases h2:q<i
    ·rw[if_pos h2,if_pos (by omega)]
    ·rw[if_neg h2,if_neg (by omega)]
  ·subst hx
   unfold D4;dsimp only
   refine Ok.iF (by simp) (Ok.A0 (by rw[BS];unfold AH;simp;omega) (Ok.A0 (by rw[BS];unfold AH;simp;omega) (Ok.some ⟨cs,hc1,hc2,?_⟩)))
   unfold HW
   rw[Hk,Hk]
   have e1:Pr l l.length=false:=by unfold Pr;rw[hr]
   have e2:R2 l cs l.length=CY cs.length (fun j=>if j<cs.length then(l.length:Int)else 0):=by
    unfold R2
    refine BT fun q hq=>?_
    rw[if_pos hq]
    unfold I6 D8;rw[if_neg (by omega),hr];rfl
   rw[e1,e2]
def DM(l:Tb):Nat:=l.length+1
theorem Ip{l:Tb}(hw:E0 l)(cs:List Int)(q i:Nat):0≤I6 l cs q i∧I6 l cs q i<DM l:=Yt hw _ _
theorem NV{l:Tb}(hw:E0 l){cs:List Int}(hc:Co cs)(q:Nat){i:Nat}(hi:i<cs.length):Bt l (I6 l cs q i)=LQ (Bt l (q:Nat)) cs[i].toNat:=by
 have hr:=hc.rg _ (List.getElem_mem hi)
 rw[HL _ _ _ (by omega)]
 unfold I6
 rw[Up _ _ (by have:=hw.st (q:Nat) (cs.getD i 0).toNat;omega),getD_at hi]
theorem Ky{l:Tb}(hw:E0 l){cs:List Int}(hc:Co cs)(hf:Gk cs l)(q:Int){i b:Nat}(hi:i<cs.length)(hb:b<256)(h1:cs[i]≤b)(h2:(b:Int)≤Hd cs i):LQ (Bt l q) b=LQ (Bt l q) cs[i].toNat:=by
 have hr:=hc.rg _ (List.getElem_mem hi)
 rw[HL _ _ _ hb,HL _ _ _ (by omega),hf.const hc hw hi h1 h2]
theorem J5(l:Tb)(q:Nat):Bt l (q:Nat) []=Pr l q:=by simp[Bt,runT,fin,Pr]
theorem Sa{l:Tb}(hw:E0 l){cs:List Int}(hc:Co cs)(hf:Gk cs l)(c:Nat→Int)
  (h1:∀s t,s<DM l→t<DM l→c s=c t→Pr l s=Pr l t)
  (h2:∀s t,s<DM l→t<DM l→c s=c t→∀i,i<cs.length→c (I6 l cs s i).toNat=c (I6 l cs t i).toNat):
  ∀(w:List UInt8) (s t:Nat),s<DM l→t<DM l→c s=c t→Bt l (s:Nat) w=Bt l (t:Nat) w
 | [],s,t,hs,ht,h=>by rw[J5,J5,h1 s t hs ht h]
 |b::w,s,t,hs,ht,h=>by
  obtain⟨i,hi,g1,g2⟩:=hc.find b.toNat b.toNat_lt
  have e:∀q:Nat,Bt l (q:Nat) (b::w)=Bt l (I6 l cs q i) w:=fun q=>by
   rw[NV hw hc q hi,←Ky hw hc hf q hi b.toNat_lt g1 g2];simp[LQ]
  have r1:=Ip hw cs s i
  have r2:=Ip hw cs t i
  have:=Sa hw hc hf c h1 h2 w (I6 l cs s i).toNat (I6 l cs t i).toNat (by omega) (by omega) (h2 s t hs ht h i hi)
  rw[e,e]
  rwa [Int.toNat_of_nonneg r1.1,Int.toNat_of_nonneg r2.1]at this
def G0(l:Tb)(cs:List Int)(c:Nat→Int)(s:Nat):Cb:=Lib.itoa (c s)++FP (CY cs.length fun i=>c (I6 l cs s i).toNat)
theorem Mi(n:Nat)(f:Nat→Int):FP (CY (n+1) f)=FP (CY n f)++(([44]:Cb)++Lib.itoa (f n)):=by
 rw[Hk];simp[FP]
theorem NF{n:Nat}{f:Nat→Int}(h:∀i,i<n→(Lib.itoa (f i)).length≤10):(FP (CY n f)).length≤11*n:=by
 induction n with
 |zero=>simp[CY,FP]
 |succ n ih=>
  rw[Mi,List.length_append,List.length_append]
  have:=ih fun i hi=>h i (by omega)
  have:=h n (by omega)
  simp;omega
structure ClsB(l:Tb)(c:Nat→Int):Prop where
 rg:∀s,s<DM l→0≤c s∧c s≤l.length
theorem Tf{n:Int}(h0:0≤n)(h:n<10000000000):(Lib.itoa n).length≤10:=by
 obtain⟨u,rfl⟩:∃u:Nat,n=u:=⟨n.toNat,by omega⟩
 exact Qo (by omega)
theorem OB{l:Tb}{cs:List Int}{c:Nat→Int}{n fu s:Nat}(hw:E0 l)(hc:Co cs)(hb:ClsB l c)(hl:l.length≤n)(hn:n<4294967296)(hf:256<fu)(hs:s<DM l):
  Ok (Da fu (HW l cs (CY (DM l) c)) (s:Int)) (fun r=>r=G0 l cs c s∧r.length≤4096):=by
 unfold Da HW;dsimp only
 have hcl:=hc.le
 have hlen:∀q,q<DM l→(Lib.itoa (c q)).length≤10:=fun q hq=>by
  have:=hb.rg q hq
  exact Tf this.1 (by omega)
 have hcs:=hb.rg s hs
 have h10:=hlen s hs
 refine Ok.BZ (Bw hs) (Ok.A0 (by unfold C0;omega) (Ok.A0 (by simp only[List.length_nil];unfold AH;omega) (Ok.BZ (Bw hs) ?_)))
 refine Ok.range (fun i x=>x=Lib.itoa (c s)++FP (CY i fun i=>c (I6 l cs s i).toNat)) cs.length (by simp[CY,FP]) (by omega) (fun i x nx hi hx hnx=>?_) (fun x nx hx=>?_)
 ·subst hx
  unfold Ci;dsimp only
  have hr:=Ip hw cs s i
  have hq:(I6 l cs s i).toNat<DM l:=by omega
  have h1:=hb.rg _ hq
  have h2:=hlen _ hq
  have h3:=NF (n:=i) (f:=fun i=>c (I6 l cs s i).toNat) fun j hj=>hlen _ (by have:=Ip hw cs s j;omega)
  refine Ok.iT (by simp only[R2,BS];omega) (Ok.BZ (by unfold R2;exact Bw hi) (Ok.BZ (a:=c (I6 l cs s i).toNat) ?_ (Ok.A0 (by unfold C0;omega) (Ok.A0 (by simp only[List.length_cons,List.length_nil];unfold AH;omega) (Ok.A0 (by simp only[List.length_append,List.length_cons,List.length_nil];unfold AH;omega) (hnx _ ?_))))))
  ·rw[show I6 l cs s i=(((I6 l cs s i).toNat:Nat):Int) by omega];exact Bw (by omega)
  ·rw[Mi,List.append_assoc]
 ·subst hx
  unfold Ci;dsimp only
  refine Ok.iF (by simp only[R2,BS];omega) (Ok.some ⟨rf,?_⟩)
  have h3:=NF (n:=cs.length) (f:=fun i=>c (I6 l cs s i).toNat) fun j hj=>hlen _ (by have:=Ip hw cs s j;omega)
  rw[List.length_append];omega
theorem Ic{l:Tb}{cs:List Int}{c:Nat→Int}(hw:E0 l)(hb:ClsB l c){s t:Nat}(hs:s<DM l)(ht:t<DM l):
  G0 l cs c s=G0 l cs c t↔c s=c t∧∀i,i<cs.length→c (I6 l cs s i).toNat=c (I6 l cs t i).toNat:=by
 have hz:∀q,∀z∈(CY cs.length fun i=>c (I6 l cs q i).toNat),0≤z:=fun q z hz=>by
  obtain⟨i,_,rfl⟩:=R7.1 hz
  exact(hb.rg _ (by have:=Ip hw cs q i;omega)).1
 constructor
 ·intro h
  obtain⟨h1,h2⟩:=VT (hz s) (hz t) (hb.rg s hs).1 (hb.rg t ht).1 h
  exact⟨h1,RG.1 h2⟩
 ·rintro⟨h1,h2⟩
  unfold G0;rw[h1,RG.2 h2]
def E6(m:List (Cb×Int))(u:List Cb):Prop:=m.length=u.length∧∀x,AQ m x=if x∈u then some ((u.idxOf x:Nat):Int)else none
theorem E6.nil:E6 [] []:=⟨rfl,fun x=>rfl⟩
theorem E6.put{m:List (Cb×Int)}{u:List Cb}(h:E6 m u){x:Cb}(hx:x∉u):E6 (DY m x (u.length:Int)) (u++[x]):=by
 refine⟨by rw[Jw,h.2,if_neg hx,h.1];simp,fun z=>?_⟩
 rw[Iy,h.2]
 by_cases hz:z=x
 ·subst hz
  rw[if_pos rfl,if_pos (by simp),List.idxOf_append,if_neg hx];simp
 ·rw[if_neg hz]
  by_cases hu:z∈u
  ·rw[if_pos hu,if_pos (by simp[hu]),List.idxOf_append,if_pos hu]
  ·rw[if_neg hu,if_neg (by simp[hu,hz])]
theorem E6.some{m:List (Cb×Int)}{u:List Cb}(h:E6 m u)(x:Cb):(AQ m x).isSome=decide (x∈u):=by
 rw[h.2];by_cases hx:x∈u<;>simp[hx]
theorem E6.getD{m:List (Cb×Int)}{u:List Cb}(h:E6 m u){x:Cb}(hx:x∈u):(AQ m x).getD 0=((u.idxOf x:Nat):Int):=by
 rw[h.2,if_pos hx];rfl
theorem N4{α:Type} [BEq α] [LawfulBEq α]{u:List α}{x y:α}(hx:x∈u)(hy:y∈u)(h:u.idxOf x=u.idxOf y):x=y:=by
 have h1:=List.idxOf_lt_length_of_mem hx
 have h2:=List.idxOf_lt_length_of_mem hy
 have e1:=List.getElem_idxOf h1
 have e2:=List.getElem_idxOf h2
 rw[←e1,←e2];simp only[h]
structure SE(l:Tb)(c:Nat→Int):Prop extends ClsB l c where
 iff:∀s t,s<DM l→t<DM l→(c s=c t↔Bt l (s:Nat)=Bt l (t:Nat))
structure X_(l:Tb)(k:Nat)(c:Nat→Int):Prop extends ClsB l c where
 fwd:∀s t,s<DM l→t<DM l→Bt l (s:Nat)=Bt l (t:Nat)→c s=c t
 acc:∀s t,s<DM l→t<DM l→c s=c t→Pr l s=Pr l t
 HV:k=0∨∃(key:Nat→Cb) (u:List Cb),IE (DM l) key u∧u.length=k∧∀s t,s<DM l→t<DM l→c s=c t→key s=key t
theorem S1{l:Tb}{cs:List Int}{n fu:Nat}(hw:E0 l)(h0:0<l.length)(hc:Co cs)(hf:Gk cs l)(hl:l.length≤n)(hn:n<4294967296)(hfu:n+2<fu)(hfu':256<fu):
  Ok (Em fu (HW l cs [])) (fun r=> ∃c,SE l c∧r=HW l cs (CY (DM l) c)):=by
 have hN:DM l=l.length+1:=rfl
 unfold Em HW;dsimp only
 simp only[BS]
 refine Ok.A0 (by unfold AH;omega) ?_
 rw[E4]
 refine Ok.range (fun k x=>x=CY (DM l) (fun s=>if s<k then(if Pr l s then 1 else 0)else 0)) (DM l) (by simp[DM]) (by omega) (fun k x nx hk hx hnx=>?_) (fun x nx hx=>?_)
 ·subst hx
  unfold CJ;dsimp only
  refine Ok.iT (by rw[BS];omega) (Ok.BZ (Bw hk) (Ok.bif (fun h=>Ok.BZ (Bw hk) (hnx _ ?_)) fun h=>hnx _ (BT fun s hs=>?_)))
  ·rw[Cx]
   refine BT fun s hs=>?_
   by_cases h1:s=k
   ·subst h1;simp[h]
   ·rw[if_neg h1]
    by_cases h2:s<k
    ·simp[h2,show s<k+1 by omega]
    ·simp[h2,show¬s<k+1 by omega]
  ·by_cases h1:s=k
   ·subst h1;simp[h]
   ·by_cases h2:s<k
    ·simp[h2,show s<k+1 by omega]
    ·simp[h2,show¬s<k+1 by omega]
 ·subst hx
  unfold CJ;dsimp only
  refine Ok.iF (by rw[BS];omega) ?_
  refine Ok.loop (X:=Nat×List Int) (fun x=>x.1≤DM l∧∃c,x.2=CY (DM l) c∧X_ l x.1 c) (fun x=>DM l-x.1) ⟨by simp,_,rf,⟨⟨fun s hs=>?_⟩,fun s t hs ht h=>?_,fun s t hs ht h=>?_, .inl rf⟩⟩ (by simp only;omega) fun x nx hI _ hnx=>?_
  ·rw[if_pos hs];cases Pr l s<;>simp<;>omega
  ·rw[if_pos hs,if_pos ht,←J5,←J5,h]
  ·simp only[hs,ht,if_true]at h
   cases h1:Pr l s<;>cases h2:Pr l t<;>simp[h1,h2]at h⊢
  obtain⟨k,cl⟩:=x
  obtain⟨hk,c,hcl,hI⟩:=hI
  simp only at hk hcl hI
  subst hcl
  unfold Db;dsimp only
  refine Ok.A0 (by rw[BS];unfold AH;omega) ?_
  rw[E4,BS]
  refine Ok.Rc (fun j x y m=>x=CY (DM l) c∧∃u,IE j (G0 l cs c) u∧E6 m u∧y=CY (DM l) (fun s=>if s<j then((u.idxOf (G0 l cs c s):Nat):Int)else 0)) (DM l) ⟨rf,[], .zero _, .nil,by simp[DM]⟩ (by omega) (fun j x y m nx' hj hJ hnx'=>?_) (fun x y m nx' hJ=>?_)
  ·obtain⟨rfl,u,hu,hm,rfl⟩:=hJ
   have hul:=hu.le
   unfold CA;dsimp only
   refine Ok.iT (by rw[BS];omega) (Ok.AX (OB hw hc hI.toClsB hl hn hfu' hj) fun x hx=>?_)
   obtain⟨rfl,hxl⟩:=hx
   have hxc:(G0 l cs c j).length≤AH:=by unfold AH;omega
   refine Ok.A0 hxc (Ok.bif (fun h=>?_) fun h=>?_)
   ·rw[hm.some]at h
    have hnu:G0 l cs c j∉u:=by simpa using h
    refine Ok.A0 hxc (Ok.A0 (by rw[hm.1];unfold C0;omega) (Ok.A0 (by rw[hm.1];unfold AH;omega) ?_))
    unfold Cz
    refine Ok.BZ (Bw hj) (hnx' _ _ _ ⟨rf,u++[G0 l cs c j],hu.new hnu,by rw[hm.1];exact hm.put hnu,?_⟩)
    rw[Cx]
    refine BT fun s hs=>?_
    by_cases h1:s=j
    ·subst h1;rw[if_pos rfl,if_pos (by omega),List.idxOf_append,if_neg hnu,hm.1];simp
    ·rw[if_neg h1]
     by_cases h2:s<j
     ·rw[if_pos h2,if_pos (by omega),List.idxOf_append,if_pos ((hu.mem _).2 ⟨s,h2,rfl⟩)]
     ·rw[if_neg h2,if_neg (by omega)]
   ·rw[hm.some]at h
    have hnu:G0 l cs c j∈u:=by simpa using h
    unfold Cz
    refine Ok.BZ (Bw hj) (hnx' _ _ _ ⟨rf,u,hu.Z7 hnu,hm,?_⟩)
    rw[Cx,hm.getD hnu]
    refine BT fun s hs=>?_
    by_cases h1:s=j
    ·subst h1;rw[if_pos rfl,if_pos (by omega)]
    ·rw[if_neg h1]
     by_cases h2:s<j
     ·rw[if_pos h2,if_pos (by omega)]
     ·rw[if_neg h2,if_neg (by omega)]
  ·obtain⟨rfl,u,hu,hm,rfl⟩:=hJ
   have hul:=hu.le
   have hpos:0<u.length:=List.length_pos_of_mem ((hu.mem _).2 ⟨0,by omega,rfl⟩)
   have hmem:∀s,s<DM l→G0 l cs c s∈u:=fun s hs=>(hu.mem _).2 ⟨s,hs,rfl⟩
   unfold CA;dsimp only
   have hcl:CY (DM l) (fun s=>if s<DM l then((u.idxOf (G0 l cs c s):Nat):Int)else 0)=CY (DM l) (fun s=>((u.idxOf (G0 l cs c s):Nat):Int)):=
    BT fun s hs=>by rw[if_pos hs]
   rw[hcl]
   have hB:ClsB l (fun s=>((u.idxOf (G0 l cs c s):Nat):Int)):=⟨fun s hs=>by
    have:=List.idxOf_lt_length_of_mem (hmem s hs)
    omega⟩
   have hiff:∀s t,s<DM l→t<DM l→(((u.idxOf (G0 l cs c s):Nat):Int)=((u.idxOf (G0 l cs c t):Nat):Int)↔G0 l cs c s=G0 l cs c t):=fun s t hs ht=>
    ⟨fun h=>N4 (hmem s hs) (hmem t ht) (Int.ofNat_inj.1 h),fun h=>by rw[h]⟩
   have hfwd:∀s t,s<DM l→t<DM l→Bt l (s:Nat)=Bt l (t:Nat)→G0 l cs c s=G0 l cs c t:=fun s t hs ht h=>by
    refine(Ic hw hI.toClsB hs ht).2 ⟨hI.fwd s t hs ht h,fun i hi=>?_⟩
    have r1:=Ip hw cs s i
    have r2:=Ip hw cs t i
    refine hI.fwd _ _ (by omega) (by omega) ?_
    rw[Int.toNat_of_nonneg r1.1,Int.toNat_of_nonneg r2.1,NV hw hc s hi,NV hw hc t hi,h]
   have hacc:∀s t,s<DM l→t<DM l→G0 l cs c s=G0 l cs c t→Pr l s=Pr l t:=fun s t hs ht h=>
    hI.acc s t hs ht ((Ic hw hI.toClsB hs ht).1 h).1
   refine Ok.iF (by rw[BS];omega) (Ok.ite (fun h=>Ok.some ⟨fun s=>((u.idxOf (G0 l cs c s):Nat):Int),⟨hB,fun s t hs ht=>?_⟩,rf⟩) fun h=>?_)
   ·rw[hiff s t hs ht]
    refine⟨fun he=>?_,hfwd s t hs ht⟩
    rw[hm.1]at h
    have hk':u.length=k:=by omega
    obtain⟨key,v,hv,hvl,hck⟩:=hI.HV.resolve_left (by omega)
    have hfin:=(hv.UJ hu (fun s t hs ht h=>hck s t hs ht ((Ic hw hI.toClsB hs ht).1 h).1)).2 (by omega)
    funext w
    refine Sa hw hc hf c (fun s t hs ht h=>hI.acc s t hs ht h) (fun s t hs ht h=>?_) w s t hs ht ((Ic hw hI.toClsB hs ht).1 he).1
    exact((Ic hw hI.toClsB hs ht).1 (hfin s t hs ht (hck s t hs ht h))).2
   ·have hlt:k<u.length:=by
     rcases hI.HV with h0|⟨key,v,hv,hvl,hck⟩
     ·omega
     ·have:=(hv.UJ hu (fun s t hs ht h=>hck s t hs ht ((Ic hw hI.toClsB hs ht).1 h).1)).1
      rw[hm.1]at h;omega
    refine hnx (m.length,_) ⟨by rw[hm.1];exact hul,_,rf,⟨hB,fun s t hs ht h=>(hiff s t hs ht).2 (hfwd s t hs ht h),fun s t hs ht h=>hacc s t hs ht ((hiff s t hs ht).1 h), .inr ⟨G0 l cs c,u,hu,hm.1.symm,fun s t hs ht h=>(hiff s t hs ht).1 h⟩⟩⟩ ?_
    show DM l-m.length<DM l-k
    rw[hm.1];omega
end Go.GL
namespace Go.GL
open Go.GK
def MK(b:Nat)(row:List (AD×Int×Int)):List Int:=(row.filter fun e=>e.1 b).map fun e=>e.2.1
def mv(N:NT)(S:List Int)(b:Nat):List Int:=S.flatMap fun s=>MK b (N.2.1.getD s.toNat [])
inductive FT(N:NT)(a:Int):List Int→Prop
 |start:FT N a (Cq N [a])
 |step {S:List Int} {b:Nat} :FT N a S→b<256→mv N S b≠ []→FT N a (Cq N (mv N S b))
theorem QG(N:NT)(l:List Int):(Cq N l).length≤N.1.length:=Jp _ _
theorem FT.is{N:NT}{a:Int}{S:List Int}(h:FT N a S):∃l,S=Cq N l:=by cases h<;>exact⟨_,rfl⟩
theorem FT.len{N:NT}{a:Int}{S:List Int}(h:FT N a S):S.length≤N.1.length:=by obtain⟨l,rfl⟩:=h.is;exact QG N l
theorem FT.rg{N:NT}{a:Int}{S:List Int}(h:FT N a S){x:Int}(hx:x∈S):0≤x∧x<N.1.length:=by
 obtain⟨l,rfl⟩:=h.is
 have:=It.1 hx
 exact⟨this.1,this.2.1⟩
theorem OR(b:Nat)(row:List (AD×Int×Int)):(MK b row).length≤row.length:=by
 unfold MK;rw[List.length_map];exact List.length_filter_le _ _
theorem OD{N:NT}{c:Nat}(hN:NB N c){s:Int}(h0:0≤s)(h1:s<N.1.length):N.2.1[s.toNat]?=some (N.2.1.getD s.toNat []):=by
 have:=hN.eq
 rw[List.getD_eq_getElem?_getD,List.getElem?_eq_getElem (by omega)];rfl
theorem LV{N:NT}{c:Nat}(hN:NB N c)(k:Nat):(N.2.1.getD k []).length≤c:=by
 rw[List.getD_eq_getElem?_getD]
 cases hk:N.2.1[k]? with
 |none=>simp
 |some l=>exact hN.r2 l (List.mem_of_getElem? hk)
theorem R4{N:NT}{c:Nat}(hN:NB N c){S:List Int}{b:Nat}{x:Int}(hx:x∈mv N S b):0≤x∧x<N.1.length:=by
 obtain⟨s,_,hx⟩:=List.mem_flatMap.1 hx
 obtain⟨e,he,rfl⟩:=List.mem_map.1 hx
 have he:=(List.mem_filter.1 he).1
 rw[List.getD_eq_getElem?_getD]at he
 cases hk:N.2.1[s.toNat]? with
 |none=>rw[hk]at he;cases he
 |some l=>rw[hk]at he;exact hN.t2 l (List.mem_of_getElem? hk) e he
theorem Le{N:NT}{c:Nat}(hN:NB N c)(hc:c≤4000){S:List Int}(b:Nat)(hS:S.length≤N.1.length):(mv N S b).length≤16000000:=by
 have h1:=GH (l:=S) (g:=fun s=>MK b (N.2.1.getD s.toNat [])) (c:=4000) fun s _=>by
  have:=OR b (N.2.1.getD s.toNat []);have:=LV hN s.toNat;omega
 have h2:S.length≤4000:=by have:=hN.len;omega
 have:=Nat.mul_le_mul h2 (Nat.le_refl 4000)
 unfold mv;omega
theorem X5{P:Tb→Prop}{p:AD}{k fu:Nat}{nx:(List Int×Nat)→Option Tb}{row:List (AD×Int×Int)}{pre:List Int}(hr:row.length≤4000)(hp:pre.length≤100000000)(hf:200000000≤fu)
  (hn:Ok (nx (pre++MK (De p) row,k+1)) P):Ok (Ax fu (fun q nx'=>B9 fu p k nx row q.1 q.2 nx') (pre,0)) P:=by
 refine Ok.range (fun j s=>s=pre++MK (De p) (row.take j)) row.length (by simp[MK]) (by omega) (fun j s nx2 hj hJ hn2=>?_) (fun s nx2 hJ=>?_)
 ·subst hJ
  unfold B9
  dsimp only
  have hl:=OR (De p) (row.take j)
  have htl:(row.take j).length≤row.length:=by rw[List.length_take];omega
  have hnx:MK (De p) (row.take (j+1))=MK (De p) (row.take j)++if row[j].1 (De p)then [row[j].2.1]else []:=by
   rw[show row.take (j+1)=row.take j++[row[j]]from(List.take_append_getElem hj).symm]
   unfold MK
   rw[List.filter_append,List.map_append]
   congr 1
   rw[List.filter_cons]
   split<;>rfl
  refine Ok.iT (by omega) (Ok.BX hj ?_)
  rw[Int.toNat_natCast]
  refine Ok.bif (fun h=>Ok.A0 (by rw[List.length_append];simp only[List.length_cons,List.length_nil];unfold AH;omega) (hn2 _ ?_)) fun h=>hn2 _ ?_
  ·rw[hnx,if_pos h,←List.append_assoc]
  ·rw[hnx,if_neg (by rw[h];decide),List.append_nil]
 ·subst hJ
  unfold B9
  dsimp only
  rw[List.take_of_length_le (Nat.le_refl _)]
  exact Ok.iF (by omega) hn
structure SM(N:NT)(a:Int)(L:List (List Int))(m:List (Cb×Int)):Prop where
 nd:L.Nodup
 rc:∀S∈L,FT N a S
 mp:E6 m (L.map ER)
theorem FT.key_inj{N:NT}{a:Int}{S T:List Int}(h:FT N a S)(k:FT N a T)(e:ER S=ER T):S=T:=GL.key_inj (fun _ hz=>(h.rg hz).1) (fun _ hz=>(k.rg hz).1) e
theorem KD{α β:Type} [BEq α] [LawfulBEq α] [BEq β] [LawfulBEq β]{f:α→β}{x:α} :∀ {L:List α},(∀y∈L,f y=f x→y=x)→(L.map f).idxOf (f x)=L.idxOf x
 | [],_=>rfl
 |y::L,h=>by
  rw[List.map_cons,List.idxOf_cons,List.idxOf_cons,KD fun z hz=>h z (by simp[hz])]
  by_cases e:y=x
  ·subst e;simp
  ·have:¬f y=f x:=fun e'=>e (h y (by simp) e')
   rw[beq_eq_false_iff_ne.2 e,beq_eq_false_iff_ne.2 this]
theorem SM.has{N:NT}{a:Int}{L:List (List Int)}{m:List (Cb×Int)}(h:SM N a L m){S:List Int}(hS:FT N a S):(AQ m (ER S)).isSome=decide (S∈L):=by
 rw[h.mp.some]
 refine decide_eq_decide.2 ⟨fun h'=>?_,fun h'=>List.mem_map_of_mem h'⟩
 obtain⟨T,hT,e⟩:=List.mem_map.1 h'
 rw[←(h.rc T hT).key_inj hS e];exact hT
theorem SM.num{N:NT}{a:Int}{L:List (List Int)}{m:List (Cb×Int)}(h:SM N a L m){S:List Int}(hS:S∈L):(AQ m (ER S)).getD 0=((L.idxOf S:Nat):Int):=by
 rw[h.mp.getD (List.mem_map_of_mem hS),KD fun T hT e=>(h.rc T hT).key_inj (h.rc S hS) e]
theorem SM.len{N:NT}{a:Int}{L:List (List Int)}{m:List (Cb×Int)}(h:SM N a L m):m.length=L.length:=by rw[h.mp.1,List.length_map]
theorem SM.put{N:NT}{a:Int}{L:List (List Int)}{m:List (Cb×Int)}(h:SM N a L m){S:List Int}(hS:FT N a S)(hn:S∉L):SM N a (L++[S]) (DY m (ER S) (L.length:Int)):=by
 refine⟨List.nodup_append.2 ⟨h.nd,by simp,fun x hx y hy=>?_⟩,fun T hT=>?_,?_⟩
 ·simp at hy;subst hy;exact fun e=>hn (e▸hx)
 ·rcases List.mem_append.1 hT with hT|hT
  ·exact h.rc T hT
  ·simp at hT;subst hT;exact hS
 ·have:=h.mp.put (x:=ER S) fun h'=>by
   obtain⟨T,hT,e⟩:=List.mem_map.1 h'
   rw[(h.rc T hT).key_inj hS e]at hT;exact hn hT
  rw[List.length_map]at this
  rw[List.map_append];exact this
theorem X6{P:Tb→Prop}{N:NT}{c fu j B:Nat}{a:Int}{p:AD}{S:List Int}{L:List (List Int)}{ms:List (AD×Int)}{m:List (Cb×Int)}{nx:(List (List Int)×List (AD×Int)×List (Cb×Int)×Nat)→Option Tb}
  (hN:NB N c) (hc:c≤4000) (hS:FT N a S) (hL:SM N a L m) (hB:∀L:List (List Int),L.Nodup→(∀S∈L,FT N a S)→L.length≤B) (hB':B≤100000000) (hms:ms.length≤100000) (hf:200000000≤fu)
  (hskip:mv N S (De p)=[]→Ok (nx (L,ms,m,j+1)) P)
  (hnew:mv N S (De p)≠ []→∀L' m' more,SM N a L' m'→L'=L++more→Cq N (mv N S (De p))∈L'→Ok (nx (L',ms++[(p,((L'.idxOf (Cq N (mv N S (De p))):Nat):Int))],m',j+1)) P):
  Ok (Ax fu (fun q nx'=>B_ fu N L ms m j nx p S q.1 q.2 nx') (([]:List Int),0)) P:=by
 have hlen:=hN.len
 have hSl:=hS.len
 refine Ok.range (fun i s=>s=mv N (S.take i) (De p)) S.length rf (by omega) (fun i s nx2 hi hJ hn2=>?_) (fun s nx2 hJ=>?_)
 ·subst hJ
  unfold B_
  dsimp only
  have hx:=hS.rg (List.getElem_mem hi)
  have hl:=Le hN hc (S:=S.take i) (De p) (by rw[List.length_take];omega)
  refine Ok.iT (by omega) (Ok.BX hi (Ok.I8 hx.1 (OD hN hx.1 hx.2) (X5 (by have:=LV hN S[i].toNat;omega) (by omega) hf (hn2 _ ?_))))
  rw[show S.take (i+1)=S.take i++[S[i]]from(List.take_append_getElem hi).symm]
  unfold mv
  rw[List.flatMap_append];simp
 ·subst hJ
  unfold B_
  dsimp only
  rw[List.take_of_length_le (Nat.le_refl _)]
  refine Ok.iF (by omega) (Ok.ite (fun h=>hskip (List.length_eq_zero_iff.1 (by omega))) fun h=>?_)
  have hne:mv N S (De p)≠ []:=fun e=>by rw[e]at h;exact h rfl
  have hR:FT N a (Cq N (mv N S (De p))):= .step hS (HT p) hne
  refine Ok.AX (Ge hN hc (fun x hx=>R4 hN hx) (by have:=Le hN hc (De p) hSl;omega) hf) fun r hr=>?_
  subst hr
  have hcl:=QG N (mv N S (De p))
  have hnew:=hnew hne
  generalize Cq N (mv N S (De p))=T at hR hcl hnew
  refine Ok.AX (OZ (fun x hx=>by have:=hR.rg hx;omega) (by omega) hf) fun r hr=>?_
  obtain⟨rfl,hk⟩:=hr
  have hLB:=hB L hL.nd hL.rc
  have hml:=hL.len
  rw[hL.has hR]
  refine Ok.A0 (by unfold AH;omega) (Ok.bif (fun h1=>?_) fun h1=>?_)
  ·have h1:T∉L:=by simpa using h1
   have hput:=hL.put hR h1
   refine Ok.A0 (by unfold AH;omega) (Ok.A0 (by unfold C0;omega) (Ok.A0 (by unfold AH;omega) (Ok.A0 (by simp only[List.length_cons,List.length_nil];unfold AH;omega) ?_)))
   unfold Ct
   rw[hput.num (by simp)]
   exact Ok.A0 (by unfold AH;omega) (Ok.A0 (by simp only[List.length_cons,List.length_nil];unfold AH;omega) (hnew _ _ [T] hput rf (by simp)))
  ·have h1:T∈L:=by simpa using h1
   unfold Ct
   rw[hL.num h1]
   exact Ok.A0 (by unfold AH;omega) (Ok.A0 (by simp only[List.length_cons,List.length_nil];unfold AH;omega) (hnew _ _ [] hL (by simp) h1))
theorem QC{l:List Int}{x:Int}{fu:Nat}(hl:l.length≤100000000)(hf:200000000≤fu):Ok (Ef fu l x) (fun r=>r=decide (x∈l)):=by
 unfold Ef
 refine Ok.AX (Q:=fun i=>0≤i↔x∈l) ?_ fun i hi=>Ok.some (decide_eq_decide.2 hi)
 unfold GZ
 refine Ok.count (fun k=>x∉l.take k) l.length (by simp) (by omega) (fun k nx hk hJ hn=>?_) (fun nx hJ=>?_)
 ·unfold Dh
  refine Ok.iT (by omega) (Ok.BX hk (Ok.ite (fun h=>Ok.some ⟨fun _=>?_,fun _=>by omega⟩) fun h=>hn ?_))
  ·rw[h];exact List.getElem_mem hk
  ·rw[Cw hk];rintro(h1|h1)
   ·exact hJ h1
   ·exact h h1
 ·unfold Dh
  rw[List.take_of_length_le (Nat.le_refl _)]at hJ
  exact Ok.iF (by omega) (Ok.some ⟨fun h=>absurd h (by decide),fun h=>absurd h hJ⟩)
end Go.GL
namespace Go.GL
open Go.GK
def JS(a b:Fw):Prop:=a.2.1<b.1∨b.2.1<a.1
def U3(ms:List (AD×Int)):List Fw:=ms.flatMap fun m=>(Py m.1).map fun x=>(x.1,x.2,m.2)
theorem OT{ms:List (AD×Int)}{e:Fw} :e∈U3 ms↔∃m∈ms,∃r∈CE m.1 256,e=((r.1:Int),(r.2:Int),m.2):=by
 unfold U3 Py
 rw[List.mem_flatMap]
 constructor
 ·rintro⟨m,hm,he⟩
  obtain⟨x,hx,rfl⟩:=List.mem_map.1 he
  obtain⟨r,hr,rfl⟩:=List.mem_map.1 hx
  exact⟨m,hm,r,hr,rf⟩
 ·rintro⟨m,hm,r,hr,rfl⟩
  exact⟨m,hm,List.mem_map.2 ⟨_,List.mem_map.2 ⟨r,hr,rf⟩,rf⟩⟩
theorem Tm{ms:List (AD×Int)}(h:ms.Pairwise fun m m'=> ∀x,x<256→m.1 x=true→m'.1 x=false):(U3 ms).Pairwise JS:=by
 refine List.pairwise_flatMap.2 ⟨fun m _=>?_,?_⟩
 ·unfold Py
  rw[List.map_map]
  refine List.pairwise_map.2 (List.Pairwise.imp (fun{a b} hab=>?_) (HP m.1 256).apart)
  left;show(a.2:Int)<(b.1:Int);omega
 ·refine List.Pairwise.imp (fun{m m'} hm x hx y hy=>?_) h
  obtain⟨x',hx',rfl⟩:=List.mem_map.1 hx
  obtain⟨r,hr,rfl⟩:=List.mem_map.1 hx'
  obtain⟨y',hy',rfl⟩:=List.mem_map.1 hy
  obtain⟨s,hs,rfl⟩:=List.mem_map.1 hy'
  have h1:=(HP m.1 256).run r hr
  have h2:=(HP m'.1 256).run s hs
  by_cases h3:r.2<s.1
  ·left;show(r.2:Int)<(s.1:Int);omega
  ·by_cases h4:s.2<r.1
   ·right;show(s.2:Int)<(r.1:Int);omega
   ·exfalso
    have h5:=h1.2.2 (max r.1 s.1) (by omega) (by omega)
    have h6:=h2.2.2 (max r.1 s.1) (by omega) (by omega)
    rw[hm _ (by omega) h5]at h6;cases h6
theorem Vn{es:List Fw}(h:es.Pairwise JS)(hr:∀e∈es,e.1≤e.2.1){i j:Nat}(hi:i<es.length)(hj:j<es.length)(e:es[i].1=es[j].1):i=j:=by
 have a1:=hr _ (List.getElem_mem hi)
 have a2:=hr _ (List.getElem_mem hj)
 rcases Nat.lt_trichotomy i j with h1|h1|h1
 ·have:=List.pairwise_iff_getElem.1 h i j hi hj h1
  unfold JS at this;omega
 ·exact h1
 ·have:=List.pairwise_iff_getElem.1 h j i hj hi h1
  unfold JS at this;omega
theorem E9(x y:Fw):R8 FK x y=decide (x.1<y.1):=by
 unfold R8 FK
 simp only[Option.getD_some]
 exact decide_eq_decide.2 (by omega)
theorem Vb{es:List Fw}(h:es.Pairwise JS)(hr:∀e∈es,e.1≤e.2.1):On FK es:=by
 refine⟨fun i j=>rfl,fun i=>?_,fun i j k=>?_,fun i j k=>?_,fun i j=>?_⟩
 ·rw[E9];simp
 ·rw[E9,E9,E9];simp only[decide_eq_true_eq];omega
 ·rw[E9,E9,E9];simp only[decide_eq_false_iff_not];omega
 ·rw[E9,E9];simp only[decide_eq_false_iff_not]
  intro h1 h2
  exact Fin.ext (Vn h hr i.2 j.2 (by show es[i.1].1=es[j.1].1;have h1':¬es[i.1].1<es[j.1].1:=h1;have h2':¬es[j.1].1<es[i.1].1:=h2;omega))
theorem SQ{es:List Fw}{m n:Nat}(h:es.Pairwise JS)(hr:∀e∈es,0≤e.1∧e.1≤e.2.1∧e.2.1<m∧0≤e.2.2∧e.2.2<n):D9 (EV FK es) m n:=by
 have hp:(EV FK es).Perm es:=C1 _ es
 have hm:∀e,e∈EV FK es↔e∈es:=fun e=>hp.mem_iff
 refine⟨fun e he=>hr e ((hm e).1 he),?_⟩
 have h1:(EV FK es).Pairwise JS:=(hp.pairwise_iff (R:=JS) fun{a b} hab=>hab.symm).2 h
 have h2:(EV FK es).Pairwise fun a b=>(!R8 FK b a)=true:=Gq (fun _=>True) (fun a b c _ _ _=>by rw[E9,E9,E9];simp;omega) (fun a b _ _=>by rw[E9,E9];simp;omega) es fun _ _=>trivial
 refine List.Pairwise.imp_of_mem (fun{a b} ha hb hab=>?_) (h1.and h2)
 have a1:=hr a ((hm a).1 ha)
 have a2:=hr b ((hm b).1 hb)
 obtain⟨h3,h4⟩:=hab
 rw[E9]at h4
 have h4:¬b.1<a.1:=by simpa using h4
 unfold JS at h3;omega
theorem PK{es:List Fw}{b:Nat}{t:Int}(h:∀e∈es,EL b e=true→e.2.2=t)(hx:∃e∈es,EL b e=true):BW es b=t:=by
 unfold BW
 cases hf:es.find? (EL b)with
 |none=>
  obtain⟨e,he,hi⟩:=hx
  have:=List.find?_eq_none.1 hf e he
  exact absurd hi this
 |some e=>exact h e (List.mem_of_find?_eq_some hf) (by have:=List.find?_some hf;exact this)
theorem PL{es:List Fw}{b:Nat}(h:∀e∈es,EL b e≠true):BW es b= -1:=by
 unfold BW
 rw[List.find?_eq_none.2 fun e he=>h e he]
theorem Il(l:List AD):Ps l 256 (BH l) (CB (Bf l l.length) 256).2:=(P9 l 256 (Nat.le_refl _)).1
theorem R9{p:AD}{x:Nat}(hx:x<256)(h:p x=true):p (De p)=true:=by
 unfold De
 cases hf:(List.range 256).find? p with
 |none=>exact absurd h (by have:=List.find?_eq_none.1 hf x (List.mem_range.2 hx);exact this)
 |some a=>exact List.find?_some hf
theorem OQ{N:NT}{p:AD}(hp:p∈BH (CK N)){x:Nat}(hx:x<256)(h:p x=true)(S:List Int):mv N S (De p)=mv N S x:=by
 have hal:=(Gh _ _ _).1 (((Il (CK N)).cls p hp x (De p) hx (HT p) h).1 (R9 hx h))
 have hrow:∀k,MK (De p) (N.2.1.getD k [])=MK x (N.2.1.getD k []):=fun k=>by
  unfold MK
  congr 1
  refine List.filter_congr fun e he=>?_
  rw[List.getD_eq_getElem?_getD]at he
  cases hk:N.2.1[k]? with
  |none=>rw[hk]at he;cases he
  |some l=>
   rw[hk]at he
   exact(hal e.1 (List.mem_flatMap.2 ⟨l,List.mem_of_getElem? hk,List.mem_map.2 ⟨e,he,rf⟩⟩)).symm
 unfold mv
 exact congrArg (fun f=>S.flatMap f) (funext fun s=>hrow s.toNat)
noncomputable def Ks(N:NT)(L:List (List Int))(S:List Int)(p:AD):Option (AD×Int):=if mv N S (De p)=[]then none else some (p,((L.idxOf (Cq N (mv N S (De p))):Nat):Int))
noncomputable def Kt(N:NT)(L:List (List Int))(S:List Int)(ps:List AD):List (AD×Int):=ps.filterMap (Ks N L S)
def WO(N:NT)(L:List (List Int))(S:List Int)(ps:List AD):Prop:= ∀p∈ps,mv N S (De p)≠ []→Cq N (mv N S (De p))∈L
theorem Qu{α β:Type}{f g:α→Option β} :∀ {l:List α},(∀x∈l,f x=g x)→l.filterMap f=l.filterMap g
 | [],_=>rfl
 |x::l,h=>by rw[List.filterMap_cons,List.filterMap_cons,h x (by simp),Qu fun y hy=>h y (by simp[hy])]
theorem Uh{N:NT}{L more:List (List Int)}{S:List Int}{ps:List AD}(h:WO N L S ps):Kt N (L++more) S ps=Kt N L S ps:=by
 unfold Kt
 refine Qu fun p hp=>?_
 unfold Ks
 split
 ·rfl
 ·rename_i h1
  rw[List.idxOf_append,if_pos (h p hp h1)]
structure KV(N:NT)(b:Int)(L:List (List Int))(S:List Int)(st:Vy):Prop where
 acc:st.1=decide (b∈S)
 ed:D9 st.2 256 L.length
 PJ:∀x,x<256→BW st.2 x=if mv N S x=[]then-1 else((L.idxOf (Cq N (mv N S x)):Nat):Int)
 cl:∀x,x<256→mv N S x≠ []→Cq N (mv N S x)∈L
theorem KV.ext{N:NT}{b:Int}{L more:List (List Int)}{S:List Int}{st:Vy}(h:KV N b L S st):KV N b (L++more) S st:=by
 refine⟨h.acc,h.ed.mono (Nat.le_refl _) (by simp),fun x hx=>?_,fun x hx h1=>List.mem_append.2 (.inl (h.cl x hx h1))⟩
 rw[h.PJ x hx]
 split
 ·rfl
 ·rename_i h1
  rw[List.idxOf_append,if_pos (h.cl x hx h1)]
theorem U2{N:NT}{L:List (List Int)}{S:List Int}{ps:List AD}(hM:WO N L S ps):∀e∈U3 (Kt N L S ps),0≤e.1∧e.1≤e.2.1∧e.2.1<(256:Nat)∧0≤e.2.2∧e.2.2<L.length:=fun e he=>by
 obtain⟨m,hm,r,hr,rfl⟩:=OT.1 he
 obtain⟨p,hp,hf⟩:=List.mem_filterMap.1 hm
 unfold Ks at hf
 split at hf
 ·cases hf
 ·rename_i h1
  cases hf
  have h2:=(HP p 256).run r hr
  have h3:=List.idxOf_lt_length_of_mem (hM p hp h1)
  dsimp only
  omega
theorem NS{N:NT}{L:List (List Int)}{S:List Int} :(U3 (Kt N L S (BH (CK N)))).Pairwise JS:=by
 refine Tm (List.pairwise_filterMap.2 (List.Pairwise.imp (fun{p q} hpq m hm m' hm'=>?_) (Il (CK N)).apart))
 unfold Ks at hm hm'
 split at hm
 ·cases hm
 ·split at hm'
  ·cases hm'
  ·cases hm;cases hm';exact hpq
theorem Xv{N:NT}{b:Int}{L:List (List Int)}{S:List Int}(hM:WO N L S (BH (CK N))):KV N b L S (decide (b∈S),EV FK (U3 (Kt N L S (BH (CK N))))):=by
 have hp:(EV FK (U3 (Kt N L S (BH (CK N))))).Perm _:=C1 _ _
 have I:=Il (CK N)
 have hcov:∀x,x<256→∃p∈BH (CK N),p x=true:=fun x hx=>(I.seen x hx).1 (I.upto x hx hx)
 have hin:∀x,x<256→∀e∈U3 (Kt N L S (BH (CK N))),EL x e=true→mv N S x≠ []∧e.2.2=((L.idxOf (Cq N (mv N S x)):Nat):Int):=fun x hx e he hi=>by
  obtain⟨m,hm,r,hr,rfl⟩:=OT.1 he
  obtain⟨p,hp,hf⟩:=List.mem_filterMap.1 hm
  have h2:=(HP m.1 256).run r hr
  simp only[EL,Bool.and_eq_true,decide_eq_true_eq]at hi
  have h3:=h2.2.2 x (by omega) (by omega)
  unfold Ks at hf
  split at hf
  ·cases hf
  ·rename_i h1
   cases hf
   rw[OQ hp hx h3]at h1⊢
   exact⟨h1,rf⟩
 refine⟨rf,SQ NS (U2 hM),fun x hx=>?_,fun x hx h1=>?_⟩
 ·split
  ·rename_i h1
   exact PL fun e he hi=>(hin x hx e (hp.mem_iff.1 he) hi).1 h1
  ·rename_i h1
   refine PK (fun e he hi=>(hin x hx e (hp.mem_iff.1 he) hi).2) ?_
   obtain⟨p,hpp,hpx⟩:=hcov x hx
   obtain⟨r,hr,r1,r2⟩:=(HP p 256).all x hx hpx
   have h2:Ks N L S p=some (p,((L.idxOf (Cq N (mv N S (De p))):Nat):Int)):=by unfold Ks;rw[if_neg (by rw[OQ hpp hx hpx];exact h1)]
   refine⟨_,hp.mem_iff.2 (OT.2 ⟨_,List.mem_filterMap.2 ⟨p,hpp,h2⟩,r,hr,rf⟩),?_⟩
   simp only[EL,Bool.and_eq_true,decide_eq_true_eq];omega
 ·obtain⟨p,hpp,hpx⟩:=hcov x hx
  have:=hM p hpp
  rw[OQ hpp hx hpx]at this
  exact this h1
end Go.GL
namespace Go.GL
open Go.GK
theorem RN(p:AD):(Py p).length≤256:=by
 have I:=HP p 256
 unfold Py
 rw[List.length_map]
 have h1:((CE p 256).map (·.1)).Nodup:=List.pairwise_map.2 (List.Pairwise.imp_of_mem (fun{a b} ha hb hab=>by have:=I.run a ha;have:=I.run b hb;omega) I.apart)
 have:=DX (b:=List.range 256) h1 fun x hx=>by
  obtain⟨a,ha,rfl⟩:=List.mem_map.1 hx
  have:=I.run a ha
  exact List.mem_range.2 (by omega)
 simpa using this
theorem Su(ms:List (AD×Int)):(U3 ms).length≤ms.length*256:=GH fun m _=>by rw[List.length_map];exact RN m.1
theorem X4{P:Tb→Prop}{m:AD×Int}{k fu:Nat}{nx:(List Fw×Nat)→Option Tb}{pre:List Fw}(hp:pre.length≤100000000)(hf:200000000≤fu)
  (hn:Ok (nx (pre++(Py m.1).map (fun x=>(x.1,x.2,m.2)),k+1)) P):Ok (Ax fu (fun q nx'=>B8 fu k nx m q.1 q.2 nx') (pre,0)) P:=by
 have hl:=RN m.1
 refine Ok.range (fun j s=>s=pre++((Py m.1).take j).map (fun x=>(x.1,x.2,m.2))) (Py m.1).length (by simp) (by omega) (fun j s nx2 hj hJ hn2=>?_) (fun s nx2 hJ=>?_)
 ·subst hJ
  unfold B8
  dsimp only
  refine Ok.iT (by omega) (Ok.BX hj (Ok.A0 ?_ (hn2 _ ?_)))
  ·rw[List.length_append,List.length_map,List.length_take];simp only[List.length_cons,List.length_nil];unfold AH;omega
  ·rw[show(Py m.1).take (j+1)=(Py m.1).take j++[(Py m.1)[j]]from(List.take_append_getElem hj).symm,List.map_append,←List.append_assoc];rfl
 ·subst hJ
  unfold B8
  dsimp only
  rw[List.take_of_length_le (Nat.le_refl _)]
  exact Ok.iF (by omega) hn
theorem X7{P:Tb→Prop}{N:NT}{c fu k B:Nat}{a b:Int}{S:List Int}{L0:List (List Int)}{m0:List (Cb×Int)}{out:Tb}{nx:(List (List Int)×Tb×List (Cb×Int)×Nat)→Option Tb}
  (hN:NB N c) (hc:c≤4000) (hk:L0[k]?=some S) (hL0:SM N a L0 m0) (hB:∀L:List (List Int),L.Nodup→(∀S∈L,FT N a S)→L.length≤B) (hB':B≤100000000) (hf:200000000≤fu) (hout:out.length≤100000000)
  (hn:∀L m more st,SM N a L m→L=L0++more→KV N b L S st→Ok (nx (L,out++[st],m,k+1)) P):
  Ok (Ax fu (fun p nx'=>B' fu N b (CK N) out k nx p.1 p.2.1 p.2.2.1 p.2.2.2 nx') (L0,([]:List (AD×Int)),m0,0)) P:=by
 have hS:=hL0.rc S (List.mem_of_getElem? hk)
 have hSl:=hS.len
 have hlen:=hN.len
 have hpl:(BH (CK N)).length≤65536:=Js _
 have hget:∀more,(L0++more)[k]?=some S:=fun more=>by
  have:=(List.getElem?_eq_some_iff.1 hk).1
  rw[List.getElem?_append_left this];exact hk
 refine Ok.Rc (fun j L ms m=>SM N a L m∧(∃more,L=L0++more)∧ms=Kt N L S ((BH (CK N)).take j)∧WO N L S ((BH (CK N)).take j)) (BH (CK N)).length ⟨hL0,⟨[],by simp⟩,rf,fun p hp=>by simp at hp⟩ (by omega) (fun j L ms m nx2 hj hJ hn2=>?_) (fun L ms m nx2 hJ=>?_)
 ·obtain⟨hL,⟨more,hm⟩,hms,hM⟩:=hJ
  unfold B'
  dsimp only
  have hmsl:ms.length≤65536:=by
   rw[hms];have:=List.length_filterMap_le (Ks N L S) ((BH (CK N)).take j);rw[List.length_take]at this;unfold Kt;omega
  have htk:(BH (CK N)).take (j+1)=(BH (CK N)).take j++[(BH (CK N))[j]]:=(List.take_append_getElem hj).symm
  rw[htk]at hn2
  refine Ok.iT (by omega) (Ok.BX hj (Ok.I8 (by omega) (by rw[Int.toNat_natCast,hm];exact hget more) ?_))
  generalize(BH (CK N))[j]=p at hn2
  have hsplit:∀L',Kt N L' S ((BH (CK N)).take j++[p])=Kt N L' S ((BH (CK N)).take j)++[p].filterMap (Ks N L' S):=fun L'=>by unfold Kt;rw[List.filterMap_append]
  refine X6 hN hc hS hL hB hB' (by omega) hf (fun h=>hn2 _ _ _ ⟨hL,⟨more,hm⟩,?_,fun q hq h1=>?_⟩) fun h L' m' more' hL' hm' hin=>hn2 _ _ _ ⟨hL',⟨more++more',by rw[hm',hm,List.append_assoc]⟩,?_,fun q hq h1=>?_⟩
  ·rw[hsplit,←hms]
   have:Ks N L S p=none:=by unfold Ks;rw[if_pos h]
   simp[this]
  ·rcases List.mem_append.1 hq with hq|hq
   ·exact hM q hq h1
   ·simp at hq;subst hq;exact absurd h h1
  ·rw[hsplit,hm',Uh hM,←hms,←hm']
   have:Ks N L' S p=some (p,((L'.idxOf (Cq N (mv N S (De p))):Nat):Int)):=by unfold Ks;rw[if_neg h]
   simp[this]
  ·rcases List.mem_append.1 hq with hq|hq
   ·rw[hm'];exact List.mem_append.2 (.inl (hM q hq h1))
   ·simp at hq;subst hq;exact hin
 ·obtain⟨hL,⟨more,hm⟩,hms,hM⟩:=hJ
  rw[List.take_of_length_le (Nat.le_refl _)]at hms hM
  unfold B'
  dsimp only
  have hmsl:ms.length≤65536:=by
   rw[hms];have:=List.length_filterMap_le (Ks N L S) (BH (CK N));unfold Kt;omega
  refine Ok.iF (by omega) (Ok.I8 (by omega) (by rw[Int.toNat_natCast,hm];exact hget more) (Ok.AX (QC (by omega) hf) fun r hr=>?_))
  subst hr
  refine Ok.range (fun i s=>s=U3 (ms.take i)) ms.length rf (by omega) (fun i s nx3 hi hJ hn3=>?_) (fun s nx3 hJ=>?_)
  ·subst hJ
   unfold Cu
   dsimp only
   have hl:=Su (ms.take i)
   have htl:(ms.take i).length≤65536:=by rw[List.length_take];omega
   have:=Nat.mul_le_mul htl (Nat.le_refl 256)
   refine Ok.iT (by omega) (Ok.BX hi (X4 (by omega) hf (hn3 _ ?_)))
   rw[show ms.take (i+1)=ms.take i++[ms[i]]from(List.take_append_getElem hi).symm]
   unfold U3
   rw[List.flatMap_append];simp
  ·subst hJ
   unfold Cu
   dsimp only
   rw[List.take_of_length_le (Nat.le_refl _)]
   have hl:=Su ms
   have:=Nat.mul_le_mul hmsl (Nat.le_refl 256)
   refine Ok.iF (by omega) (Ok.A0 (Vb (by rw[hms];exact NS) fun e he=>?_) (Ok.A0 (by unfold AH;omega) (Ok.A0 (by simp only[List.length_cons,List.length_nil];unfold AH;omega) (hn L m more _ hL hm ?_))))
   ·rw[hms]at he;exact(U2 hM e he).2.1
   ·rw[hms];exact Xv hM
structure QR(N:NT)(a b:Int)(L:List (List Int))(T:Tb):Prop where
 len:T.length=L.length
 hd:L[0]?=some (Cq N [a])
 nd:L.Nodup
 rc:∀S∈L,FT N a S
 row:∀(k:Nat) S st,L[k]?=some S→T[k]?=some st→KV N b L S st
theorem Ph{N:NT}{c fu B:Nat}{a b:Int}(hN:NB N c)(hc:c≤4000)(ha:0≤a)(ha':a<N.1.length)(hB:∀L:List (List Int),L.Nodup→(∀S∈L,FT N a S)→L.length≤B)(hB':B≤100000000)(hf:200000000≤fu):
  Ok (C8 fu N a b) (fun T=> ∃L,QR N a b L T):=by
 have hlen:=hN.len
 unfold C8
 refine Ok.AX (OC hN hc hf) fun r hr=>?_
 obtain⟨rfl,hr⟩:=hr
 refine Ok.A0 (by omega) (Ok.AX (Ge hN hc (fun x hx=>by simp at hx;subst hx;exact⟨ha,ha'⟩) (by simp) hf) fun r hr=>?_)
 subst hr
 have hR:FT N a (Cq N [a]):= .start
 have hcl:=hR.len
 refine Ok.I8 (a:=Cq N [a]) (by decide) rf (Ok.AX (OZ (fun x hx=>by have:=hR.rg hx;omega) (by omega) hf) fun r hr=>?_)
 obtain⟨rfl,hk⟩:=hr
 refine Ok.A0 (by unfold AH;omega) (Ok.A0 (by simp[AH]) ?_)
 have hSM:SM N a [Cq N [a]] (DY ([]:List (Cb×Int)) (ER (Cq N [a])) 0):=SM.put (L:=[]) (m:=[]) ⟨.nil,by simp,E6.nil⟩ hR (by simp)
 refine Ok.loop (fun(x:List (List Int)×Tb×List (Cb×Int)×Nat)=>SM N a x.1 x.2.2.1∧x.2.1.length=x.2.2.2∧x.2.2.2≤x.1.length∧x.1[0]?=some (Cq N [a])∧∀(k:Nat) S st,x.1[k]?=some S→x.2.1[k]?=some st→KV N b x.1 S st) (fun x=>B-x.2.2.2)
  ⟨hSM,rfl,by simp,rfl,fun k S st _ h=>by simp at h⟩ (by dsimp only;omega) fun x nx hI _ hn=>?_
 obtain⟨L,out,m,k⟩:=x
 obtain⟨hL,h1,h2,h3,h4⟩:=hI
 dsimp only at hL h1 h2 h3 h4 hn
 unfold CX
 dsimp only
 have hLB:=hB L hL.nd hL.rc
 rcases Nat.lt_or_ge k L.length with hk'|hk'
 ·have hkS:L[k]?=some L[k]:=List.getElem?_eq_getElem hk'
  refine Ok.iT (by omega) (X7 hN hc hkS hL hB hB' hf (by omega) fun L' m' more st g1 g2 g3=>hn (L',out++[st],m',k+1) ⟨g1,by dsimp only;rw[List.length_append,h1];rfl,?_,?_,fun i S st' e1 e2=>?_⟩ ?_)
  ·dsimp only;rw[g2,List.length_append];omega
  ·dsimp only;rw[g2,List.getElem?_append_left (by omega)];exact h3
  ·dsimp only at e1 e2⊢
   rcases Nat.lt_trichotomy i k with h|h|h
   ·rw[List.getElem?_append_left (by omega)]at e2
    rw[g2,List.getElem?_append_left (by omega)]at e1
    rw[g2];exact(h4 i S st' e1 e2).ext
   ·subst h
    rw[List.getElem?_append_right (by omega),h1,Nat.sub_self]at e2
    rw[g2,List.getElem?_append_left (by omega),hkS]at e1
    cases e1;simp at e2;subst e2;exact g3
   ·rw[List.getElem?_eq_none (by rw[List.length_append];simp;omega)]at e2;cases e2
  ·dsimp only;omega
 ·exact Ok.iF (by omega) (Ok.some ⟨L,by omega,h3,hL.nd,hL.rc,h4⟩)
theorem X0{N:NT}{s u:Int}{w:List UInt8}(h:Cl (Nf N) s w u):w=[]→Cl (QT N.1) s [] u:=by
 induction h with
 |refl s=>exact fun _=> .refl s
 | @step s t u v w h1 _ ih=>
  intro e
  obtain⟨rfl,rfl⟩:=List.append_eq_nil_iff.1 e
  rcases h1 with h1|⟨c,h1,_⟩
  ·exact(Cl.one h1).trans (ih rf)
  ·cases h1
theorem Zw{N:NT}{s u:Int}{w:List UInt8}(h:Cl (QT N.1) s w u):Cl (Nf N) s w u:=h.mono fun _ _ _ h=>Cl.one (.inl h)
theorem Wx{N:NT}{s u:Int}{c:UInt8}{w:List UInt8}(h:Cl (Nf N) s (c::w) u):∃t v,Cl (QT N.1) s [] t∧VM N.2.1 t [c] v∧Cl (Nf N) v w u:=by
 generalize hx:c::w=x at h
 induction h with
 |refl s=>cases hx
 | @step s t u v w' h1 h2 ih=>
  rcases h1 with⟨rfl,h1⟩|⟨c',rfl,h1⟩
  ·obtain⟨t',v',i1,i2,i3⟩:=ih hx
   exact⟨t',v',(Cl.one (T:=QT N.1) ⟨rf,h1⟩).trans i1,i2,i3⟩
  ·cases hx
   exact⟨s,t, .refl s,⟨c,rf,h1⟩,h2⟩
theorem LI{N:NT}{c:Nat}(hN:NB N c){l:List Int}{s u:Int}(hs:s∈Cq N l)(h:Cl (QT N.1) s [] u):u∈Cq N l:=by
 obtain⟨h0,h1,x,hx,hc⟩:=It.1 hs
 rw[show((s.toNat:Nat):Int)=s by omega]at hc
 have hu:=Lm (f:=fun u=>0≤u∧u<N.1.length) (fun s u _ ⟨row,_,h3,h4⟩=>hN.t1 row (List.mem_of_getElem? h3) u h4) h ⟨h0,h1⟩
 refine It.2 ⟨hu.1,hu.2,x,hx,?_⟩
 rw[show((u.toNat:Nat):Int)=u by omega]
 exact hc.trans h
theorem Od{N:NT}{l:List Int}{s:Int}(hs:s∈l)(h0:0≤s)(h1:s<N.1.length):s∈Cq N l:=by
 refine It.2 ⟨h0,h1,s,hs,?_⟩
 rw[show((s.toNat:Nat):Int)=s by omega]
 exact .refl s
theorem Uj{N:NT}{S:List Int}{c:UInt8}{v:Int}(hS:∀s∈S,0≤s):v∈mv N S c.toNat↔∃s∈S,VM N.2.1 s [c] v:=by
 unfold mv MK
 rw[List.mem_flatMap]
 constructor
 ·rintro⟨s,hs,h⟩
  obtain⟨e,he,rfl⟩:=List.mem_map.1 h
  obtain⟨he,hc⟩:=List.mem_filter.1 he
  rw[List.getD_eq_getElem?_getD]at he
  cases hk:N.2.1[s.toNat]? with
  |none=>rw[hk]at he;cases he
  |some l=>rw[hk]at he;exact⟨s,hs,c,rfl,hS s hs,l,hk,e,he,hc,rfl⟩
 ·rintro⟨s,hs,c',h1,h0,l,hk,e,he,hc,rfl⟩
  cases h1
  refine⟨s,hs,List.mem_map.2 ⟨e,List.mem_filter.2 ⟨?_,hc⟩,rf⟩⟩
  rw[List.getD_eq_getElem?_getD,hk];exact he
theorem U6{N:NT}{c:Nat}{a b:Int}{L:List (List Int)}{T:Tb}(hN:NB N c)(h:QR N a b L T):∀(w:List UInt8) (k:Nat) S,L[k]?=some S→(Bt T (k:Int) w=true↔∃s∈S,Cl (Nf N) s w b):=by
 intro w
 induction w with
 |nil=>
  intro k S hk
  have hR:=h.rc S (List.mem_of_getElem? hk)
  have hkl:=(List.getElem?_eq_some_iff.1 hk).1
  have hT:T[k]?=some (T[k]'(by have:=h.len;omega)):=List.getElem?_eq_getElem _
  have hr:=h.row k S _ hk hT
  have hrow:Cs T (k:Int)=T[k]'(by have:=h.len;omega):=by unfold Cs;rw[Int.toNat_natCast,List.getD_eq_getElem?_getD,hT];rfl
  show fin T (k:Int)=true↔_
  unfold fin
  rw[hrow,hr.acc,decide_eq_true (by omega:(0:Int)≤k)]
  simp only[Bool.true_and,decide_eq_true_eq]
  refine⟨fun hb=>⟨b,hb, .refl b⟩,fun⟨s,hs,hc⟩=>?_⟩
  obtain⟨l,rfl⟩:=hR.is
  exact LI hN hs (X0 hc rf)
 |cons x w ih=>
  intro k S hk
  have hR:=h.rc S (List.mem_of_getElem? hk)
  have hkl:=(List.getElem?_eq_some_iff.1 hk).1
  have hT:T[k]?=some (T[k]'(by have:=h.len;omega)):=List.getElem?_eq_getElem _
  have hr:=h.row k S _ hk hT
  have hrow:Cs T (k:Int)=T[k]'(by have:=h.len;omega):=by unfold Cs;rw[Int.toNat_natCast,List.getD_eq_getElem?_getD,hT];rfl
  show Bt T (D8 T (k:Int) x.toNat) w=true↔_
  have hst:D8 T (k:Int) x.toNat=BW (T[k]'(by have:=h.len;omega)).2 x.toNat:=by unfold D8;rw[if_neg (by omega),hrow]
  rw[hst,hr.PJ _ x.toNat_lt]
  have hnn:∀s∈S,0≤s:=fun s hs=>(hR.rg hs).1
  have hto:∀ {s:Int},s∈S→Cl (Nf N) s (x::w) b→∃v∈mv N S x.toNat,Cl (Nf N) v w b:=fun{s} hs hc=>by
   obtain⟨t,v,h1,h2,h3⟩:=Wx hc
   obtain⟨l,rfl⟩:=hR.is
   exact⟨v,(Uj hnn).2 ⟨t,LI hN hs h1,h2⟩,h3⟩
  split
  ·rename_i hm
   rw[FI (by decide)]
   refine⟨fun h=>(by cases h),fun⟨s,hs,hc⟩=>?_⟩
   obtain⟨v,hv,_⟩:=hto hs hc
   rw[hm]at hv;cases hv
  ·rename_i hm
   have hin:=hr.cl _ x.toNat_lt hm
   have hix:L[L.idxOf (Cq N (mv N S x.toNat))]?=some (Cq N (mv N S x.toNat)):=by
    rw[List.getElem?_eq_getElem (List.idxOf_lt_length_of_mem hin),List.getElem_idxOf]
   rw[ih _ _ hix]
   constructor
   ·rintro⟨s',hs',hc⟩
    obtain⟨h0,_,v,hv,hcl⟩:=It.1 hs'
    rw[show((s'.toNat:Nat):Int)=s' by omega]at hcl
    obtain⟨s,hs,ho⟩:=(Uj hnn).1 hv
    exact⟨s,hs,Cl.step (v:=[x]) (.inr ho) ((Zw hcl).trans hc)⟩
   ·rintro⟨s,hs,hc⟩
    obtain⟨v,hv,hc⟩:=hto hs hc
    have:=R4 hN hv
    exact⟨v,Od hv this.1 this.2,hc⟩
theorem U5{N:NT}{c:Nat}{a b:Int}{L:List (List Int)}{T:Tb}(hN:NB N c)(ha:0≤a)(ha':a<N.1.length)(h:QR N a b L T)(w:List UInt8):Bt T 0 w=true↔Cl (Nf N) a w b:=by
 have:=U6 hN h w 0 _ h.hd
 rw[show((0:Nat):Int)=0 from rfl]at this
 rw[this]
 constructor
 ·rintro⟨s,hs,hc⟩
  obtain⟨h0,_,v,hv,hcl⟩:=It.1 hs
  rw[show((s.toNat:Nat):Int)=s by omega]at hcl
  simp at hv;subst hv
  exact(Zw hcl).trans hc
 ·intro hc
  exact⟨a,Od (by simp) ha ha',hc⟩
theorem U4{N:NT}{a b:Int}{L:List (List Int)}{T:Tb}(h:QR N a b L T):E0 T:=fun s hs=>by
 obtain⟨k,hk,rfl⟩:=List.getElem_of_mem hs
 have hl:=h.len
 rw[hl]
 exact(h.row k L[k] T[k] (List.getElem?_eq_getElem (by omega)) (List.getElem?_eq_getElem hk)).ed
end Go.GL
namespace Go.GL
open Go.GK
def RT(b:Nat)(row:List (AD×Int×Int)):List Int:=(row.filter fun e=>e.1 b).map fun e=>e.2.2
def ps(N:NT)(S:List Int)(b:Nat):List Int:=S.flatMap fun s=>RT b (N.2.1.getD s.toNat [])
def Pu(m:List (Cb×Bool))(u:List Cb):Prop:=m.length=u.length∧u.Nodup∧∀x,AQ m x=if x∈u then some true else none
theorem Pu.put{m:List (Cb×Bool)}{u:List Cb}(h:Pu m u){x:Cb}(hx:x∉u):Pu (DY m x true) (u++[x]):=by
 refine⟨by rw[Jw,h.2.2,if_neg hx,h.1];simp,List.nodup_append.2 ⟨h.2.1,by simp,fun y hy z hz=>?_⟩,fun z=>?_⟩
 ·simp at hz;subst hz;exact fun e=>hx (e▸hy)
 ·rw[Iy,h.2.2]
  by_cases hz:z=x
  ·subst hz;simp
  ·rw[if_neg hz]
   by_cases hu:z∈u<;>simp[hu,hz]
theorem Pu.get{m:List (Cb×Bool)}{u:List Cb}(h:Pu m u)(x:Cb):(AQ m x).getD false=decide (x∈u):=by
 rw[h.2.2];by_cases hx:x∈u<;>simp[hx]
theorem RS(b:Nat)(row:List (AD×Int×Int)):(RT b row).length=(MK b row).length:=by unfold RT MK;simp
theorem MB(N:NT)(S:List Int)(b:Nat):(ps N S b).length=(mv N S b).length:=by
 unfold ps mv
 induction S with
 |nil=>rfl
 |cons s S ih=>rw[List.flatMap_cons,List.flatMap_cons,List.length_append,List.length_append,ih,RS]
theorem WY{N:NT}{c:Nat}(hN:NB N c){S:List Int}{b:Nat}{x:Int}(hx:x∈ps N S b):0≤x∧x<c:=by
 obtain⟨s,_,hx⟩:=List.mem_flatMap.1 hx
 obtain⟨e,he,rfl⟩:=List.mem_map.1 hx
 have he:=(List.mem_filter.1 he).1
 rw[List.getD_eq_getElem?_getD]at he
 cases hk:N.2.1[s.toNat]? with
 |none=>rw[hk]at he;cases he
 |some l=>
  rw[hk]at he
  have:=hN.q2 l (List.mem_of_getElem? hk) e he
  have:=hN.p1
  omega
theorem FW(l:List Int):(CD l).length=l.length:=(C1 _ l).length_eq
theorem Ib{l:List Int}{x:Int} :x∈CD l↔x∈l:=(C1 _ l).mem_iff
theorem Xg{P:Bool→Prop}{p:AD}{k fu:Nat}{nx:(List Int×List Int×Nat)→Option Bool}{row:List (AD×Int×Int)}{q pre:List Int}(hr:row.length≤4000)(hq:q.length≤100000000)(hp:pre.length≤100000000)(hf:200000000≤fu)
  (hn:Ok (nx (q++RT (De p) row,pre++MK (De p) row,k+1)) P):Ok (Ax fu (fun y nx'=>Dd fu p k nx row y.1 y.2.1 y.2.2 nx') (q,pre,0)) P:=by
 refine Ok.FX (fun j s t=>s=q++RT (De p) (row.take j)∧t=pre++MK (De p) (row.take j)) row.length (by simp[MK,RT]) (by omega) (fun j s t nx2 hj hJ hn2=>?_) (fun s t nx2 hJ=>?_)
 ·obtain⟨rfl,rfl⟩:=hJ
  unfold Dd
  dsimp only
  have hl:=OR (De p) (row.take j)
  have hl2:=RS (De p) (row.take j)
  have htl:(row.take j).length≤row.length:=by rw[List.length_take];omega
  have htk:row.take (j+1)=row.take j++[row[j]]:=(List.take_append_getElem hj).symm
  have hnx:MK (De p) (row.take (j+1))=MK (De p) (row.take j)++if row[j].1 (De p)then [row[j].2.1]else []:=by
   rw[htk]
   unfold MK
   rw[List.filter_append,List.map_append]
   congr 1
   rw[List.filter_cons]
   split<;>rfl
  have hnq:RT (De p) (row.take (j+1))=RT (De p) (row.take j)++if row[j].1 (De p)then [row[j].2.2]else []:=by
   rw[htk]
   unfold RT
   rw[List.filter_append,List.map_append]
   congr 1
   rw[List.filter_cons]
   split<;>rfl
  refine Ok.iT (by omega) (Ok.BX hj ?_)
  rw[Int.toNat_natCast]
  refine Ok.bif (fun h=>Ok.A0 (by rw[List.length_append];simp only[List.length_cons,List.length_nil];unfold AH;omega) (Ok.A0 (by rw[List.length_append];simp only[List.length_cons,List.length_nil];unfold AH;omega) (hn2 _ _ ⟨?_,?_⟩))) fun h=>hn2 _ _ ⟨?_,?_⟩
  ·rw[hnq,if_pos h,←List.append_assoc]
  ·rw[hnx,if_pos h,←List.append_assoc]
  ·rw[hnq,if_neg (by rw[h];decide),List.append_nil]
  ·rw[hnx,if_neg (by rw[h];decide),List.append_nil]
 ·obtain⟨rfl,rfl⟩:=hJ
  unfold Dd
  dsimp only
  rw[List.take_of_length_le (Nat.le_refl _)]
  exact Ok.iF (by omega) hn
def Tw(N:NT)(a:Int)(x:Cb):Prop:= ∃S b,FT N a S∧b<256∧ps N S b≠ []∧x=ER (CD (ps N S b))
def ZD(N:NT)(a:Int)(r:Bool):Prop:=r=true→∃ks:List Cb,ks.Nodup∧ks.length=501∧∀x∈ks,Tw N a x
theorem Wd{N:NT}{c fu:Nat}{a:Int}(hN:NB N c)(hc:c≤4000)(ha:0≤a)(ha':a<N.1.length)(hf:200000000≤fu):Ok (Ea fu N a) (ZD N a):=by
 have hlen:=hN.len
 unfold Ea
 refine Ok.AX (OC hN hc hf) fun r hr=>?_
 obtain⟨rfl,hr⟩:=hr
 refine Ok.A0 (by omega) (Ok.AX (Ge hN hc (fun x hx=>by simp at hx;subst hx;exact⟨ha,ha'⟩) (by simp) hf) fun r hr=>?_)
 subst hr
 have hpl:(BH (CK N)).length≤65536:=Js _
 refine Ok.loop (fun(x:List (List Int)×List (Cb×Bool)×Nat)=>(∀S∈x.1,FT N a S)∧(∃u,Pu x.2.1 u∧(∀y∈u,Tw N a y)∧u.length≤500∧x.1.length=u.length+1)∧x.2.2≤x.1.length) (fun x=>501-x.2.2)
  ⟨fun S hS=>by simp at hS;subst hS;exact .start,⟨[],⟨rfl, .nil,fun _=>rfl⟩,by simp,by simp,rfl⟩,by simp⟩ (by dsimp only;omega) fun x nx hI _ hn=>?_
 obtain⟨W,m,k⟩:=x
 obtain⟨h1,⟨u,h2,h3,h4,h5⟩,h6⟩:=hI
 dsimp only at h1 h2 h3 h4 h5 h6 hn
 unfold D3
 dsimp only
 rcases Nat.lt_or_ge k W.length with hk|hk
 ·refine Ok.iT (by omega) ?_
  have hS:=h1 _ (List.getElem_mem hk)
  have hkS:W[k]?=some W[k]:=List.getElem?_eq_getElem hk
  generalize W[k]=S at hS hkS
  have hSl:=hS.len
  refine Ok.FX (fun j W' m'=>(∀S∈W',FT N a S)∧(∃u,Pu m' u∧(∀y∈u,Tw N a y)∧u.length≤500∧W'.length=u.length+1)∧∃more,W'=W++more) (BH (CK N)).length ⟨h1,⟨u,h2,h3,h4,h5⟩,[],by simp⟩ (by omega) (fun j W' m' nx2 hj hJ hn2=>?_) (fun W' m' nx2 hJ=>?_)
  ·obtain⟨g1,⟨u',g2,g3,g4,g5⟩,more,g6⟩:=hJ
   unfold CO
   dsimp only
   refine Ok.iT (by omega) (Ok.BX hj (Ok.I8 (by omega) (by rw[Int.toNat_natCast,g6,List.getElem?_append_left hk];exact hkS) ?_))
   generalize(BH (CK N))[j]=p
   refine Ok.FX (fun i s t=>s=ps N (S.take i) (De p)∧t=mv N (S.take i) (De p)) S.length ⟨rf,rf⟩ (by omega) (fun i s t nx3 hi hJ hn3=>?_) (fun s t nx3 hJ=>?_)
   ·obtain⟨rfl,rfl⟩:=hJ
    unfold CN
    dsimp only
    have hx:=hS.rg (List.getElem_mem hi)
    have hl:=Le hN hc (S:=S.take i) (De p) (by rw[List.length_take];omega)
    have hl2:=MB N (S.take i) (De p)
    refine Ok.iT (by omega) (Ok.BX hi (Ok.I8 hx.1 (OD hN hx.1 hx.2) (Xg (by have:=LV hN S[i].toNat;omega) (by omega) (by omega) hf (hn3 _ _ ⟨?_,?_⟩))))
    ·rw[show S.take (i+1)=S.take i++[S[i]]from(List.take_append_getElem hi).symm]
     unfold ps
     rw[List.flatMap_append];simp
    ·rw[show S.take (i+1)=S.take i++[S[i]]from(List.take_append_getElem hi).symm]
     unfold mv
     rw[List.flatMap_append];simp
   ·obtain⟨rfl,rfl⟩:=hJ
    unfold CN
    dsimp only
    rw[List.take_of_length_le (Nat.le_refl _)]
    have hl:=Le hN hc (De p) hSl
    have hl2:=MB N S (De p)
    refine Ok.iF (by omega) (Ok.A0 (by unfold AH;omega) (Ok.AX (OZ (fun x hx=>by have:=WY hN (Ib.1 hx);omega) (by rw[FW];omega) hf) fun r hr=>?_))
    obtain⟨rfl,hkl⟩:=hr
    rw[FW]at hkl
    refine Ok.ite (fun h=>hn2 _ _ ⟨g1,⟨u',g2,g3,g4,g5⟩,more,g6⟩) fun h=>?_
    rw[FW]at h
    have hne:ps N S (De p)≠ []:=fun e=>by rw[e]at h;exact h rfl
    have hmne:mv N S (De p)≠ []:=fun e=>by rw[e]at hl2;exact hne (List.length_eq_zero_iff.1 hl2)
    have hK:Tw N a (ER (CD (ps N S (De p)))):=⟨S,De p,hS,HT p,hne,rfl⟩
    rw[g2.get]
    refine Ok.A0 (by unfold AH;omega) (Ok.bif (fun h7=>hn2 _ _ ⟨g1,⟨u',g2,g3,g4,g5⟩,more,g6⟩) fun h7=>?_)
    have h7:ER (CD (ps N S (De p)))∉u':=by simpa using h7
    have hput:=g2.put h7
    have hml:=g2.1
    refine Ok.ite (fun h8=>Ok.some fun _=>⟨u'++[ER (CD (ps N S (De p)))],hput.2.1,by rw[List.length_append];simp only[List.length_cons,List.length_nil];omega,fun x hx=>?_⟩) fun h8=>?_
    ·rcases List.mem_append.1 hx with hx|hx
     ·exact g3 x hx
     ·simp at hx;subst hx;exact hK
    ·refine Ok.A0 (by unfold AH;omega) (Ok.A0 (by unfold AH;omega) (Ok.AX (Ge hN hc (fun x hx=>R4 hN hx) (by omega) hf) fun r hr=>?_))
     subst hr
     refine Ok.A0 (by simp only[List.length_cons,List.length_nil];unfold AH;omega) (hn2 _ _ ⟨fun T hT=>?_,⟨u'++[ER (CD (ps N S (De p)))],hput,fun x hx=>?_,?_,?_⟩,more++[Cq N (mv N S (De p))],by rw[g6,List.append_assoc]⟩)
     ·rcases List.mem_append.1 hT with hT|hT
      ·exact g1 T hT
      ·simp at hT;subst hT;exact .step hS (HT p) hmne
     ·rcases List.mem_append.1 hx with hx|hx
      ·exact g3 x hx
      ·simp at hx;subst hx;exact hK
     ·rw[List.length_append];simp only[List.length_cons,List.length_nil];omega
     ·rw[List.length_append,List.length_append];simp only[List.length_cons,List.length_nil];omega
  ·obtain⟨g1,⟨u',g2,g3,g4,g5⟩,more,g6⟩:=hJ
   unfold CO
   dsimp only
   refine Ok.iF (by omega) (hn (W',m',k+1) ⟨g1,⟨u',g2,g3,g4,g5⟩,?_⟩ ?_)
   ·dsimp only;rw[g6,List.length_append];omega
   ·dsimp only;omega
 ·exact Ok.iF (by omega) (Ok.some fun h=>by cases h)
end Go.GL
namespace Go.GL
open Go.GK
def HV:Nat→(Nat→Bool)→Nat
 |0,_=>0
 |n+1,f=>HV n f+(if f n then 0 else 1)
theorem Kb{f g:Nat→Bool} :∀ {n:Nat},(∀j,j<n→f j=true→g j=true)→HV n g≤HV n f
 |0,_=>Nat.le_refl _
 |n+1,h=>by
  have:=Kb (n:=n) fun j hj=>h j (by omega)
  have h1:=h n (by omega)
  simp only[HV]
  cases hf:f n<;>cases hg:g n<;>simp[hf,hg]at h1⊢ <;>omega
theorem M5{f g:Nat→Bool} :∀ {n:Nat},(∀j,j<n→f j=true→g j=true)→(∃j,j<n∧f j=false∧g j=true)→HV n g<HV n f
 |0,_,⟨j,hj,_⟩=>by omega
 |n+1,h,⟨j,hj,h1,h2⟩=>by
  have h3:=h n (by omega)
  have h4:=Kb (n:=n) (f:=f) (g:=g) fun j hj=>h j (by omega)
  simp only[HV]
  by_cases hjn:j=n
  ·subst hjn;rw[h1,h2];simp;omega
  ·have:=M5 (n:=n) (f:=f) (g:=g) (fun j hj=>h j (by omega)) ⟨j,by omega,h1,h2⟩
   cases hf:f n<;>cases hg:g n<;>simp[hf,hg]at h3⊢ <;>omega
theorem Md:∀(n:Nat) (f:Nat→Bool),HV n f≤n
 |0,_=>Nat.le_refl _
 |n+1,f=>by have:=Md n f;simp only[HV];split<;>omega
theorem OV{L:Lg}{w:List UInt8}(h:L w=true):live L=true:=Jc.2 ⟨w,h⟩
theorem Qj{L:Lg}{b:Nat}(h:live (LQ L b)=true):live L=true:=by
 obtain⟨w,hw⟩:=Jc.1 h;exact OV (w:=UInt8.ofNat b::w) hw
def Yb(l:Tb)(c:Nat→Int)(f:Nat→Bool):Prop:= ∀s,s<DM l→f (c s).toNat=live (Bt l (s:Nat))
theorem ClsB.nat{l:Tb}{c:Nat→Int}(h:ClsB l c){s:Nat}(hs:s<DM l):(c s).toNat<DM l∧(((c s).toNat:Nat):Int)=c s:=by
 have:=h.rg s hs
 unfold DM;omega
theorem Wf {l : Tb} {cs : List Int} {c : Nat → Int} {n fu : Nat} (hw : E0 l) (hc : Co cs) (hf : Gk cs l) (hk : SE l c) (hl : l.length ≤ n) (hn : n < 4294967296) (hfu : n + 2 < fu) (hfu' : 256 < fu) :
    Ok (EZ fu (HW l cs (CY (DM l) c))) (fun r => ∃ f, r = CY (DM l) f ∧ Yb l c f) := by
  have hN : DM l = l.length + 1 := rfl
  unfold EZ HW; dsimp only
  rw [BS]
  refine Ok.A0 (by unfold AH; omega) ?_
  rw [E4]
  let Sd : (Nat → Bool) → Prop := fun f => ∀ j, j < DM l → f j = true → ∀ s, s < DM l → (c s).toNat = j → live (Bt l (s : Nat)) = true
  refine Ok.loop (X := List Bool × Bool) (fun x => ∃ f, x.1 = CY (DM l) f ∧ Sd f ∧ (x.2 = false → Yb l c f)) (fun x => (if x.2 then 1 else 0) + HV (DM l) (fun j => x.1.getD j false)) ⟨_, rfl, fun j _ h => (by cases h), fun h => (by cases h)⟩ ?_ fun x nx hI _ hnx => ?_
  · have := Md (DM l) (fun j => (CY (l.length + 1) fun _ => false).getD j false)
    simp only [if_true]; omega
  obtain ⟨o, again⟩ := x
  obtain ⟨f, ho, hS, hL⟩ := hI
  dsimp only at ho hL hnx
  subst ho
  unfold D0
  have hgD : ∀ g : Nat → Bool, ∀ j, j < DM l → (CY (DM l) g).getD j false = g j := fun g j hj => by
    rw [List.getD_eq_getElem?_getD, EU hj]; rfl
  have hcg : ∀ g : Nat → Bool, HV (DM l) (fun j => (CY (DM l) g).getD j false) = HV (DM l) g := fun g =>
    Nat.le_antisymm (Kb fun j hj h => by rw [hgD g j hj]; exact h) (Kb fun j hj h => by rw [hgD g j hj] at h; exact h)
  refine Ok.bif (fun h => ?_) fun h => Ok.some ⟨f, rf, hL h⟩
  subst h
  have hnat := fun s hs => hk.toClsB.nat (s := s) hs
  refine Ok.FX (fun k o ag => ∃ g, o = CY (DM l) g ∧ Sd g ∧ (∀ j, j < DM l → f j = true → g j = true) ∧
      (ag = false → (∀ j, j < DM l → g j = f j) ∧ ∀ s, s < k → (Pr l s = true ∨ ∃ i, i < cs.length ∧ f (c (I6 l cs s i).toNat).toNat = true) → f (c s).toNat = true) ∧
      (ag = true → ∃ j, j < DM l ∧ f j = false ∧ g j = true)) (DM l) ⟨f, rfl, hS, fun _ _ h => h, fun _ => ⟨fun _ _ => rfl, fun s hs => by omega⟩, fun h => (by cases h)⟩ (by omega) (fun k o ag nx' hkl hJ hnx' => ?_) (fun o ag nx' hJ => ?_)
  · obtain ⟨g, rfl, hSg, hfg, hg0, hg1⟩ := hJ
    unfold C7; dsimp only
    refine Ok.iT (by rw [BS]; omega) (Ok.BZ (Bw hkl) (Ok.BZ (Bw hkl) ?_))
    refine Ok.range (fun i b => b = true ↔ Pr l k = true ∨ ∃ j, j < i ∧ g (c (I6 l cs k j).toNat).toNat = true) cs.length (by simp) (by have := hc.le; omega) (fun i b nx2 hi hb hn2 => ?_) (fun b nx2 hb => ?_)
    · have hr := Ip hw cs k i
      have hq : (I6 l cs k i).toNat < DM l := by omega
      have hcq := hnat _ hq
      unfold C6; dsimp only
      refine Ok.iT (by unfold R2; rw [BS]; omega) (Ok.BZ (by unfold R2; exact Bw hi) (Ok.bif (fun h => hn2 _ ?_) fun h => ?_))
      · subst h
        simp only [true_iff] at hb ⊢
        rcases hb with hb | ⟨j, hj, hb⟩
        · exact .inl hb
        · exact .inr ⟨j, by omega, hb⟩
      · refine Ok.BZ (a := c (I6 l cs k i).toNat) (by rw [show I6 l cs k i = (((I6 l cs k i).toNat : Nat) : Int) by omega]; exact Bw (by omega)) (Ok.BZ (a := g (c (I6 l cs k i).toNat).toNat) (by rw [← hcq.2]; exact Bw (by omega)) (hn2 _ ?_))
        subst h
        simp only [Bool.false_eq_true, false_iff] at hb
        constructor
        · exact fun h => .inr ⟨i, by omega, h⟩
        · rintro (h | ⟨j, hj, h⟩)
          · exact absurd (.inl h) hb
          · rcases Nat.lt_or_ge j i with h1 | h1
            · exact absurd (.inr ⟨j, h1, h⟩) hb
            · obtain rfl : j = i := by omega
              exact h
    · have hck := hnat k hkl
      have e1 : idx (CY (DM l) c) (k : Int) = some (c k) := Bw hkl
      have e2 : idx (CY (DM l) g) (c k) = some (g (c k).toNat) := by rw [← hck.2]; exact Bw hck.1
      unfold C6; dsimp only
      have hkeep : ∀ (hno : ¬ (b = true ∧ g (c k).toNat = false)), Ok (nx' (CY (DM l) g, ag, k + 1)) fun r => ∃ f, r = CY (DM l) f ∧ Yb l c f := fun hno => by
        refine hnx' _ _ ⟨g, rf, hSg, hfg, fun h => ⟨(hg0 h).1, fun s hs hor => ?_⟩, hg1⟩
        rcases Nat.lt_or_ge s k with h1 | h1
        · exact (hg0 h).2 s h1 hor
        · obtain rfl : s = k := by omega
          have hgf := (hg0 h).1
          rw [← hgf _ hck.1]
          have hbt : b = true := hb.2 (by
            rcases hor with hor | ⟨i, hi, hor⟩
            · exact .inl hor
            · refine .inr ⟨i, hi, ?_⟩
              have hr := Ip hw cs s i
              rw [hgf _ (hnat _ (by omega)).1]; exact hor)
          cases hgk : g (c s).toNat
          · exact absurd ⟨hbt, hgk⟩ hno
          · rfl
      refine Ok.iF (by unfold R2; rw [BS]; omega) (Ok.bif (fun h => Ok.BZ e1 (Ok.BZ e2 (Ok.bif (fun h2 => Ok.BZ e1 (Ok.BZ e2 ?_)) fun h2 => hkeep ?_))) fun h => hkeep ?_)
      · have hgk : g (c k).toNat = false := by cases hh : g (c k).toNat <;> simp [hh] at h2 ⊢
        have hlv : live (Bt l (k : Nat)) = true := by
          rcases hb.1 h with h3 | ⟨j, hj, h3⟩
          · exact OV (w := []) (by rw [J5]; exact h3)
          · have hr := Ip hw cs k j
            have := hSg _ (hnat _ (by omega)).1 h3 _ (by omega : (I6 l cs k j).toNat < DM l) rfl
            rw [Int.toNat_of_nonneg hr.1, NV hw hc k hj] at this
            exact Qj this
        rw [Cx]
        refine hnx' _ _ ⟨_, rfl, fun j hj hgj s hs hcs => ?_, fun j hj hfj => ?_, fun h => (by cases h), fun _ => ⟨(c k).toNat, hck.1, ?_, by simp⟩⟩
        · by_cases hjk : j = (c k).toNat
          · have hcc : c s = c k := by have := (hnat s hs).2; omega
            rw [(hk.iff s k hs hkl).1 hcc]; exact hlv
          · simp only [hjk, if_false] at hgj
            exact hSg j hj hgj s hs hcs
        · by_cases hjk : j = (c k).toNat
          · simp [hjk]
          · simp only [hjk, if_false]; exact hfg j hj hfj
        · cases hfk : f (c k).toNat
          · rfl
          · have := hfg _ hck.1 hfk; rw [this] at hgk; cases hgk
      · rintro ⟨_, h3⟩; rw [h3] at h2; cases h2
      · rintro ⟨h3, _⟩; rw [h3] at h; cases h
  · obtain ⟨g, rfl, hSg, hfg, hg0, hg1⟩ := hJ
    unfold C7; dsimp only
    refine Ok.iF (by rw [BS]; omega) (hnx (_, ag) ⟨g, rf, hSg, fun h => ?_⟩ ?_)
    · obtain ⟨h1, h2⟩ := hg0 h
      have hcl : ∀ (w : List UInt8) (s : Nat), s < DM l → Bt l (s : Nat) w = true → f (c s).toNat = true := by
        intro w
        induction w with
        | nil => intro s hs hw'; exact h2 s hs (.inl (by rw [← J5]; exact hw'))
        | cons b w ih =>
          intro s hs hw'
          obtain ⟨i, hi, g1, g2⟩ := hc.find b.toNat b.toNat_lt
          have hr := Ip hw cs s i
          refine h2 s hs (.inr ⟨i, hi, ih _ (by omega) ?_⟩)
          rw [Int.toNat_of_nonneg hr.1, NV hw hc s hi, ← Ky hw hc hf s hi b.toNat_lt g1 g2]
          simpa [LQ] using hw'
      intro s hs
      have hcs := hnat s hs
      rw [h1 _ hcs.1]
      cases hfs : f (c s).toNat
      · cases hlv : live (Bt l (s : Nat))
        · rfl
        · obtain ⟨w, hw'⟩ := Jc.1 hlv
          rw [hcl w s hs hw'] at hfs; cases hfs
      · exact (hS _ hcs.1 hfs s hs rf).symm
    · rw [hcg, hcg]
      cases ag with
      | true =>
        have := M5 (n := DM l) (f := f) (g := g) (fun j hj => hfg j hj) (hg1 rfl)
        simp only [if_true]; omega
      | false =>
        have := Kb (n := DM l) (f := f) (g := g) (fun j hj => hfg j hj)
        simp only [if_true, Bool.false_eq_true, if_false]; omega
theorem U0{l:Tb}{cs:List Int}{cl:List Int}{fu i:Nat}(hc:Co cs)(hi:i<cs.length):Ok (CZ fu (HW l cs cl) (i:Int)) (fun r=>r=Hd cs i):=by
 unfold CZ HW;dsimp only
 have hcl:=hc.le
 refine Ok.A0 (by unfold C0;omega) (Ok.ite (fun h=>Ok.A0 (by unfold C0;omega) ?_) fun h=>Ok.some (by rw[Iw (by omega)]))
 have h1:i+1<cs.length:=by omega
 have hh:=hc.hi hi
 have hr:=hc.rg _ (List.getElem_mem hi)
 rw[GG h1]at hh
 rw[show((i:Int)+1)=((i+1:Nat):Int) by omega]
 refine Ok.BX h1 (Ok.A0 (by unfold C0;omega) (Ok.A0 (by unfold F8;omega) (Ok.some (by rw[GG h1]))))
def pos(cs:List Int)(i:Nat):Nat:=if h:i<cs.length then cs[i].toNat else 256
theorem Kq{cs:List Int}(h:Co cs):pos cs 0=0:=by unfold pos;rw[dif_pos h.pos,h.YR];rfl
theorem pos_at{cs:List Int}(h:Co cs){i:Nat}(hi:i<cs.length):((pos cs i:Nat):Int)=cs[i]:=by
 unfold pos;rw[dif_pos hi];have:=h.rg _ (List.getElem_mem hi);omega
theorem OJ{cs:List Int} :pos cs cs.length=256:=by unfold pos;rw[dif_neg (by omega)]
theorem MC{cs:List Int}(h:Co cs){i:Nat}(hi:i<cs.length):((pos cs (i+1):Nat):Int)=Hd cs i+1:=by
 by_cases h1:i+1<cs.length
 ·rw[pos_at h h1,GG h1];omega
 ·rw[Iw h1];unfold pos;rw[dif_neg h1];rfl
theorem MD{cs:List Int}(h:Co cs)(i:Nat):pos cs i≤256:=by
 unfold pos;split
 ·rename_i hi;have:=h.rg _ (List.getElem_mem hi);omega
 ·omega
theorem TS{α:Type}{l:List α}{x:α}(h:0<l.length):l.set (l.length-1) x=l.dropLast++[x]:=by
 rcases Fo l with rfl|⟨l',y,rfl⟩
 ·simp at h
 ·simp
theorem P4{es:List Fw}{lo hi n:Int}(h:0<es.length):push es lo hi n=if(es[es.length-1]'(by omega)).2.2=n∧(es[es.length-1]'(by omega)).2.1+1=lo then es.set (es.length-1) ((es[es.length-1]'(by omega)).1,hi,n)else es++[(lo,hi,n)]:=by
 rw[TS h]
 rcases Fo es with rfl|⟨l',y,rfl⟩
 ·simp at h
 ·rw[Fk];simp
theorem P5(es:List Fw)(lo hi n:Int):(push es lo hi n).length≤es.length+1:=by
 rcases Fo es with rfl|⟨l',y,rfl⟩
 ·simp[Kp]
 ·rw[Fk];split<;>simp
theorem Ux{l:Tb}{cs cl:List Int}{es:List Fw}{i q fu:Nat}{x:Int}{ord:List Int}{m:List (Int×Int)}{nx:(List Int×List Fw×List (Int×Int)×Nat)→Option Tb}{P:Tb→Prop}
  (hc:Co cs) (hi:i<cs.length) (hE:D9 es (pos cs i) q) (hel:es.length≤256) (hx:C0 x) {n:Int} (hm:AQ m x=some n)
  (h:Ok (nx (ord,push es cs[i] (Hd cs i) n,m,i+1)) P):
  Ok (Ce fu (HW l cs cl) es i nx x ord m) P:=by
 have hci:=hc.rg _ (List.getElem_mem hi)
 have hh:=hc.hi hi
 have hg:(AQ m x).getD 0=n:=by rw[hm];rfl
 have hadd:push es cs[i] (Hd cs i) n=es++[(cs[i],Hd cs i,n)]→Ok (AX (idx cs (i:Int)) fun x1839=>A0 (F8 x1839) (AX (CZ fu (HW l cs cl) (i:Int)) fun x1843=>A0 (F8 x1843) (A0 (C0 x) (A0 (es.length+([(x1839,x1843,(AQ m x).getD 0)]:List (Int×Int×Int)).length≤AH) (nx (ord,es++([(x1839,x1843,(AQ m x).getD 0)]:List (Int×Int×Int)),m,i+1)))))) P:=fun he=>by
  refine Ok.BX hi (Ok.A0 (by unfold F8;omega) (Ok.AX (U0 hc hi) fun a ha=>?_))
  subst ha
  refine Ok.A0 (by unfold F8;omega) (Ok.A0 hx (Ok.A0 (by simp;unfold AH;omega) ?_))
  rw[hg];rw[he]at h;exact h
 unfold Ce
 simp only[show(HW l cs cl).1=cs from rfl]
 refine Ok.ite (fun h0=>?_) fun h0=>hadd ?_
 ·have hpos:0<es.length:=by omega
  have e1:((es.length:Int)-1)=((es.length-1:Nat):Int):=by omega
  have hll:es.length-1<es.length:=by omega
  have hr:=hE.rg _ (List.getElem_mem hll)
  have hp:=pos_at hc hi
  have hpl:=MD hc i
  have hps:=P4 (lo:=cs[i]) (hi:=Hd cs i) (n:=n) hpos
  rw[hg,e1]
  rw[hg]at hadd
  simp only[Int.toNat_natCast]
  refine Ok.A0 (by unfold C0;omega) (Ok.BX hll (Ok.A0 hx (Ok.ite (fun h1=>Ok.A0 (by unfold C0;omega) (Ok.BX hll (Ok.A0 (by unfold C0;omega) (Ok.BX hi (Ok.ite (fun h2=>?_) fun h2=>?_))))) fun h1=>?_)))
  ·refine Ok.A0 (by unfold C0;omega) (Ok.AX (U0 hc hi) fun a ha=>?_)
   subst ha
   refine Ok.A0 (by unfold F8;omega) (Ok.BX hll ?_)
   rw[if_pos ⟨h1,h2⟩]at hps
   rw[hps]at h
   rw[h1];exact h
  ·exact hadd (by rw[hps,if_neg (fun hh=>h2 hh.2)])
  ·exact hadd (by rw[hps,if_neg (fun hh=>h1 hh.1)])
 ·obtain rfl:es=[]:=List.length_eq_zero_iff.1 (by omega)
  rfl
theorem Tc(l:Tb):live (Bt l (l.length:Nat))=false:=by
 have:=Up l (-1) (by omega)
 rw[show sk l.length (-1)=((l.length:Nat):Int)from rfl]at this
 rw[this];exact Ht (by decide)
structure KO(l:Tb)(c:Nat→Int)(kn:List Lg)(ord:List Int)(m:List (Int×Int)):Prop extends KnOk (XK l) kn where
 len:ord.length=kn.length
 ord:∀(i:Nat) (q:Int),ord[i]?=some q→(0≤q∧q<l.length)∧kn[i]?=some (Bt l q)
 YI:m.length=kn.length
 map:∀s,s<DM l→(Bt l (s:Nat)∈kn→AQ m (c s)=some ((KB kn (Bt l (s:Nat)):Nat):Int))∧(Bt l (s:Nat)∉kn→AQ m (c s)=none)
theorem KO.nil(l:Tb)(c:Nat→Int):KO l c [] [] []:=⟨⟨.nil,by simp,by simp⟩,rfl,by simp,rfl,fun s hs=>⟨by simp,fun _=>rfl⟩⟩
theorem KO.put{l:Tb}{c:Nat→Int}{kn:List Lg}{ord:List Int}{m:List (Int×Int)}(hw:E0 l)(hk:SE l c)(h:KO l c kn ord m){s:Nat}(hs:s<l.length)(hn:Bt l (s:Nat)∉kn)(hl:live (Bt l (s:Nat))=true):
  KO l c (Li kn (Bt l (s:Nat))) (ord++[(s:Int)]) (DY m (c s) (ord.length:Int)):=by
 have hN:DM l=l.length+1:=rfl
 have hsN:s<DM l:=by omega
 have h1:=h.toKnOk.Li (D:=Bt l (s:Nat)) (Kx (by omega) (by omega)) hl
 have e:Li kn (Bt l (s:Nat))=kn++[Bt l (s:Nat)]:=by unfold Li;rw[if_pos (Kz hn)]
 refine⟨h1,?_,?_,?_,?_⟩
 ·rw[e];simp[h.len]
 ·intro i q hq
  rw[e]
  by_cases hi:i<ord.length
  ·rw[List.getElem?_append_left hi]at hq
   have:=h.ord i q hq
   exact⟨this.1,by rw[List.getElem?_append_left (by rw[←h.len];exact hi)];exact this.2⟩
  ·rw[List.getElem?_append_right (by omega)]at hq
   have hi2:i=ord.length:=by
    have:=(List.getElem?_eq_some_iff.1 hq).1;simp at this;omega
   subst hi2
   simp at hq;subst hq
   exact⟨⟨by omega,by omega⟩,by rw[h.len];simp⟩
 ·rw[Jw,(h.map s hsN).2 hn,e,h.YI];simp
 ·intro t ht
  rw[e,Iy]
  by_cases hts:c t=c s
  ·have hL:=(hk.iff t s ht hsN).1 hts
   rw[if_pos hts,hL,h.len]
   refine⟨fun _=>?_,fun hno=>absurd (by simp) hno⟩
   have:=KA kn (Bt l (s:Nat))
   rw[e,Kz hn]at this
   rw[this]
  ·have hL:Bt l (t:Nat)≠Bt l (s:Nat):=fun hh=>hts ((hk.iff t s ht hsN).2 hh)
   rw[if_neg hts]
   refine⟨fun hm=>?_,fun hm=>(h.map t ht).2 fun hh=>hm (by simp[hh])⟩
   have hm':Bt l (t:Nat)∈kn:=by
    rcases List.mem_append.1 hm with hm|hm
    ·exact hm
    ·simp at hm;exact absurd hm hL
   rw[MR hm'];exact(h.map t ht).1 hm'
theorem Pl{l:Tb}{cs:List Int}{c:Nat→Int}{n fu:Nat}(hw:E0 l)(h0:0<l.length)(hc:Co cs)(hf:Gk cs l)(hk:SE l c)(hl:l.length≤n)(hn:n<4294967296)(hfu:n+2<fu)(hfu':256<fu):
  Ok (Dc fu (HW l cs (CY (DM l) c))) (fun r=>r=GI l):=by
 have hN:DM l=l.length+1:=rfl
 have hcl:=hc.le
 unfold Dc
 refine Ok.AX (Wf hw hc hf hk hl hn hfu hfu') fun lv hlv=>?_
 obtain⟨f,rfl,hf'⟩:=hlv
 have hnat:=fun s hs=>hk.toClsB.nat (s:=s) hs
 have hc0:=hnat 0 (by omega)
 have e0:idx (HW l cs (CY (DM l) c)).2.2.2 0=some (c 0):=by unfold HW;exact Bw (i:=0) (by omega)
 refine Ok.BZ e0 (Ok.BZ (a:=f (c 0).toNat) (by rw[←hc0.2];exact Bw hc0.1) ?_)
 rw[hf' 0 (by omega)]
 have hzero:Bt l ((0:Nat):Int)=Bt l 0:=rfl
 rw[hzero]
 refine Ok.bif (fun h=>Ok.some ?_) fun h=>?_
 ·have h:live (Bt l 0)=false:=by cases hh:live (Bt l 0)<;>simp[hh]at h⊢
  unfold GI HD;rw[h];rfl
 have hlv:live (Bt l 0)=true:=by cases hh:live (Bt l 0)<;>simp[hh]at h⊢
 have hcr:=hk.rg 0 (by omega)
 refine Ok.BZ e0 (Ok.A0 (by unfold C0;omega) (Ok.A0 (by simp) ?_))
 have hKO0:=(KO.nil l c).put hw hk (s:=0) h0 (by simp) hlv
 refine Ok.loop (X:=List Int×Tb×List (Int×Int)×Nat) (fun x=> ∃kn F,KO l c kn x.1 x.2.2.1∧x.2.2.2=x.2.1.length∧x.2.1.length≤kn.length∧l.length<F+x.2.1.length∧HN F kn x.2.1=GI l) (fun x=>l.length+1-x.2.2.2)
  ⟨[Bt l 0],l.length+1,hKO0,rfl,by simp,by simp,by unfold GI HD;rw[if_pos hlv]⟩ (by simp only;omega) fun x nx hI _ hnx=>?_
 obtain⟨ord,out,m,k⟩:=x
 obtain⟨kn,F,hKO,hkl,hol,hF,hgo⟩:=hI
 dsimp only at hKO hkl hol hF hgo
 subst hkl
 have hkn:kn.length≤l.length:=by have:=hKO.toKnOk.le;rw[HI]at this;exact this
 have hlen:=hKO.len
 unfold CF;dsimp only
 refine Ok.ite (fun hlt=>?_) fun hlt=>Ok.some ?_
 ·have hko:out.length<ord.length:=by omega
  obtain⟨⟨hq0,hq1⟩,hK⟩:=hKO.ord out.length _ (List.getElem?_eq_getElem hko)
  generalize hqe:ord[out.length]=q at hq0 hq1 hK
  obtain⟨qn,rfl⟩:∃qn:Nat,q=qn:=⟨q.toNat,by omega⟩
  have hqN:qn<DM l:=by omega
  have e1:idx ord (out.length:Int)=some (qn:Int):=by rw[IP hko,hqe]
  obtain⟨F,rfl⟩:∃F',F=F'+1:=⟨F-1,by omega⟩
  have hKm:=List.mem_of_getElem? hK
  refine Ok.BZ e1 (Ok.BZ (by unfold HW;exact Bw hqN) (Ok.BZ e1 (Ok.BZ (by unfold HW;exact Bw hqN) ?_)))
  have hrow:=fun i hi=>Hl (Jt hw) (hKO.sub _ hKm) hKO.toKnOk (pos cs i) hi
  refine Ok.Rc (fun i o es m'=>o.length=(BP (Bt l (qn:Nat)) kn (pos cs i)).1.length∧es=(BP (Bt l (qn:Nat)) kn (pos cs i)).2∧es.length≤i∧KO l c (BP (Bt l (qn:Nat)) kn (pos cs i)).1 o m') cs.length
   (by rw[Kq hc];exact⟨hlen,rfl,by simp,hKO⟩) (by omega) (fun i o es m' nx' hi hJ hnx'=>?_) (fun o es m' nx' hJ=>?_)
  ·obtain⟨hol',rfl,hesl,hKO'⟩:=hJ
   have hpl:=MD hc i
   obtain⟨g1,g2,g3⟩:=hrow i hpl
   have hr:=Ip hw cs qn i
   obtain⟨tn,htn⟩:∃tn:Nat,I6 l cs qn i=tn:=⟨(I6 l cs qn i).toNat,by omega⟩
   have htN:tn<DM l:=by omega
   have hct:=hnat tn htN
   have hcr:=hk.rg tn htN
   have hpa:=pos_at hc hi
   have hps:=MC hc hi
   have hhi:=hc.hi hi
   have hD:∀b,pos cs i≤b→b≤(Hd cs i).toNat→LQ (Bt l (qn:Nat)) b=Bt l (tn:Nat):=fun b b1 b2=>by
    rw[Ky hw hc hf qn hi (by omega) (by omega) (by omega),←NV hw hc qn hi,htn]
   have hstep:BP (Bt l (qn:Nat)) kn (pos cs (i+1))=LO (BP (Bt l (qn:Nat)) kn (pos cs i)) (Bt l (tn:Nat)) (pos cs i) (Hd cs i).toNat:=by
    rw[show pos cs (i+1)=(Hd cs i).toNat+1 by omega]
    exact NI _ _ _ _ _ (by omega) hD
   unfold Cf;dsimp only
   refine Ok.iT (by unfold R2;rw[BS];omega) (Ok.BZ (a:=(tn:Int)) (by unfold R2;rw[←htn];exact Bw hi) (Ok.BZ (a:=c tn) (by unfold HW;exact Bw htN) (Ok.BZ (a:=f (c tn).toNat) (by rw[←hct.2];exact Bw hct.1) ?_)))
   rw[hf' tn htN]
   refine Ok.bif (fun hdead=>hnx' _ _ _ ?_) fun hlive=>?_
   ·have hdead:live (Bt l (tn:Nat))=false:=by cases hh:live (Bt l (tn:Nat))<;>simp[hh]at hdead⊢
    have e:BP (Bt l (qn:Nat)) kn (pos cs (i+1))=BP (Bt l (qn:Nat)) kn (pos cs i):=by rw[hstep];unfold LO;rw[hdead];rfl
    rw[e];exact⟨hol',rfl,by omega,hKO'⟩
   ·have hlive:live (Bt l (tn:Nat))=true:=by cases hh:live (Bt l (tn:Nat))<;>simp[hh]at hlive⊢
    have htl:tn<l.length:=by
     rcases Nat.lt_or_ge tn l.length with h1|h1
     ·exact h1
     ·obtain rfl:tn=l.length:=by omega
      rw[Tc]at hlive;cases hlive
    have hst:BP (Bt l (qn:Nat)) kn (pos cs (i+1))=(Li (BP (Bt l (qn:Nat)) kn (pos cs i)).1 (Bt l (tn:Nat)),push (BP (Bt l (qn:Nat)) kn (pos cs i)).2 cs[i] (Hd cs i) (KB (BP (Bt l (qn:Nat)) kn (pos cs i)).1 (Bt l (tn:Nat)):Nat)):=by
     rw[hstep];unfold LO;rw[if_pos hlive,hpa,Int.toNat_of_nonneg (by omega)]
    have hx64:C0 (c tn):=by unfold C0;omega
    have hkl':=g2.le
    rw[HI]at hkl'
    have hpush:=P5 (BP (Bt l (qn:Nat)) kn (pos cs i)).2 cs[i] (Hd cs i) (KB (BP (Bt l (qn:Nat)) kn (pos cs i)).1 (Bt l (tn:Nat)):Nat)
    refine Ok.A0 hx64 (Ok.bif (fun hnew=>?_) fun hold=>?_)
    ·have hnm:Bt l (tn:Nat)∉(BP (Bt l (qn:Nat)) kn (pos cs i)).1:=fun hm=>by
      rw[(hKO'.map tn htN).1 hm]at hnew;simp at hnew
     have hput:=hKO'.put hw hk htl hnm hlive
     have hix:=Kz hnm
     have hmem:=LX (BP (Bt l (qn:Nat)) kn (pos cs i)).1 (Bt l (tn:Nat))
     refine Ok.A0 hx64 (Ok.A0 (by unfold C0;omega) (Ok.A0 (by rw[hKO'.YI];unfold AH;omega) (Ok.A0 (by simp;unfold AH;omega) ?_)))
     refine Ux hc hi g3.1 (by omega) hx64 (((hput.map tn htN).1 hmem).trans (by rw[KA])) (hnx' _ _ _ ?_)
     rw[hst]
     exact⟨by rw[hput.len],rf,by omega,hput⟩
    ·have hm:Bt l (tn:Nat)∈(BP (Bt l (qn:Nat)) kn (pos cs i)).1:=Classical.byContradiction fun hm=>by
      rw[(hKO'.map tn htN).2 hm]at hold;simp at hold
     refine Ux hc hi g3.1 (by omega) hx64 ((hKO'.map tn htN).1 hm) (hnx' _ _ _ ?_)
     rw[hst,J6 hm]
     exact⟨hol',rf,by omega,hKO'⟩
  ·obtain⟨hol',rfl,hesl,hKO'⟩:=hJ
   rw[OJ]at hol' hKO'⊢
   obtain⟨g1,g2,g3⟩:=Hl (Jt hw) (hKO.sub _ hKm) hKO.toKnOk 256 (Nat.le_refl _)
   have:=g1.len
   unfold Cf;dsimp only
   refine Ok.iF (by unfold R2;rw[BS];omega) (Ok.A0 (by simp;unfold AH;omega) (hnx _ ⟨(BP (Bt l (qn:Nat)) kn 256).1,F,hKO',by simp,by simp;omega,by simp;omega,?_⟩ ?_))
   ·rw[←hgo];dsimp only
    conv=>rhs;unfold HN
    rw[hK];dsimp only
    rw[J5]
   ·dsimp only;omega
 ·have hno:kn[out.length]?=none:=List.getElem?_eq_none (by omega)
  rw[←hgo]
  cases F with
  |zero=>rfl
  |succ F=>unfold HN;rw[hno]
theorem Rh{l:Tb}{n fu:Nat}(hb:ZE l)(hs:Nd l n)(hn:n<4294967296)(hfu:n+2<fu)(hfu':256<fu):
  Ok (EC fu l) (fun r=>(E0 l→r=(GI l,0))∧(¬E0 l→r=([],11))):=by
 unfold EC
 refine Ok.AX (JF hb hs (by omega) hn) fun x hx=>Ok.bif (fun h=>Ok.some ?_) fun h=>?_
 ·have hno:¬E0 l:=fun hw=>by have:=hx.2 hw;subst this;cases h
  exact⟨fun hw=>absurd hw hno,fun _=>rfl⟩
 ·have hw:E0 l:=hx.1 (by cases x;cases h;rfl)
  refine Ok.ite (fun h=>Ok.some ⟨fun _=>?_,fun hno=>absurd hw hno⟩) fun h=>?_
  ·obtain rfl:l=[]:=List.length_eq_zero_iff.1 (by omega)
   have:live (Bt [] 0)=false:=F_.2 fun w=>Sb 0 w
   unfold GI HD;rw[this];rfl
  ·refine Ok.AX (QD hw hs hn (by omega) hfu') fun x hx=>?_
   obtain⟨cs,hc,hf,rfl⟩:=hx
   refine Ok.AX (S1 hw (by omega) hc hf hs.1 hn hfu hfu') fun x hx=>?_
   obtain⟨c,hk,rfl⟩:=hx
   refine Ok.AX (Pl hw (by omega) hc hf hk hs.1 hn hfu hfu') fun x hx=>Ok.some ⟨fun _=>?_,fun hno=>absurd hw hno⟩
   rw[hx]
end Go.GL
namespace Go.GL
open Go.GK
theorem E0.by{l:Tb}(h:E0 l):ZE l:=fun s hs e he=>by have:=(h s hs).rg e he;omega
theorem D9.len{es:List Fw}{m n:Nat}(h:D9 es m n):es.length≤m:=by
 have h1:(es.map fun e=>e.1.toNat).Nodup:=by
  refine List.pairwise_map.2 ?_
  refine List.Pairwise.imp_of_mem (fun{a b} ha hb hab=>?_) h.so
  have:=h.rg a ha;have:=h.rg b hb;omega
 have:=DX (b:=List.range m) h1 (fun x hx=>by
  obtain⟨c,hc,rfl⟩:=List.mem_map.1 hx
  have:=h.rg c hc
  exact List.mem_range.2 (by omega))
 simpa using this
theorem E0.sh{l:Tb}(h:E0 l){n:Nat}(hn:l.length≤n)(hn':256≤n):Nd l n:=⟨hn,fun s hs=>by have:=(h s hs).len;omega⟩
theorem Wz{l:Tb}(h:E0 l){n:Nat}(hn:l.length≤n)(hn':256≤n):Nd (GI l) n:=(Wy h).sh (by have:=WA h;omega) hn'
end Go.GL
namespace Go.GL
open Go.GK
def Nn:NT:=([[],[]],[[],[]],0)
theorem Wb:NB Nn 2:=by
 refine⟨rf,by decide,fun l hl=>?_,fun l hl=>?_,by decide,by decide,fun l hl u hu=>?_,fun l hl e he=>?_,fun l hl e he=>?_⟩
 ·simp[Nn]at hl;subst hl;simp
 ·simp[Nn]at hl;subst hl;simp
 ·simp[Nn]at hl;subst hl;cases hu
 ·simp[Nn]at hl;subst hl;cases he
 ·simp[Nn]at hl;subst hl;cases he
theorem Ok.and{R:Type}{P Q:R→Prop}{x:Option R}(h:Ok x P)(k:Ok x Q):Ok x (fun r=>P r∧Q r):=by
 obtain⟨r,e,h⟩:=h
 obtain⟨s,e',k⟩:=k
 rw[e]at e';cases e'
 exact⟨r,e,h,k⟩
end Go.GL
namespace Go.GL
open Go.GK
def MQ(N:NT)(S:List Int)(b:Nat):Cb:=ER (CD (ps N S b))
structure MI(N:NT)(a:Int)(W:List (List Int))(u:List Cb)(k:Nat):Prop where
 st:Cq N [a]∈W
 kc:∀x∈u,∃S b,FT N a S∧b<256∧ps N S b≠ []∧x=MQ N S b∧Cq N (mv N S b)∈W
 cl:∀k',k'<k→∀S,W[k']?=some S→∀p∈BH (CK N),ps N S (De p)≠ []→MQ N S (De p)∈u
def ae(N:NT)(a:Int)(r:Bool):Prop:=r=false→∃W u,(∀S∈W,FT N a S)∧u.length≤500∧MI N a W u W.length
theorem Uk {N : NT} {c fu : Nat} {a : Int} (hN : NB N c) (hc : c ≤ 4000) (ha : 0 ≤ a) (ha' : a < N.1.length) (hf : 200000000 ≤ fu) : Ok (Ea fu N a) (ae N a) := by
  have hlen := hN.len
  unfold Ea
  refine Ok.AX (OC hN hc hf) fun r hr => ?_
  obtain ⟨rfl, hr⟩ := hr
  refine Ok.A0 (by omega) (Ok.AX (Ge hN hc (fun x hx => by simp at hx; subst hx; exact ⟨ha, ha'⟩) (by simp) hf) fun r hr => ?_)
  subst hr
  have hpl : (BH (CK N)).length ≤ 65536 := Js _
  refine Ok.loop (fun (x : List (List Int) × List (Cb × Bool) × Nat) => (∀ S ∈ x.1, FT N a S) ∧ (∃ u, Pu x.2.1 u ∧ MI N a x.1 u x.2.2 ∧ u.length ≤ 500 ∧ x.1.length = u.length + 1) ∧ x.2.2 ≤ x.1.length) (fun x => 501 - x.2.2)
    ⟨fun S hS => by simp at hS; subst hS; exact .start, ⟨[], ⟨rfl, .nil, fun _ => rfl⟩, ⟨by simp, by simp, fun k' h => absurd h (Nat.not_lt_zero _)⟩, by simp, rfl⟩, by simp⟩ (by dsimp only; omega) fun x nx hI _ hn => ?_
  obtain ⟨W, m, k⟩ := x
  obtain ⟨h1, ⟨u, h2, h3, h4, h5⟩, h6⟩ := hI
  dsimp only at h1 h2 h3 h4 h5 h6 hn
  unfold D3
  dsimp only
  rcases Nat.lt_or_ge k W.length with hk | hk
  · refine Ok.iT (by omega) ?_
    have hS := h1 _ (List.getElem_mem hk)
    have hkS : W[k]? = some W[k] := List.getElem?_eq_getElem hk
    generalize W[k] = S at hS hkS
    have hSl := hS.len
    refine Ok.FX (fun j W' m' => (∀ S ∈ W', FT N a S) ∧ (∃ u, Pu m' u ∧ (MI N a W' u k ∧ ∀ p ∈ (BH (CK N)).take j, ps N S (De p) ≠ [] → MQ N S (De p) ∈ u) ∧ u.length ≤ 500 ∧ W'.length = u.length + 1) ∧ ∃ more, W' = W ++ more) (BH (CK N)).length ⟨h1, ⟨u, h2, ⟨h3, by simp⟩, h4, h5⟩, [], by simp⟩ (by omega) (fun j W' m' nx2 hj hJ hn2 => ?_) (fun W' m' nx2 hJ => ?_)
    · obtain ⟨g1, ⟨u', g2, g3, g4, g5⟩, more, g6⟩ := hJ
      unfold CO
      dsimp only
      refine Ok.iT (by omega) (Ok.BX hj (Ok.I8 (by omega) (by rw [Int.toNat_natCast, g6, List.getElem?_append_left hk]; exact hkS) ?_))
      have hmt := fun q : AD => Cw (l := BH (CK N)) hj (x := q)
      generalize (BH (CK N))[j] = p at hmt
      refine Ok.FX (fun i s t => s = ps N (S.take i) (De p) ∧ t = mv N (S.take i) (De p)) S.length ⟨rf, rf⟩ (by omega) (fun i s t nx3 hi hJ hn3 => ?_) (fun s t nx3 hJ => ?_)
      · obtain ⟨rfl, rfl⟩ := hJ
        unfold CN
        dsimp only
        have hx := hS.rg (List.getElem_mem hi)
        have hl := Le hN hc (S := S.take i) (De p) (by rw [List.length_take]; omega)
        have hl2 := MB N (S.take i) (De p)
        refine Ok.iT (by omega) (Ok.BX hi (Ok.I8 hx.1 (OD hN hx.1 hx.2) (Xg (by have := LV hN S[i].toNat; omega) (by omega) (by omega) hf (hn3 _ _ ⟨?_, ?_⟩))))
        · rw [show S.take (i + 1) = S.take i ++ [S[i]] from (List.take_append_getElem hi).symm]
          unfold ps
          rw [List.flatMap_append]; simp
        · rw [show S.take (i + 1) = S.take i ++ [S[i]] from (List.take_append_getElem hi).symm]
          unfold mv
          rw [List.flatMap_append]; simp
      · obtain ⟨rfl, rfl⟩ := hJ
        unfold CN
        dsimp only
        rw [List.take_of_length_le (Nat.le_refl _)]
        have hl := Le hN hc (De p) hSl
        have hl2 := MB N S (De p)
        refine Ok.iF (by omega) (Ok.A0 (by unfold AH; omega) (Ok.AX (OZ (fun x hx => by have := WY hN (Ib.1 hx); omega) (by rw [FW]; omega) hf) fun r hr => ?_))
        obtain ⟨rfl, hkl⟩ := hr
        rw [FW] at hkl
        refine Ok.ite (fun h => hn2 _ _ ⟨g1, ⟨u', g2, ⟨g3.1, fun q hq hne => ?_⟩, g4, g5⟩, more, g6⟩) fun h => ?_
        · rcases (hmt q).1 hq with hq | rfl
          · exact g3.2 q hq hne
          · rw [FW] at h; exact absurd (List.length_eq_zero_iff.1 (by omega)) hne
        rw [FW] at h
        have hne : ps N S (De p) ≠ [] := fun e => by rw [e] at h; exact h rfl
        have hmne : mv N S (De p) ≠ [] := fun e => by rw [e] at hl2; exact hne (List.length_eq_zero_iff.1 hl2)
        have hK : Tw N a (ER (CD (ps N S (De p)))) := ⟨S, De p, hS, HT p, hne, rfl⟩
        rw [g2.get]
        refine Ok.A0 (by unfold AH; omega) (Ok.bif (fun h7 => hn2 _ _ ⟨g1, ⟨u', g2, ⟨g3.1, fun q hq hne => ?_⟩, g4, g5⟩, more, g6⟩) fun h7 => ?_)
        · rcases (hmt q).1 hq with hq | rfl
          · exact g3.2 q hq hne
          · have h9 : ER (CD (ps N S (De q))) ∈ u' := by simpa using h7
            exact h9
        have h7 : ER (CD (ps N S (De p))) ∉ u' := by simpa using h7
        have hput := g2.put h7
        have hml := g2.1
        refine Ok.ite (fun h8 => Ok.some fun h => (by cases h)) fun h8 => ?_
        · refine Ok.A0 (by unfold AH; omega) (Ok.A0 (by unfold AH; omega) (Ok.AX (Ge hN hc (fun x hx => R4 hN hx) (by omega) hf) fun r hr => ?_))
          subst hr
          refine Ok.A0 (by simp only [List.length_cons, List.length_nil]; unfold AH; omega) (hn2 _ _ ⟨fun T hT => ?_, ⟨u' ++ [ER (CD (ps N S (De p)))], hput, ⟨⟨List.mem_append.2 (.inl g3.1.st), fun x hx => ?_, fun k' hk' S' hS' q hq hne => ?_⟩, fun q hq hne => ?_⟩, ?_, ?_⟩, more ++ [Cq N (mv N S (De p))], by rw [g6, List.append_assoc]⟩)
          · rcases List.mem_append.1 hT with hT | hT
            · exact g1 T hT
            · simp at hT; subst hT; exact .step hS (HT p) hmne
          · rcases List.mem_append.1 hx with hx | hx
            · obtain ⟨S', b', e1, e2, e3, e4, e5⟩ := g3.1.kc x hx
              exact ⟨S', b', e1, e2, e3, e4, List.mem_append.2 (.inl e5)⟩
            · simp at hx; subst hx; exact ⟨S, De p, hS, HT p, hne, rfl, by simp⟩
          · rw [List.getElem?_append_left (by rw [g6, List.length_append]; omega)] at hS'
            exact List.mem_append.2 (.inl (g3.1.cl k' hk' S' hS' q hq hne))
          · rcases (hmt q).1 hq with hq | rfl
            · exact List.mem_append.2 (.inl (g3.2 q hq hne))
            · exact List.mem_append.2 (.inr (by simp [MQ]))
          · rw [List.length_append]; simp only [List.length_cons, List.length_nil]; omega
          · rw [List.length_append, List.length_append]; simp only [List.length_cons, List.length_nil]; omega
    · obtain ⟨g1, ⟨u', g2, g3, g4, g5⟩, more, g6⟩ := hJ
      unfold CO
      dsimp only
      refine Ok.iF (by omega) (hn (W', m', k + 1) ⟨g1, ⟨u', g2, ⟨g3.1.st, g3.1.kc, fun k' hk' S' hS' q hq hne => ?_⟩, g4, g5⟩, ?_⟩ ?_)
      · dsimp only at hk' hS'
        rcases Nat.lt_or_ge k' k with h7 | h7
        · exact g3.1.cl k' h7 S' hS' q hq hne
        · obtain rfl : k' = k := by omega
          rw [g6, List.getElem?_append_left hk, hkS] at hS'; cases hS'
          exact g3.2 q (by rw [List.take_of_length_le (Nat.le_refl _)]; exact hq) hne
      · dsimp only; rw [g6, List.length_append]; omega
      · dsimp only; omega
  · exact Ok.iF (by omega) (Ok.some fun _ => ⟨W, u, h1, h4, by rw [show W.length = k by omega]; exact h3⟩)
end Go.GL
namespace Go.GL
open Go.GK
abbrev GO:=Int×Int×AD×Bool
abbrev XT:=List GO×Int
def EY:List GO→Nat→List Int
 | [],_=>[]
 |e::A,s=>(if e.2.2.2=true∧e.1=(s:Int)then [e.2.1]else [])++EY A s
def I9:List GO→Nat
 | []=>0
 |e::A=>(if e.2.2.2=true then 0 else 1)+I9 A
def F0:Nat→List GO→Nat→List (AD×Int×Int)
 |_,[],_=>[]
 |q,e::A,s=>(if e.2.2.2=true then []else if e.1=(s:Int)then [(e.2.2.1,e.2.1,(q:Int))]else [])++F0 (q+if e.2.2.2=true then 0 else 1) A s
def AB(X:XT):NT:=(CY X.2.toNat (EY X.1),CY X.2.toNat (F0 0 X.1),(I9 X.1:Int))
theorem Hu(e:GO)(A:List GO)(s:Nat):EY (e::A) s=(if e.2.2.2=true∧e.1=(s:Int)then [e.2.1]else [])++EY A s:=rfl
theorem Gd(e:GO)(A:List GO):I9 (e::A)=(if e.2.2.2=true then 0 else 1)+I9 A:=rfl
theorem FZ(q:Nat)(e:GO)(A:List GO)(s:Nat):F0 q (e::A) s=(if e.2.2.2=true then []else if e.1=(s:Int)then [(e.2.2.1,e.2.1,(q:Int))]else [])++F0 (q+if e.2.2.2=true then 0 else 1) A s:=rfl
theorem N8(A B:List GO)(s:Nat):EY (A++B) s=EY A s++EY B s:=by
 induction A with
 |nil=>rfl
 |cons e A ih=>rw[List.cons_append,Hu,Hu,ih,List.append_assoc]
theorem M6(A B:List GO):I9 (A++B)=I9 A+I9 B:=by
 induction A with
 |nil=>simp[I9]
 |cons e A ih=>rw[List.cons_append,Gd,Gd,ih];omega
theorem Qa(A B:List GO)(s:Nat):∀q,F0 q (A++B) s=F0 q A s++F0 (q+I9 A) B s:=by
 induction A with
 |nil=>intro q;simp[F0,I9]
 |cons e A ih=>
  intro q
  rw[List.cons_append,FZ,FZ,ih,List.append_assoc,Gd,Nat.add_assoc]
theorem Ww(A:List GO):I9 A≤A.length:=by
 induction A with
 |nil=>simp[I9]
 |cons e A ih=>rw[Gd,List.length_cons];split<;>omega
theorem N7(A:List GO)(s:Nat):(EY A s).length≤A.length:=by
 induction A with
 |nil=>simp[EY]
 |cons e A ih=>rw[Hu,List.length_append,List.length_cons];split<;>simp<;>omega
theorem Ua(A:List GO)(s:Nat):∀q,(F0 q A s).length≤A.length:=by
 induction A with
 |nil=>intro q;simp[F0]
 |cons e A ih=>
  intro q
  rw[FZ,List.length_append,List.length_cons]
  have h1:=ih (q+if e.2.2.2=true then 0 else 1)
  have h2:(if e.2.2.2=true then []else if e.1=(s:Int)then [(e.2.2.1,e.2.1,(q:Int))]else []).length≤1:=by
   split
   ·simp
   ·split<;>simp
  omega
theorem Rp{A:List GO}{s:Nat}(h:∀e∈A,e.1≠(s:Int)):EY A s=[]:=by
 induction A with
 |nil=>rfl
 |cons e A ih=>rw[Hu,ih fun e he=>h e (by simp[he]),if_neg (fun h'=>h e (by simp) h'.2)];rfl
theorem S6{A:List GO}{s:Nat}(h:∀e∈A,e.1≠(s:Int)):∀q,F0 q A s=[]:=by
 induction A with
 |nil=>intro q;rfl
 |cons e A ih=>intro q;rw[FZ,ih fun e he=>h e (by simp[he]),if_neg (h e (by simp))];simp
structure XB(X:XT)(c:Nat):Prop where
 n0:0≤X.2
 n1:X.2≤c
 len:X.1.length≤c
 rg:∀e∈X.1,(0≤e.1∧e.1<X.2)∧0≤e.2.1∧e.2.1<X.2
theorem XB.mono{X:XT}{c c':Nat}(h:XB X c)(hc:c≤c'):XB X c':=⟨h.n0,by have:=h.n1;omega,by have:=h.len;omega,h.rg⟩
theorem XB.add{X:XT}{c:Nat}(h:XB X c){a t:Int}{p:AD}{f:Bool}(h0:0≤a∧a<X.2)(h1:0≤t∧t<X.2):XB (X.1++[(a,t,p,f)],X.2) (c+1):=by
 refine⟨h.n0,by have:=h.n1;simp only;omega,by have:=h.len;simp;omega,fun e he=>?_⟩
 rcases List.mem_append.1 he with he|he
 ·exact h.rg e he
 ·simp at he;subst he;exact⟨h0,h1⟩
theorem XB.up{X:XT}{c:Nat}(h:XB X c):XB (X.1,X.2+1) (c+1):=
 ⟨by have:=h.n0;simp only;omega,by have:=h.n1;simp only;omega,by have:=h.len;simp only;omega,fun e he=>by have:=h.rg e he;simp only;omega⟩
theorem Qe{X:XT}{c:Nat}(h:XB X c):AB (X.1,X.2+1)=((AB X).1++[[]],(AB X).2.1++[[]],(AB X).2.2):=by
 have h0:=h.n0
 have e:(X.2+1).toNat=X.2.toNat+1:=by omega
 have hno:∀e∈X.1,e.1≠((X.2.toNat:Nat):Int):=fun e he=>by have:=h.rg e he;omega
 unfold AB
 dsimp only
 rw[e,Hk,Hk,Rp hno,S6 hno]
theorem CH(X:XT):(AB X).1.length=X.2.toNat∧(AB X).2.1.length=X.2.toNat:=⟨BS _ _,BS _ _⟩
theorem J2{X:XT}{a t:Int}(p:AD)(h0:0≤a):AB (X.1++[(a,t,p,true)],X.2)=((AB X).1.set a.toNat (EY X.1 a.toNat++[t]),(AB X).2.1,(AB X).2.2):=by
 unfold AB
 dsimp only
 rw[Cx,M6]
 refine Prod.ext (BT fun s hs=>?_) (Prod.ext (BT fun s hs=>?_) (by simp[I9]))
 ·rw[N8]
  by_cases e:s=a.toNat
  ·subst e;rw[if_pos rfl];simp[EY];omega
  ·rw[if_neg e]
   have:¬a=(s:Int):=by omega
   simp[EY,this]
 ·rw[Qa];simp[F0]
theorem Uf{X:XT}{a t:Int}(p:AD)(h0:0≤a):AB (X.1++[(a,t,p,false)],X.2)=((AB X).1,(AB X).2.1.set a.toNat (F0 0 X.1 a.toNat++[(p,t,(AB X).2.2)]),(AB X).2.2+1):=by
 unfold AB
 dsimp only
 rw[Cx,M6]
 refine Prod.ext (BT fun s hs=>?_) (Prod.ext (BT fun s hs=>?_) (by simp[I9]))
 ·rw[N8];simp[EY]
 ·rw[Qa]
  by_cases e:s=a.toNat
  ·subst e;rw[if_pos rfl]
   have:a=((a.toNat:Nat):Int):=by omega
   simp[F0,←this]
  ·rw[if_neg e]
   have:¬a=(s:Int):=by omega
   simp[F0,this]
theorem IW{p:Prop} [Decidable p]{α:Type}{x:Option α}(h:p):A0 p x=x:=by unfold A0;rw[if_pos h]
theorem HA{α β:Type}{x:Option α}{a:α}{k:α→Option β}(h:x=some a):AX x k=k a:=by rw[h];rfl
theorem LK{α:Type}{p:Prop} [Decidable p]{x y:α}(h:p):(bif decide p then x else y)=x:=by rw[decide_eq_true h];rfl
theorem FR{α:Type}{p:Prop} [Decidable p]{x y:α}(h:¬p):(bif decide p then x else y)=y:=by rw[decide_eq_false h];rfl
def pt:Nat→Rx→Nat
 |0,_=>1
 |d+1,r=>1+(r.AL.map (pt d)).sum
def Vr(d:Nat)(sx:XT→Rx→Int→Int→Option XT)(sn:NT→Rx→Int→Int→Option NT)(xs:List Rx):Prop:=
 ∀x∈xs,∀X c (a b:Int),XB X c→0≤a→a<X.2→0≤b→b<X.2→c+2*sz d x≤4000→Ok (sx X x a b) (fun X'=>XB X' (c+2*sz d x)∧X.2≤X'.2∧X'.2+1≤X.2+pt d x∧sn (AB X) x a b=some (AB X'))
theorem Yk{d fu:Nat}{r:Rx}{a b:Int}{sx:XT→Rx→Int→Int→Option XT}{sn:NT→Rx→Int→Int→Option NT}(hs:Vr d sx sn r.AL)(ha:0≤a)(hb:0≤b):∀(rest:List Rx) (f k c:Nat) (X:XT),r.AL.drop k=rest→rest.length<f→XB X c→a<X.2→b<X.2→c+Rt d rest≤4000→
  Ok (Ax f (fun p nx=>DC fu r a b sx p.1 p.2.1 p.2.2 nx) (k,X.1,X.2)) (fun X'=>XB X' (c+Rt d rest)∧X.2≤X'.2∧X'.2≤X.2+((rest.map (pt d)).sum:Nat)∧
   Ax f (fun p nx=>BO fu r a b sn p.1 p.2.1 p.2.2.1 p.2.2.2 nx) ((AB X).1,(AB X).2.1,k,(AB X).2.2)=some (AB X'))
 |_,0,_,_,_,_,h,_,_,_,_=>absurd h (Nat.not_lt_zero _)
 | [],f+1,k,c,X,hk,_,hX,h1,h2,hc=>by
  have hk:r.AL.length≤k:=by
   rcases Nat.lt_or_ge k r.AL.length with h|h
   ·rw[List.drop_eq_getElem_cons h]at hk;cases hk
   ·exact h
  show Ok (DC fu r a b sx k X.1 X.2 _) (fun X'=>_∧_∧_∧BO fu r a b sn (AB X).1 (AB X).2.1 k (AB X).2.2 _=_)
  unfold DC BO
  exact Ok.iF (by omega) (Ok.some ⟨hX.mono (by omega),Int.le_refl _,by simp,by rw[FR (by omega)]⟩)
 |x::rest,f+1,k,c,X,hk,hf,hX,h1,h2,hc=>by
  obtain⟨hk,hx,hd⟩:=KJ hk
  rw[KN]at hc⊢
  have hm:x∈r.AL:=hx▸List.getElem_mem hk
  show Ok (DC fu r a b sx k X.1 X.2 _) (fun X'=>_∧_∧_∧BO fu r a b sn (AB X).1 (AB X).2.1 k (AB X).2.2 _=_)
  rw[DC,BO]
  refine Ok.iT (by omega) (Ok.BX hk ?_)
  rw[hx]
  refine Ok.AX (hs x hm X c a b hX ha h1 hb h2 (by omega)) fun X1 ⟨g1,g2,g3,g4⟩=>?_
  refine(Yk (fu:=fu) hs ha hb rest f (k+1) (c+2*sz d x) X1 hd (by simp at hf;omega) g1 (by omega) (by omega) (by omega)).mono fun X2 ⟨k1,k2,k3,k4⟩=>⟨k1.mono (by omega),by omega,by simp;omega,?_⟩
  rw[LK (by omega),HA (IP hk),hx,HA g4]
  exact k4
theorem Yj{d fu:Nat}{r:Rx}{b:Int}{sx:XT→Rx→Int→Int→Option XT}{sn:NT→Rx→Int→Int→Option NT}(hs:Vr d sx sn r.AL)(hb:0≤b):∀(rest:List Rx) (f k c:Nat) (X:XT) (a:Int),rest≠ []→r.AL.drop k=rest→rest.length<f→XB X c→0≤a→a<X.2→b<X.2→c+Rt d rest≤4000→
  Ok (Ax f (fun p nx=>DD fu r b sx p.1 p.2.1 p.2.2.1 p.2.2.2 nx) (a,k,X.1,X.2)) (fun X'=>XB X' (c+Rt d rest)∧X.2≤X'.2∧X'.2+1≤X.2+((rest.map (pt d)).sum:Nat)∧
   Ax f (fun p nx=>BN fu r b sn p.1 p.2.1 p.2.2.1 p.2.2.2.1 p.2.2.2.2 nx) ((AB X).1,(AB X).2.1,a,k,(AB X).2.2)=some (AB X'))
 |_,0,_,_,_,_,_,_,h,_,_,_,_,_=>absurd h (Nat.not_lt_zero _)
 | [],_+1,_,_,_,_,h,_,_,_,_,_,_,_=>absurd rfl h
 |x::rest,f+1,k,c,X,a,_,hk,hf,hX,ha,h1,h2,hc=>by
  obtain⟨hk,hx,hd⟩:=KJ hk
  have hlr:rest.length=r.AL.length-(k+1):=by rw[←hd,List.length_drop]
  have hn:=CH X
  have hn0:=hX.n0
  have hn1:=hX.n1
  rw[KN]at hc⊢
  have hm:x∈r.AL:=hx▸List.getElem_mem hk
  have hf':rest.length<f:=by simp at hf;omega
  show Ok (DD fu r b sx a k X.1 X.2 _) (fun X'=>_∧_∧_∧BN fu r b sn (AB X).1 (AB X).2.1 a k (AB X).2.2 _=_)
  rw[DD,BN]
  refine Ok.iT (by omega) (Ok.BX hk ?_)
  rw[LK (by omega:((k:Nat):Int)<((r.AL.length:Nat):Int)),HA (IP hk),hx]
  refine Ok.ite (fun h3=>?_) fun h3=>?_
  ·refine Ok.A0 (by unfold C0;omega) ?_
   rw[LK h3,IW (by unfold AH;omega),IW (by unfold AH;omega),Fb,C3]
   rw[show(((AB X).2.1.length:Nat):Int)=X.2 by omega]
   refine Ok.AX (hs x hm (X.1,X.2+1) (c+1) a X.2 hX.up ha (by simp only;omega) (by omega) (by simp only;omega) (by omega)) fun X1 ⟨g1,g2,g3,g4⟩=>?_
   rw[Qe hX]at g4
   dsimp only at g2 g3
   refine(Yj (fu:=fu) hs hb rest f (k+1) (c+1+2*sz d x) X1 X.2 (fun h=>by subst h;simp at hlr;omega) hd hf' g1 (by omega) (by omega) (by omega) (by omega)).mono fun X2 ⟨k1,k2,k3,k4⟩=>⟨k1.mono (by omega),by omega,by simp;omega,?_⟩
   rw[HA g4]
   exact k4
  ·obtain rfl:rest=[]:=List.length_eq_zero_iff.1 (by omega)
   rw[FR h3,Fb,C3]
   refine Ok.AX (hs x hm X c a b hX ha h1 hb h2 (by omega)) fun X1 ⟨g1,g2,g3,g4⟩=>?_
   rw[HA g4]
   cases f with
   |zero=>simp at hf'
   |succ f=>
    show Ok (DD fu r b sx b (k+1) X1.1 X1.2 _) (fun X'=>_∧_∧_∧BN fu r b sn (AB X1).1 (AB X1).2.1 b (k+1) (AB X1).2.2 _=_)
    rw[DD,BN]
    exact Ok.iF (by omega) (Ok.some ⟨g1.mono (by omega),g2,by simp;omega,by rw[FR (by omega)]⟩)
theorem XC(d:Nat)(r:Rx):1≤pt d r:=by cases d<;>simp[pt]
theorem RD:∀(d:Nat) (r:Rx) (fu:Nat),Ng d r→d+sz d r<fu→∀X c (a b:Int),XB X c→0≤a→a<X.2→0≤b→b<X.2→c+2*sz d r≤4000→
  Ok (EW fu X r a b) (fun X'=>XB X' (c+2*sz d r)∧X.2≤X'.2∧X'.2+1≤X.2+pt d r∧Cr fu (AB X) r a b=some (AB X'))
 |_,_,0,_,h,_,_,_,_,_,_,_,_,_,_=>absurd h (Nat.not_lt_zero _)
 |0,_,_+1,h,_,_,_,_,_,_,_,_,_,_,_=>h.elim
 |d+1,r,fu+1,hr,hf,X,c,a,b,hX,ha,h1,hb,h2,hc=>by
  have hK:=hr.1
  have hs:Vr d (EW fu) (Cr fu) r.AL:=fun x hx X c a b hX ha h1 hb h2 hc=>by
   have:=JV (d:=d) hx
   exact RD d x fu (hr.2 x hx) (by omega) X c a b hX ha h1 hb h2 hc
  have hn:=CH X
  have hn0:=hX.n0
  have hn1:=hX.n1
  have hxl:=hX.len
  have hsl:=Mj d r
  have hpt:=XC (d+1) r
  have hptd:pt (d+1) r=1+(r.AL.map (pt d)).sum:=rfl
  have hbud:Rt d r.AL≤2*sz (d+1) r:=by
   show _≤2*(2+r.AL.length+(r.AL.map (sz d)).sum)
   unfold Rt;omega
  have f1:∀X:XT,a<X.2→idx (AB X).1 a=some (EY X.1 a.toNat):=fun X h=>DF ha (by omega)
  have o1:∀X:XT,a<X.2→idx (AB X).2.1 a=some (F0 0 X.1 a.toNat):=fun X h=>DF ha (by omega)
  have fl:=N7 X.1 a.toNat
  have ol:=Ua X.1 a.toNat 0
  show Ok (Gw fu (EW fu) X r a b) (fun X'=>_∧_∧_∧DK fu (Cr fu) (AB X) r a b=_)
  unfold Gw DK
  refine Ok.ite (fun k1=>Ok.A0 (by simp;unfold AH;omega) (Ok.some ⟨(hX.add ⟨ha,h1⟩ ⟨hb,h2⟩).mono (by omega),Int.le_refl _,by dsimp only;omega,?_⟩)) fun k1=>Ok.ite (fun k2=>Ok.A0 (by simp;unfold AH;omega) (Ok.some ⟨(hX.add ⟨ha,h1⟩ ⟨hb,h2⟩).mono (by omega),Int.le_refl _,by dsimp only;omega,?_⟩)) fun k2=>Ok.ite (fun k3=>?_) fun k3=>Ok.ite (fun k4=>?_) fun k4=>Ok.ite (fun k5=>?_) fun k5=>Ok.some ⟨hX.mono (by omega),Int.le_refl _,by omega,?_⟩
  ·rw[LK k1,HA (f1 X h1),IW (by simp;unfold AH;omega),J2 _ ha]
  ·have hp:(AB X).2.2=(I9 X.1:Int):=rfl
   have:=Ww X.1
   rw[FR k1,LK k2,HA (o1 X h1),IW (by simp;unfold AH;omega),IW (by unfold C0;omega),Uf _ ha]
  ·have hl:=hK.len
   rw[if_pos (.inl k3)]at hl
   refine(Yj (fu:=fu) hs hb r.AL fu 0 c X a (fun h=>by rw[h]at hl;simp at hl) rf (by omega) hX ha h1 h2 (by omega)).mono fun X' ⟨e1,e2,e3,e4⟩=>⟨e1.mono (by omega),e2,by omega,?_⟩
   rw[FR k1,FR k2,FR (by omega:¬r.kind=4),LK k3]
   exact e4
  ·refine(Yk (fu:=fu) hs ha hb r.AL fu 0 c X rf (by omega) hX h1 h2 (by omega)).mono fun X' ⟨e1,e2,e3,e4⟩=>⟨e1.mono (by omega),e2,by omega,?_⟩
   rw[FR k1,FR k2,LK k4]
   exact e4
  ·have hl:=hK.len
   rw[if_neg (by omega),if_pos k5]at hl
   have hx:r.AL[0]?=some (r.AL[0]'(by omega)):=List.getElem?_eq_getElem (by omega)
   have hxm:r.AL[0]'(by omega)∈r.AL:=List.getElem_mem _
   have hss:=JV (d:=d) hxm
   have hps:=TP (List.mem_map_of_mem (f:=pt d) hxm)
   generalize r.AL[0]'(by omega)=x at hx hxm hss hps
   have hX0:=hX.up
   have hX1:=hX0.add (a:=a) (t:=X.2) (p:=fun _=>false) (f:=true) ⟨ha,by dsimp only;omega⟩ ⟨hn0,by dsimp only;omega⟩
   have hX2:=hX1.add (a:=X.2) (t:=b) (p:=fun _=>false) (f:=true) ⟨hn0,by dsimp only;omega⟩ ⟨hb,by dsimp only;omega⟩
   refine Ok.A0 (by unfold C0;omega) (Ok.A0 (by simp;unfold AH;omega) (Ok.A0 (by simp;unfold AH;omega) (Ok.I8 (by omega) hx ?_)))
   refine Ok.AX (hs x hxm _ (c+1+1+1) X.2 X.2 hX2 (by omega) (by dsimp only;omega) (by omega) (by dsimp only;omega) (by omega)) fun X' ⟨e1,e2,e3,e4⟩=>Ok.some ⟨e1.mono (by omega),by dsimp only at e2;omega,by dsimp only at e3;omega,?_⟩
   have m0:=Qe hX
   have m1:=J2 (X:=(X.1,X.2+1)) (a:=a) (t:=X.2) (fun _=>false) ha
   have m2:=J2 (X:=(X.1++[(a,X.2,(fun _=>false),true)],X.2+1)) (a:=X.2) (t:=b) (fun _=>false) hn0
   have q1:=f1 (X.1,X.2+1) (by dsimp only;omega)
   have q2:idx (AB (X.1++[(a,X.2,(fun _=>false),true)],X.2+1)).1 X.2=some (EY (X.1++[(a,X.2,(fun _=>false),true)]) X.2.toNat):=DF hn0 (by dsimp only;omega)
   have l1:=N7 (X.1++[(a,X.2,(fun _=>false),true)]) X.2.toNat
   rw[List.length_append]at l1
   simp only[List.length_cons,List.length_nil]at l1
   rw[m0]at q1
   rw[m1]at q2
   rw[m1,m0]at m2
   rw[m0]at q2
   dsimp only at q1 q2 m2
   rw[m2]at e4
   rw[FR k1,FR k2,FR k4,FR k3,LK k5,IW (by unfold AH;omega),IW (by unfold AH;omega)]
   rw[show(((AB X).2.1.length:Nat):Int)=X.2 by omega,show(AB X).2.1.length=X.2.toNat by omega]
   rw[HA q1,IW (by simp;unfold AH;omega),HA q2,IW (by simp;unfold AH;omega),HA (show idx r.AL 0=some x by
    have:=Pa (l:=r.AL) (i:=0) (by decide) (by omega)
    rw[this];rw[List.getElem?_eq_getElem (by omega)]at hx;exact hx),HA e4]
  ·rw[FR k1,FR k2,FR k4,FR k3,FR k5]
end Go.GL
namespace Go.GL
open Go.GK
theorem NU{A:List GO}{s:Nat}{u:Int} :u∈EY A s↔∃e∈A,e.2.2.2=true∧e.1=(s:Int)∧e.2.1=u:=by
 induction A with
 |nil=>simp[EY]
 |cons e A ih=>
  rw[Hu,List.mem_append,ih]
  constructor
  ·rintro(h|⟨e',he,h⟩)
   ·split at h
    ·rename_i h1
     simp at h;subst h
     exact⟨e,by simp,h1.1,h1.2,rf⟩
    ·cases h
   ·exact⟨e',by simp[he],h⟩
  ·rintro⟨e',he,h1,h2,h3⟩
   rcases List.mem_cons.1 he with rfl|he
   ·left;rw[if_pos ⟨h1,h2⟩];simp[h3]
   ·exact .inr ⟨e',he,h1,h2,h3⟩
theorem RF{X:XT}{c:Nat}(hX:XB X c){s u:Int} :(∃l,0≤s∧(AB X).1[s.toNat]?=some l∧u∈l)↔∃e∈X.1,e.2.2.2=true∧e.1=s∧e.2.1=u:=by
 have hn:=CH X
 constructor
 ·rintro⟨l,h0,h1,h2⟩
  have hlt:=(List.getElem?_eq_some_iff.1 h1).1
  rw[show(AB X).1=CY X.2.toNat (EY X.1)from rfl,EU (by omega)]at h1
  cases h1
  obtain⟨e,he,h3,h4,h5⟩:=NU.1 h2
  exact⟨e,he,h3,by omega,h5⟩
 ·rintro⟨e,he,h1,rfl,rfl⟩
  have hr:=hX.rg e he
  refine⟨EY X.1 e.1.toNat,hr.1.1,?_,NU.2 ⟨e,he,h1,by omega,rf⟩⟩
  rw[show(AB X).1=CY X.2.toNat (EY X.1)from rfl,EU (by omega)]
theorem Ji {X : XT} {c fu : Nat} {l : List Int} (hX : XB X c) (hc : c ≤ 4000) (hl : ∀ x ∈ l, 0 ≤ x ∧ x < X.2) (hll : l.length ≤ 100000000) (hf : 200000000 ≤ fu) : Ok (EB fu X l) (fun r => r = Cq (AB X) l) := by
  have hn := (CH X).1
  have hn0 := hX.n0
  have hn1 := hX.n1
  have hxl := hX.len
  unfold EB
  refine Ok.A0 hn0 (Ok.A0 (by unfold AH; omega) ?_)
  rw [E4]
  generalize hm : X.2.toNat = n at hn
  have hself : ∀ x ∈ l, fr (AB X) l x.toNat := fun x hx => ⟨x, hx, by have := hl x hx; rw [show ((x.toNat : Nat) : Int) = x by omega]; exact .refl x⟩
  refine Ok.range (fun k s => ∃ f, s = CY n f ∧ (∀ j, j < n → f j = true → fr (AB X) l j) ∧ ∀ x ∈ l.take k, f x.toNat = true) l.length ⟨_, rfl, fun j _ h => (by cases h), by simp⟩ (by omega) (fun k s nx hk hJ hn' => ?_) (fun s nx hJ => ?_)
  · obtain ⟨f, rfl, i1, i2⟩ := hJ
    unfold DS
    dsimp only
    have hx := hl _ (List.getElem_mem hk)
    refine Ok.iT (by omega) (Ok.BX hk (Ok.BZ (DF hx.1 (by omega)) (hn' _ ⟨fun j => if j = l[k].toNat then true else f j, Cx _ _ _ _, fun j hj h => ?_, fun x hx' => ?_⟩)))
    · by_cases e : j = l[k].toNat
      · subst e; exact hself _ (List.getElem_mem hk)
      · dsimp only at h; rw [if_neg e] at h; exact i1 j hj h
    · rw [Cw hk] at hx'
      by_cases e : x.toNat = l[k].toNat
      · simp [e]
      · dsimp only; rw [if_neg e]
        rcases hx' with hx' | hx'
        · exact i2 x hx'
        · subst hx'; exact absurd rfl e
  · obtain ⟨f, rfl, i1, i2⟩ := hJ
    rw [List.take_of_length_le (Nat.le_refl _)] at i2
    unfold DS
    dsimp only
    refine Ok.iF (by omega) ?_
    have hgt : ∀ g : Nat → Bool, HV n (fun j => (CY n g).getD j false) = HV n g := fun g => by
      refine Nat.le_antisymm (Kb fun j hj h => ?_) (Kb fun j hj h => ?_)
      · rw [List.getD_eq_getElem?_getD, EU hj]; exact h
      · rw [List.getD_eq_getElem?_getD, EU hj] at h; exact h
    refine Ok.loop (fun (x : List Bool × Bool) => ∃ f, x.1 = CY n f ∧ (∀ j, j < n → f j = true → fr (AB X) l j) ∧ (∀ y ∈ l, f y.toNat = true) ∧ (x.2 = false → ∀ e ∈ X.1, e.2.2.2 = true → f e.1.toNat = true → f e.2.1.toNat = true))
      (fun (x : List Bool × Bool) => if x.2 = true then HV n (fun j => x.1.getD j false) + 1 else 0) ⟨f, rfl, i1, i2, fun h => (by cases h)⟩ (by dsimp only; rw [if_pos rfl]; have := Md n fun j => (CY n f).getD j false; omega) fun x nx hI hmm hn' => ?_
    obtain ⟨s, b⟩ := x
    obtain ⟨f, rfl, i1, i2, i3⟩ := hI
    dsimp only at i3 hn'
    rw [hgt] at hn'
    unfold EA
    dsimp only
    refine Ok.bif (fun hb => ?_) fun hb => ?_
    · subst hb
      refine Ok.FX (fun k s b' => ∃ g, s = CY n g ∧ (∀ j, j < n → g j = true → fr (AB X) l j) ∧ (∀ j, j < n → f j = true → g j = true) ∧ (b' = true → ∃ j, j < n ∧ f j = false ∧ g j = true) ∧
          (b' = false → (∀ j, j < n → g j = f j) ∧ ∀ e ∈ X.1.take k, e.2.2.2 = true → f e.1.toNat = true → f e.2.1.toNat = true)) X.1.length ⟨f, rfl, i1, fun _ _ h => h, fun h => (by cases h), fun _ => ⟨fun _ _ => rfl, by simp⟩⟩ (by omega) (fun k s b' nx2 hk hJ hn2 => ?_) (fun s b' nx2 hJ => ?_)
      · obtain ⟨g, rfl, g1, g2, g3, g4⟩ := hJ
        unfold DR
        dsimp only
        have hr := hX.rg _ (List.getElem_mem hk)
        have hmt := fun e : GO => Cw (l := X.1) hk (x := e)
        have hme : X.1[k] ∈ X.1 := List.getElem_mem hk
        refine Ok.iT (by omega) (Ok.BX hk ?_)
        generalize X.1[k] = e at hr hmt hme
        have keep : (b' = false → e.2.2.2 = true → f e.1.toNat = true → f e.2.1.toNat = true) → Ok (nx2 (CY n g, b', k + 1)) (fun r => r = Cq (AB X) l) := fun h => hn2 _ _ ⟨g, rfl, g1, g2, g3, fun hb => ⟨(g4 hb).1, fun e' he' => by
          rcases (hmt e').1 he' with he' | rfl
          · exact (g4 hb).2 e' he'
          · exact h hb⟩⟩
        refine Ok.bif (fun h1 => Ok.BZ (DF hr.1.1 (by omega)) (Ok.bif (fun h2 => Ok.BZ (DF hr.2.1 (by omega)) (Ok.bif (fun h3 => ?_) fun h3 => keep fun hb _ _ => ?_)) fun h2 => keep fun hb _ h => ?_)) fun h1 => keep fun _ h => absurd h (by rw [h1]; decide)
        · have h3 : g e.2.1.toNat = false := by cases hh : g e.2.1.toNat <;> simp [hh] at h3 ⊢
          refine Ok.BZ (DF hr.2.1 (by omega)) (hn2 _ _ ⟨fun j => if j = e.2.1.toNat then true else g j, Cx _ _ _ _, fun j hj h => ?_, fun j hj h => ?_, fun _ => ⟨e.2.1.toNat, by omega, ?_, by simp⟩, fun h => (by cases h)⟩)
          · by_cases e2 : j = e.2.1.toNat
            · subst e2
              obtain ⟨y, hy, hcl⟩ := g1 e.1.toNat (by omega) h2
              rw [show ((e.1.toNat : Nat) : Int) = e.1 by omega] at hcl
              refine ⟨y, hy, ?_⟩
              rw [show ((e.2.1.toNat : Nat) : Int) = e.2.1 by omega]
              obtain ⟨row, q1, q2, q3⟩ := (RF hX).2 ⟨e, hme, h1, rfl, rfl⟩
              exact hcl.trans (Cl.one (T := QT (AB X).1) ⟨rf, q1, row, q2, q3⟩)
            · dsimp only at h; rw [if_neg e2] at h; exact g1 j hj h
          · by_cases e2 : j = e.2.1.toNat
            · simp [e2]
            · dsimp only; rw [if_neg e2]; exact g2 j hj h
          · cases hh : f e.2.1.toNat with
            | false => rfl
            | true => rw [g2 _ (by omega) hh] at h3; cases h3
        · have h3 : g e.2.1.toNat = true := by cases hh : g e.2.1.toNat <;> simp [hh] at h3 ⊢
          rw [(g4 hb).1 _ (by omega)] at h3; exact h3
        · rw [(g4 hb).1 _ (by omega)] at h2; rw [h2] at h; cases h
      · obtain ⟨g, rfl, g1, g2, g3, g4⟩ := hJ
        unfold DR
        dsimp only
        refine Ok.iF (by omega) (hn' (CY n g, b') ⟨g, rf, g1, fun y hy => g2 _ (by have := hl y hy; omega) (i2 y hy), fun hb e he h1 h2 => ?_⟩ ?_)
        · dsimp only at hb
          have h4 := g4 hb
          rw [List.take_of_length_le (Nat.le_refl _)] at h4
          have hr := hX.rg e he
          rw [h4.1 _ (by omega)] at h2 ⊢
          exact h4.2 e he h1 h2
        · dsimp only
          rw [if_pos rfl, hgt]
          split
          · rename_i hb
            have := M5 (n := n) g2 (g3 hb); omega
          · omega
    ·
      have hcl := i3 hb
      have hall : ∀ s, s < n → (f s = true ↔ fr (AB X) l s) := fun s hs => by
        refine ⟨i1 s hs, fun ⟨y, hy, hc⟩ => ?_⟩
        have h1 := hl y hy
        have := Lm (f := fun u => f u.toNat = true) (fun s u hs hex => by
          obtain ⟨e, he, q1, rfl, rfl⟩ := (RF hX).1 hex
          exact hcl e he q1 hs) hc (i2 y hy)
        simpa using this
      have hres : Cq (AB X) l = K6 n f := by
        unfold Cq; rw [hn]
        refine Ia fun s hs => ?_
        have := hall s hs
        by_cases h : fr (AB X) l s
        · simp [h, this.2 h]
        · have h2 : ¬ f s = true := fun h' => h (this.1 h')
          simp [h]; simpa using h2
      rw [hres]
      refine Ok.range (fun k x => x = K6 k f) n rf (by omega) (fun k x nx' hk hx hn2 => ?_) (fun x nx' hx => ?_)
      · subst hx
        unfold DQ
        have hkl := Jp k f
        refine Ok.iT (by dsimp only; rw [BS]; omega) (Ok.BZ (Bw hk) (Ok.bif (fun h => Ok.A0 (by simp; unfold AH; omega) (hn2 _ ?_)) fun h => hn2 _ ?_))
        · unfold K6; rw [BM, Iv, if_pos h]; rfl
        · unfold K6; rw [BM, if_neg (by rw [h]; decide), List.append_nil]
      · subst hx
        unfold DQ
        exact Ok.iF (by dsimp only; rw [BS]; omega) (Ok.some rf)
end Go.GL
namespace Go.GL
open Go.GK
def KZ(A:List GO)(cs:List Int):Prop:= ∀i (hi:i<cs.length) (b:Nat),cs[i]≤(b:Int)→(b:Int)≤Hd cs i→∀e∈A,e.2.2.1 b=e.2.2.1 cs[i].toNat
def KK(A:List GO)(b:Nat):Bool:=A.any fun e=> !(e.2.2.1 b==e.2.2.1 (b-1))
def Pk(A:List GO)(b:Nat):Bool:=decide (b=0)||KK A b
theorem U9{A:List GO}{cs:List Int}(h:Co cs)(hc:∀b,b<256→0<b→KK A b=true→(b:Int)∈cs):KZ A cs:=by
 intro i hi b h1 h2 e he
 have hr:=h.rg _ (List.getElem_mem hi)
 have hh:=h.hi hi
 have key:∀d:Nat,(cs[i]+d≤Hd cs i)→e.2.2.1 (cs[i].toNat+d)=e.2.2.1 cs[i].toNat:=by
  intro d
  induction d with
  |zero=>intro _;rfl
  |succ d ih=>
   intro hd
   rw[←ih (by omega)]
   have hno:=h.no hi (c:=((cs[i].toNat+(d+1):Nat):Int)) (by omega) (by omega)
   have hf:KK A (cs[i].toNat+(d+1))=false:=by
    cases hd':KK A (cs[i].toNat+(d+1))with
    |false=>rfl
    |true=>exact absurd (hc _ (by omega) (by omega) hd') hno
   have:=List.any_eq_false.1 hf e he
   simpa using this
 have:=key (b-cs[i].toNat) (by omega)
 rw[show cs[i].toNat+(b-cs[i].toNat)=b by omega]at this
 exact this
theorem M7{X:XT}{c fu:Nat}(hX:XB X c)(hc:c≤4000)(hf:200000000≤fu):Ok (Fe fu X) (fun cs=>Co cs∧KZ X.1 cs):=by
 have hxl:=hX.len
 unfold Fe
 refine Ok.OH (fun(s:List Int) k=>(s,k)) (fun k s=>1≤k∧s=ints ((List.range k).filter (Pk X.1))) 256 (fun k s nx hk hJ hn=>?_) (fun s nx hJ=>?_) fu 1 [0] ⟨Nat.le_refl _,by simp[Pk,ints,List.range_succ]⟩ (by decide) (by omega)
 ·obtain⟨hk1,rfl⟩:=hJ
  unfold DV
  dsimp only
  have hsl:(ints ((List.range k).filter (Pk X.1))).length≤k:=by
   unfold ints;rw[List.length_map];have:=List.length_filter_le (Pk X.1) (List.range k);rw[List.length_range]at this;exact this
  have hchg:Pk X.1 k=KK X.1 k:=by unfold Pk;rw[decide_eq_false (by omega)];rfl
  refine Ok.iT (by omega) (Ok.range (fun j b=>b=KK (X.1.take j) k) X.1.length rf (by omega) (fun j b nx2 hj hJ hn2=>?_) (fun b nx2 hJ=>?_))
  ·subst hJ
   unfold DU
   dsimp only
   have hnx:KK (X.1.take (j+1)) k=(KK (X.1.take j) k|| !(X.1[j].2.2.1 k==X.1[j].2.2.1 (k-1))):=by
    unfold KK
    rw[show X.1.take (j+1)=X.1.take j++[X.1[j]]from(List.take_append_getElem hj).symm,List.any_append];simp
   refine Ok.iT (by omega) (Ok.BX hj (Ok.bif (fun h=>hn2 _ ?_) fun h=>Ok.A0 (by unfold F8;omega) (Ok.A0 (by unfold C0;omega) (Ok.A0 (by unfold F8;omega) (hn2 _ ?_)))))
   ·rw[hnx,h];rfl
   ·rw[hnx,h,Int.toNat_natCast,show(((k:Nat):Int)-1).toNat=k-1 by omega];rfl
  ·subst hJ
   unfold DU
   dsimp only
   rw[List.take_of_length_le (Nat.le_refl _)]
   refine Ok.iF (by omega) (Ok.bif (fun h=>Ok.A0 (by rw[List.length_cons,List.length_nil];unfold AH;omega) (hn _ ⟨by omega,?_⟩)) fun h=>hn _ ⟨by omega,?_⟩)
   ·rw[BM,Iv,hchg,if_pos h];rfl
   ·rw[BM,hchg,if_neg (by rw[h];decide),List.append_nil]
 ·obtain⟨_,rfl⟩:=hJ
  unfold DV
  dsimp only
  have hC:=QB (p:=Pk X.1) (by simp[Pk])
  refine Ok.iF (by omega) (Ok.some ⟨hC,U9 hC fun b hb h0 h1=>?_⟩)
  exact List.mem_map.2 ⟨b,List.mem_filter.2 ⟨List.mem_range.2 hb,by simp[Pk,h1]⟩,rf⟩
theorem WW:∀(d:Nat) (r:Rx),sz d r+1≤4*pt d r
 |0,r=>by simp[sz,pt]
 |d+1,r=>by
  show 2+r.AL.length+(r.AL.map (sz d)).sum+1≤4*(1+(r.AL.map (pt d)).sum)
  have:∀l:List Rx,l.length+(l.map (sz d)).sum≤4*(l.map (pt d)).sum:=fun l=>by
   induction l with
   |nil=>simp
   |cons x l ih=>rw[List.map_cons,List.map_cons,List.sum_cons,List.sum_cons,List.length_cons];have:=WW d x;omega
  have:=this r.AL
  omega
theorem P8:∀(K:Nat) (m:Int) (r:Rx) (fu:Nat),m≤K→K≤12→K+40≤fu→ -100≤m→Ok (Fj fu r m) (fun n=>1≤n∧(n≤m+1∨n=1)∧(n≤m→∀d,(pt d r:Int)≤n))
 |_,_,_,0,_,_,h,_=>by omega
 |K,m,r,fu+1,hm,hK,hf,h0=>by
  show Ok (FG fu (Fj fu) r m) _
  unfold FG
  refine Ok.loop (fun(x:Int×Int)=> ∃k:Nat,x.2=k∧k≤r.AL.length∧(k:Int)+1≤x.1∧(x.1≤m+1∨x.1=1)∧(x.1≤m→∀d,((1+((r.AL.take k).map (pt d)).sum:Nat):Int)≤x.1)) (fun x=>30-x.1.toNat) ⟨0,rf,by omega,by simp, .inr rf,fun _ d=>by simp⟩ (by dsimp only;omega) fun x nx hI hmm hn=>?_
  obtain⟨n,i⟩:=x
  obtain⟨k,rfl,h1,h2,h3,h4⟩:=hI
  dsimp only at h2 h3 h4 hn
  unfold FE
  dsimp only
  have hend:n≤m→¬(k:Int)<((r.AL.length:Nat):Int)→∀d,(pt d r:Int)≤n:=fun hnm hk d=>by
   obtain rfl:k=r.AL.length:=by omega
   cases d with
   |zero=>show((1:Nat):Int)≤n;omega
   |succ d=>
    have:=h4 hnm d
    rw[List.take_of_length_le (Nat.le_refl _)]at this
    exact this
  refine Ok.ite (fun hk=>Ok.ite (fun hnm=>?_) fun hnm=>Ok.some ⟨by omega,h3,fun h=>absurd h hnm⟩) fun hk=>Ok.some ⟨by omega,h3,fun h=>hend h hk⟩
  have hk':k<r.AL.length:=by omega
  refine Ok.BX hk' (Ok.A0 (by unfold C0;omega) ?_)
  cases K with
  |zero=>omega
  |succ K=>
   refine Ok.AX (P8 K (m-n) _ fu (by omega) (by omega) (by omega) (by omega)) fun q ⟨q1,q2,q3⟩=>?_
   refine Ok.A0 (by unfold C0;omega) (Ok.A0 (by unfold C0;omega) (hn _ ⟨k+1,by dsimp only;omega,by omega,by dsimp only;omega,by dsimp only;omega,fun h d=>?_⟩ (by dsimp only;omega)))
   dsimp only at h⊢
   have e1:=h4 (by omega) d
   have e2:=q3 (by omega) d
   rw[show r.AL.take (k+1)=r.AL.take k++[r.AL[k]]from(List.take_append_getElem hk').symm,List.map_append,List.sum_append]
   simp only[List.map_cons,List.map_nil,List.sum_cons,List.sum_nil]
   omega
theorem TR{r:Rx}{fu:Nat}(hf:100≤fu):Ok (Ik fu r) (fun b=>b=true→∀d,pt d r≤12):=by
 unfold Ik
 refine Ok.AX (P8 12 12 r fu (by decide) (by decide) (by omega) (by decide)) fun n ⟨h1,h2,h3⟩=>Ok.some fun h d=>?_
 have h:=of_decide_eq_true h
 have:=h3 h d
 omega
end Go.GL
namespace Go.GL
open Go.GK
theorem RK{l:Tb}{n fu b:Nat}{i:Int}(hs:Nd l n)(hf:n<fu)(h1:i<l.length):Ok (Ij fu l i (b:Int)) (fun r=>r=D8 l i b):=by
 unfold Ij
 refine Ok.ite (fun h=>Ok.some (by rw[RL _ h])) fun h=>Ok.Rn (by omega) h1 ?_
 have hr:=Gv (by omega) h1
 have hst:D8 l i b=BW (l[i.toNat]'(by omega)).2 b:=by unfold D8;rw[if_neg h,hr]
 rw[hst]
 have hsl:=hs.2 _ (List.getElem_mem (by omega:i.toNat<l.length))
 generalize l[i.toNat]'(by omega)=s at hsl
 refine Ok.count (fun k=> ∀j (_:j<k) (hj:j<s.2.length),EL b s.2[j]=false) s.2.length (by intro j h;omega) (by omega) (fun k nx hk hJ hn=>?_) (fun nx hJ=>?_)
 ·unfold Ff
  have hno:EL b s.2[k]=false→∀j (_:j<k+1) (hj:j<s.2.length),EL b s.2[j]=false:=fun h j hj hj'=>by
   rcases Nat.lt_or_ge j k with h2|h2
   ·exact hJ j h2 hj'
   ·obtain rfl:j=k:=by omega
    exact h
  refine Ok.iT (by omega) (Ok.BX hk (Ok.ite (fun h2=>Ok.ite (fun h3=>Ok.some ?_) fun h3=>hn (hno ?_)) fun h2=>hn (hno ?_)))
  ·exact(PM hk (by simp[EL,h2,h3]) fun i hi=>hJ i hi (by omega)).symm
  ·simp[EL,h3]
  ·simp[EL,h2]
 ·unfold Ff
  refine Ok.iF (by omega) (Ok.some (Q5 fun i hi=>hJ i hi hi).symm)
theorem Ko:FD=DJ:=rfl
end Go.GL
namespace Go.GL
open Go.GK
theorem Q6:IJ=Lo:=rfl
def Ar(l:Tb)(f:Nat→Bool)(s:Nat):Prop:= ∃st,l[s]?=some st∧(st.1=true∨∃e∈st.2,f e.2.2.toNat=true)
def IZ(l:Tb)(f:Nat→Bool):Prop:= ∀s,s<l.length→Ar l f s→f s=true
def Na(l:Tb)(f:Nat→Bool):Prop:= ∀s,s<l.length→f s=true→live (Bt l (s:Nat))=true
theorem Ar.mono{l:Tb}{f g:Nat→Bool}{s:Nat}(hw:E0 l)(hfg:∀j,j<l.length→f j=true→g j=true)(h:Ar l f s):Ar l g s:=by
 obtain⟨st,h1,h2⟩:=h
 refine⟨st,h1,h2.imp id fun⟨e,he,hf⟩=>⟨e,he,hfg _ ?_ hf⟩⟩
 have:=(hw st (List.mem_of_getElem? h1)).rg e he
 omega
theorem SN{es:List Fw}{m n:Nat}(h:D9 es m n){e:Fw}(he:e∈es):BW es e.1.toNat=e.2.2:=by
 obtain⟨i,hi,rfl⟩:=List.getElem_of_mem he
 have hr:=h.rg _ he
 refine PM hi (by simp[EL];omega) fun j hj=>?_
 have h1:=List.pairwise_iff_getElem.1 h.so j i (by omega) hi hj
 have h2:=h.rg _ (List.getElem_mem (by omega:j<es.length))
 simp[EL];omega
theorem Ar.live{l:Tb}{f:Nat→Bool}{s:Nat}(hw:E0 l)(hS:Na l f)(h:Ar l f s):live (Bt l (s:Nat))=true:=by
 obtain⟨st,h1,h2⟩:=h
 have hs:=(List.getElem?_eq_some_iff.1 h1).1
 have hrow:Cs l (s:Nat)=st:=by unfold Cs;rw[List.getD_eq_getElem?_getD];simp[h1]
 have hE:=hw st (List.mem_of_getElem? h1)
 rcases h2 with h2|⟨e,he,hf⟩
 ·exact OV (w:=[]) (by simp[Bt,runT,fin,hrow,h2])
 ·have hr:=hE.rg e he
  have h3:=hS _ (by omega) hf
  rw[Int.toNat_of_nonneg hr.2.2.2.1]at h3
  refine Qj (b:=e.1.toNat) ?_
  rw[HL _ _ _ (by omega)]
  have:D8 l (s:Nat) e.1.toNat=e.2.2:=by unfold D8;rw[if_neg (by omega),hrow];exact SN hE he
  rw[this];exact h3
theorem IZ.all{l:Tb}{f:Nat→Bool}(hw:E0 l)(h:IZ l f):∀(w:List UInt8) (s:Nat),s<l.length→Bt l (s:Nat) w=true→f s=true
 | [],s,hs,hl=>by
  refine h s hs ⟨l[s],List.getElem?_eq_getElem hs, .inl ?_⟩
  simpa [Bt,runT,fin,Cs,hs]using hl
 |b::w,s,hs,hl=>by
  have hrow:Cs l (s:Nat)=l[s]:=Gv (by omega) (by omega)
  have e:Bt l (s:Nat) (b::w)=Bt l (D8 l (s:Nat) b.toNat) w:=rfl
  rw[e]at hl
  have hst:D8 l (s:Nat) b.toNat=BW l[s].2 b.toNat:=by unfold D8;rw[if_neg (by omega),hrow]
  rw[hst]at hl
  unfold BW at hl
  cases hf:l[s].2.find? (EL b.toNat)with
  |none=>rw[hf]at hl;rw[FI (by decide)]at hl;cases hl
  |some e=>
   rw[hf]at hl
   have hem:=List.mem_of_find?_eq_some hf
   have hr:=(hw _ (List.getElem_mem hs)).rg e hem
   refine h s hs ⟨l[s],List.getElem?_eq_getElem hs, .inr ⟨e,hem,?_⟩⟩
   refine IZ.all hw h w e.2.2.toNat (by omega) ?_
   rw[Int.toNat_of_nonneg hr.2.2.2.1];exact hl
theorem KT{l:Tb}{n fu k:Nat}(hw:E0 l)(hs:Nd l n)(hf:n<fu)(hk:k<l.length){g:Nat→Bool}{P:List Bool→Prop}{nx:(List Bool×Nat)→Option (List Bool)}
  (b:(Nat→((List Bool)×Nat→Option (List Bool))→List Bool→Nat→((List Bool)×Nat→Option (List Bool))→Option (List Bool)))
  (hb:∀nx' o j nx2,b k nx' o j nx2=DE fu k nx' l[k] o j nx2)
  (hn:∀g',(∀j,j<l.length→g' j=if j=k then(g k||l[k].2.any fun e=>g e.2.2.toNat)else g j)→Ok (nx (CY l.length g',k+1)) P):
  Ok (Ax fu (fun p nx2=>b k nx p.1 p.2 nx2) (CY l.length g,0)) P:=by
 have hE:=hw _ (List.getElem_mem hk)
 refine Ok.range (fun j o=> ∃g',o=CY l.length g'∧∀i,i<l.length→g' i=if i=k then(g k||(l[k].2.take j).any fun e=>g e.2.2.toNat)else g i) l[k].2.length ⟨g,rf,fun i _=>by by_cases h:i=k<;>simp[h]⟩ (by have:=hs.2 _ (List.getElem_mem hk);omega) (fun j o nx2 hj hJ hn2=>?_) (fun o nx2 hJ=>?_)
 ·obtain⟨g',rfl,hg'⟩:=hJ
  have hr:=hE.rg _ (List.getElem_mem hj)
  dsimp only
  rw[hb]
  unfold DE
  have hany:((l[k].2.take (j+1)).any fun e=>g e.2.2.toNat)=(((l[k].2.take j).any fun e=>g e.2.2.toNat)||g l[k].2[j].2.2.toNat):=by
   rw[←List.take_append_getElem hj,List.any_append];simp
  refine Ok.iT (by omega) (Ok.BX hj (Ok.BZ (Bw hk) (Ok.bif (fun h=>Ok.BZ (Bw hk) (hn2 _ ⟨_,Cx _ _ _ _,fun i hi=>?_⟩)) fun h=>?_)))
  ·by_cases hik:i=k
   ·subst hik
    have:=hg' i hi
    rw[h]at this;simp only[if_true]at this⊢
    rw[hany,←Bool.or_assoc,←this];rfl
   ·simp only[hik,if_false];rw[hg' i hi,if_neg hik]
  ·have hto:l[k].2[j].2.2.toNat<l.length:=by omega
   refine Ok.BZ (a:=g' l[k].2[j].2.2.toNat) (DF hr.2.2.2.1 hto) (Ok.BZ (Bw hk) (hn2 _ ⟨_,Cx _ _ _ _,fun i hi=>?_⟩))
   by_cases hik:i=k
   ·subst hik
    have h1:=hg' i hi
    rw[h]at h1;simp only[if_true]at h1⊢
    rw[hany,←Bool.or_assoc,←h1,Bool.false_or,hg' _ hto]
    by_cases hti:l[i].2[j].2.2.toNat=i
    ·rw[if_pos hti,hti,←h1]
     have:g i=false:=by cases hg:g i<;>simp[hg]at h1⊢
     exact this.symm
    ·rw[if_neg hti]
   ·simp only[hik,if_false];rw[hg' i hi,if_neg hik]
 ·obtain⟨g',rfl,hg'⟩:=hJ
  dsimp only
  rw[hb]
  unfold DE
  rw[DN]at hg'
  exact Ok.iF (by omega) (hn g' hg')
theorem Ol {l : Tb} {n fu : Nat} (hw : E0 l) (hs : Nd l n) (hn : n < 4294967296) (hf : n < fu) : Ok (Hb fu l) (fun r => r = CY l.length fun s => live (Bt l (s : Nat))) := by
  have hln := hs.1
  unfold Hb
  refine Ok.A0 (by unfold AH; omega) ?_
  rw [E4]
  refine Ok.range (fun k o => ∃ f, o = CY l.length f ∧ Na l f ∧ (IZ l f ∨ HV l.length f + k ≤ l.length)) l.length ⟨_, rfl, fun s _ h => (by cases h), .inr (by have := Md l.length (fun _ => false); omega)⟩ (by omega) (fun k o nx hk hJ hnx => ?_) (fun o nx hJ => ?_)
  · obtain ⟨f, rfl, hS, hC⟩ := hJ
    unfold EJ; dsimp only
    refine Ok.iT (by omega) ?_
    refine Ok.range (fun q o => ∃ g, o = CY l.length g ∧ Na l g ∧ (∀ j, j < l.length → f j = true → g j = true) ∧ (∀ s, s < q → Ar l f s → g s = true) ∧ (IZ l f → ∀ j, j < l.length → g j = f j)) l.length ⟨f, rf, hS, fun _ _ h => h, fun s h => by omega, fun _ _ _ => rfl⟩ (by omega) (fun q o nx' hq hJ hn' => ?_) (fun o nx' hJ => ?_)
    · obtain ⟨g, rfl, hSg, hfg, hA, hCl⟩ := hJ
      unfold EI; dsimp only
      have hfin : ∀ g1 : Nat → Bool, (∀ j, j < l.length → g1 j = if j = q then (g q || l[q].1) else g j) → ∀ g', (∀ j, j < l.length → g' j = if j = q then (g1 q || l[q].2.any fun e => g1 e.2.2.toNat) else g1 j) → Ok (nx' (CY l.length g', q + 1)) (fun r => r = CY l.length fun s => live (Bt l (s : Nat))) := fun g1 h1 g' h2 => by
        have e1 : g1 q = (g q || l[q].1) := by rw [h1 q hq, if_pos rfl]
        have hg1 : ∀ j, j < l.length → g j = true → g1 j = true := fun j hj h => by
          rw [h1 j hj]; split
          · rename_i e; subst e; rw [h]; rfl
          · exact h
        have hS1 : Na l g1 := fun s hs' h => by
          rw [h1 s hs'] at h
          by_cases e : s = q
          · subst e
            rw [if_pos rfl] at h
            cases hg : g s
            · rw [hg, Bool.false_or] at h
              exact Ar.live hw hSg ⟨l[s], List.getElem?_eq_getElem hs', .inl h⟩
            · exact hSg s hs' hg
          · rw [if_neg e] at h; exact hSg s hs' h
        have hg' : ∀ j, j < l.length → g1 j = true → g' j = true := fun j hj h => by
          rw [h2 j hj]; split
          · rename_i e; subst e; rw [h]; rfl
          · exact h
        have hS' : Na l g' := fun s hs' h => by
          rw [h2 s hs'] at h
          by_cases e : s = q
          · subst e
            rw [if_pos rfl] at h
            cases hg : g1 s
            · rw [hg, Bool.false_or, List.any_eq_true] at h
              obtain ⟨e, he, hh⟩ := h
              exact Ar.live hw hS1 ⟨l[s], List.getElem?_eq_getElem hs', .inr ⟨e, he, hh⟩⟩
            · exact hS1 s hs' hg
          · rw [if_neg e] at h; exact hS1 s hs' h
        refine hn' _ ⟨g', rf, hS', fun j hj h => hg' j hj (hg1 j hj (hfg j hj h)), fun s hsq hAr => ?_, fun hCf j hj => ?_⟩
        · by_cases e : s = q
          · subst e
            obtain ⟨st, h3, h4⟩ := hAr
            rw [List.getElem?_eq_getElem hq] at h3; cases h3
            rw [h2 s hq, if_pos rfl]
            rcases h4 with h4 | ⟨e, he, h4⟩
            · rw [e1, h4]; simp
            · have : (l[s].2.any fun e => g1 e.2.2.toNat) = true := List.any_eq_true.2 ⟨e, he, hg1 _ (by have := (hw _ (List.getElem_mem hq)).rg e he; omega) (hfg _ (by have := (hw _ (List.getElem_mem hq)).rg e he; omega) h4)⟩
              rw [this]; simp
          · exact hg' s (by omega) (hg1 s (by omega) (hA s (by omega) hAr))
        · have hgf := hCl hCf
          have a1 : ∀ j, j < l.length → g1 j = f j := fun j hj => by
            rw [h1 j hj]; split
            · rename_i e; subst e
              rw [hgf j hj]
              cases hl : l[j].1
              · simp
              · rw [hCf j hj ⟨l[j], List.getElem?_eq_getElem hj, .inl hl⟩]; rfl
            · exact hgf j hj
          rw [h2 j hj]; split
          · rename_i e; subst e
            rw [a1 j hj]
            cases hl : l[j].2.any fun e => g1 e.2.2.toNat
            · simp
            · obtain ⟨e, he, hh⟩ := List.any_eq_true.1 hl
              rw [a1 _ (by have := (hw _ (List.getElem_mem hj)).rg e he; omega)] at hh
              rw [hCf j hj ⟨l[j], List.getElem?_eq_getElem hj, .inr ⟨e, he, hh⟩⟩]; rfl
          · exact a1 j hj
      refine Ok.iT (by omega) (Ok.BX hq (Ok.BZ (Bw hq) (Ok.bif (fun h => Ok.BZ (Bw hq) ?_) fun h => Ok.BZ (Bw hq) ?_)))
      · rw [Cx]
        refine KT hw hs hf hq (fun k nx o j nx2 => DE fu k nx l[q] o j nx2) (fun _ _ _ _ => rfl) fun g' hg' => hfin _ (fun j hj => ?_) g' hg'
        by_cases e : j = q <;> simp [e, h]
      · rw [Cx]
        refine KT hw hs hf hq (fun k nx o j nx2 => FC fu k nx l[q] o j nx2) (fun _ _ _ _ => rfl) fun g' hg' => hfin _ (fun j hj => ?_) g' hg'
        by_cases e : j = q <;> simp [e, h]
    · obtain ⟨g, rfl, hSg, hfg, hA, hCl⟩ := hJ
      unfold EI; dsimp only
      refine Ok.iF (by omega) (hnx _ ⟨g, rf, hSg, ?_⟩)
      by_cases hCf : IZ l f
      · left
        intro s hs' hAr
        rw [hCl hCf s hs']
        exact hCf s hs' (hAr.mono hw fun j hj h => by rw [hCl hCf j hj] at h; exact h)
      · right
        have h1 := hC.resolve_left hCf
        have : ∃ s, s < l.length ∧ f s = false ∧ g s = true := Classical.byContradiction fun hno => hCf fun s hs' hAr => by
          cases hfs : f s
          · exact absurd ⟨s, hs', hfs, hA s hs' hAr⟩ hno
          · rfl
        have := M5 (n := l.length) (f := f) (g := g) hfg this
        omega
  · obtain ⟨f, rfl, hS, hC⟩ := hJ
    unfold EJ; dsimp only
    have hCf : IZ l f := by
      rcases hC with h | h
      · exact h
      · intro s hs' _
        cases hfs : f s
        · exfalso
          have := M5 (n := l.length) (f := f) (g := fun _ => true) (fun _ _ _ => rfl) ⟨s, hs', hfs, rfl⟩
          omega
        · rfl
    refine Ok.iF (by omega) (Ok.some (BT fun s hs' => ?_))
    cases hfs : f s
    · cases hlv : live (Bt l (s : Nat))
      · rfl
      · obtain ⟨w, hw'⟩ := Jc.1 hlv
        rw [hCf.all hw w s hs' hw'] at hfs; cases hfs
    · exact (hS s hs' hfs).symm
noncomputable def I0(l:Tb)(e:Fw):Bool:=live (Bt l e.2.2)
noncomputable def FO(l:Tb):Tb:=l.map fun s=>(s.1,s.2.filter (I0 l))
theorem Mf(l:Tb):(FO l).length=l.length:=by simp[FO]
theorem D9.filter{es:List Fw}{m n:Nat}(h:D9 es m n)(p:Fw→Bool):D9 (es.filter p) m n:=⟨fun e he=>h.rg e (List.mem_filter.1 he).1,h.so.filter _⟩
theorem VJ{l:Tb}(h:E0 l):E0 (FO l):=fun s hs=>by
 obtain⟨t,ht,rfl⟩:=List.mem_map.1 hs
 rw[Mf];exact(h t ht).filter _
theorem Qx{p q:Fw→Bool}{es:List Fw}(hu:∀e∈es,∀e'∈es,q e=true→q e'=true→e=e'):(es.filter p).find? q=match es.find? q with
  |some e=>if p e then some e else none
  |none=>none:=by
 cases h:es.find? q with
 |none=>
  rw[List.find?_eq_none]at h⊢
  exact fun e he=>h e (List.mem_filter.1 he).1
 |some e=>
  have hm:=List.mem_of_find?_eq_some h
  have hq:=List.find?_some h
  dsimp only
  by_cases hp:p e=true
  ·rw[if_pos hp]
   cases h2:(es.filter p).find? q with
   |none=>exact absurd hq (List.find?_eq_none.1 h2 e (List.mem_filter.2 ⟨hm,hp⟩))
   |some e'=>
    have hm':=List.mem_of_find?_eq_some h2
    rw[hu e' (List.mem_filter.1 hm').1 e hm (List.find?_some h2) hq]
  ·rw[if_neg hp,List.find?_eq_none]
   intro e' he' hq'
   have:=List.mem_filter.1 he'
   rw[hu e' this.1 e hm hq' hq]at this
   exact hp this.2
theorem D9.uniq{es:List Fw}{m n:Nat}(h:D9 es m n)(b:Nat):∀e∈es,∀e'∈es,EL b e=true→EL b e'=true→e=e':=fun e he e' he' h1 h2=>by
 obtain⟨i,hi,rfl⟩:=List.getElem_of_mem he
 obtain⟨j,hj,rfl⟩:=List.getElem_of_mem he'
 simp[EL]at h1 h2
 rcases Nat.lt_trichotomy i j with h3|h3|h3
 ·have:=List.pairwise_iff_getElem.1 h.so i j hi hj h3;omega
 ·subst h3;rfl
 ·have:=List.pairwise_iff_getElem.1 h.so j i hj hi h3;omega
theorem ND{l:Tb}(h:E0 l)(q:Int)(b:Nat):D8 (FO l) q b=if live (Bt l (D8 l q b))then D8 l q b else-1:=by
 unfold D8
 split
 ·rw[Ht (by decide)];rfl
 ·have hrow:Cs (FO l) q=((Cs l q).1,(Cs l q).2.filter (I0 l)):=by
   unfold Cs FO
   rw[List.getD_eq_getElem?_getD,List.getD_eq_getElem?_getD,List.getElem?_map]
   cases l[q.toNat]?<;>rfl
  rw[hrow]
  dsimp only
  unfold BW
  have hu:∀e∈(Cs l q).2,∀e'∈(Cs l q).2,EL b e=true→EL b e'=true→e=e':=by
   unfold Cs
   rw[List.getD_eq_getElem?_getD]
   cases hx:l[q.toNat]? with
   |none=>intro e he;simp at he
   |some s=>exact(h s (List.mem_of_getElem? hx)).uniq b
  rw[Qx hu]
  cases(Cs l q).2.find? (EL b)with
  |none=>dsimp only;rw[Ht (by decide)];rfl
  |some e=>
   dsimp only
   unfold I0
   by_cases hl:live (Bt l e.2.2)=true
   ·rw[if_pos hl,if_pos hl]
   ·rw[if_neg hl,if_neg hl]
theorem Ou{l:Tb}(h:E0 l):∀(w:List UInt8) (q:Int),Bt (FO l) q w=Bt l q w
 | [],q=>by
  unfold Bt runT fin
  simp only[List.foldl_nil]
  congr 1
  unfold Cs FO
  rw[List.getD_eq_getElem?_getD,List.getD_eq_getElem?_getD,List.getElem?_map]
  cases l[q.toNat]?<;>rfl
 |c::w,q=>by
  show Bt (FO l) (D8 (FO l) q c.toNat) w=Bt l (D8 l q c.toNat) w
  rw[ND h]
  split
  ·exact Ou h w _
  ·rename_i hd
   have hd:live (Bt l (D8 l q c.toNat))=false:=by simpa using hd
   rw[F_.1 hd w];exact FI (by decide) w
theorem VK{l:Tb}{n:Nat}(h:Nd l n):Nd (FO l) n:=⟨by rw[Mf];exact h.1,fun s hs=>by
 obtain⟨t,ht,rfl⟩:=List.mem_map.1 hs
 have:=List.length_filter_le (I0 l) t.2
 have:=h.2 t ht
 dsimp only;omega⟩
theorem PD{l:Tb}{n fu:Nat}(hw:E0 l)(hs:Nd l n)(hn:n<4294967296)(hf:n<fu):Ok (Gx fu l) (fun r=>r=FO l):=by
 have hln:=hs.1
 unfold Gx
 refine Ok.AX (Ol hw hs hn hf) fun x hx=>?_
 subst hx
 refine Ok.range (fun k o=>o=(l.take k).map fun s=>(s.1,s.2.filter (I0 l))) l.length (by simp) (by omega) (fun k o nx hk hJ hnx=>?_) (fun o nx hJ=>?_)
 ·subst hJ
  unfold DP;dsimp only
  have hm:=List.getElem_mem hk
  have hsl:=hs.2 _ hm
  refine Ok.iT (by omega) (Ok.BX hk ?_)
  refine Ok.range (fun j x=>x=(l[k].2.take j).filter (I0 l)) l[k].2.length (by simp) (by omega) (fun j x nx' hj hx hn'=>?_) (fun x nx' hx=>?_)
  ·subst hx
   unfold DO;dsimp only
   have hr:=(hw _ hm).rg _ (List.getElem_mem hj)
   have hlen:=List.length_filter_le (I0 l) (l[k].2.take j)
   have hs1:(l[k].2.take (j+1)).filter (I0 l)=(l[k].2.take j).filter (I0 l)++(if I0 l l[k].2[j]then [l[k].2[j]]else []):=by
    rw[←List.take_append_getElem hj,List.filter_append];simp[List.filter_cons]
   have htr:I0 l l[k].2[j]=live (Bt l ((l[k].2[j].2.2.toNat:Nat):Int)):=by unfold I0;rw[Int.toNat_of_nonneg hr.2.2.2.1]
   refine Ok.iT (by omega) (Ok.BX hj (Ok.BZ (DF hr.2.2.2.1 (by omega)) (Ok.bif (fun h=>Ok.A0 ?_ (hn' _ ?_)) fun h=>hn' _ ?_)))
   ·simp only[List.length_take,List.length_cons,List.length_nil]at hlen⊢;unfold AH;omega
   ·rw[hs1,htr,if_pos h]
   ·rw[hs1,htr,if_neg (by rw[h];decide),List.append_nil]
  ·subst hx
   unfold DO;dsimp only
   refine Ok.iF (by omega) (Ok.A0 ?_ (hnx _ ?_))
   ·simp only[List.length_map,List.length_take,List.length_cons,List.length_nil];unfold AH;omega
   ·rw[DN,←List.take_append_getElem hk,List.map_append];rfl
 ·subst hJ
  unfold DP;dsimp only
  exact Ok.iF (by omega) (Ok.some (by rw[DN];rfl))
structure Ren(l:Tb)(ord:List Int):Prop where
 nd:ord.Nodup
 rg:∀q∈ord,0≤q∧q<l.length
def LP(ord:List Int)(e:Fw):Fw:=(e.1,e.2.1,((ord.idxOf e.2.2:Nat):Int))
def Om(l:Tb)(ord:List Int)(q:Int)(s:Vy):Prop:=s.1=(Cs l q).1∧s.2=(Cs l q).2.map (LP ord)∧∀e∈(Cs l q).2,e.2.2∈ord
theorem Xz{l l':Tb}{ord:List Int}(hw:E0 l)(ho:Ren l ord)(hl:l'.length=ord.length)(hr:∀(k:Nat) (q:Int) (s:Vy),ord[k]?=some q→l'[k]?=some s→Om l ord q s):
  E0 l'∧∀(w:List UInt8) (k:Nat) (q:Int),ord[k]?=some q→Bt l' (k:Nat) w=Bt l q w:=by
 have hrow:∀(k:Nat) (q:Int),ord[k]?=some q→Om l ord q (Cs l' (k:Nat)):=fun k q hk=>by
  have hlt:=(List.getElem?_eq_some_iff.1 hk).1
  have:l'[k]?=some (Cs l' (k:Nat)):=by unfold Cs;rw[List.getD_eq_getElem?_getD];simp[show k<List.length l' by omega]
  exact hr k q _ hk this
 have hE:∀q∈ord,D9 (Cs l q).2 256 l.length:=fun q hq=>by
  have:=ho.rg q hq
  rw[Gv this.1 this.2];exact hw _ (List.getElem_mem _)
 refine⟨fun s hs=>?_,fun w=>?_⟩
 ·obtain⟨k,hk,rfl⟩:=List.getElem_of_mem hs
  have hq:ord[k]?=some ord[k]:=List.getElem?_eq_getElem (by omega)
  obtain⟨h1,h2,h3⟩:=hr k _ _ hq (List.getElem?_eq_getElem hk)
  have hE':=hE _ (List.mem_of_getElem? hq)
  rw[h2]
  refine⟨fun e he=>?_,List.pairwise_map.2 hE'.so⟩
  obtain⟨e0,he0,rfl⟩:=List.mem_map.1 he
  have hr0:=hE'.rg e0 he0
  have:=List.idxOf_lt_length_of_mem (h3 e0 he0)
  simp only[LP];omega
 ·induction w with
  |nil=>
   intro k q hk
   have h0:=ho.rg q (List.mem_of_getElem? hk)
   have:=(hrow k q hk).1
   simp[Bt,runT,fin,this,h0.1]
  |cons c w ih=>
   intro k q hk
   have h0:=ho.rg q (List.mem_of_getElem? hk)
   obtain⟨h1,h2,h3⟩:=hrow k q hk
   show Bt l' (D8 l' (k:Nat) c.toNat) w=Bt l (D8 l q c.toNat) w
   have e1:D8 l' (k:Nat) c.toNat=BW ((Cs l q).2.map (LP ord)) c.toNat:=by unfold D8;rw[if_neg (by omega),h2]
   have e2:D8 l q c.toNat=BW (Cs l q).2 c.toNat:=by unfold D8;rw[if_neg (by omega)]
   rw[e1,e2]
   unfold BW
   have hmap:((Cs l q).2.map (LP ord)).find? (EL c.toNat)=((Cs l q).2.find? (EL c.toNat)).map (LP ord):=by
    rw[List.find?_map];rfl
   rw[hmap]
   cases hf:(Cs l q).2.find? (EL c.toNat)with
   |none=>dsimp only[Option.map];rw[FI (by decide),FI (by decide)]
   |some e=>
    dsimp only[Option.map,LP]
    have hm:=h3 e (List.mem_of_find?_eq_some hf)
    have hlt:=List.idxOf_lt_length_of_mem hm
    exact ih _ _ (by rw[List.getElem?_eq_getElem hlt,List.getElem_idxOf hlt])
theorem Qr{ord:List Int}{x:Int}{i:Nat}(h1:∀j (_:j<i) (hj:j<ord.length),ord[j]≠x)(h2:i≤ord.length)(h3:∀h:i<ord.length,ord[i]=x):ord.idxOf x=i:=by
 rcases Nat.lt_or_ge i ord.length with h|h
 ·have hm:x∈ord:=h3 h▸List.getElem_mem h
  have hlt:=List.idxOf_lt_length_of_mem hm
  have hg:=List.getElem_idxOf hlt
  rcases Nat.lt_trichotomy (ord.idxOf x) i with h4|h4|h4
  ·exact absurd hg (h1 _ h4 hlt)
  ·exact h4
  ·exfalso
   have:=List.not_of_lt_findIdx (p:=fun y=>y==x) (xs:=ord) (i:=i) (by simpa [List.idxOf]using h4)
   simp[h3 h]at this
 ·have hm:x∉ord:=fun hm=>by
   obtain⟨j,hj,e⟩:=List.getElem_of_mem hm
   exact h1 j (by omega) hj e
  rw[List.idxOf_eq_length hm];omega
def MA(ord:List Int)(x:Int):List Int:=if x∈ord then ord else ord++[x]
theorem T5(ord:List Int)(x:Int):x∈MA ord x:=by unfold MA;split<;>simp_all
theorem V2(ord:List Int)(x:Int):(MA ord x).idxOf x=ord.idxOf x:=by
 unfold MA;split
 ·rfl
 ·rename_i h;rw[List.idxOf_append,if_neg h,List.idxOf_eq_length h];simp
def HY(a b:List Int):Prop:= ∃m,b=a++m
theorem HY.refl(a:List Int):HY a a:=⟨[],by simp⟩
theorem HY.trans{a b c:List Int}(h:HY a b)(k:HY b c):HY a c:=by obtain⟨x,rfl⟩:=h;obtain⟨y,rfl⟩:=k;exact⟨x++y,by simp⟩
theorem HY.put(a:List Int)(x:Int):HY a (MA a x):=by unfold MA;split;exact .refl a;exact⟨[x],rfl⟩
theorem HY.mem{a b:List Int}(h:HY a b){x:Int}(hx:x∈a):x∈b:=by obtain⟨m,rfl⟩:=h;simp[hx]
theorem HY.ix{a b:List Int}(h:HY a b){x:Int}(hx:x∈a):b.idxOf x=a.idxOf x:=by obtain⟨m,rfl⟩:=h;rw[List.idxOf_append,if_pos hx]
theorem HY.get{a b:List Int}(h:HY a b){i:Nat}{x:Int}(hx:a[i]?=some x):b[i]?=some x:=by
 obtain⟨m,rfl⟩:=h;rw[List.getElem?_append_left (List.getElem?_eq_some_iff.1 hx).1];exact hx
theorem HY.len{a b:List Int}(h:HY a b):a.length≤b.length:=by obtain⟨m,rfl⟩:=h;simp
theorem Om.ext{l:Tb}{a b:List Int}{q:Int}{s:Vy}(h:Om l a q s)(he:HY a b):Om l b q s:=by
 obtain⟨h1,h2,h3⟩:=h
 refine⟨h1,?_,fun e hm=>he.mem (h3 e hm)⟩
 rw[h2]
 refine List.map_congr_left fun e hm=>?_
 simp only[LP,he.ix (h3 e hm)]
theorem Ren.put{l:Tb}{ord:List Int}(h:Ren l ord){x:Int}(h0:0≤x)(h1:x<l.length):Ren l (MA ord x):=by
 unfold MA;split
 ·exact h
 ·rename_i hx
  refine⟨List.nodup_append.2 ⟨h.nd,by simp,fun a ha b hb=>?_⟩,fun q hq=>?_⟩
  ·simp at hb;subst hb;rintro rfl;exact hx ha
  ·rcases List.mem_append.1 hq with hq|hq
   ·exact h.rg q hq
   ·simp at hq;subst hq;exact⟨h0,h1⟩
theorem Ren.le{l:Tb}{ord:List Int}(h:Ren l ord):ord.length≤l.length:=by
 have h1:(ord.map Int.toNat).Nodup:=by
  refine List.pairwise_map.2 (List.Pairwise.imp_of_mem (fun{a b} ha hb hab=>?_) h.nd)
  have:=h.rg a ha;have:=h.rg b hb;omega
 have:=DX (b:=List.range l.length) h1 (fun x hx=>by
  obtain⟨q,hq,rfl⟩:=List.mem_map.1 hx
  have:=h.rg q hq
  exact List.mem_range.2 (by omega))
 simpa using this
theorem PX{l:Tb}{n fu:Nat}(hw:E0 l)(h0:0<l.length)(hs:Nd l n)(hn:n<4294967296)(hf:n+1<fu):
  Ok (Gy fu l) (fun r=>E0 r∧Bt r 0=Bt l 0∧Nd r n∧0<r.length):=by
 have hln:=hs.1
 unfold Gy
 refine Ok.loop (X:=List Int×Tb×Nat) (fun x=>Ren l x.1∧x.1[0]?=some 0∧x.2.2=x.2.1.length∧x.2.1.length≤x.1.length∧∀(k:Nat) (q:Int) (s:Vy),x.1[k]?=some q→x.2.1[k]?=some s→Om l x.1 q s)
  (fun x=>l.length+1-x.2.2) ⟨⟨by simp,by simp;omega⟩,rfl,rfl,by simp,by simp⟩ (by simp only;omega) fun x nx hI _ hnx=>?_
 obtain⟨ord,out,k⟩:=x
 obtain⟨hR,hz,hk,hle,hrows⟩:=hI
 dsimp only at hR hz hk hle hrows
 subst hk
 have hol:=hR.le
 unfold Ek;dsimp only
 refine Ok.ite (fun hlt=>?_) fun hlt=>Ok.some ?_
 ·have hko:out.length<ord.length:=by omega
  have hq:=hR.rg _ (List.getElem_mem hko)
  have hrow:=Gv hq.1 hq.2
  have hm:Cs l ord[out.length]∈l:=hrow▸List.getElem_mem _
  have hE:=hw _ hm
  have hsl:=hs.2 _ hm
  refine Ok.BX hko (Ok.Rn hq.1 hq.2 (Ok.BX hko (Ok.Rn hq.1 hq.2 ?_)))
  rw[←hrow]
  generalize hst:Cs l ord[out.length]=st at hm hE hsl
  refine Ok.FX (fun j o es=>Ren l o∧HY ord o∧es=(st.2.take j).map (LP o)∧∀e∈st.2.take j,e.2.2∈o) st.2.length ⟨hR, .refl _,by simp,by simp⟩ (by omega) (fun j o es nx' hj hJ hn'=>?_) (fun o es nx' hJ=>?_)
  ·obtain⟨hRo,hext,rfl,hmem⟩:=hJ
   unfold Dk;dsimp only
   have hr:=hE.rg _ (List.getElem_mem hj)
   have hrl:=hRo.le
   refine Ok.iT (by omega) (Ok.BX hj ?_)
   have hgo:Ok (nx' (MA o st.2[j].2.2,(st.2.take j).map (LP o)++([(st.2[j].1,st.2[j].2.1,((o.idxOf st.2[j].2.2:Nat):Int))]:List (Int×Int×Int)),j+1)) (fun r=>E0 r∧Bt r 0=Bt l 0∧Nd r n∧0<r.length):=by
    refine hn' _ _ ⟨hRo.put hr.2.2.2.1 hr.2.2.2.2,hext.trans (.put _ _),?_,fun e he=>?_⟩
    ·rw[←List.take_append_getElem hj,List.map_append]
     congr 1
     ·refine List.map_congr_left fun e he=>?_
      simp only[LP,(HY.put o st.2[j].2.2).ix (hmem e he)]
     ·simp only[List.map_cons,List.map_nil,LP,V2]
    ·rcases(Cw hj).1 he with h|rfl
     ·exact(HY.put _ _).mem (hmem e h)
     ·exact T5 _ _
   refine Ok.loop (X:=Int) (fun i=>(0≤i∧i≤o.length)∧∀q (_:q<i.toNat) (hq:q<o.length),o[q]≠st.2[j].2.2) (fun i=>o.length-i.toNat) ⟨⟨by decide,by omega⟩,fun q h=>by simp at h⟩ (by simp;omega) fun i nx2 hI _ hn2=>?_
   obtain⟨⟨hi0,hi1⟩,hno⟩:=hI
   unfold Ej
   have hcap:((st.2.take j).map (LP o)).length+([(st.2[j].1,st.2[j].2.1,i)]:List (Int×Int×Int)).length≤AH:=by
    simp only[List.length_map,List.length_take,List.length_cons,List.length_nil];unfold AH;omega
   refine Ok.ite (fun hi=>?_) fun hi=>?_
   ·have hio:i.toNat<o.length:=by omega
    refine Ok.Rn hi0 hi (Ok.ite (fun hne=>Ok.A0 (by unfold C0;omega) (hn2 (i+1) ⟨by omega,fun q h1 h2=>?_⟩ (by omega))) fun heq=>?_)
    ·rcases Nat.lt_or_ge q i.toNat with h3|h3
     ·exact hno q h3 h2
     ·obtain rfl:q=i.toNat:=by omega
      exact hne
    ·have heq:o[i.toNat]=st.2[j].2.2:=Classical.byContradiction heq
     have hix:o.idxOf st.2[j].2.2=i.toNat:=Qr hno (by omega) fun _=>heq
     have hin:st.2[j].2.2∈o:=heq▸List.getElem_mem hio
     refine Ok.iF (by omega) ?_
     unfold Ei
     refine Ok.A0 hcap ?_
     rw[hix,Int.toNat_of_nonneg hi0]at hgo
     unfold MA at hgo;rw[if_pos hin]at hgo;exact hgo
   ·have hio:i.toNat=o.length:=by omega
    have hin:st.2[j].2.2∉o:=fun hm=>by
     obtain⟨q,hq,e⟩:=List.getElem_of_mem hm
     exact hno q (by omega) hq e
    have hix:o.idxOf st.2[j].2.2=i.toNat:=by rw[List.idxOf_eq_length hin,hio]
    refine Ok.iT (by omega) (Ok.A0 (by simp;unfold AH;omega) ?_)
    unfold Eh
    refine Ok.A0 hcap ?_
    rw[hix,Int.toNat_of_nonneg hi0]at hgo
    unfold MA at hgo;rw[if_neg hin]at hgo;exact hgo
  ·obtain⟨hRo,hext,rfl,hmem⟩:=hJ
   unfold Dk;dsimp only
   rw[DN]at hmem
   have:=hext.len
   refine Ok.iF (by omega) (Ok.A0 (by simp;unfold AH;omega) (hnx _ ⟨hRo,hext.get hz,by simp,by simp;omega,fun k q s hk hs'=>?_⟩ (by dsimp only;omega)))
   by_cases hkl:k<out.length
   ·rw[List.getElem?_append_left hkl]at hs'
    have hk':ord[k]?=some ord[k]:=List.getElem?_eq_getElem (by omega)
    have hk2:=hext.get hk'
    rw[hk]at hk2
    obtain rfl:q=ord[k]:=by simpa using hk2
    exact(hrows k _ s hk' hs').ext hext
   ·rw[List.getElem?_append_right (by omega)]at hs'
    have hkl':k=out.length:=by
     have:=(List.getElem?_eq_some_iff.1 hs').1;simp at this;omega
    subst hkl'
    simp at hs';subst hs'
    have hk2:=hext.get (List.getElem?_eq_getElem hko)
    rw[hk]at hk2
    obtain rfl:q=ord[out.length]:=by simpa using hk2
    refine⟨by rw[hst],by rw[hst,DN],by rw[hst];exact hmem⟩
 ·have hl:out.length=ord.length:=by omega
  obtain⟨h1,h2⟩:=Xz hw hR hl hrows
  have hpos:=(List.getElem?_eq_some_iff.1 hz).1
  refine⟨h1,funext fun w=>h2 w 0 0 hz,⟨by omega,fun s hs'=>?_⟩,by omega⟩
  obtain⟨k,hk,rfl⟩:=List.getElem_of_mem hs'
  have hq:ord[k]?=some ord[k]:=List.getElem?_eq_getElem (by omega)
  have hrow:=(hrows k _ _ hq (List.getElem?_eq_getElem hk)).2.1
  have hqr:=hR.rg _ (List.mem_of_getElem? hq)
  rw[hrow,List.length_map,Gv hqr.1 hqr.2]
  exact hs.2 _ (List.getElem_mem _)
end Go.GL
namespace Go.GL
open Go.GK
theorem PU{a b:List Int}{fu:Nat}(hf:a.length<fu):Ok (FA fu a b) (fun r=>r=true↔a=b):=by
 unfold FA
 refine Ok.ite (fun h=>Ok.some ⟨fun h=>(by cases h),fun h'=>by subst h';exact absurd rfl h⟩) fun h=>?_
 have hl:a.length=b.length:=by omega
 refine Ok.count (fun k=> ∀j (_:j<k) (h:j<a.length) (h':j<b.length),a[j]=b[j]) a.length (by intro j h;omega) hf (fun k nx hk hJ hn=>?_) (fun nx hJ=>?_)
 ·unfold Dj
  refine Ok.iT (by omega) (Ok.BX hk (Ok.BX (by omega) (Ok.ite (fun h=>Ok.some ⟨fun h=>(by cases h),fun h'=>by subst h';exact absurd rfl h⟩) fun h=>hn fun j hj h1 h2=>?_)))
  rcases Nat.lt_or_ge j k with h3|h3
  ·exact hJ j h3 h1 h2
  ·obtain rfl:j=k:=by omega
   exact Classical.byContradiction h
 ·unfold Dj
  exact Ok.iF (by omega) (Ok.some ⟨fun _=>Jf hl fun j h h'=>hJ j h h h',fun _=>rfl⟩)
theorem UE{α:Type} [BEq α] [LawfulBEq α]{ord:List α}{x:α}{i:Nat}(h1:∀j (_:j<i) (hj:j<ord.length),ord[j]≠x)(hi:i<ord.length)(h3:ord[i]=x):ord.idxOf x=i:=by
 have hm:x∈ord:=h3▸List.getElem_mem hi
 have hlt:=List.idxOf_lt_length_of_mem hm
 have hg:=List.getElem_idxOf hlt
 rcases Nat.lt_trichotomy (ord.idxOf x) i with h4|h4|h4
 ·exact absurd hg (h1 _ h4 hlt)
 ·exact h4
 ·exfalso
  have:=List.not_of_lt_findIdx (p:=fun y=>y==x) (xs:=ord) (i:=i) (by simpa [List.idxOf]using h4)
  simp[h3]at this
theorem MX{l:List (List Int)}{x:List Int}{fu m:Nat}(hf:l.length<fu)(hm:∀y∈l,y.length≤m)(hmf:m<fu):Ok (Hn fu l x) (fun r=>if x∈l then r=(l.idxOf x:Nat)else r= -1):=by
 unfold Hn
 refine Ok.count (fun k=> ∀j (_:j<k) (h:j<l.length),l[j]≠x) l.length (by intro j h;omega) hf (fun k nx hk hJ hn=>?_) (fun nx hJ=>?_)
 ·unfold Fc
  refine Ok.iT (by omega) (Ok.BX hk (Ok.AX (PU (by have:=hm _ (List.getElem_mem hk);omega)) fun r hr=>Ok.bif (fun h=>Ok.some ?_) fun h=>hn fun j hj h1=>?_))
  ·have he:=hr.1 h
   rw[if_pos (he▸List.getElem_mem hk),UE hJ hk he]
  ·rcases Nat.lt_or_ge j k with h3|h3
   ·exact hJ j h3 h1
   ·obtain rfl:j=k:=by omega
    intro he;rw[hr.2 he]at h;cases h
 ·unfold Fc
  refine Ok.iF (by omega) (Ok.some ?_)
  rw[if_neg fun hx=>?_]
  obtain⟨j,hj,e⟩:=List.getElem_of_mem hx
  exact hJ j hj hj e
def Trim(l:Tb):Prop:= ∀(q:Int) (b:Nat),0≤D8 l q b→live (Bt l (D8 l q b))=true
def c5(c:Nat→Int)(t:Int):Int:=if t<0 then t else c t.toNat
def HC(l:Tb)(cs:List Int)(c:Nat→Int)(s:Nat):List Int:=c s::cs.map fun b=>c5 c (D8 l (s:Nat) b.toNat)
structure Cl5B(l:Tb)(c:Nat→Int):Prop where
 rg:∀s,s<l.length→0≤c s
structure SF(l:Tb)(c:Nat→Int):Prop where
 iff:∀s t,s<l.length→t<l.length→(c s=c t↔Bt l (s:Nat)=Bt l (t:Nat))
theorem Iu{l:Tb}{cs:List Int}{c:Nat→Int}{s t:Nat} :HC l cs c s=HC l cs c t↔c s=c t∧∀b∈cs,c5 c (D8 l (s:Nat) b.toNat)=c5 c (D8 l (t:Nat) b.toNat):=by
 unfold HC
 rw[List.cons.injEq]
 constructor
 ·rintro⟨h1,h2⟩
  exact⟨h1,fun b hb=>by
   obtain⟨i,hi,rfl⟩:=List.getElem_of_mem hb
   have:=congrArg (·[i]?) h2
   simpa [hi]using this⟩
 ·rintro⟨h1,h2⟩;exact⟨h1,List.map_congr_left h2⟩
theorem Ql{l:Tb}(hw:E0 l){cs:List Int}(hc:Co cs)(hf:Gk cs l)(c:Nat→Int)(hB:Cl5B l c)
  (h1:∀s t,s<l.length→t<l.length→c s=c t→(Cs l (s:Nat)).1=(Cs l (t:Nat)).1)
  (h2:∀s t,s<l.length→t<l.length→c s=c t→∀b∈cs,c5 c (D8 l (s:Nat) b.toNat)=c5 c (D8 l (t:Nat) b.toNat)):
  ∀(w:List UInt8) (s t:Nat),s<l.length→t<l.length→c s=c t→Bt l (s:Nat) w=Bt l (t:Nat) w
 | [],s,t,hs,ht,h=>by simp[Bt,runT,fin,h1 s t hs ht h]
 |b::w,s,t,hs,ht,h=>by
  obtain⟨i,hi,g1,g2⟩:=hc.find b.toNat b.toNat_lt
  have e:∀q:Nat,Bt l (q:Nat) (b::w)=Bt l (D8 l (q:Nat) cs[i].toNat) w:=fun q=>by
   show Bt l (D8 l (q:Nat) b.toNat) w=_
   rw[hf.const hc hw hi g1 g2]
  have hk:=h2 s t hs ht h _ (List.getElem_mem hi)
  have r1:=hw.st (s:Nat) cs[i].toNat
  have r2:=hw.st (t:Nat) cs[i].toNat
  rw[e,e]
  unfold c5 at hk
  by_cases n1:D8 l (s:Nat) cs[i].toNat<0
  ·by_cases n2:D8 l (t:Nat) cs[i].toNat<0
   ·rw[FI n1,FI n2]
   ·rw[if_pos n1,if_neg n2]at hk
    have:=hB.rg (D8 l (t:Nat) cs[i].toNat).toNat (by omega)
    omega
  ·by_cases n2:D8 l (t:Nat) cs[i].toNat<0
   ·rw[if_neg n1,if_pos n2]at hk
    have:=hB.rg (D8 l (s:Nat) cs[i].toNat).toNat (by omega)
    omega
   ·rw[if_neg n1,if_neg n2]at hk
    have:=Ql hw hc hf c hB h1 h2 w _ _ (by omega) (by omega) hk
    rwa [Int.toNat_of_nonneg (by omega),Int.toNat_of_nonneg (by omega)]at this
theorem Uv{l:Tb}(hw:E0 l)(ht:Trim l){cs:List Int}(hc:Co cs){c:Nat→Int}(hfw:∀s t,s<l.length→t<l.length→Bt l (s:Nat)=Bt l (t:Nat)→c s=c t){s t:Nat}(hs:s<l.length)(htl:t<l.length)(h:Bt l (s:Nat)=Bt l (t:Nat)):
  HC l cs c s=HC l cs c t:=by
 refine Iu.2 ⟨hfw s t hs htl h,fun b hb=>?_⟩
 have hr:=hc.rg b hb
 have r1:=hw.st (s:Nat) b.toNat
 have r2:=hw.st (t:Nat) b.toNat
 have hd:Bt l (D8 l (s:Nat) b.toNat)=Bt l (D8 l (t:Nat) b.toNat):=by rw[←HL _ _ _ (by omega),←HL _ _ _ (by omega),h]
 unfold c5
 by_cases n1:D8 l (s:Nat) b.toNat<0
 ·by_cases n2:D8 l (t:Nat) b.toNat<0
  ·rw[if_pos n1,if_pos n2];omega
  ·have:=ht (t:Nat) b.toNat (by omega)
   rw[←hd,Ht n1]at this;cases this
 ·by_cases n2:D8 l (t:Nat) b.toNat<0
  ·have:=ht (s:Nat) b.toNat (by omega)
   rw[hd,Ht n2]at this;cases this
  ·rw[if_neg n1,if_neg n2]
   refine hfw _ _ (by omega) (by omega) ?_
   rw[Int.toNat_of_nonneg (by omega),Int.toNat_of_nonneg (by omega),hd]
theorem IE.inj{α:Type}{n:Nat}{f:Nat→α}{u:List α}(h:IE n f u)(he:n≤u.length):∀s t,s<n→t<n→f s=f t→s=t:=fun s t hs ht hf=>by
 have hv:IE n (fun i=>i) (List.range n):=⟨List.nodup_range,fun x=>by simp⟩
 have:=(h.UJ hv (fun s t _ _ e=>by rw[e])).2 (by have:=h.le;simp;omega) s t hs ht hf
 exact this
structure Z2(l:Tb)(k r:Nat)(c:Nat→Int):Prop extends Cl5B l c where
 fwd:∀s t,s<l.length→t<l.length→Bt l (s:Nat)=Bt l (t:Nat)→c s=c t
 acc:∀s t,s<l.length→t<l.length→c s=c t→(Cs l (s:Nat)).1=(Cs l (t:Nat)).1
 HV:k=0∨∃(key:Nat→List Int) (u:List (List Int)),IE l.length key u∧u.length=k∧∀s t,s<l.length→t<l.length→c s=c t→key s=key t
 Z4:r≤k
theorem QH {l : Tb} {cs : List Int} {n fu : Nat} (hw : E0 l) (htr : Trim l) (h0 : 0 < l.length) (hc : Co cs) (hf : Gk cs l) (hs : Nd l n) (hn : n < 4294967296) (hfu : n + 2 < fu) (hfu' : 257 < fu) :
    Ok (GA fu l cs) (fun r => ∃ c, SF l c ∧ r = CY l.length c) := by
  have hln := hs.1
  have hcl := hc.le
  have hrow : ∀ k (hk : k < l.length), Cs l (k : Nat) = l[k] := fun k hk => Gv (by omega) (by omega)
  unfold GA
  refine Ok.A0 (by unfold AH; omega) ?_
  rw [E4]
  refine Ok.range (fun k x => x = CY l.length (fun s => if s < k then (if (Cs l (s : Nat)).1 then 1 else 0) else 0)) l.length (by simp) (by omega) (fun k x nx hk hx hnx => ?_) (fun x nx hx => ?_)
  · subst hx
    unfold DT; dsimp only
    refine Ok.iT (by omega) (Ok.BX hk (Ok.bif (fun h => Ok.BZ (Bw hk) (hnx _ ?_)) fun h => hnx _ (BT fun s hs => ?_)))
    · rw [Cx]
      refine BT fun s hs => ?_
      by_cases h1 : s = k
      · subst h1; simp [h, hrow s hk]
      · rw [if_neg h1]
        by_cases h2 : s < k
        · simp [h2, show s < k + 1 by omega]
        · simp [h2, show ¬ s < k + 1 by omega]
    · by_cases h1 : s = k
      · subst h1; simp [h, hrow s hk]
      · by_cases h2 : s < k
        · simp [h2, show s < k + 1 by omega]
        · simp [h2, show ¬ s < k + 1 by omega]
  · subst hx
    unfold DT; dsimp only
    refine Ok.iF (by omega) ?_
    refine Ok.FX (S := List Int) (T := Nat) (fun r cl k => k ≤ l.length ∧ ∃ c, cl = CY l.length c ∧ Z2 l k r c) l.length ⟨by omega, _, rf, ⟨fun s hs => ?_⟩, fun s t hs ht h => ?_, fun s t hs ht h => ?_, .inl rf, Nat.le_refl _⟩ (by omega) (fun r cl k nx' hr hI hnx => ?_) (fun cl k nx' hI => ?_)
    · rw [if_pos hs]; cases (Cs l (s : Nat)).1 <;> simp
    · rw [if_pos hs, if_pos ht]
      have := congrFun h []
      simp [Bt, runT, fin] at this
      rw [this]
    · simp only [hs, ht, if_true] at h
      cases h1 : (Cs l (s : Nat)).1 <;> cases h2 : (Cs l (t : Nat)).1 <;> simp [h1, h2] at h ⊢
    · obtain ⟨hkl, c, rfl, hI⟩ := hI
      unfold Ds; dsimp only
      refine Ok.iT (by omega) (Ok.A0 (by unfold AH; omega) ?_)
      rw [E4]
      refine Ok.FX (fun j y u => IE j (HC l cs c) u ∧ (∀ x ∈ u, x.length = cs.length + 1) ∧ y = CY l.length (fun s => if s < j then ((u.idxOf (HC l cs c s) : Nat) : Int) else 0)) l.length ⟨.zero _, by simp, by simp⟩ (by omega) (fun j y u nx2 hj hJ hn2 => ?_) (fun y u nx2 hJ => ?_)
      · obtain ⟨hu, hul, rfl⟩ := hJ
        have hule := hu.le
        unfold Dr; dsimp only
        refine Ok.iT (by omega) (Ok.BZ (Bw hj) ?_)
        refine Ok.range (fun i x => x = c j :: (cs.take i).map fun b => c5 c (D8 l (j : Nat) b.toNat)) cs.length (by simp) (by omega) (fun i x nx3 hi hx hn3 => ?_) (fun x nx3 hx => ?_)
        · subst hx
          unfold Dq; dsimp only
          have hci := hc.rg _ (List.getElem_mem hi)
          have hst := hw.st (j : Nat) cs[i].toNat
          have hgo : Ok (Dp fu (c j :: (cs.take i).map fun b => c5 c (D8 l (j : Nat) b.toNat)) i nx3 (c5 c (D8 l (j : Nat) cs[i].toNat))) (fun r => ∃ c, SF l c ∧ r = CY l.length c) := by
            unfold Dp
            refine Ok.A0 (by simp; unfold AH; omega) (hn3 _ ?_)
            rw [← List.take_append_getElem hi, List.map_append]; rfl
          refine Ok.iT (by omega) (Ok.BX hi (Ok.A0 (by unfold F8; omega) (Ok.AX (Q := fun r => r = D8 l (j : Nat) cs[i].toNat) ?_ fun a ha => ?_)))
          · have hstep := RK (b := cs[i].toNat) (i := (j : Int)) hs (by omega : n < fu) (by omega)
            rwa [Int.toNat_of_nonneg hci.1] at hstep
          · subst ha
            refine Ok.ite (fun h => Ok.BZ (DF h (by omega)) ?_) fun h => ?_
            · unfold c5 at hgo; rw [if_neg (by omega)] at hgo; exact hgo
            · unfold c5 at hgo; rw [if_pos (by omega)] at hgo; exact hgo
        · subst hx
          unfold Dq; dsimp only
          rw [DN]
          refine Ok.iF (by omega) (Ok.AX (MX (m := cs.length + 1) (by omega) (fun y hy => by rw [hul y hy]; exact Nat.le_refl _) (by omega)) fun a ha => ?_)
          have hkey : (c j :: cs.map fun b => c5 c (D8 l (j : Nat) b.toNat)) = HC l cs c j := rfl
          rw [hkey] at ha ⊢
          refine Ok.ite (fun h => ?_) fun h => ?_
          · have hnu : HC l cs c j ∉ u := fun hm => by rw [if_pos hm] at ha; omega
            refine Ok.A0 (by simp; unfold AH; omega) ?_
            unfold Dn
            refine Ok.BZ (Bw hj) (hn2 _ _ ⟨hu.new hnu, fun x hx => ?_, ?_⟩)
            · rcases List.mem_append.1 hx with hx | hx
              · exact hul x hx
              · simp at hx; subst hx; simp [HC]
            · rw [Cx]
              refine BT fun s hs => ?_
              by_cases h1 : s = j
              · subst h1; rw [if_pos rfl, if_pos (by omega), List.idxOf_append, if_neg hnu]; simp
              · rw [if_neg h1]
                by_cases h2 : s < j
                · rw [if_pos h2, if_pos (by omega), List.idxOf_append, if_pos ((hu.mem _).2 ⟨s, h2, rfl⟩)]
                · rw [if_neg h2, if_neg (by omega)]
          · have hnu : HC l cs c j ∈ u := Classical.byContradiction fun hm => by rw [if_neg hm] at ha; omega
            rw [if_pos hnu] at ha
            unfold Dn
            refine Ok.BZ (Bw hj) (hn2 _ _ ⟨hu.Z7 hnu, hul, ?_⟩)
            rw [Cx, ha]
            refine BT fun s hs => ?_
            by_cases h1 : s = j
            · subst h1; rw [if_pos rfl, if_pos (by omega)]
            · rw [if_neg h1]
              by_cases h2 : s < j
              · rw [if_pos h2, if_pos (by omega)]
              · rw [if_neg h2, if_neg (by omega)]
      · obtain ⟨hu, hul, rfl⟩ := hJ
        have hule := hu.le
        have hmem : ∀ s, s < l.length → HC l cs c s ∈ u := fun s hs => (hu.mem _).2 ⟨s, hs, rfl⟩
        have hpos : 0 < u.length := List.length_pos_of_mem (hmem 0 h0)
        unfold Dr; dsimp only
        have hcl2 : CY l.length (fun s => if s < l.length then ((u.idxOf (HC l cs c s) : Nat) : Int) else 0) = CY l.length (fun s => ((u.idxOf (HC l cs c s) : Nat) : Int)) :=
          BT fun s hs => by rw [if_pos hs]
        rw [hcl2]
        have hiff : ∀ s t, s < l.length → t < l.length → (((u.idxOf (HC l cs c s) : Nat) : Int) = ((u.idxOf (HC l cs c t) : Nat) : Int) ↔ HC l cs c s = HC l cs c t) := fun s t hs ht =>
          ⟨fun h => N4 (hmem s hs) (hmem t ht) (Int.ofNat_inj.1 h), fun h => by rw [h]⟩
        have hfw : ∀ s t, s < l.length → t < l.length → Bt l (s : Nat) = Bt l (t : Nat) → HC l cs c s = HC l cs c t := fun s t hs ht h => Uv hw htr hc hI.fwd hs ht h
        refine Ok.iF (by omega) (Ok.ite (fun h => Ok.some ⟨fun s => ((u.idxOf (HC l cs c s) : Nat) : Int), ⟨fun s t hs ht => ?_⟩, rf⟩) fun h => ?_)
        · rw [hiff s t hs ht]
          refine ⟨fun he => ?_, hfw s t hs ht⟩
          have hk' : u.length = k := by omega
          obtain ⟨key, v, hv, hvl, hck⟩ := hI.HV.resolve_left (by omega)
          have hfin := (hv.UJ hu (fun s t hs ht h => hck s t hs ht (Iu.1 h).1)).2 (by omega)
          funext w
          exact Ql hw hc hf c hI.toCl5B (fun s t hs ht h => hI.acc s t hs ht h) (fun s t hs ht h => (Iu.1 (hfin s t hs ht (hck s t hs ht h))).2) w s t hs ht (Iu.1 he).1
        · have hlt : k < u.length := by
            rcases hI.HV with h0 | ⟨key, v, hv, hvl, hck⟩
            · omega
            · have := (hv.UJ hu (fun s t hs ht h => hck s t hs ht (Iu.1 h).1)).1
              omega
          have := hI.Z4
          exact hnx _ _ ⟨hule, _, rf, ⟨⟨fun s hs => by omega⟩, fun s t hs ht h => (hiff s t hs ht).2 (hfw s t hs ht h), fun s t hs ht h => hI.acc s t hs ht (Iu.1 ((hiff s t hs ht).1 h)).1, .inr ⟨HC l cs c, u, hu, rf, fun s t hs ht h => (hiff s t hs ht).1 h⟩, by omega⟩⟩
    · obtain ⟨hkl, c, rfl, hI⟩ := hI
      unfold Ds; dsimp only
      refine Ok.iF (by omega) (Ok.some ⟨c, ⟨fun s t hs ht => ⟨fun h => ?_, hI.fwd s t hs ht⟩⟩, rf⟩)
      have := hI.Z4
      obtain ⟨key, v, hv, hvl, hck⟩ := hI.HV.resolve_left (by omega)
      rw [hv.inj (by omega) s t hs ht (hck s t hs ht h)]
end Go.GL
namespace Go.GL
open Go.GK
theorem Qh{A:List GO}{s:Nat}{p:AD}{t:Int} :∀ {q0:Nat},(∃q,(p,t,q)∈F0 q0 A s)↔∃e∈A,e.2.2.2=false∧e.1=(s:Int)∧e.2.2.1=p∧e.2.1=t:=by
 induction A with
 |nil=>intro q0;simp[F0]
 |cons e A ih=>
  intro q0
  rw[FZ]
  constructor
  ·rintro⟨q,h⟩
   rcases List.mem_append.1 h with h|h
   ·split at h
    ·cases h
    ·rename_i h1
     split at h
     ·rename_i h2
      simp at h
      exact⟨e,by simp,by simpa using h1,h2,h.1.symm,h.2.1.symm⟩
     ·cases h
   ·obtain⟨e',he,h'⟩:=ih.1 ⟨q,h⟩
    exact⟨e',by simp[he],h'⟩
  ·rintro⟨e',he,h1,h2,h3,h4⟩
   rcases List.mem_cons.1 he with rfl|he
   ·refine⟨(q0:Int),List.mem_append.2 (.inl ?_)⟩
    rw[if_neg (by rw[h1];decide),if_pos h2,h3,h4];simp
   ·obtain⟨q,h⟩:=(ih (q0:=q0+if e.2.2.2=true then 0 else 1)).2 ⟨e',he,h1,h2,h3,h4⟩
    exact⟨q,List.mem_append.2 (.inr h)⟩
def WV(S:List Int)(b:Nat)(e:GO):List Int:=if e.2.2.2=false∧e.1∈S∧e.2.2.1 b=true then [e.2.1]else []
def tg(A:List GO)(S:List Int)(b:Nat):List Int:=A.flatMap (WV S b)
theorem Ri{A:List GO}{S:List Int}{b:Nat}{u:Int} :u∈tg A S b↔∃e∈A,e.2.2.2=false∧e.1∈S∧e.2.2.1 b=true∧e.2.1=u:=by
 unfold tg WV
 rw[List.mem_flatMap]
 constructor
 ·rintro⟨e,he,h⟩
  split at h
  ·rename_i h1
   simp at h
   exact⟨e,he,h1.1,h1.2.1,h1.2.2,h.symm⟩
  ·cases h
 ·rintro⟨e,he,h1,h2,h3,h4⟩
  exact⟨e,he,by rw[if_pos ⟨h1,h2,h3⟩];simp[h4]⟩
theorem TM(A:List GO)(S:List Int)(b:Nat):(tg A S b).length≤A.length:=by
 have:=GH (l:=A) (g:=WV S b) (c:=1) fun e _=>by unfold WV;split<;>simp
 unfold tg;omega
theorem Lt{X:XT}{c:Nat}(hX:XB X c){S:List Int}(hS:∀s∈S,0≤s∧s<X.2){b:Nat}{u:Int} :u∈tg X.1 S b↔u∈mv (AB X) S b:=by
 have hget:∀s:Int,0≤s→s<X.2→(AB X).2.1.getD s.toNat []=F0 0 X.1 s.toNat:=fun s h0 h1=>by
  rw[show(AB X).2.1=CY X.2.toNat (F0 0 X.1)from rfl,List.getD_eq_getElem?_getD,EU (by omega)];rfl
 rw[Ri]
 unfold mv MK
 rw[List.mem_flatMap]
 constructor
 ·rintro⟨e,he,h1,h2,h3,h4⟩
  have hr:=hS _ h2
  refine⟨e.1,h2,?_⟩
  rw[hget _ hr.1 hr.2]
  obtain⟨q,hq⟩:=(Qh (A:=X.1) (s:=e.1.toNat) (p:=e.2.2.1) (t:=e.2.1) (q0:=0)).2 ⟨e,he,h1,by omega,rfl,rfl⟩
  exact List.mem_map.2 ⟨_,List.mem_filter.2 ⟨hq,h3⟩,h4⟩
 ·rintro⟨s,hs,h⟩
  have hr:=hS s hs
  rw[hget _ hr.1 hr.2]at h
  obtain⟨⟨p,t,q⟩,he,rfl⟩:=List.mem_map.1 h
  obtain⟨he,hp⟩:=List.mem_filter.1 he
  obtain⟨e,h1,h2,h3,h4,h5⟩:=(Qh (A:=X.1) (s:=s.toNat) (p:=p) (t:=t) (q0:=0)).1 ⟨q,he⟩
  exact⟨e,h1,h2,by rw[h3,show((s.toNat:Nat):Int)=s by omega];exact hs,by rw[h4];exact hp,h5⟩
theorem Hz{N:NT}{l l':List Int}(h:∀x,x∈l↔x∈l'):Cq N l=Cq N l':=by
 have e:∀s,fr N l s↔fr N l' s:=fun s=>⟨fun⟨x,hx,hc⟩=>⟨x,(h x).1 hx,hc⟩,fun⟨x,hx,hc⟩=>⟨x,(h x).2 hx,hc⟩⟩
 unfold Cq
 exact Ia fun s _=>decide_eq_decide.2 (e s)
theorem NR{l l':List Int}(h:∀x,x∈l↔x∈l'):l=[]↔l'=[]:=by
 rw[List.eq_nil_iff_forall_not_mem,List.eq_nil_iff_forall_not_mem]
 exact⟨fun k x hx=>k x ((h x).2 hx),fun k x hx=>k x ((h x).1 hx)⟩
theorem Pb{l:List Int}{x:Int}{fu:Nat}(hl:l.length≤100000000)(hf:200000000≤fu):Ok (II fu l x) (fun r=>r=decide (x∈l)):=by
 unfold II
 refine Ok.count (fun k=>x∉l.take k) l.length (by simp) (by omega) (fun k nx hk hJ hn=>?_) (fun nx hJ=>?_)
 ·unfold FY
  refine Ok.iT (by omega) (Ok.BX hk (Ok.ite (fun h=>Ok.some ?_) fun h=>hn ?_))
  ·exact(decide_eq_true (by rw[←h];exact List.getElem_mem hk)).symm
  ·rw[Cw hk];rintro(h1|h1)
   ·exact hJ h1
   ·exact h h1.symm
 ·unfold FY
  rw[List.take_of_length_le (Nat.le_refl _)]at hJ
  exact Ok.iF (by omega) (Ok.some (decide_eq_false hJ).symm)
theorem TN{A:List GO}{cs:List Int}(h:KZ A cs){i:Nat}(hi:i<cs.length){b:Nat}(h1:cs[i]≤(b:Int))(h2:(b:Int)≤Hd cs i)(S:List Int):tg A S b=tg A S cs[i].toNat:=by
 have:∀B:List GO,(∀e∈B,e∈A)→tg B S b=tg B S cs[i].toNat:=fun B=>by
  induction B with
  |nil=>intro _;rfl
  |cons e B ih=>
   intro hB
   have e1:=h i hi b h1 h2 e (hB e (by simp))
   have e2:=ih fun e he=>hB e (by simp[he])
   unfold tg at e2⊢
   rw[List.flatMap_cons,List.flatMap_cons,e2]
   congr 1
   unfold WV;rw[e1]
 exact this A fun _ h=>h
theorem X3{P:Tb→Prop}{X:XT}{c fu k i B:Nat}{cs:List Int}{x:Int}{S:List Int}{L:List (List Int)}{es:List Fw}{nx:(List (List Int)×List Fw×Nat)→Option Tb}
  (hX:XB X c) (hc:c≤4000) (hk:L[k]?=some S) (hR:∀S∈L,FT (AB X) 0 S) (hnd:L.Nodup) (hB:∀L:List (List Int),L.Nodup→(∀S∈L,FT (AB X) 0 S)→L.length≤B) (hB':B≤100000000) (hf:200000000≤fu)
  (hx:0≤x∧x<256) (hcs:Co cs) (hi:i<cs.length) (hxi:cs[i]=x) (hes:es.length≤256)
  (hskip:tg X.1 S x.toNat=[]→Ok (nx (L,es,i+1)) P)
  (hnew:tg X.1 S x.toNat≠ []→∀L' more,L'.Nodup→(∀S∈L',FT (AB X) 0 S)→L'=L++more→Cq (AB X) (tg X.1 S x.toNat)∈L'→Ok (nx (L',es++[(x,Hd cs i,((L'.idxOf (Cq (AB X) (tg X.1 S x.toNat)):Nat):Int))],i+1)) P):
  Ok (Ax fu (fun p nx'=>DH fu X cs k L es i nx x p.1 p.2 nx') (([]:List Int),0)) P:=by
 have hxl:=hX.len
 have hn0:=hX.n0
 have hn1:=hX.n1
 have hS:=hR S (List.mem_of_getElem? hk)
 have hnl:(AB X).1.length=X.2.toNat:=(CH X).1
 have hSl:=hS.len
 have hSr:∀s∈S,0≤s∧s<X.2:=fun s hs=>by have:=hS.rg hs;omega
 refine Ok.range (fun j s=>s=tg (X.1.take j) S x.toNat) X.1.length rf (by omega) (fun j s nx2 hj hJ hn2=>?_) (fun s nx2 hJ=>?_)
 ·subst hJ
  unfold DH
  dsimp only
  have hl:=TM (X.1.take j) S x.toNat
  have htl:(X.1.take j).length≤X.1.length:=by rw[List.length_take];omega
  have hnx:tg (X.1.take (j+1)) S x.toNat=tg (X.1.take j) S x.toNat++WV S x.toNat X.1[j]:=by
   rw[show X.1.take (j+1)=X.1.take j++[X.1[j]]from(List.take_append_getElem hj).symm]
   unfold tg;rw[List.flatMap_append];simp
  rw[hnx]at hn2
  refine Ok.iT (by omega) (Ok.BX hj ?_)
  generalize X.1[j]=e at hn2
  have skip:¬(e.2.2.2=false∧e.1∈S∧e.2.2.1 x.toNat=true)→Ok (nx2 (tg (X.1.take j) S x.toNat,j+1)) P:=fun h=>hn2 _ (by unfold WV;rw[if_neg h,List.append_nil])
  refine Ok.bif (fun h=>?_) fun h=>skip fun h'=>by rw[h'.1]at h;cases h
  have h:e.2.2.2=false:=by cases hh:e.2.2.2<;>simp[hh]at h⊢
  refine Ok.I8 (by omega) (by rw[Int.toNat_natCast];exact hk) (Ok.AX (Pb (by omega) hf) fun r hr=>?_)
  subst hr
  refine Ok.ite (fun h1=>Ok.A0 (by unfold F8;omega) (Ok.bif (fun h2=>Ok.A0 (by simp only[List.length_cons,List.length_nil];unfold AH;omega) (hn2 _ ?_)) fun h2=>skip fun h'=>by rw[h'.2.2]at h2;cases h2)) fun h1=>skip fun h'=>h1 h'.2.1
  unfold WV;rw[if_pos ⟨h,h1,h2⟩]
 ·subst hJ
  unfold DH
  dsimp only
  rw[List.take_of_length_le (Nat.le_refl _)]
  refine Ok.iF (by omega) (Ok.ite (fun h=>hskip (List.length_eq_zero_iff.1 (by omega))) fun h=>?_)
  have hne:tg X.1 S x.toNat≠ []:=fun e=>by rw[e]at h;exact h rfl
  have hmem:=fun u=>Lt hX hSr (b:=x.toNat) (u:=u)
  have hRn:FT (AB X) 0 (Cq (AB X) (tg X.1 S x.toNat)):=by
   rw[Hz hmem]
   exact .step hS (by omega) fun e=>hne ((NR hmem).2 e)
  have hl:=TM X.1 S x.toNat
  refine Ok.AX (Ji hX hc (fun u hu=>by
   obtain⟨e,he,_,_,_,rfl⟩:=Ri.1 hu
   exact(hX.rg e he).2) (by omega) hf) fun r hr=>?_
  subst hr
  have hnew:=hnew hne
  generalize Cq (AB X) (tg X.1 S x.toNat)=T at hRn hnew
  have hLB:=hB L hnd hR
  have hhi:=hcs.hi hi
  have fin:∀L' more,L'.Nodup→(∀S∈L',FT (AB X) 0 S)→L'=L++more→T∈L'→∀t:Int,t=((L'.idxOf T:Nat):Int)→Ok (Er fu cs es i nx x L' t) P:=fun L' more a1 a2 a3 a4 t ht=>by
   subst ht
   have go:=hnew L' more a1 a2 a3 a4
   have j21:∀y:Int,y=Hd cs i→Ok (Ep fu es i nx x L' ((L'.idxOf T:Nat):Int) y) P:=fun y hy=>by
    subst hy
    unfold Ep
    exact Ok.A0 (by unfold F8;omega) (Ok.A0 (by unfold F8;omega) (Ok.A0 (by simp only[List.length_cons,List.length_nil];unfold AH;omega) go))
   unfold Er
   refine Ok.ite (fun h1=>?_) fun h1=>j21 255 (Iw (by omega)).symm
   have h1':i+1<cs.length:=by omega
   have hr:=hcs.rg _ (List.getElem_mem h1')
   refine Ok.I8 (a:=cs[i+1]) (by omega) (by rw[show(((i:Nat):Int)+1).toNat=i+1 by omega];exact List.getElem?_eq_getElem h1') (Ok.A0 (by unfold C0;omega) (j21 _ (GG h1').symm))
  refine Ok.AX (MX (m:=4000) (by omega) (fun y hy=>by have:=(hR y hy).len;omega) (by omega)) fun r hr=>?_
  by_cases hin:T∈L
  ·rw[if_pos hin]at hr
   exact Ok.iF (by omega) (fin L [] hnd hR (by simp) hin _ hr)
  ·rw[if_neg hin]at hr
   refine Ok.iT (by omega) (Ok.A0 (by simp only[List.length_cons,List.length_nil];unfold AH;omega) (fin (L++[T]) [T] ?_ ?_ rf (by simp) _ ?_))
   ·exact List.nodup_append.2 ⟨hnd,by simp,fun a ha b hb=>by simp at hb;subst hb;exact fun e=>hin (e▸ha)⟩
   ·intro S' hS'
    rcases List.mem_append.1 hS' with h|h
    ·exact hR S' h
    ·simp at h;subst h;exact hRn
   ·rw[List.idxOf_append,if_neg hin];simp
end Go.GL
namespace Go.GL
open Go.GK
def Kn(A:List GO)(i:Nat):Nat:=I9 (A.take i)
def Pz(S:List Int)(b:Nat)(e:GO):Bool:= !e.2.2.2&&decide (e.1∈S)&&e.2.2.1 b
def ix(A:List GO)(S:List Int)(b:Nat):List Int:=K6 A.length fun i=>(A[i]?).any (Pz S b)
theorem Ir{s:Nat}{p:AD}{t q:Int} :∀ {A:List GO} {q0:Nat},(p,t,q)∈F0 q0 A s↔∃(i:Nat) (e:GO),A[i]?=some e∧e.2.2.2=false∧e.1=(s:Int)∧e.2.2.1=p∧e.2.1=t∧q=((q0+Kn A i:Nat):Int)
 | [],q0=>by simp[F0]
 |e::A,q0=>by
  rw[FZ,List.mem_append,Ir (A:=A)]
  constructor
  ·rintro(h|⟨i,e',h1,h2,h3,h4,h5,h6⟩)
   ·split at h
    ·cases h
    ·rename_i h1
     split at h
     ·rename_i h2
      simp at h
      exact⟨0,e,rf,by simpa using h1,h2,h.1.symm,h.2.1.symm,by rw[h.2.2];simp[Kn,I9]⟩
     ·cases h
   ·refine⟨i+1,e',h1,h2,h3,h4,h5,?_⟩
    rw[h6];unfold Kn;rw[List.take_succ_cons,Gd];omega
  ·rintro⟨i,e',h1,h2,h3,h4,h5,h6⟩
   cases i with
   |zero=>
    simp at h1;subst h1
    left
    rw[if_neg (by rw[h2];decide),if_pos h3,h4,h5,h6];simp[Kn,I9]
   |succ i=>
    refine .inr ⟨i,e',h1,h2,h3,h4,h5,?_⟩
    rw[h6];unfold Kn;rw[List.take_succ_cons,Gd];omega
theorem RQ{A:List GO}{i j:Nat}{e:GO}(hi:A[i]?=some e)(he:e.2.2.2=false)(hij:i<j):Kn A i<Kn A j:=by
 have hlt:=(List.getElem?_eq_some_iff.1 hi).1
 have e1:A.take j=A.take i++(A.drop i).take (j-i):=by
  rw[←List.take_append_drop i (A.take j),List.take_take,Nat.min_eq_left (by omega),List.drop_take]
 have e2:(A.drop i).take (j-i)=e::(A.drop (i+1)).take (j-i-1):=by
  rw[List.drop_eq_getElem_cons hlt,show j-i=(j-i-1)+1 by omega,List.take_succ_cons]
  rw[List.getElem?_eq_getElem hlt]at hi;cases hi
  simp
 unfold Kn
 rw[e1,e2,M6,Gd,if_neg (by rw[he];decide)];omega
theorem PY{A:List GO}{i j:Nat}{e e':GO}(hi:A[i]?=some e)(he:e.2.2.2=false)(hj:A[j]?=some e')(he':e'.2.2.2=false)(h:Kn A i=Kn A j):i=j:=by
 rcases Nat.lt_trichotomy i j with h1|h1|h1
 ·have:=RQ hi he h1;omega
 ·exact h1
 ·have:=RQ hj he' h1;omega
theorem HS{A:List GO}{S:List Int}{b:Nat}{x:Int} :x∈ix A S b↔∃(i:Nat) (e:GO),A[i]?=some e∧e.2.2.2=false∧e.1∈S∧e.2.2.1 b=true∧x=(i:Int):=by
 unfold ix
 rw[Kv]
 constructor
 ·rintro⟨h0,h1,h2⟩
  cases he:A[x.toNat]? with
  |none=>rw[he]at h2;cases h2
  |some e=>
   rw[he]at h2
   simp[Pz]at h2
   exact⟨x.toNat,e,he,h2.1.1,h2.1.2,h2.2,by omega⟩
 ·rintro⟨i,e,h1,h2,h3,h4,rfl⟩
  have:=(List.getElem?_eq_some_iff.1 h1).1
  refine⟨by omega,by omega,?_⟩
  rw[Int.toNat_natCast,h1];simp[Pz,h2,h3,h4]
theorem J3{X:XT}{c:Nat}(hX:XB X c){S:List Int}(hS:∀s∈S,0≤s∧s<X.2){b:Nat}{q:Int} :q∈ps (AB X) S b↔∃(i:Nat) (e:GO),X.1[i]?=some e∧e.2.2.2=false∧e.1∈S∧e.2.2.1 b=true∧q=(Kn X.1 i:Int):=by
 have hget:∀s:Int,0≤s→s<X.2→(AB X).2.1.getD s.toNat []=F0 0 X.1 s.toNat:=fun s h0 h1=>by
  rw[show(AB X).2.1=CY X.2.toNat (F0 0 X.1)from rfl,List.getD_eq_getElem?_getD,EU (by omega)];rfl
 unfold ps RT
 rw[List.mem_flatMap]
 constructor
 ·rintro⟨s,hs,h⟩
  have hr:=hS s hs
  rw[hget _ hr.1 hr.2]at h
  obtain⟨⟨p,t,q'⟩,he,rfl⟩:=List.mem_map.1 h
  obtain⟨he,hp⟩:=List.mem_filter.1 he
  obtain⟨i,e,h1,h2,h3,h4,h5,h6⟩:=Ir.1 he
  refine⟨i,e,h1,h2,by rw[h3,show((s.toNat:Nat):Int)=s by omega];exact hs,by rw[h4];exact hp,?_⟩
  dsimp only at h6⊢
  rw[h6];simp
 ·rintro⟨i,e,h1,h2,h3,h4,rfl⟩
  have hr:=hS _ h3
  refine⟨e.1,h3,?_⟩
  rw[hget _ hr.1 hr.2]
  exact List.mem_map.2 ⟨(e.2.2.1,e.2.1,(Kn X.1 i:Int)),List.mem_filter.2 ⟨Ir.2 ⟨i,e,h1,h2,by omega,rf,rf,by simp⟩,h4⟩,rf⟩
end Go.GL
namespace Go.GL
open Go.GK
theorem P'{s:Nat} :∀ {A:List GO} {q0:Nat},(F0 q0 A s).Pairwise fun x y=>x.2.2<y.2.2
 | [],_=> .nil
 |e::A,q0=>by
  rw[FZ]
  refine List.pairwise_append.2 ⟨?_,P',fun x hx y hy=>?_⟩
  ·split
   ·exact .nil
   ·split<;>simp
  ·split at hx
   ·cases hx
   ·rename_i h1
    split at hx
    ·simp at hx;subst hx
     obtain⟨p,t,q⟩:=y
     obtain⟨i,e',_,_,_,_,_,h6⟩:=Ir.1 hy
     dsimp only;rw[h6,if_neg h1];omega
    ·cases hx
theorem P6{X:XT}{S:List Int}(hS:∀s∈S,0≤s∧s<X.2)(hn:S.Nodup)(b:Nat):(ps (AB X) S b).Nodup:=by
 have hget:∀s:Int,0≤s→s<X.2→(AB X).2.1.getD s.toNat []=F0 0 X.1 s.toNat:=fun s h0 h1=>by
  rw[show(AB X).2.1=CY X.2.toNat (F0 0 X.1)from rfl,List.getD_eq_getElem?_getD,EU (by omega)];rfl
 unfold ps RT
 refine List.pairwise_flatMap.2 ⟨fun s hs=>?_,?_⟩
 ·have hr:=hS s hs
  rw[hget _ hr.1 hr.2]
  exact List.pairwise_map.2 (List.Pairwise.imp (fun{x y} h=>by omega) (List.Pairwise.filter _ P'))
 ·refine List.Pairwise.imp_of_mem (fun{s s'} hs hs' hne q hq q' hq'=>?_) hn
  have hr:=hS s hs
  have hr':=hS s' hs'
  rw[hget _ hr.1 hr.2]at hq
  rw[hget _ hr'.1 hr'.2]at hq'
  obtain⟨⟨p,t,q1⟩,he,rfl⟩:=List.mem_map.1 hq
  obtain⟨⟨p',t',q2⟩,he',rfl⟩:=List.mem_map.1 hq'
  obtain⟨i,e,h1,h2,h3,_,_,h6⟩:=Ir.1 (List.mem_filter.1 he).1
  obtain⟨i',e',h1',h2',h3',_,_,h6'⟩:=Ir.1 (List.mem_filter.1 he').1
  dsimp only at h6 h6'⊢
  intro heq
  rw[h6,h6']at heq
  obtain rfl:=PY h1 h2 h1' h2' (by omega)
  rw[h1]at h1';cases h1'
  exact hne (by omega)
theorem PQ{l m:List Int}(hl:l.Nodup)(hm:m.Nodup)(h:∀x,x∈l↔x∈m):CD l=CD m:=by
 have hp:l.Perm m:=(List.perm_ext_iff_of_nodup hl hm).2 h
 have srt:∀l:List Int,(CD l).Pairwise fun a b=>(decide (a≤b))=true:=fun l=>Gq (fun _=>True) (fun a b c _ _ _ h k=>by simp at*;omega) (fun a b _ _=>by simp;omega) l fun _ _=>trivial
 exact List.Perm.eq_of_pairwise (le:=fun a b=>decide (a≤b)=true) (fun a b _ _ h k=>by simp at h k;omega) (srt l) (srt m) (((C1 _ l).trans hp).trans (C1 _ m).symm)
theorem Rm{X:XT}{c:Nat}(hX:XB X c){S S':List Int}(hS:∀s∈S,0≤s∧s<X.2)(hn:S.Nodup)(hS':∀s∈S',0≤s∧s<X.2)(hn':S'.Nodup){b b':Nat} :
  ER (CD (ps (AB X) S b))=ER (CD (ps (AB X) S' b'))↔ix X.1 S b=ix X.1 S' b':=by
 have nn:∀ {S:List Int} (_:∀s∈S,0≤s∧s<X.2) {b:Nat},∀z∈CD (ps (AB X) S b),0≤z:=fun hS b z hz=>by
  obtain⟨i,e,_,_,_,_,rfl⟩:=(J3 hX hS).1 (Ib.1 hz)
  omega
 have step:∀ {S S':List Int} {b b':Nat} (_:∀s∈S,0≤s∧s<X.2) (_:∀s∈S',0≤s∧s<X.2),(∀q,q∈ps (AB X) S b↔q∈ps (AB X) S' b')→∀x,x∈ix X.1 S b→x∈ix X.1 S' b':=fun{S S' b b'} hS hS' h x hx=>by
  obtain⟨i,e,h1,h2,h3,h4,rfl⟩:=HS.1 hx
  obtain⟨i',e',h1',h2',h3',h4',h5⟩:=(J3 hX hS').1 ((h _).1 ((J3 hX hS).2 ⟨i,e,h1,h2,h3,h4,rfl⟩))
  obtain rfl:=PY h1 h2 h1' h2' (by omega)
  exact HS.2 ⟨i,e',h1',h2',h3',h4',rf⟩
 constructor
 ·intro h
  have h:=key_inj (nn hS) (nn hS') h
  have hm:∀q,q∈ps (AB X) S b↔q∈ps (AB X) S' b':=fun q=>by rw[←Ib,h,Ib]
  have hx:∀x,x∈ix X.1 S b↔x∈ix X.1 S' b':=fun x=>⟨step hS hS' hm x,step hS' hS (fun q=>(hm q).symm) x⟩
  unfold ix at hx⊢
  refine Ia fun s hs=>?_
  have:=hx (s:Int)
  rw[Kv,Kv,Int.toNat_natCast]at this
  have h2:=Iff.intro (fun h=>(this.1 ⟨by omega,by omega,h⟩).2.2) fun h=>(this.2 ⟨by omega,by omega,h⟩).2.2
  exact Bool.eq_iff_iff.2 h2
 ·intro h
  rw[PQ (P6 hS hn b) (P6 hS' hn' b') fun q=>?_]
  rw[J3 hX hS,J3 hX hS']
  have conv:∀ {S S':List Int} {b b':Nat},ix X.1 S b=ix X.1 S' b'→(∃(i:Nat) (e:GO),X.1[i]?=some e∧e.2.2.2=false∧e.1∈S∧e.2.2.1 b=true∧q=(Kn X.1 i:Int))→∃(i:Nat) (e:GO),X.1[i]?=some e∧e.2.2.2=false∧e.1∈S'∧e.2.2.1 b'=true∧q=(Kn X.1 i:Int):=fun h ⟨i,e,h1,h2,h3,h4,h5⟩=>by
   obtain⟨i',e',h1',h2',h3',h4',h6⟩:=HS.1 (h▸HS.2 ⟨i,e,h1,h2,h3,h4,rfl⟩)
   obtain rfl:i=i':=by omega
   exact⟨i,e',h1',h2',h3',h4',h5⟩
  exact⟨conv h,conv h.symm⟩
end Go.GL
namespace Go.GL
open Go.GK
def Xi(X:XT)(Q:List Int):Prop:= ∃S b,FT (AB X) 0 S∧b<256∧Q=ix X.1 S b∧Q≠ []
theorem PH{A:List GO}{S:List Int}{b:Nat}{u:Int} :u∈tg A S b↔∃(i:Nat) (e:GO),(i:Int)∈ix A S b∧A[i]?=some e∧e.2.1=u:=by
 rw[Ri]
 constructor
 ·rintro⟨e,he,h1,h2,h3,h4⟩
  obtain⟨i,hi⟩:=List.mem_iff_getElem?.1 he
  exact⟨i,e,HS.2 ⟨i,e,hi,h1,h2,h3,rf⟩,hi,h4⟩
 ·rintro⟨i,e,hi,he,h4⟩
  obtain⟨j,e',h1,h2,h3,h5,h6⟩:=HS.1 hi
  obtain rfl:i=j:=by omega
  rw[he]at h1;cases h1
  exact⟨e,List.mem_of_getElem? he,h2,h3,h5,h4⟩
theorem FT.nd{N:NT}{a:Int}{S:List Int}(h:FT N a S):S.Nodup:=by
 obtain⟨l,rfl⟩:=h.is
 unfold Cq K6 ints
 exact List.pairwise_map.2 (List.Pairwise.imp (fun{a b} h=>by omega) (List.Pairwise.filter _ List.pairwise_lt_range))
theorem V4{N:NT}{p:AD}(hp:p∈BH (CK N)){x:Nat}(hx:x<256)(h:p x=true)(S:List Int):ps N S (De p)=ps N S x:=by
 have hal:=(Gh _ _ _).1 (((Il (CK N)).cls p hp x (De p) hx (HT p) h).1 (R9 hx h))
 have hrow:∀k,RT (De p) (N.2.1.getD k [])=RT x (N.2.1.getD k []):=fun k=>by
  unfold RT
  congr 1
  refine List.filter_congr fun e he=>?_
  rw[List.getD_eq_getElem?_getD]at he
  cases hk:N.2.1[k]? with
  |none=>rw[hk]at he;cases he
  |some l=>
   rw[hk]at he
   exact(hal e.1 (List.mem_flatMap.2 ⟨l,List.mem_of_getElem? hk,List.mem_map.2 ⟨e,he,rf⟩⟩)).symm
 unfold ps
 exact congrArg (fun f=>S.flatMap f) (funext fun s=>hrow s.toNat)
theorem XU{X:XT}{c:Nat}(hX:XB X c)(h:ae (AB X) 0 false){Qs:List (List Int)}(hn:Qs.Nodup)(hQ:∀Q∈Qs,Xi X Q):Qs.length≤500:=by
 obtain⟨W,u,hW,hu,hM⟩:=h rfl
 have hnl:(AB X).1.length=X.2.toNat:=(CH X).1
 have hn0:=hX.n0
 have rg:∀ {S},FT (AB X) 0 S→∀s∈S,0≤s∧s<X.2:=fun hS s hs=>by have:=hS.rg hs;omega
 have key:∀ {S},S∈W→∀b,b<256→ps (AB X) S b≠ []→MQ (AB X) S b∈u:=fun{S} hS b hb hne=>by
  obtain⟨k,hk⟩:=List.mem_iff_getElem?.1 hS
  have I:=Il (CK (AB X))
  obtain⟨p,hp,hpb⟩:=(I.seen b hb).1 (I.upto b hb hb)
  have e:=V4 hp hb hpb S
  have:=hM.cl k (List.getElem?_eq_some_iff.1 hk).1 S hk p hp (by rw[e];exact hne)
  unfold MQ at this⊢
  rwa [e]at this
 have all:∀ {S},FT (AB X) 0 S→S∈W:=fun hS=>by
  induction hS with
  |start=>exact hM.st
  | @step S b hR hb hm ih=>
   have hne:ps (AB X) S b≠ []:=fun e=>hm (List.length_eq_zero_iff.1 (by rw[←MB,e];rfl))
   obtain⟨S',b',e1,e2,e3,e4,e5⟩:=hM.kc _ (key ih b hb hne)
   have hix:=(Rm hX (rg hR) hR.nd (rg e1) e1.nd).1 e4
   have:Cq (AB X) (mv (AB X) S b)=Cq (AB X) (mv (AB X) S' b'):=Hz fun x=>by
    rw[←Lt hX (rg hR),←Lt hX (rg e1),PH,PH,hix]
   rw[this];exact e5
 have hmap:∀Q∈Qs,∃S b,FT (AB X) 0 S∧Q=ix X.1 S b∧MQ (AB X) S b∈u:=fun Q hq=>by
  obtain⟨S,b,h1,h2,h3,h4⟩:=hQ Q hq
  refine⟨S,b,h1,h3,key (all h1) b h2 fun e=>h4 ?_⟩
  rw[h3,List.eq_nil_iff_forall_not_mem]
  intro x hx
  obtain⟨i,e',q1,q2,q3,q4,_⟩:=HS.1 hx
  have:=(J3 hX (rg h1)).2 ⟨i,e',q1,q2,q3,q4,rfl⟩
  rw[e]at this;cases this
 let f:List Int→Cb:=fun Q=>open Classical in if h:∃S b,FT (AB X) 0 S∧Q=ix X.1 S b∧MQ (AB X) S b∈u then MQ (AB X) h.choose h.choose_spec.choose else []
 have hf:∀Q∈Qs,f Q∈u∧∃S b,FT (AB X) 0 S∧Q=ix X.1 S b∧f Q=MQ (AB X) S b:=fun Q hq=>by
  have h:=hmap Q hq
  have e:f Q=MQ (AB X) h.choose h.choose_spec.choose:=dif_pos h
  have hs:=h.choose_spec.choose_spec
  exact⟨by rw[e];exact hs.2.2,_,_,hs.1,hs.2.1,e⟩
 have hnd:(Qs.map f).Nodup:=by
  refine List.pairwise_map.2 (List.Pairwise.imp_of_mem (fun{Q Q'} h1 h2 hne he=>?_) hn)
  obtain⟨_,S,b,a1,a2,a3⟩:=hf Q h1
  obtain⟨_,S',b',b1,b2,b3⟩:=hf Q' h2
  rw[a3,b3]at he
  exact hne (by rw[a2,b2];exact(Rm hX (rg a1) a1.nd (rg b1) b1.nd).1 he)
 have:=DX hnd fun x hx=>by
  obtain⟨Q,hq,rfl⟩:=List.mem_map.1 hx
  exact(hf Q hq).1
 rw[List.length_map]at this;omega
theorem We{X:XT}{c:Nat}(hX:XB X c)(h:ZD (AB X) 0 true):∃Qs:List (List Int),Qs.Nodup∧Qs.length=501∧∀Q∈Qs,Xi X Q:=by
 obtain⟨ks,h1,h2,h3⟩:=h rfl
 have hnl:(AB X).1.length=X.2.toNat:=(CH X).1
 have hn0:=hX.n0
 have rg:∀ {S},FT (AB X) 0 S→∀s∈S,0≤s∧s<X.2:=fun hS s hs=>by have:=hS.rg hs;omega
 let f:Cb→List Int:=fun x=>open Classical in if h:Tw (AB X) 0 x then ix X.1 h.choose h.choose_spec.choose else []
 have hf:∀x∈ks,∃S b,FT (AB X) 0 S∧b<256∧ps (AB X) S b≠ []∧x=ER (CD (ps (AB X) S b))∧f x=ix X.1 S b:=fun x hx=>by
  have h:=h3 x hx
  have e:f x=ix X.1 h.choose h.choose_spec.choose:=dif_pos h
  have hs:=h.choose_spec.choose_spec
  exact⟨_,_,hs.1,hs.2.1,hs.2.2.1,hs.2.2.2,e⟩
 refine⟨ks.map f,List.pairwise_map.2 (List.Pairwise.imp_of_mem (fun{x y} hx hy hne he=>?_) h1),by rw[List.length_map,h2],fun Q hQ=>?_⟩
 ·obtain⟨S,b,a1,_,_,a4,a5⟩:=hf x hx
  obtain⟨S',b',b1,_,_,b4,b5⟩:=hf y hy
  rw[a5,b5]at he
  exact hne (by rw[a4,b4];exact(Rm hX (rg a1) a1.nd (rg b1) b1.nd).2 he)
 ·obtain⟨x,hx,rfl⟩:=List.mem_map.1 hQ
  obtain⟨S,b,a1,a2,a3,_,a5⟩:=hf x hx
  refine⟨S,b,a1,a2,a5,fun e=>a3 ?_⟩
  rw[List.eq_nil_iff_forall_not_mem]
  intro q hq
  obtain⟨i,e',q1,q2,q3,q4,_⟩:=(J3 hX (rg a1)).1 hq
  have:=HS.2 ⟨i,e',q1,q2,q3,q4,rfl⟩
  rw[←a5,e]at this;cases this
end Go.GL
namespace Go.GL
open Go.GK
def SJ(A:List GO)(Q:List Int):List Int:=Q.filterMap fun i=>(A[i.toNat]?).map fun e=>e.2.1
theorem R6{A:List GO}{S:List Int}{b:Nat}{u:Int} :u∈SJ A (ix A S b)↔u∈tg A S b:=by
 rw[PH]
 unfold SJ
 rw[List.mem_filterMap]
 constructor
 ·rintro⟨x,hx,h⟩
  obtain⟨i,e,h1,h2,h3,h4,rfl⟩:=HS.1 hx
  rw[Int.toNat_natCast,h1]at h
  simp at h
  exact⟨i,e,hx,h1,h⟩
 ·rintro⟨i,e,h1,h2,h3⟩
  exact⟨(i:Int),h1,by rw[Int.toNat_natCast,h2];simp[h3]⟩
theorem Wj(A:List GO)(S:List Int)(b k:Nat)(hk:k<A.length):K6 (k+1) (fun i=>(A[i]?).any (Pz S b))=K6 k (fun i=>(A[i]?).any (Pz S b))++if Pz S b A[k]then [(k:Int)]else []:=by
 unfold K6
 rw[BM,Iv,List.getElem?_eq_getElem hk]
 simp only[Option.any_some]
 split<;>rfl
structure RI(X:XT)(W:List (List Int)):Prop where
 hd:W[0]?=some []
 nd:W.Nodup
 px:∀Q∈W,Q≠ []→Xi X Q
noncomputable def K7(X:XT)(k:Nat)(Q:List Int):List Int:=Cq (AB X) ((if k=0 then [0]else [])++SJ X.1 Q)
theorem RI.tail{X:XT}{W:List (List Int)}(h:RI X W):∃T,W=[]::T∧T.Nodup∧∀Q∈T,Xi X Q:=by
 cases W with
 |nil=>have:=h.hd;simp at this
 |cons Q T=>
  have h0:=h.hd
  simp at h0;subst h0
  have hn:=List.nodup_cons.1 h.nd
  exact⟨T,rf,hn.2,fun Q hQ=>h.px Q (by simp[hQ]) fun e=>hn.1 (e▸hQ)⟩
theorem RI.put{X:XT}{W:List (List Int)}(h:RI X W){Q:List Int}(hQ:Xi X Q)(hn:Q∉W):RI X (W++[Q]):=by
 obtain⟨T,rfl,_⟩:=h.tail
 refine⟨rfl,List.nodup_append.2 ⟨h.nd,by simp,fun a ha b hb=>by simp at hb;subst hb;exact fun e=>hn (e▸ha)⟩,fun R hR hne=>?_⟩
 rcases List.mem_append.1 hR with hR|hR
 ·exact h.px R hR hne
 ·simp at hR;subst hR;exact hQ
theorem VX{P:Bool→Prop}{X:XT}{c fu j:Nat}{S:List Int}{W:List (List Int)}{x:Int}{nx:(List (List Int)×Nat)→Option Bool}(hX:XB X c)(hc:c≤4000)(hS:S.length≤4000)(hWl:W.length≤501)(hW:∀Q∈W,Q.length≤4000)(hx:0≤x∧x<256)(hf:200000000≤fu)
  (hskip:ix X.1 S x.toNat=[]∨ix X.1 S x.toNat∈W→Ok (nx (W,j+1)) P)
  (hnew:ix X.1 S x.toNat≠ []→ix X.1 S x.toNat∉W→(W.length≤500→Ok (nx (W++[ix X.1 S x.toNat],j+1)) P)∧(W.length=501→Ok (some true) P)):
  Ok (Ax fu (fun p nx'=>Eb fu X S W j nx x p.1 p.2 nx') (([]:List Int),0)) P:=by
 have hxl:=hX.len
 refine Ok.range (fun k s=>s=K6 k fun i=>(X.1[i]?).any (Pz S x.toNat)) X.1.length rf (by omega) (fun k s nx2 hk hJ hn2=>?_) (fun s nx2 hJ=>?_)
 ·subst hJ
  unfold Eb
  dsimp only
  have hl:=Jp k fun i=>(X.1[i]?).any (Pz S x.toNat)
  rw[Wj X.1 S x.toNat k hk]at hn2
  refine Ok.iT (by omega) (Ok.BX hk ?_)
  generalize X.1[k]=e at hn2
  have skip:Pz S x.toNat e=false→Ok (nx2 (K6 k (fun i=>(X.1[i]?).any (Pz S x.toNat)),k+1)) P:=fun h=>hn2 _ (by rw[h];simp)
  refine Ok.bif (fun h=>?_) fun h=>skip (by unfold Pz;rw[h];rfl)
  refine Ok.AX (Pb (by omega) hf) fun r hr=>?_
  subst hr
  refine Ok.ite (fun h1=>Ok.A0 (by unfold F8;omega) (Ok.bif (fun h2=>Ok.A0 (by simp only[List.length_cons,List.length_nil];unfold AH;omega) (hn2 _ ?_)) fun h2=>skip (by unfold Pz;rw[h2];simp))) fun h1=>skip (by unfold Pz;rw[decide_eq_false h1];simp)
  rw[show Pz S x.toNat e=true by unfold Pz;rw[h,h2,decide_eq_true h1];rfl];rfl
 ·subst hJ
  unfold Eb
  dsimp only
  have hl:=Jp X.1.length fun i=>(X.1[i]?).any (Pz S x.toNat)
  rw[show(K6 X.1.length fun i=>(X.1[i]?).any (Pz S x.toNat))=ix X.1 S x.toNat from rfl]at hl⊢
  generalize ix X.1 S x.toNat=Q at hskip hnew hl
  refine Ok.iF (by omega) (Ok.ite (fun h=>?_) fun h=>Ok.iF (by omega) (hskip (.inl (List.length_eq_zero_iff.1 (by omega)))))
  have hne:Q≠ []:=fun e=>by rw[e]at h;simp at h
  refine Ok.AX (MX (m:=4000) (by omega) hW (by omega)) fun r hr=>?_
  by_cases hin:Q∈W
  ·rw[if_pos hin]at hr
   refine Ok.iF (by omega) ?_
   unfold EF
   exact Ok.iF (by omega) (hskip (.inr hin))
  ·rw[if_neg hin]at hr
   refine Ok.iT (by omega) (Ok.A0 (by simp only[List.length_cons,List.length_nil];unfold AH;omega) ?_)
   unfold EF
   obtain⟨a1,a2⟩:=hnew hne hin
   refine Ok.ite (fun h1=>a2 (by simp at h1;omega)) fun h1=>a1 (by simp at h1;omega)
end Go.GL
namespace Go.GL
open Go.GK
theorem Xp{X:XT}{c:Nat}(hX:XB X c){W:List (List Int)}(hW:RI X W){k:Nat}{Q:List Int}(hk:W[k]?=some Q):FT (AB X) 0 (K7 X k Q):=by
 have hnl:(AB X).1.length=X.2.toNat:=(CH X).1
 have hn0:=hX.n0
 obtain⟨T,rfl,hT,hp⟩:=hW.tail
 cases k with
 |zero=>simp at hk;subst hk;exact .start
 |succ k=>
  simp at hk
  obtain⟨S,b,h1,h2,h3,h4⟩:=hp Q (List.mem_of_getElem? hk)
  have hSr:∀s∈S,0≤s∧s<X.2:=fun s hs=>by have:=h1.rg hs;omega
  have e:∀x,x∈SJ X.1 Q↔x∈mv (AB X) S b:=fun x=>by rw[h3,R6,Lt hX hSr]
  have e2:K7 X (k+1) Q=Cq (AB X) (mv (AB X) S b):=by
   unfold K7;rw[if_neg (by omega),List.nil_append];exact Hz e
  rw[e2]
  refine .step h1 h2 fun hm=>h4 ?_
  rw[h3,List.eq_nil_iff_forall_not_mem]
  intro x hx
  obtain⟨i,e',q1,_,_,_,q5⟩:=HS.1 hx
  have:e'.2.1∈mv (AB X) S b:=(Lt hX hSr).1 (PH.2 ⟨i,e',q5▸hx,q1,rfl⟩)
  rw[hm]at this;cases this
end Go.GL
namespace Go.GL
open Go.GK
def RM(X:XT)(r:Bool):Prop:=(r=true→∃Qs:List (List Int),Qs.Nodup∧Qs.length=501∧∀Q∈Qs,Xi X Q)∧(r=false→∀Qs:List (List Int),Qs.Nodup→(∀Q∈Qs,Xi X Q)→Qs.length≤500)
theorem Uz{A:List GO}{cs:List Int}(h:KZ A cs){i:Nat}(hi:i<cs.length){b:Nat}(h1:cs[i]≤(b:Int))(h2:(b:Int)≤Hd cs i)(S:List Int):ix A S b=ix A S cs[i].toNat:=by
 unfold ix
 refine Ia fun k hk=>?_
 rw[List.getElem?_eq_getElem hk]
 simp only[Option.any_some,Pz]
 rw[h i hi b h1 h2 _ (List.getElem_mem hk)]
theorem Uy(A:List GO)(S:List Int)(b:Nat):(ix A S b).length≤A.length:=Jp _ _
theorem VY{X:XT}{c fu k:Nat}{S:List Int}{cs:List Int}{W:List (List Int)}{nx:(List (List Int)×Nat)→Option Bool}(hX:XB X c)(hc:c≤4000)(hcs:Co cs)(hR:FT (AB X) 0 S)(hW:RI X W)(hWl:W.length≤501)(hf:200000000≤fu)
  (hn:∀W' more,RI X W'→W'.length≤501→W'=W++more→(∀x∈cs,ix X.1 S x.toNat≠ []→ix X.1 S x.toNat∈W')→Ok (nx (W',k+1)) (RM X)):
  Ok (Ax fu (fun p nx'=>Ec fu X cs k nx S p.1 p.2 nx') (W,0)) (RM X):=by
 have hxl:=hX.len
 have hcl:=hcs.le
 have hSl:=hR.len
 have hnl:(AB X).1.length=X.2.toNat:=(CH X).1
 have hn1:=hX.n1
 have lens:∀ {W},RI X W→∀Q∈W,Q.length≤4000:=fun hW Q hQ=>by
  by_cases e:Q=[]
  ·subst e;simp
  ·obtain⟨S',b,_,_,e',_⟩:=hW.px Q hQ e
   rw[e'];have:=Uy X.1 S' b;omega
 refine Ok.range (fun j W'=>RI X W'∧W'.length≤501∧(∃more,W'=W++more)∧∀x∈cs.take j,ix X.1 S x.toNat≠ []→ix X.1 S x.toNat∈W') cs.length ⟨hW,hWl,⟨[],by simp⟩,by simp⟩ (by omega) (fun j W' nx2 hj hJ hn2=>?_) (fun W' nx2 hJ=>?_)
 ·obtain⟨i1,i2,⟨more,i3⟩,i4⟩:=hJ
  unfold Ec
  dsimp only
  have hr:=hcs.rg _ (List.getElem_mem hj)
  have hmt:=fun x:Int=>Cw (l:=cs) hj (x:=x)
  refine Ok.iT (by omega) (Ok.BX hj (VX hX hc (by omega) i2 (lens i1) hr hf (fun h=>hn2 _ ⟨i1,i2,⟨more,i3⟩,fun x hx hne=>?_⟩) fun hne hni=>⟨fun h5=>hn2 _ ⟨i1.put ⟨S,_,hR,by omega,rfl,hne⟩ hni,by simp;omega,⟨more++[_],by rw[i3,List.append_assoc]⟩,fun x hx hne'=>?_⟩,fun h5=>Ok.some ⟨fun _=>?_,fun h=>(by cases h)⟩⟩))
  ·rcases(hmt x).1 hx with hx|rfl
   ·exact i4 x hx hne
   ·exact h.elim (fun e=>absurd e hne) id
  ·rcases(hmt x).1 hx with hx|rfl
   ·exact List.mem_append.2 (.inl (i4 x hx hne'))
   ·exact List.mem_append.2 (.inr (by simp))
  ·obtain⟨T,e,hT,hp⟩:=(i1.put ⟨S,_,hR,by omega,rfl,hne⟩ hni).tail
   refine⟨T,hT,?_,hp⟩
   have:=congrArg List.length e
   simp at this;omega
 ·obtain⟨i1,i2,⟨more,i3⟩,i4⟩:=hJ
  unfold Ec
  dsimp only
  rw[List.take_of_length_le (Nat.le_refl _)]at i4
  exact Ok.iF (by omega) (hn W' more i1 i2 i3 i4)
end Go.GL
namespace Go.GL
open Go.GK
theorem TZ{X:XT}{c fu:Nat}(hX:XB X c)(hc:c≤4000)(h2:2≤X.2)(hf:200000000≤fu):Ok (Ja fu X) (RM X):=by
 have hxl:=hX.len
 have hn1:=hX.n1
 have hnl:(AB X).1.length=X.2.toNat:=(CH X).1
 unfold Ja
 refine Ok.AX (M7 hX hc hf) fun cs ⟨hcs,hcn⟩=>?_
 refine Ok.loop (fun(x:List (List Int)×Nat)=>RI X x.1∧x.1.length≤501∧x.2≤x.1.length∧∀(k':Nat) Q,k'<x.2→x.1[k']?=some Q→∀y∈cs,ix X.1 (K7 X k' Q) y.toNat≠ []→ix X.1 (K7 X k' Q) y.toNat∈x.1) (fun x=>502-x.2)
  ⟨⟨rfl,by simp,fun Q hQ hne=>by simp at hQ;exact absurd hQ hne⟩,by simp,by simp,fun k' Q h=>absurd h (Nat.not_lt_zero _)⟩ (by dsimp only;omega) fun x nx hI _ hn=>?_
 obtain⟨W,k⟩:=x
 obtain⟨i1,i2,i3,i4⟩:=hI
 dsimp only at i1 i2 i3 i4 hn
 unfold Gz
 dsimp only
 rcases Nat.lt_or_ge k W.length with hk|hk
 ·have hkQ:W[k]?=some W[k]:=List.getElem?_eq_getElem hk
  have main:∀l0:List Int,l0=(if k=0 then [0]else [])→Ok (EG fu X cs W k nx l0) (RM X):=fun l0 hl0=>by
   unfold EG
   refine Ok.BX hk ?_
   generalize W[k]=Q at hkQ
   have hQl:Q.length≤4000:=by
    by_cases e:Q=[]
    ·subst e;simp
    ·obtain⟨S',b,_,_,e',_⟩:=i1.px Q (List.mem_of_getElem? hkQ) e
     rw[e'];have:=Uy X.1 S' b;omega
   have hQr:∀i∈Q,0≤i∧i<X.1.length:=fun i hi=>by
    by_cases e:Q=[]
    ·subst e;cases hi
    ·obtain⟨S',b,_,_,e',_⟩:=i1.px Q (List.mem_of_getElem? hkQ) e
     rw[e']at hi
     have:=Kv.1 hi
     omega
   have hl0l:l0.length≤1:=by rw[hl0];split<;>simp
   refine Ok.range (fun j s=>s=l0++SJ X.1 (Q.take j)) Q.length (by simp[SJ]) (by omega) (fun j s nx2 hj hJ hn2=>?_) (fun s nx2 hJ=>?_)
   ·subst hJ
    unfold EH
    dsimp only
    have hr:=hQr _ (List.getElem_mem hj)
    have hl:(SJ X.1 (Q.take j)).length≤4000:=by
     unfold SJ
     have:=List.length_filterMap_le (fun i:Int=>(X.1[i.toNat]?).map fun e=>e.2.1) (Q.take j)
     rw[List.length_take]at this;omega
    refine Ok.iT (by omega) (Ok.BX hj (Ok.Rn hr.1 hr.2 (Ok.A0 (by rw[List.length_append];simp only[List.length_cons,List.length_nil];unfold AH;omega) (hn2 _ ?_))))
    rw[show Q.take (j+1)=Q.take j++[Q[j]]from(List.take_append_getElem hj).symm]
    unfold SJ
    rw[List.filterMap_append,←List.append_assoc]
    congr 1
    rw[List.filterMap_cons,List.getElem?_eq_getElem (by omega:Q[j].toNat<X.1.length)];rfl
   ·subst hJ
    unfold EH
    dsimp only
    rw[List.take_of_length_le (Nat.le_refl _)]
    have hst:Cq (AB X) (l0++SJ X.1 Q)=K7 X k Q:=by rw[hl0];rfl
    have hl:(SJ X.1 Q).length≤4000:=by
     unfold SJ
     have:=List.length_filterMap_le (fun i:Int=>(X.1[i.toNat]?).map fun e=>e.2.1) Q
     omega
    refine Ok.iF (by omega) (Ok.AX (Ji hX hc (fun y hy=>?_) (by rw[List.length_append];omega) hf) fun r hr=>?_)
    ·rcases List.mem_append.1 hy with hy|hy
     ·rw[hl0]at hy
      split at hy
      ·simp at hy;omega
      ·cases hy
     ·obtain⟨i,hi,h⟩:=List.mem_filterMap.1 hy
      cases he:X.1[i.toNat]? with
      |none=>rw[he]at h;cases h
      |some e=>
       rw[he]at h;simp at h;subst h
       exact(hX.rg e (List.mem_of_getElem? he)).2
    ·subst hr
     rw[hst]
     refine VY hX hc hcs (Xp hX i1 hkQ) i1 i2 hf fun W' more a1 a2 a3 a4=>hn (W',k+1) ⟨a1,a2,by dsimp only;rw[a3,List.length_append];omega,fun k' Q' hk' hQ' y hy hne=>?_⟩ (by dsimp only;omega)
     dsimp only at hk' hQ'⊢
     rw[a3,List.getElem?_append_left (by omega)]at hQ'
     rcases Nat.lt_or_ge k' k with h|h
     ·rw[a3];exact List.mem_append.2 (.inl (i4 k' Q' h hQ' y hy hne))
     ·obtain rfl:k'=k:=by omega
      rw[hkQ]at hQ';cases hQ'
      exact a4 y hy hne
  refine Ok.iT (by omega) (Ok.ite (fun h=>Ok.A0 (by simp;unfold AH;omega) (main _ (by rw[if_pos (by omega)];rfl))) fun h=>main _ (by rw[if_neg (by omega)]))
 ·refine Ok.iF (by omega) (Ok.some ⟨fun h=>(by cases h),fun _ Qs hQn hQ=>?_⟩)
  obtain⟨T,hWT,hTn,hTp⟩:=i1.tail
  have done:∀(k':Nat) Q,W[k']?=some Q→∀b,b<256→ix X.1 (K7 X k' Q) b≠ []→ix X.1 (K7 X k' Q) b∈W:=fun k' Q hQ' b hb hne=>by
   obtain⟨i,hi,a1,a2⟩:=hcs.find b hb
   rw[Uz hcn hi a1 a2 (K7 X k' Q)]at hne⊢
   exact i4 k' Q (by have:=(List.getElem?_eq_some_iff.1 hQ').1;omega) hQ' _ (List.getElem_mem hi) hne
  have all:∀ {S},FT (AB X) 0 S→∃(k':Nat) (Q:List Int),W[k']?=some Q∧K7 X k' Q=S:=fun hS=>by
   induction hS with
   |start=>exact⟨0,[],i1.hd,rfl⟩
   | @step S b hR hb hm ih=>
    obtain⟨k',Q,h1,rfl⟩:=ih
    have hSr:∀s∈K7 X k' Q,0≤s∧s<X.2:=fun s hs=>by have:=hR.rg hs;omega
    have hne:ix X.1 (K7 X k' Q) b≠ []:=fun e=>hm (by
     rw[List.eq_nil_iff_forall_not_mem]
     intro u hu
     obtain⟨i,e',q1,_⟩:=PH.1 ((Lt hX hSr).2 hu)
     rw[e]at q1;cases q1)
    obtain⟨k2,hk2⟩:=List.mem_iff_getElem?.1 (done k' Q h1 b hb hne)
    have hk0:k2≠0:=fun e=>by subst e;rw[i1.hd]at hk2;exact hne (Option.some.inj hk2).symm
    refine⟨k2,_,hk2,?_⟩
    show Cq (AB X) ((if k2=0 then [0]else [])++SJ X.1 (ix X.1 (K7 X k' Q) b))=_
    rw[if_neg hk0,List.nil_append]
    exact Hz fun u=>by rw[R6,Lt hX hSr]
  have:=DX (b:=T) hQn fun Q hq=>by
   obtain⟨S,b,a1,a2,a3,a4⟩:=hQ Q hq
   obtain⟨k',Q',e1,rfl⟩:=all a1
   have hin:=done k' Q' e1 b a2 (a3▸a4)
   rw[←a3,hWT]at hin
   exact(List.mem_cons.1 hin).elim (fun e=>absurd e a4) id
  rw[hWT]at i2
  simp at i2;omega
end Go.GL
namespace Go.GL
open Go.GK
theorem SK {P : Tb → Prop} {X : XT} {c fu k B : Nat} {cs : List Int} {S : List Int} {L0 : List (List Int)} {out : Tb} {nx : (List (List Int) × Tb × Nat) → Option Tb}
    (hX : XB X c) (hc : c ≤ 4000) (hk : L0[k]? = some S) (hR0 : ∀ S ∈ L0, FT (AB X) 0 S) (hnd0 : L0.Nodup) (hB : ∀ L : List (List Int), L.Nodup → (∀ S ∈ L, FT (AB X) 0 S) → L.length ≤ B) (hB' : B ≤ 100000000) (hf : 200000000 ≤ fu)
    (hcs : Co cs) (hcn : KZ X.1 cs) (hout : out.length ≤ 100000000)
    (hn : ∀ L more st, L.Nodup → (∀ S ∈ L, FT (AB X) 0 S) → L = L0 ++ more → KV (AB X) 1 L S st → Ok (nx (L, out ++ [st], k + 1)) P) :
    Ok (Ax fu (fun p nx' => DI fu X cs out k nx (decide ((1 : Int) ∈ S)) p.1 p.2.1 p.2.2 nx') (L0, ([] : List Fw), 0)) P := by
  have hxl := hX.len
  have hn1 := hX.n1
  have hn0 := hX.n0
  have hcl := hcs.le
  have hS := hR0 S (List.mem_of_getElem? hk)
  have hnl : (AB X).1.length = X.2.toNat := (CH X).1
  have hSr : ∀ s ∈ S, 0 ≤ s ∧ s < X.2 := fun s hs => by have := hS.rg hs; omega
  have hmem := fun b u => Lt hX hSr (b := b) (u := u)
  have hnil := fun b => NR (hmem b)
  have hclo := fun b => Hz (N := AB X) (hmem b)
  have hget : ∀ more, (L0 ++ more)[k]? = some S := fun more => by
    have := (List.getElem?_eq_some_iff.1 hk).1
    rw [List.getElem?_append_left this]; exact hk
  refine Ok.FX (fun i L es => L.Nodup ∧ (∀ S ∈ L, FT (AB X) 0 S) ∧ (∃ more, L = L0 ++ more) ∧ D9 es (pos cs i) L.length ∧
      (∀ x, x < pos cs i → BW es x = if mv (AB X) S x = [] then -1 else ((L.idxOf (Cq (AB X) (mv (AB X) S x)) : Nat) : Int)) ∧ ∀ x, x < pos cs i → mv (AB X) S x ≠ [] → Cq (AB X) (mv (AB X) S x) ∈ L)
    cs.length ⟨hnd0, hR0, ⟨[], by simp⟩, D9.nil, fun x hx => by rw [Kq hcs] at hx; omega, fun x hx => by rw [Kq hcs] at hx; omega⟩ (by omega) (fun i L es nx2 hi hJ hn2 => ?_) (fun L es nx2 hJ => ?_)
  · obtain ⟨i1, i2, ⟨more, rfl⟩, i3, i4, i5⟩ := hJ
    unfold DI
    dsimp only
    have hr := hcs.rg _ (List.getElem_mem hi)
    have hhi := hcs.hi hi
    have hp0 := pos_at hcs hi
    have hp1 := MC hcs hi
    refine Ok.iT (by omega) (Ok.BX hi ?_)
    have hcon : ∀ x : Nat, pos cs i ≤ x → x < pos cs (i + 1) → mv (AB X) S x = [] ∧ tg X.1 S cs[i].toNat = [] ∨ mv (AB X) S x ≠ [] ∧ tg X.1 S cs[i].toNat ≠ [] ∧ Cq (AB X) (mv (AB X) S x) = Cq (AB X) (tg X.1 S cs[i].toNat) := fun x h1 h2 => by
      have e := TN hcn hi (b := x) (by omega) (by omega) S
      rw [← hclo x, ← e]
      by_cases h : tg X.1 S x = []
      · exact .inl ⟨(hnil x).1 h, h⟩
      · exact .inr ⟨fun h' => h ((hnil x).2 h'), h, rf⟩
    have hlt : ∀ x : Nat, x < pos cs (i + 1) → x < pos cs i ∨ pos cs i ≤ x := fun x _ => by omega
    refine X3 hX hc (hget more) i2 i1 hB hB' hf hr hcs hi rf (by have := i3.len; have := MD hcs i; omega) (fun h => hn2 _ _ ⟨i1, i2, ⟨more, rf⟩, i3.mono (by omega) (Nat.le_refl _), fun x hx => ?_, fun x hx h1 => ?_⟩) fun h L' more' a1 a2 a3 a4 => hn2 _ _ ⟨a1, a2, ⟨more ++ more', by rw [a3, List.append_assoc]⟩, ?_, fun x hx => ?_, fun x hx h1 => ?_⟩
    · rcases hlt x hx with h1 | h1
      · exact i4 x h1
      · rcases hcon x h1 hx with ⟨h2, _⟩ | ⟨_, h2, _⟩
        · rw [if_pos h2]; exact NH i3 h1
        · exact absurd h h2
    · rcases hlt x hx with h2 | h2
      · exact i5 x h2 h1
      · rcases hcon x h2 hx with ⟨h3, _⟩ | ⟨_, h3, _⟩
        · exact absurd h3 h1
        · exact absurd h h3
    · have hix := List.idxOf_lt_length_of_mem a4
      refine ⟨fun e he => ?_, List.pairwise_append.2 ⟨i3.so, by simp, fun e he e' he' => ?_⟩⟩
      · rcases List.mem_append.1 he with he | he
        · have := i3.rg e he
          rw [a3, List.length_append]; omega
        · simp at he; subst he; dsimp only; omega
      · simp at he'; subst he'
        have := i3.rg e he; dsimp only; omega
    · rw [GY]
      have hnew : ∀ b : Nat, EL b (cs[i], Hd cs i, ((L'.idxOf (Cq (AB X) (tg X.1 S cs[i].toNat)) : Nat) : Int)) = (decide (cs[i] ≤ (b : Int)) && decide ((b : Int) ≤ Hd cs i)) := fun b => rfl
      rcases hlt x hx with h1 | h1
      · have h5 := i4 x h1
        have hidx : mv (AB X) S x ≠ [] → L'.idxOf (Cq (AB X) (mv (AB X) S x)) = (L0 ++ more).idxOf (Cq (AB X) (mv (AB X) S x)) := fun h2 => by rw [a3, List.idxOf_append, if_pos (i5 x h1 h2)]
        have hout2 : BW [(cs[i], Hd cs i, ((L'.idxOf (Cq (AB X) (tg X.1 S cs[i].toNat)) : Nat) : Int))] x = -1 := PL fun e he hi' => by
          simp at he; subst he; rw [hnew] at hi'; simp at hi'; omega
        have hes : (if (es.find? (EL x)).isSome = true then BW es x else BW [(cs[i], Hd cs i, ((L'.idxOf (Cq (AB X) (tg X.1 S cs[i].toNat)) : Nat) : Int))] x) = BW es x := by
          split
          · rfl
          · rename_i h2
            rw [hout2]
            unfold BW
            cases hfd : es.find? (EL x) with
            | none => rfl
            | some e => rw [hfd] at h2; simp at h2
        rw [hes, h5]
        split
        · rfl
        · rename_i h2; rw [hidx h2]
      · have hbig : (es.find? (EL x)).isSome = false := by
          cases hfd : es.find? (EL x) with
          | none => rfl
          | some e =>
            have h2 := i3.rg e (List.mem_of_find?_eq_some hfd)
            have h3 := List.find?_some hfd
            simp [EL] at h3; omega
        rw [hbig, if_neg (by decide)]
        rcases hcon x h1 hx with ⟨_, h2⟩ | ⟨h2, _, h3⟩
        · exact absurd h2 h
        · rw [if_neg h2, h3]
          exact PK (fun e he _ => by simp at he; subst he; rfl) ⟨_, List.mem_singleton.2 rfl, by rw [hnew]; simp; omega⟩
    · rcases hlt x hx with h2 | h2
      · rw [a3]; exact List.mem_append.2 (.inl (i5 x h2 h1))
      · rcases hcon x h2 hx with ⟨h3, _⟩ | ⟨_, _, h3⟩
        · exact absurd h3 h1
        · rw [h3]; exact a4
  · obtain ⟨i1, i2, ⟨more, rfl⟩, i3, i4, i5⟩ := hJ
    rw [OJ] at i3 i4 i5
    unfold DI
    dsimp only
    exact Ok.iF (by omega) (Ok.A0 (by simp only [List.length_cons, List.length_nil]; unfold AH; omega) (hn _ more _ i1 i2 rf ⟨rf, i3, i4, i5⟩))
theorem TO{X:XT}{c fu B:Nat}(hX:XB X c)(hc:c≤4000)(h2:2≤X.2)(hB:∀L:List (List Int),L.Nodup→(∀S∈L,FT (AB X) 0 S)→L.length≤B)(hB':B≤100000000)(hf:200000000≤fu):
  Ok (Ih fu X) (fun T=> ∃L,QR (AB X) 0 1 L T):=by
 have hn1:=hX.n1
 have hnl:(AB X).1.length=X.2.toNat:=(CH X).1
 unfold Ih
 refine Ok.AX (M7 hX hc hf) fun cs ⟨hcs,hcn⟩=>Ok.AX (Ji hX hc (fun x hx=>by simp at hx;subst hx;omega) (by simp) hf) fun r hr=>?_
 subst hr
 have hR:FT (AB X) 0 (Cq (AB X) [0]):= .start
 refine Ok.loop (fun(x:List (List Int)×Tb×Nat)=>x.1.Nodup∧(∀S∈x.1,FT (AB X) 0 S)∧x.2.1.length=x.2.2∧x.2.2≤x.1.length∧x.1[0]?=some (Cq (AB X) [0])∧∀(k:Nat) S st,x.1[k]?=some S→x.2.1[k]?=some st→KV (AB X) 1 x.1 S st) (fun x=>B-x.2.2)
  ⟨by simp,fun S hS=>by simp at hS;subst hS;exact hR,rfl,by simp,rfl,fun k S st _ h=>by simp at h⟩ (by dsimp only;omega) fun x nx hI _ hn=>?_
 obtain⟨L,out,k⟩:=x
 obtain⟨hnd,hL,h1,h2',h3,h4⟩:=hI
 dsimp only at hnd hL h1 h2' h3 h4 hn
 unfold EX
 dsimp only
 have hLB:=hB L hnd hL
 rcases Nat.lt_or_ge k L.length with hk'|hk'
 ·have hkS:L[k]?=some L[k]:=List.getElem?_eq_getElem hk'
  have hSl:=(hL _ (List.getElem_mem hk')).len
  refine Ok.iT (by omega) (Ok.BX hk' (Ok.AX (Pb (by omega) hf) fun r hr=>?_))
  subst hr
  refine SK hX hc hkS hL hnd hB hB' hf hcs hcn (by omega) fun L' more st g0 g1 g2 g3=>hn (L',out++[st],k+1) ⟨g0,g1,by dsimp only;rw[List.length_append,h1];rfl,?_,?_,fun i S st' e1 e2=>?_⟩ ?_
  ·dsimp only;rw[g2,List.length_append];omega
  ·dsimp only;rw[g2,List.getElem?_append_left (by omega)];exact h3
  ·dsimp only at e1 e2⊢
   rcases Nat.lt_trichotomy i k with h|h|h
   ·rw[List.getElem?_append_left (by omega)]at e2
    rw[g2,List.getElem?_append_left (by omega)]at e1
    rw[g2];exact(h4 i S st' e1 e2).ext
   ·subst h
    rw[List.getElem?_append_right (by omega),h1,Nat.sub_self]at e2
    rw[g2,List.getElem?_append_left (by omega),hkS]at e1
    cases e1;simp at e2;subst e2;exact g3
   ·rw[List.getElem?_eq_none (by rw[List.length_append];simp;omega)]at e2;cases e2
  ·dsimp only;omega
 ·exact Ok.iF (by omega) (Ok.some ⟨L,by omega,h3,hnd,hL,h4⟩)
end Go.GL
namespace Go.GL
open Go.GK
def DL(r:Rx):Prop:=if r.kind=3∨r.kind=4 then r.AL.length<2 else if r.kind=5 then r.AL.length≠1 else r.AL.length≠0
def Ha(r:Rx):Prop:=r.kind<0∨5<r.kind∨(r.kind≠2∧MZ r.set R3=false)
open Classical in
noncomputable def Fm(r:Rx):Int:=if Ha r then 11 else if DL r then 2 else 0
noncomputable def HK:List Int→Int
 | []=>0
 |x::l=>if x≠0 then x else HK l
noncomputable def IX:Nat→Rx→Int
 |0,_=>9
 |d+1,r=>if Fm r≠0 then Fm r else HK (r.AL.map (IX d))
theorem Pc{l:List Int}{k:Nat}(h0:∀x∈l.take k,x=0)(hk:k<l.length)(h1:l[k]≠0):HK l=l[k]:=by
 induction l generalizing k with
 |nil=>simp at hk
 |cons x l ih=>
  cases k with
  |zero=>simp at h1;simp[HK,h1]
  |succ k=>
   have hx:=h0 x (by simp)
   simp at hk h1
   have:=ih (k:=k) (fun y hy=>h0 y (by simp[hy])) hk h1
   simp[HK,hx,this]
theorem Qw{l:List Int}(h0:∀x∈l,x=0):HK l=0:=by
 induction l with
 |nil=>rfl
 |cons x l ih=>simp[HK,h0 x (by simp),ih fun y hy=>h0 y (by simp[hy])]
theorem UQ{p:AD}(h:(!MZ p (fun _=>false))=false):MZ p R3=true:=by
 rw[show(fun _=>false:AD)=R3 from rfl]at h
 cases h5:MZ p R3
 ·rw[h5]at h;cases h
 ·rfl
theorem UR{p:AD}(h:(!MZ p (fun _=>false))=true):MZ p R3=false:=by
 rw[show(fun _=>false:AD)=R3 from rfl]at h
 cases h5:MZ p R3
 ·rfl
 ·rw[h5]at h;cases h
theorem IK{r:Rx}(h:Ha r):Fm r=11:=by unfold Fm;rw[if_pos h]
theorem NQ{r:Rx}(h:¬Ha r)(k:DL r):Fm r=2:=by unfold Fm;rw[if_neg h,if_pos k]
theorem Qd{r:Rx}(h:¬Ha r)(k:¬DL r):Fm r=0:=by unfold Fm;rw[if_neg h,if_neg k]
theorem Jv{r:Rx}(h0:0≤r.kind)(h1:r.kind≤5)(h2:r.kind≠2→MZ r.set R3=true):¬Ha r:=by
 rintro(h|h|⟨h,h'⟩)
 ·omega
 ·omega
 ·rw[h2 h]at h';cases h'
theorem Qi{d fu:Nat}{r:Rx}{slf:Rx→Int→Option Int}{lev:Int}{b:Nat→(Nat→Option Int)→Option Int}(hf:r.AL.length<fu)(hnode:Fm r=0)(hlev:0≤lev∧lev≤100)
  (hb:∀k nx,b k nx=bif decide (((k:Nat):Int)<((r.AL.length:Nat):Int))then(AX (idx r.AL ((k:Nat):Int)) (fun x=>A0 (C0 (lev+1)) (AX (slf x (lev+1)) (fun e=>bif decide (e≠0)then(some e)else(nx (k+1))))))else(some 0))
  (hs:∀x∈r.AL,Ok (slf x (lev+1)) (fun e=>e=IX d x)):Ok (Ax fu b 0) (fun e=>e=IX (d+1) r):=by
 have hv:IX (d+1) r=HK (r.AL.map (IX d)):=by show(if Fm r≠0 then _ else _)=_;rw[if_neg (by omega)]
 refine Ok.count (fun k=> ∀e∈(r.AL.map (IX d)).take k,e=0) r.AL.length (by simp) (by omega) (fun k nx hk hJ hn=>?_) (fun nx hJ=>?_)
 ·rw[hb]
  have hm:r.AL[k]∈r.AL:=List.getElem_mem hk
  have hkl:k<(r.AL.map (IX d)).length:=by rw[List.length_map];exact hk
  have hget:(r.AL.map (IX d))[k]=IX d r.AL[k]:=by simp
  refine Ok.iT (by omega) (Ok.BX hk (Ok.A0 (by unfold C0;omega) (Ok.AX (hs _ hm) fun e he=>Ok.ite (fun h=>Ok.some ?_) fun h=>hn fun e' he'=>?_)))
  ·rw[hv,Pc hJ hkl (by rw[hget,←he];exact h),hget];exact he
  ·rw[←List.take_append_getElem hkl]at he'
   rcases List.mem_append.1 he' with he'|he'
   ·exact hJ e' he'
   ·simp at he';subst he';rw[←he];omega
 ·rw[hb]
  rw[List.take_of_length_le (by rw[List.length_map];exact Nat.le_refl _)]at hJ
  exact Ok.iF (by omega) (Ok.some (by rw[hv,Qw hJ]))
theorem Oe:∀(d:Nat) (lev:Int) (r:Rx) (fu:Nat),lev+d=17→0≤lev→d+sz d r<fu→Ok (CT fu r lev) (fun e=>e=IX d r)
 |_,_,_,0,_,_,h=>absurd h (Nat.not_lt_zero _)
 |0,lev,r,fu+1,h,_,_=>by
  show Ok (CM fu (CT fu) r lev) _
  unfold CM
  exact Ok.iT (by omega) (Ok.some rf)
 |d+1,lev,r,fu+1,h,h0,hf=>by
  have hlen:=Mj d r
  have hkind:Ha r→(11:Int)=IX (d+1) r:=fun hb=>by show _=(if Fm r≠0 then _ else _);rw[IK hb];rfl
  have loop:¬Ha r→¬DL r→Ok (DA fu r lev (CT fu)) (fun e=>e=IX (d+1) r):=fun hK hL=>by
   unfold DA
   exact Qi (by omega) (Qd hK hL) (by omega) (fun k nx=>rfl) fun x hx=>Oe d (lev+1) x fu (by omega) (by omega) (by have:=JV (d:=d) hx;omega)
  have j4:∀b:Bool,(b=true↔r.kind=3∨r.kind=4)→¬Ha r→Ok (Dz fu r lev (CT fu) b) (fun e=>e=IX (d+1) r):=fun b hb hK=>by
   have hl2:DL r→(2:Int)=IX (d+1) r:=fun hb=>by show _=(if Fm r≠0 then _ else _);rw[NQ hK hb];rfl
   unfold Dz
   refine Ok.bif (fun hb'=>?_) fun hb'=>?_
   ·have hk:=hb.1 hb'
    refine Ok.ite (fun h1=>Ok.some (hl2 (by unfold DL;rw[if_pos hk];omega))) fun h1=>loop hK (by unfold DL;rw[if_pos hk];omega)
   ·have hk:¬(r.kind=3∨r.kind=4):=fun h=>by rw[hb.2 h]at hb';cases hb'
    refine Ok.ite (fun h5=>Ok.ite (fun h1=>Ok.some (hl2 (by unfold DL;rw[if_neg hk,if_pos h5];omega))) fun h1=>loop hK (by unfold DL;rw[if_neg hk,if_pos h5];omega)) fun h5=>Ok.ite (fun h1=>Ok.some (hl2 (by unfold DL;rw[if_neg hk,if_neg h5];omega))) fun h1=>loop hK (by unfold DL;rw[if_neg hk,if_neg h5];omega)
  show Ok (CM fu (CT fu) r lev) _
  unfold CM
  rw[W2]
  refine Ok.iF (by omega) (Ok.ite (fun h1=>Ok.some (hkind (.inl h1))) fun h1=>Ok.ite (fun h2=>Ok.some (hkind (.inr (.inl h2)))) fun h2=>Ok.ite (fun h3=>?_) fun h3=>?_)
  ·refine Ok.bif (fun h4=>Ok.some (hkind (.inr (.inr ⟨h3,UR h4⟩)))) fun h4=>?_
   have hK:=Jv (r:=r) (by omega) (by omega) fun _=>UQ h4
   exact Ok.ite (fun h5=>j4 _ (by simp[h5]) hK) fun h5=>j4 _ (by simp[h5]) hK
  ·have hK:=Jv (r:=r) (by omega) (by omega) fun h=>absurd h h3
   exact Ok.ite (fun h5=>j4 _ (by simp[h5]) hK) fun h5=>j4 _ (by simp[h5]) hK
theorem V7{r:Rx}{fu:Nat} :Ok (Jb fu r) (fun e=>e=Fm r):=by
 have j1:0≤r.kind→r.kind≤5→¬Ha r→Ok (Fi fu r) (fun e=>e=Fm r):=fun h0 h1 hK=>by
  have bad:DL r→Ok (some (2:Int)) (fun e=>e=Fm r):=fun h=>Ok.some (NQ hK h).symm
  have good:¬DL r→Ok (some (0:Int)) (fun e=>e=Fm r):=fun h=>Ok.some (Qd hK h).symm
  have e1:r.kind<3→(DL r↔r.AL.length≠0):=fun h=>by unfold DL;rw[if_neg (by omega),if_neg (by omega)]
  have e2:r.kind=3∨r.kind=4→(DL r↔r.AL.length<2):=fun h=>by unfold DL;rw[if_pos h]
  have e3:r.kind=5→(DL r↔r.AL.length≠1):=fun h=>by unfold DL;rw[if_neg (by omega),if_pos h]
  have t5:¬r.kind<3→¬r.kind=3→¬r.kind=4→Ok (bif decide (r.kind=5)then(bif decide (((r.AL.length:Nat):Int)≠1)then(some (2:Int))else(some 0))else(some 0)) (fun e=>e=Fm r):=fun h2 h3 h4=>
   Ok.iT (by omega) (Ok.ite (fun h=>bad ((e3 (by omega)).2 (by omega))) fun h=>good (fun hb=>by have:=(e3 (by omega)).1 hb;omega))
  have no5:r.kind≠5→¬DL r→Ok (bif decide (r.kind=5)then(bif decide (((r.AL.length:Nat):Int)≠1)then(some (2:Int))else(some 0))else(some 0)) (fun e=>e=Fm r):=fun h hb=>Ok.iF h (good hb)
  unfold Fi
  refine Ok.ite (fun h2=>Ok.ite (fun h3=>bad ((e1 h2).2 (by omega))) fun h3=>?_) fun h2=>?_
  ·have hg:¬DL r:=fun hb=>by have:=(e1 h2).1 hb;omega
   exact Ok.iF (by omega) (Ok.iF (by omega) (no5 (by omega) hg))
  ·refine Ok.ite (fun h3=>Ok.ite (fun h4=>bad ((e2 (.inl h3)).2 (by omega))) fun h4=>no5 (by omega) fun hb=>by have:=(e2 (.inl h3)).1 hb;omega) fun h3=>?_
   exact Ok.ite (fun h4=>Ok.ite (fun h5=>bad ((e2 (.inr h4)).2 (by omega))) fun h5=>no5 (by omega) fun hb=>by have:=(e2 (.inr h4)).1 hb;omega) fun h4=>t5 h2 h3 h4
 unfold Jb
 refine Ok.ite (fun h1=>Ok.some (IK (.inl h1)).symm) fun h1=>Ok.ite (fun h2=>Ok.some (IK (.inr (.inl h2))).symm) fun h2=>Ok.ite (fun h3=>Ok.bif (fun h4=>Ok.some (IK (.inr (.inr ⟨h3,UR h4⟩))).symm) fun h4=>?_) fun h3=>?_
 ·exact j1 (by omega) (by omega) (Jv (by omega) (by omega) fun _=>UQ h4)
 ·exact j1 (by omega) (by omega) (Jv (by omega) (by omega) fun h=>absurd h h3)
theorem Mv:∀(d:Nat) (lev:Int) (r:Rx) (fu:Nat),lev+d=17→0≤lev→d+sz d r<fu→Ok (EK fu r lev) (fun e=>e=IX d r)
 |_,_,_,0,_,_,h=>absurd h (Nat.not_lt_zero _)
 |0,lev,r,fu+1,h,_,_=>by
  show Ok (Ed fu (EK fu) r lev) _
  unfold Ed
  exact Ok.iT (by omega) (Ok.some rf)
 |d+1,lev,r,fu+1,h,h0,hf=>by
  have hlen:=Mj d r
  show Ok (Ed fu (EK fu) r lev) _
  unfold Ed
  refine Ok.iF (by omega) (Ok.AX V7 fun e he=>Ok.ite (fun h1=>Ok.some ?_) fun h1=>?_)
  ·show _=(if Fm r≠0 then Fm r else _)
   rw[if_pos (he▸h1)];exact he
  ·exact Qi (by omega) (by omega) (by omega) (fun k nx=>rfl) fun x hx=>Mv d (lev+1) x fu (by omega) (by omega) (by have:=JV (d:=d) hx;omega)
end Go.GL
namespace Go.GL
open Go.GK
set_option maxRecDepth 100000
theorem Vp(n:Nat):FV (n+2000)=some true:=by kernel_rfl
end Go.GL
namespace Go.GL
open Go.GK
theorem Vo{fu:Nat}(h:2000≤fu):Ok (FV fu) (fun r=>r=true):=by
 obtain⟨n,rfl⟩:∃n,fu=n+2000:=⟨fu-2000,by omega⟩
 exact Ok.of_eq (Vp n) rf
theorem Ok.alive{fu:Nat}(h:2000≤fu):Ok (GK.AX (FV fu) fun x=>Option.some x) (fun r=>r=true):=Ok.AX (Vo h) fun _ h=>Ok.some h
theorem ZT{b:Bool}(h:(!b)=false):b=true:=by cases b<;>simp at h⊢
end Go.GL
namespace Go.GL
open Go.GK
theorem NY{kn:List Lg}{D:Lg}{i:Nat}(h1:∀j (_:j<i) (hj:j<kn.length),kn[j]≠D)(h2:i≤kn.length)(h3:∀h:i<kn.length,kn[i]=D):KB kn D=i:=by
 have hle:=O9 kn D
 rcases Nat.lt_trichotomy (KB kn D) i with h4|h4|h4
 ·have hlt:KB kn D<kn.length:=by omega
  exact absurd (O8 hlt) (h1 _ h4 hlt)
 ·exact h4
 ·exfalso
  have hi:i<kn.length:=by omega
  have:=List.not_of_lt_findIdx (p:=_) (xs:=kn) (i:=i) h4
  simp[h3 hi]at this
structure Yg(l:Tb)(kn:List Lg)(ord:List Int):Prop extends KnOk (XK l) kn where
 len:ord.length=kn.length
 ord:∀(i:Nat) (q:Int),ord[i]?=some q→(0≤q∧q<l.length)∧kn[i]?=some (Bt l q)
theorem Yg.put{l:Tb}{kn:List Lg}{ord:List Int}(h:Yg l kn ord){q:Int}(h0:0≤q)(h1:q<l.length)(hl:live (Bt l q)=true)(hn:Bt l q∉kn):Yg l (Li kn (Bt l q)) (ord++[q]):=by
 have e:Li kn (Bt l q)=kn++[Bt l q]:=by unfold Li;rw[if_pos (Kz hn)]
 refine⟨h.toKnOk.Li (Kx h0 h1) hl,by rw[e];simp[h.len],fun i x hx=>?_⟩
 rw[e]
 by_cases hi:i<ord.length
 ·rw[List.getElem?_append_left hi]at hx
  have:=h.ord i x hx
  exact⟨this.1,by rw[List.getElem?_append_left (by rw[←h.len];exact hi)];exact this.2⟩
 ·rw[List.getElem?_append_right (by omega)]at hx
  have hi2:i=ord.length:=by
   have:=(List.getElem?_eq_some_iff.1 hx).1;simp at this;omega
  subst hi2
  simp at hx;subst hx
  exact⟨⟨h0,h1⟩,by rw[h.len];simp⟩
theorem OP{l:Tb}{c:Nat→Int}{kn:List Lg}{ord:List Int}{q:Int}{fu:Nat}(hk:SF l c)(h:Yg l kn ord)(h0:0≤q)(h1:q<l.length)(hf:ord.length<fu):
  Ok (FB fu ord (CY l.length c) q) (fun r=>r=(KB kn (Bt l q):Nat)):=by
 have hlen:=h.len
 unfold FB
 refine Ok.count (fun k=> ∀j (_:j<k) (hj:j<kn.length),kn[j]≠Bt l q) ord.length (by intro j h;omega) hf (fun k nx hkl hJ hn=>?_) (fun nx hJ=>?_)
 ·unfold Dm
  obtain⟨⟨hq0,hq1⟩,hK⟩:=h.ord k _ (List.getElem?_eq_getElem hkl)
  have hKg:kn[k]'(by omega)=Bt l ord[k]:=by
   rw[List.getElem?_eq_getElem (by omega)]at hK;simpa using hK
  have hiff:c ord[k].toNat=c q.toNat↔Bt l ord[k]=Bt l q:=by
   have:=hk.iff ord[k].toNat q.toNat (by omega) (by omega)
   rwa [Int.toNat_of_nonneg hq0,Int.toNat_of_nonneg h0]at this
  refine Ok.iT (by omega) (Ok.BX hkl (Ok.BZ (DF hq0 (by omega)) (Ok.BZ (DF h0 (by omega)) (Ok.ite (fun he=>Ok.some ?_) fun he=>hn fun j hj h2=>?_))))
  ·rw[NY hJ (by omega) fun _=>by rw[hKg];exact hiff.1 he]
  ·rcases Nat.lt_or_ge j k with h3|h3
   ·exact hJ j h3 h2
   ·obtain rfl:j=k:=by omega
    rw[hKg];exact fun e=>he (hiff.2 e)
 ·unfold Dm
  refine Ok.iF (by omega) (Ok.some ?_)
  rw[NY hJ (by omega) fun h=>by omega]
theorem Uw{cs:List Int}{es:List Fw}{i q fu:Nat}{n:Int}{ord:List Int}{nx:(List Int×List Fw×Nat)→Option (Tb×Int)}{P:Tb×Int→Prop}
  (hc:Co cs) (hi:i<cs.length) (hE:D9 es (pos cs i) q) (hel:es.length≤256) (h:Ok (nx (ord,push es cs[i] (Hd cs i) n,i+1)) P):
  Ok (Dt fu es i nx cs[i] (Hd cs i) n ord) P:=by
 have hci:=hc.rg _ (List.getElem_mem hi)
 have hh:=hc.hi hi
 have hadd:push es cs[i] (Hd cs i) n=es++[(cs[i],Hd cs i,n)]→Ok (A0 (F8 cs[i]) (A0 (F8 (Hd cs i)) (A0 (es.length+([(cs[i],Hd cs i,n)]:List (Int×Int×Int)).length≤AH) (nx (ord,es++([(cs[i],Hd cs i,n)]:List (Int×Int×Int)),i+1))))) P:=fun he=>
  Ok.A0 (by unfold F8;omega) (Ok.A0 (by unfold F8;omega) (Ok.A0 (by simp;unfold AH;omega) (by rw[he]at h;exact h)))
 unfold Dt
 refine Ok.A0 (by unfold C0;omega) (Ok.ite (fun h0=>?_) fun h0=>hadd ?_)
 ·have hpos:0<es.length:=by omega
  have e1:((es.length:Int)-1)=((es.length-1:Nat):Int):=by omega
  have hll:es.length-1<es.length:=by omega
  have hr:=hE.rg _ (List.getElem_mem hll)
  have hpl:=MD hc i
  have hps:=P4 (lo:=cs[i]) (hi:=Hd cs i) (n:=n) hpos
  rw[e1]
  simp only[Int.toNat_natCast]
  refine Ok.BX hll (Ok.ite (fun h1=>Ok.BX hll (Ok.A0 (by unfold C0;omega) (Ok.ite (fun h2=>?_) fun h2=>?_))) fun h1=>?_)
  ·refine Ok.A0 (by unfold F8;omega) (Ok.BX hll ?_)
   rw[if_pos ⟨h1,h2⟩]at hps
   rw[hps]at h
   rw[h1];exact h
  ·exact hadd (by rw[hps,if_neg (fun hh=>h2 hh.2)])
  ·exact hadd (by rw[hps,if_neg (fun hh=>h1 hh.1)])
 ·obtain rfl:es=[]:=List.length_eq_zero_iff.1 (by omega)
  rfl
theorem Ul{l:Tb}{cs:List Int}{c:Nat→Int}{n fu:Nat}(hw:E0 l)(htr:Trim l)(h0:0<l.length)(hlv:live (Bt l 0)=true)(hc:Co cs)(hf:Gk cs l)(hk:SF l c)(hs:Nd l n)(hn:n<4294967296)(hfu:n+2<fu)(hfu':257<fu):
  Ok (Ax fu (fun p nx=>Dw fu l cs (CY l.length c) p.1 p.2.1 p.2.2 nx) (([0]:List Int),([]:Tb),0)) (fun r=>r=(GI l,0)):=by
 have hcl:=hc.le
 have hln:=hs.1
 refine Ok.loop (X:=List Int×Tb×Nat) (fun x=> ∃kn F,Yg l kn x.1∧x.2.2=x.2.1.length∧x.2.1.length≤kn.length∧l.length<F+x.2.1.length∧HN F kn x.2.1=GI l) (fun x=>l.length+1-x.2.2)
  ⟨[Bt l 0],l.length+1,⟨⟨by simp,by simpa using Kx (i:=0) (by decide) (by omega),by simpa using hlv⟩,rfl,fun i q hq=>?_⟩,rfl,by simp,by simp,by unfold GI HD;rw[if_pos hlv]⟩ (by simp only;omega) fun x nx hI _ hnx=>?_
 ·cases i with
  |zero=>simp at hq;subst hq;exact⟨⟨by decide,by omega⟩,rfl⟩
  |succ i=>simp at hq
 obtain⟨ord,out,k⟩:=x
 obtain⟨kn,F,hKO,hkl,hol,hF,hgo⟩:=hI
 dsimp only at hKO hkl hol hF hgo
 subst hkl
 have hkn:kn.length≤l.length:=by have:=hKO.toKnOk.le;rw[HI]at this;exact this
 have hlen:=hKO.len
 unfold Dw;dsimp only
 refine Ok.ite (fun hlt=>?_) fun hlt=>Ok.some ?_
 ·have hko:out.length<ord.length:=by omega
  have hget:ord[out.length]?=some ord[out.length]:=List.getElem?_eq_getElem hko
  obtain⟨⟨hq0,hq1⟩,hK⟩:=hKO.ord out.length _ hget
  generalize hqe:ord[out.length]=q at hq0 hq1 hK hget
  have hrow:=Gv hq0 hq1
  obtain⟨F,rfl⟩:∃F',F=F'+1:=⟨F-1,by omega⟩
  have hKm:=List.mem_of_getElem? hK
  refine Ok.BZ (by rw[IP hko,hqe]) (Ok.Rn hq0 hq1 ?_)
  rw[←hrow]
  have hro:=fun i hi=>Hl (Jt hw) (hKO.sub _ hKm) hKO.toKnOk (pos cs i) hi
  refine Ok.FX (fun i o es=>HY ord o∧es=(BP (Bt l q) kn (pos cs i)).2∧es.length≤i∧Yg l (BP (Bt l q) kn (pos cs i)).1 o) cs.length
   (by rw[Kq hc];exact⟨.refl _,rfl,by simp,hKO⟩) (by omega) (fun i o es nx' hi hJ hnx'=>?_) (fun o es nx' hJ=>?_)
  ·obtain⟨hext,rfl,hesl,hKO'⟩:=hJ
   have hpl:=MD hc i
   obtain⟨g1,g2,g3⟩:=hro i hpl
   have hci:=hc.rg _ (List.getElem_mem hi)
   have hpa:=pos_at hc hi
   have hps:=MC hc hi
   have hhi:=hc.hi hi
   have hst:=hw.st q cs[i].toNat
   have hoq:=hext.get hget
   have hD:∀b,pos cs i≤b→b≤(Hd cs i).toNat→LQ (Bt l q) b=Bt l (D8 l q cs[i].toNat):=fun b b1 b2=>by
    rw[Ky hw hc hf q hi (by omega) (by omega) (by omega),HL _ _ _ (by omega)]
   have hstep:BP (Bt l q) kn (pos cs (i+1))=LO (BP (Bt l q) kn (pos cs i)) (Bt l (D8 l q cs[i].toNat)) (pos cs i) (Hd cs i).toNat:=by
    rw[show pos cs (i+1)=(Hd cs i).toNat+1 by omega]
    exact NI _ _ _ _ _ (by omega) hD
   have hstp:=RK (b:=cs[i].toNat) (i:=q) hs (by omega:n<fu) hq1
   rw[Int.toNat_of_nonneg hci.1]at hstp
   have hol':=(List.getElem?_eq_some_iff.1 hoq).1
   unfold Dv;dsimp only
   refine Ok.iT (by omega) (Ok.BX hi (Ok.BZ (by rw[IP hol'];exact hoq▸(List.getElem?_eq_getElem hol').symm) (Ok.A0 (by unfold F8;omega) (Ok.AX hstp fun a ha=>?_))))
   subst ha
   refine Ok.ite (fun hneg=>hnx' _ _ ?_) fun hneg=>?_
   ·have e:BP (Bt l q) kn (pos cs (i+1))=BP (Bt l q) kn (pos cs i):=by rw[hstep];unfold LO;rw[Ht hneg];rfl
    rw[e];exact⟨hext,rfl,by omega,hKO'⟩
   ·have hlive:=htr q cs[i].toNat (by omega)
    have hst':BP (Bt l q) kn (pos cs (i+1))=(Li (BP (Bt l q) kn (pos cs i)).1 (Bt l (D8 l q cs[i].toNat)),push (BP (Bt l q) kn (pos cs i)).2 cs[i] (Hd cs i) (KB (BP (Bt l q) kn (pos cs i)).1 (Bt l (D8 l q cs[i].toNat)):Nat)):=by
     rw[hstep];unfold LO;rw[if_pos hlive,hpa,Int.toNat_of_nonneg (by omega)]
    have hkl':=g2.le
    rw[HI]at hkl'
    have hlen':=hKO'.len
    have hpush:=P5 (BP (Bt l q) kn (pos cs i)).2 cs[i] (Hd cs i) (KB (BP (Bt l q) kn (pos cs i)).1 (Bt l (D8 l q cs[i].toNat)):Nat)
    have hgo19:Ok (Du fu (CY l.length c) o (BP (Bt l q) kn (pos cs i)).2 i nx' cs[i] (D8 l q cs[i].toNat) (Hd cs i)) (fun r=>r=(GI l,0)):=by
     unfold Du
     refine Ok.AX (OP hk hKO' (by omega) (by omega) (by omega)) fun a ha=>?_
     subst ha
     have hixle:=O9 (BP (Bt l q) kn (pos cs i)).1 (Bt l (D8 l q cs[i].toNat))
     refine Ok.ite (fun he=>?_) fun he=>?_
     ·have hnm:Bt l (D8 l q cs[i].toNat)∉(BP (Bt l q) kn (pos cs i)).1:=fun hm=>by have:=IM hm;omega
      refine Ok.A0 (by simp;unfold AH;omega) (Uw hc hi g3.1 (by omega) (hnx' _ _ ?_))
      rw[hst']
      exact⟨hext.trans ⟨_,rf⟩,rf,by omega,hKO'.put (by omega) (by omega) hlive hnm⟩
     ·have hm:Bt l (D8 l q cs[i].toNat)∈(BP (Bt l q) kn (pos cs i)).1:=Classical.byContradiction fun hm=>by have:=Kz hm;omega
      refine Uw hc hi g3.1 (by omega) (hnx' _ _ ?_)
      rw[hst',J6 hm]
      exact⟨hext,rf,by omega,hKO'⟩
    refine Ok.ite (fun h1=>?_) fun h1=>?_
    ·have h1':i+1<cs.length:=by omega
     have hr2:=hc.rg _ (List.getElem_mem h1')
     rw[show((i:Int)+1)=((i+1:Nat):Int) by omega]
     refine Ok.BX h1' (Ok.A0 (by unfold C0;omega) ?_)
     rw[GG h1']at hgo19;exact hgo19
    ·rw[Iw (by omega)]at hgo19;exact hgo19
  ·obtain⟨hext,rfl,hesl,hKO'⟩:=hJ
   rw[OJ]at hKO'⊢
   obtain⟨g1,g2,g3⟩:=Hl (Jt hw) (hKO.sub _ hKm) hKO.toKnOk 256 (Nat.le_refl _)
   have:=g1.len
   unfold Dv;dsimp only
   refine Ok.iF (by omega) (Ok.A0 (by simp;unfold AH;omega) (hnx _ ⟨(BP (Bt l q) kn 256).1,F,hKO',by simp,by simp;omega,by simp;omega,?_⟩ ?_))
   ·rw[←hgo];dsimp only
    conv=>rhs;unfold HN
    rw[hK];dsimp only
    have:Bt l q []=(Cs l q).1:=by simp[Bt,runT,fin,hq0]
    rw[this]
   ·dsimp only;omega
 ·have hno:kn[out.length]?=none:=List.getElem?_eq_none (by omega)
  rw[←hgo]
  cases F with
  |zero=>rfl
  |succ F=>unfold HN;rw[hno]
theorem NC{l:Tb}(h:E0 l):Trim (FO l):=fun q b hq=>by
 have:Bt (FO l) (D8 (FO l) q b)=Bt l (D8 (FO l) q b):=funext fun w=>Ou h w _
 rw[this]
 rw[ND h]at hq⊢
 split at hq
 ·rename_i hl;rw[if_pos hl];exact hl
 ·omega
theorem Qg{l:Tb}{n fu:Nat}(hb:ZE l)(hs:Nd l n)(hn:n<4294967296)(hfu:n+2<fu)(hfu':257<fu):
  Ok (GD fu l) (fun r=>(E0 l→r=(GI l,0))∧(¬E0 l→r=([],11))):=by
 unfold GD
 rw[Ko]
 refine Ok.AX (JF hb hs (by omega) hn) fun x hx=>Ok.bif (fun h=>Ok.some ?_) fun h=>?_
 ·have hno:¬E0 l:=fun hw=>by have:=hx.2 hw;subst this;cases h
  exact⟨fun hw=>absurd hw hno,fun _=>rfl⟩
 ·have hw:E0 l:=hx.1 (by cases x;cases h;rfl)
  refine Ok.ite (fun h=>Ok.some ⟨fun _=>?_,fun hno=>absurd hw hno⟩) fun h=>?_
  ·obtain rfl:l=[]:=List.length_eq_zero_iff.1 (by omega)
   have:live (Bt [] 0)=false:=F_.2 fun w=>Sb 0 w
   unfold GI HD;rw[this];rfl
  ·refine Ok.mono (P:=fun r=>r=(GI l,0)) ?_ fun r hr=>⟨fun _=>hr,fun hno=>absurd hw hno⟩
   refine Ok.AX (Ol hw hs hn (by omega)) fun x hx=>?_
   subst hx
   have hl0:0<l.length:=by omega
   refine Ok.BZ (Bw (i:=0) hl0) (Ok.bif (fun hd=>Ok.some ?_) fun hd=>?_)
   ·have hd:live (Bt l 0)=false:=by cases hh:live (Bt l 0)<;>simp[hh]at hd⊢
    unfold GI HD;rw[hd];rfl
   ·have hlv:live (Bt l 0)=true:=by cases hh:live (Bt l 0)<;>simp[hh]at hd⊢
    refine Ok.AX (PX hw hl0 hs hn (by omega)) fun m hm=>?_
    obtain⟨m1,m2,m3,m4⟩:=hm
    refine Ok.AX (PD m1 m3 hn (by omega)) fun x hx=>?_
    subst hx
    have tw:=VJ m1
    have ts:=VK m3
    have tl:Bt (FO m) 0=Bt l 0:=by rw[←m2];exact funext fun w=>Ou m1 w 0
    have t0:0<(FO m).length:=by rw[Mf];exact m4
    rw[Q6]
    refine Ok.AX (U7 tw ts (by omega) (by omega)) fun cs hcs=>Ok.AX (QH tw (NC m1) t0 hcs.1 hcs.2 ts hn hfu hfu') fun c hc=>?_
    obtain⟨c,hc,rfl⟩:=hc
    rw[←M8 tw hw tl]
    exact Ul tw (NC m1) t0 (by rw[tl];exact hlv) hcs.1 hcs.2 hc ts hn hfu hfu'
end Go.GL
namespace Go.GL
open Go.GK
def Nx:Nat→List (List Int)
 |0=>[[]]
 |n+1=>Nx n++(Nx n).map (· ++[(n:Int)])
theorem QQ:∀n,(Nx n).length=2^n
 |0=>rfl
 |n+1=>by
  show(Nx n++(Nx n).map _).length=_
  rw[List.length_append,List.length_map,QQ n,Nat.pow_succ];omega
theorem RJ(f:Nat→Bool):∀n,K6 n f∈Nx n
 |0=>by simp[K6,ints,Nx]
 |n+1=>by
  have ih:=RJ f n
  show _∈Nx n++(Nx n).map _
  unfold K6 at ih⊢
  rw[BM,Iv]
  split
  ·exact List.mem_append.2 (.inr (List.mem_map.2 ⟨_,ih,rf⟩))
  ·exact List.mem_append.2 (.inl (by simpa [ints]using ih))
theorem S2{N:NT}{a:Int}{m:Nat}(hm:N.1.length≤m){L:List (List Int)}(hn:L.Nodup)(h:∀S∈L,FT N a S):L.length≤2^m:=by
 have:=DX (b:=Nx N.1.length) hn fun S hS=>by
  obtain⟨l,rfl⟩:=(h S hS).is
  exact RJ _ _
 rw[QQ]at this
 exact Nat.le_trans this (Nat.pow_le_pow_right (by decide) hm)
end Go.GL
