/- AutomatonMatches: for every input the call returns true, and each argument reads afterwards as it read before. The package-level variables that its row lists are tied to the program's text. -/
import Derived.Test.YtjmbmodmepdmjabGreatDoorZAutomatonMatches6
set_option maxRecDepth 100000
set_option maxHeartbeats 4000000
namespace Go.GL
open Go.GK
def Py(n:Nat)(f:Nat→Bool):List Int:=ints ((List.range n).filter f)
theorem Vi{n:Nat}{f:Nat→Bool}{x:Int} :x∈Py n f↔0≤x∧x<n∧f x.toNat=true:=by
 unfold Py ints
 rw[List.mem_map]
 constructor
 ·rintro⟨s,hs,rfl⟩
  have:=List.mem_filter.1 hs
  have h1:=List.mem_range.1 this.1
  exact⟨by omega,by omega,by simpa using this.2⟩
 ·rintro⟨h1,h2,h3⟩
  exact⟨x.toNat,List.mem_filter.2 ⟨List.mem_range.2 (by omega),h3⟩,by omega⟩
theorem Ri{n:Nat}{f g:Nat→Bool}(h:∀s,s<n→f s=g s):Py n f=Py n g:=by
 unfold Py
 rw[List.filter_congr fun s hs=>h s (List.mem_range.1 hs)]
theorem P9(n:Nat)(f:Nat→Bool):(Py n f).length≤n:=by
 unfold Py ints
 have:=List.length_filter_le f (List.range n)
 rw[List.length_range]at this
 simpa using this
def wt(D:List (List Int))(f:Nat→Bool):Nat→Nat
 |0=>0
 |k+1=>wt D f k+(if f k then 0 else(D.getD k []).length)
theorem KY{D:List (List Int)}{f g:Nat→Bool} :∀ {k:Nat},(∀s,s<k→f s=g s)→wt D f k=wt D g k
 |0,_=>rfl
 |k+1,h=>by unfold wt;rw[KY fun s hs=>h s (by omega),h k (by omega)]
theorem Sg{D:List (List Int)}{f:Nat→Bool}{x:Nat}(hf:f x=false):∀ {k:Nat},x<k→wt D (fun j=>if j=x then true else f j) k+(D.getD x []).length=wt D f k
 |0,h=>absurd h (Nat.not_lt_zero _)
 |k+1,h=>by
  unfold wt
  by_cases e:k=x
  ·subst e
   rw[if_pos (by simp),hf,KY (g:=f) fun s hs=>by rw[if_neg (by omega)]]
   simp
  ·rw[if_neg e]
   have:=Sg (D:=D) hf (k:=k) (by omega)
   omega
theorem V3{D:List (List Int)}{f:Nat→Bool}{c:Nat}(h:∀l∈D,l.length≤c):∀k,wt D f k≤k*c
 |0=>Nat.zero_le _
 |k+1=>by
  unfold wt
  have:=V3 (f:=f) h k
  have h2:(D.getD k []).length≤c:=by
   rw[List.getD_eq_getElem?_getD]
   cases hk:D[k]? with
   |none=>simp
   |some l=>exact h l (List.mem_of_getElem? hk)
  rw[Nat.add_mul,Nat.one_mul]
  split<;>omega
def fr(N:NT)(l:List Int)(s:Nat):Prop:= ∃x∈l,Cl (Pt N.1) x [] s
open Classical in
noncomputable def Er(N:NT)(l:List Int):List Int:=Py N.1.length fun s=>decide (fr N l s)
theorem G9{N:NT}{l:List Int}{x:Int} :x∈Er N l↔0≤x∧x<N.1.length∧fr N l x.toNat:=by
 unfold Er;rw[Vi];simp
theorem MR{D:List (List Int)}{f:Int→Prop}(hf:∀s u,f s→(∃l,0≤s∧D[s.toNat]?=some l∧u∈l)→f u){s u:Int}{w:List UInt8}(h:Cl (Pt D) s w u)(hs:f s):f u:=by
 induction h with
 |refl _=>exact hs
 |step h1 _ ih=>exact ih (hf _ _ hs ⟨h1.2.2.choose,h1.2.1,h1.2.2.choose_spec⟩)
theorem Hw {N : NT} {c fu : Nat} {l : List Int} (hN : NB N c) (hc : c ≤ 4000) (hl : ∀ x ∈ l, 0 ≤ x ∧ x < N.1.length) (hll : l.length ≤ 100000000) (hf : 200000000 ≤ fu) : Ok (Cu fu N l) (fun r => r = Er N l) := by
  have heq := hN.eq
  have hlen := hN.len
  have hM : N.1.length * c ≤ 4000 * 4000 := Nat.mul_le_mul (by omega) hc
  have hw0 := fun f => V3 (D := N.1) (f := f) hN.r1 N.1.length
  unfold Cu
  rw [show N.2.1.length = N.1.length from heq.symm, Gr]
  refine Ok.A4 (by unfold AJ; omega) ?_
  refine Ok.loop (fun (x : List Int × List Bool) => ∃ f, x.2 = Ec N.1.length f ∧ (∀ y ∈ x.1, (0 ≤ y ∧ y < N.1.length) ∧ fr N l y.toNat) ∧ (∀ s, s < N.1.length → f s = true → fr N l s) ∧ (∀ y ∈ l, f y.toNat = true ∨ y ∈ x.1) ∧
      (∀ s, s < N.1.length → f s = true → ∀ u ∈ N.1.getD s [], f u.toNat = true ∨ u ∈ x.1) ∧ x.1.length + wt N.1 f N.1.length ≤ 116000000)
    (fun (x : List Int × List Bool) => x.1.length + wt N.1 (fun j => x.2.getD j false) N.1.length) ⟨fun _ => false, rfl, fun y hy => ⟨hl y hy, y, hy, by have := hl y hy; rw [show ((y.toNat : Nat) : Int) = y by omega]; exact .refl y⟩, fun s _ h => (by cases h), fun y hy => .inr hy, fun s _ h => (by cases h), by have := hw0 fun _ => false; dsimp only; omega⟩ ?_ fun x nx hI hm hn => ?_
  · have := hw0 fun j => (Ec N.1.length fun _ => false).getD j false
    dsimp only; omega
  · obtain ⟨l', seen⟩ := x
    obtain ⟨f, rfl, i1, i2, i3, i4, i5⟩ := hI
    dsimp only at i1 i3 i4 i5 hm hn
    have hgt : ∀ g : Nat → Bool, wt N.1 (fun j => (Ec N.1.length g).getD j false) N.1.length = wt N.1 g N.1.length := fun g => KY fun s hs => by
      rw [List.getD_eq_getElem?_getD, K6 hs]; rfl
    rw [hgt] at hn
    unfold C5
    dsimp only
    rcases EB l' with rfl | ⟨l1, x, rfl⟩
    ·
      refine Ok.iF (by simp) ?_
      have hall : ∀ s, s < N.1.length → (f s = true ↔ fr N l s) := fun s hs => by
        refine ⟨i2 s hs, fun ⟨y, hy, hc⟩ => ?_⟩
        have h1 := hl y hy
        have hcl := MR (f := fun u => 0 ≤ u ∧ u < N.1.length ∧ f u.toNat = true) (fun s u hs ⟨row, h2, h3, h4⟩ => by
          have hm := List.mem_of_getElem? h3
          have ht := hN.t1 row hm u h4
          refine ⟨ht.1, ht.2, (i4 s.toNat (by omega) hs.2.2 u ?_).elim id fun h => by cases h⟩
          rw [List.getD_eq_getElem?_getD, h3]; exact h4) hc ⟨h1.1, h1.2, (i3 y hy).elim id fun h => by cases h⟩
        simpa using hcl.2.2
      have hres : Er N l = Py N.1.length f := Ri fun s hs => by
        have := hall s hs
        by_cases h : fr N l s
        · simp [h, this.2 h]
        · have h2 : ¬ f s = true := fun h' => h (this.1 h')
          simp [h]; simpa using h2
      rw [hres]
      refine Ok.range (fun k x => x = Py k f) N.1.length rf (by omega) (fun k x nx' hk hx hn' => ?_) (fun x nx' hx => ?_)
      · subst hx
        unfold Cy
        have hkl := P9 k f
        refine Ok.iT (by dsimp only; rw [BS]; omega) (Ok.Cq (BA hk) (Ok.bif (fun h => Ok.A4 (by simp; unfold AJ; omega) (hn' _ ?_)) fun h => hn' _ ?_))
        · unfold Py; rw [C4, LN, if_pos h]; rfl
        · unfold Py; rw [C4, if_neg (by rw [h]; decide), List.append_nil]
      · subst hx
        unfold Cy
        exact Ok.iF (by dsimp only; rw [BS]; omega) (Ok.some rf)
    · have hx := i1 x (by simp)
      have hlx : ((l1 ++ [x]).length : Int) = l1.length + 1 := by simp
      have hpos : (((l1 ++ [x]).length : Nat) : Int) - 1 = l1.length := by omega
      have hlx' : (l1 ++ [x]).length = l1.length + 1 := by simp
      rw [hlx'] at i5
      have htk : (l1 ++ [x]).take ((((l1 ++ [x]).length : Nat) : Int) - 1).toNat = l1 := by rw [hpos, Int.toNat_natCast]; simp
      rw [htk]
      have hrow : N.1[x.toNat]? = some (N.1.getD x.toNat []) := by
        rw [List.getD_eq_getElem?_getD, List.getElem?_eq_getElem (by omega)]; rfl
      have i1' : ∀ y ∈ l1, (0 ≤ y ∧ y < N.1.length) ∧ fr N l y.toNat := fun y hy => i1 y (by simp [hy])
      refine Ok.iT (by omega) (Ok.A4 (by unfold Dw; omega) (Ok.HK (a := x) (by omega) (by rw [hpos, Int.toNat_natCast]; simp) (Ok.A4 (by unfold Dw; omega) (Ok.A4 (by omega) (Ok.Cq (OG hx.1.1 (by omega)) (Ok.bif (fun h => ?_) fun h => ?_))))))
      · have hfx : f x.toNat = false := by cases hh : f x.toNat <;> simp [hh] at h ⊢
        have hws := Sg (D := N.1) hfx (k := N.1.length) (by omega)
        have hrm := List.mem_of_getElem? hrow
        have ht1 := hN.t1 _ hrm
        refine Ok.Cq (OG hx.1.1 (by omega)) (Ok.HK hx.1.1 hrow ?_)
        generalize hR : N.1.getD x.toNat [] = row at hrow hws ht1
        refine Ok.A4 (by unfold AJ; omega) (hn (l1 ++ row, _) ⟨fun j => if j = x.toNat then true else f j, Em _ _ _ _, fun y hy => ?_, fun s hs h => ?_, fun y hy => ?_, fun s hs h u hu => ?_, ?_⟩ ?_)
        · rcases List.mem_append.1 hy with hy | hy
          · exact i1' y hy
          · have := ht1 y hy
            obtain ⟨z, hz, hcl⟩ := hx.2
            refine ⟨this, z, hz, ?_⟩
            rw [show ((x.toNat : Nat) : Int) = x by omega] at hcl
            rw [show ((y.toNat : Nat) : Int) = y by omega]
            exact hcl.trans (Cl.one (T := Pt N.1) ⟨rf, hx.1.1, row, hrow, hy⟩)
        · by_cases e : s = x.toNat
          · subst e; exact hx.2
          · dsimp only at h; rw [if_neg e] at h; exact i2 s hs h
        · by_cases e : y.toNat = x.toNat
          · exact .inl (by simp [e])
          · dsimp only; rw [if_neg e]
            rcases i3 y hy with h | h
            · exact .inl h
            · rcases List.mem_append.1 h with h | h
              · exact .inr (List.mem_append.2 (.inl h))
              · simp at h; subst h; exact absurd rfl e
        · by_cases e : u.toNat = x.toNat
          · exact .inl (by simp [e])
          · dsimp only at h ⊢; rw [if_neg e]
            by_cases e2 : s = x.toNat
            · subst e2; rw [hR] at hu; exact .inr (List.mem_append.2 (.inr hu))
            · rw [if_neg e2] at h
              rcases i4 s hs h u hu with h | h
              · exact .inl h
              · rcases List.mem_append.1 h with h | h
                · exact .inr (List.mem_append.2 (.inl h))
                · simp at h; subst h; exact absurd rfl e
        · dsimp only; rw [List.length_append]; omega
        · dsimp only
          rw [Em, hgt, List.length_append, hlx']; omega
      · have hfx : f x.toNat = true := by cases hh : f x.toNat <;> simp [hh] at h ⊢
        refine hn (l1, _) ⟨f, rf, i1', i2, fun y hy => ?_, fun s hs h u hu => ?_, by dsimp only; omega⟩ (by dsimp only; rw [hgt, hlx']; omega)
        · rcases i3 y hy with h | h
          · exact .inl h
          · rcases List.mem_append.1 h with h | h
            · exact .inr h
            · simp at h; subst h; exact .inl hfx
        · rcases i4 s hs h u hu with h | h
          · exact .inl h
          · rcases List.mem_append.1 h with h | h
            · exact .inr h
            · simp at h; subst h; exact .inl hfx
theorem RO(l:List Int)(x:Int):FA (l++[x])=FA l++(Lib.itoa x++([44]:BF)):=by simp[FA]
theorem PL{l:List Int}{fu:Nat}(hl:∀x∈l,0≤x∧x<10000000000)(hll:l.length≤100000000)(hf:200000000≤fu):Ok (Jb fu l) (fun r=>r=FA l∧r.length≤11*l.length):=by
 unfold Jb
 refine Ok.range (fun k s=>s=FA (l.take k)∧s.length≤11*k) l.length ⟨rf,by simp⟩ (by omega) (fun k s nx hk hJ hn=>?_) (fun s nx hJ=>?_)
 ·obtain⟨rfl,hs⟩:=hJ
  unfold FQ
  dsimp only
  have hx:=hl _ (List.getElem_mem hk)
  have hi:(Lib.itoa l[k]).length≤10:=by
   have:=OC (u:=l[k].toNat) (by omega)
   rwa [show((l[k].toNat:Nat):Int)=l[k] by omega]at this
  refine Ok.iT (by omega) (Ok.C3 hk (Ok.A4 (by unfold Dw;omega) (Ok.A4 (by simp;unfold AJ;omega) (Ok.A4 (by rw[List.length_append];simp only[List.length_cons,List.length_nil];unfold AJ;omega) (hn _ ⟨?_,?_⟩)))))
  ·rw[←List.take_append_getElem hk,RO]
  ·rw[List.length_append,List.length_append];simp only[List.length_cons,List.length_nil];omega
 ·obtain⟨rfl,hs⟩:=hJ
  unfold FQ
  dsimp only
  rw[List.take_of_length_le (Nat.le_refl _)]at hs⊢
  exact Ok.iF (by omega) (Ok.some ⟨rf,hs⟩)
def Dd(N:NT):List AD:=N.2.1.flatMap fun l=>l.map (·.1)
theorem Gc{α β:Type}{g:α→List β}{c:Nat} :∀ {l:List α},(∀x∈l,(g x).length≤c)→(l.flatMap g).length≤l.length*c
 | [],_=>by simp
 |x::l,h=>by
  rw[List.flatMap_cons,List.length_append,List.length_cons,Nat.add_mul,Nat.one_mul]
  have:=Gc (g:=g) (c:=c) (l:=l) fun y hy=>h y (by simp[hy])
  have:=h x (by simp)
  omega
theorem Qb{N:NT}{c fu:Nat}(hN:NB N c)(hc:c≤4000)(hf:200000000≤fu):Ok (EF fu N) (fun r=>r=Dd N∧r.length≤16000000):=by
 have heq:=hN.eq
 have hlen:=hN.len
 have hfl:∀k,k≤N.2.1.length→((N.2.1.take k).flatMap fun l=>l.map (·.1)).length≤16000000:=fun k hk=>by
  have h1:=Gc (l:=N.2.1.take k) (g:=fun l=>l.map (·.1)) (c:=4000) fun l hl=>by have:=hN.r2 l (List.mem_of_mem_take hl);simp;omega
  have h2:(N.2.1.take k).length≤4000:=by rw[List.length_take];omega
  have:=Nat.mul_le_mul h2 (Nat.le_refl 4000)
  omega
 unfold EF
 refine Ok.range (fun k s=>s=(N.2.1.take k).flatMap fun l=>l.map (·.1)) N.2.1.length rf (by omega) (fun k s nx hk hJ hn=>?_) (fun s nx hJ=>?_)
 ·subst hJ
  unfold Dn
  dsimp only
  refine Ok.iT (by omega) (Ok.C3 hk ?_)
  have hr:=hN.r2 _ (List.getElem_mem hk)
  have h1:=hfl k (by omega)
  have hnx:(N.2.1.take (k+1)).flatMap (fun l=>l.map (·.1))=(N.2.1.take k).flatMap (fun l=>l.map (·.1))++(N.2.1[k]).map (·.1):=by
   rw[←List.take_append_getElem hk,List.flatMap_append];simp
  generalize(N.2.1.take k).flatMap (fun l=>l.map (·.1))=pre at h1 hnx
  generalize N.2.1[k]=row at hr hnx
  refine Ok.range (fun j s=>s=pre++(row.take j).map (·.1)) row.length (by simp) (by omega) (fun j s nx2 hj hJ hn2=>?_) (fun s nx2 hJ=>?_)
  ·subst hJ
   unfold Dm
   dsimp only
   refine Ok.iT (by omega) (Ok.C3 hj (Ok.A4 (by simp;unfold AJ;omega) (hn2 _ ?_)))
   rw[show row.take (j+1)=row.take j++[row[j]]from(List.take_append_getElem hj).symm,List.map_append,←List.append_assoc];rfl
  ·subst hJ
   unfold Dm
   dsimp only
   rw[List.take_of_length_le (Nat.le_refl _)]
   exact Ok.iF (by omega) (hn _ hnx.symm)
 ·subst hJ
  unfold Dn
  dsimp only
  have:=hfl N.2.1.length (by omega)
  rw[List.take_of_length_le (Nat.le_refl _)]at this⊢
  exact Ok.iF (by omega) (Ok.some ⟨rf,this⟩)
end Go.GL
namespace Go.GL
open Go.GK
def Mf(b:Nat)(row:List (AD×Int×Int)):List Int:=(row.filter fun e=>e.1 b).map fun e=>e.2.1
def mv(N:NT)(S:List Int)(b:Nat):List Int:=S.flatMap fun s=>Mf b (N.2.1.getD s.toNat [])
inductive Kj(N:NT)(a:Int):List Int→Prop
 |start:Kj N a (Er N [a])
 |step {S:List Int} {b:Nat} :Kj N a S→b<256→mv N S b≠ []→Kj N a (Er N (mv N S b))
theorem OX(N:NT)(l:List Int):(Er N l).length≤N.1.length:=P9 _ _
theorem Kj.is{N:NT}{a:Int}{S:List Int}(h:Kj N a S):∃l,S=Er N l:=by cases h<;>exact⟨_,rfl⟩
theorem Kj.len{N:NT}{a:Int}{S:List Int}(h:Kj N a S):S.length≤N.1.length:=by obtain⟨l,rfl⟩:=h.is;exact OX N l
theorem Kj.rg{N:NT}{a:Int}{S:List Int}(h:Kj N a S){x:Int}(hx:x∈S):0≤x∧x<N.1.length:=by
 obtain⟨l,rfl⟩:=h.is
 have:=G9.1 hx
 exact⟨this.1,this.2.1⟩
theorem Nq(b:Nat)(row:List (AD×Int×Int)):(Mf b row).length≤row.length:=by
 unfold Mf;rw[List.length_map];exact List.length_filter_le _ _
theorem Qe{N:NT}{c:Nat}(hN:NB N c){s:Int}(h0:0≤s)(h1:s<N.1.length):N.2.1[s.toNat]?=some (N.2.1.getD s.toNat []):=by
 have:=hN.eq
 rw[List.getD_eq_getElem?_getD,List.getElem?_eq_getElem (by omega)];rfl
theorem Na{N:NT}{c:Nat}(hN:NB N c)(k:Nat):(N.2.1.getD k []).length≤c:=by
 rw[List.getD_eq_getElem?_getD]
 cases hk:N.2.1[k]? with
 |none=>simp
 |some l=>exact hN.r2 l (List.mem_of_getElem? hk)
theorem Ti{N:NT}{c:Nat}(hN:NB N c){S:List Int}{b:Nat}{x:Int}(hx:x∈mv N S b):0≤x∧x<N.1.length:=by
 obtain⟨s,_,hx⟩:=List.mem_flatMap.1 hx
 obtain⟨e,he,rfl⟩:=List.mem_map.1 hx
 have he:=(List.mem_filter.1 he).1
 rw[List.getD_eq_getElem?_getD]at he
 cases hk:N.2.1[s.toNat]? with
 |none=>rw[hk]at he;cases he
 |some l=>rw[hk]at he;exact hN.t2 l (List.mem_of_getElem? hk) e he
theorem Np{N:NT}{c:Nat}(hN:NB N c)(hc:c≤4000){S:List Int}(b:Nat)(hS:S.length≤N.1.length):(mv N S b).length≤16000000:=by
 have h1:=Gc (l:=S) (g:=fun s=>Mf b (N.2.1.getD s.toNat [])) (c:=4000) fun s _=>by
  have:=Nq b (N.2.1.getD s.toNat []);have:=Na hN s.toNat;omega
 have h2:S.length≤4000:=by have:=hN.len;omega
 have:=Nat.mul_le_mul h2 (Nat.le_refl 4000)
 unfold mv;omega
theorem Xn{P:Tb→Prop}{p:AD}{k fu:Nat}{nx:(List Int×Nat)→Option Tb}{row:List (AD×Int×Int)}{pre:List Int}(hr:row.length≤4000)(hp:pre.length≤100000000)(hf:200000000≤fu)
  (hn:Ok (nx (pre++Mf (DO p) row,k+1)) P):Ok (Ax fu (fun q nx'=>BI fu p k nx row q.1 q.2 nx') (pre,0)) P:=by
 refine Ok.range (fun j s=>s=pre++Mf (DO p) (row.take j)) row.length (by simp[Mf]) (by omega) (fun j s nx2 hj hJ hn2=>?_) (fun s nx2 hJ=>?_)
 ·subst hJ
  unfold BI
  dsimp only
  have hl:=Nq (DO p) (row.take j)
  have htl:(row.take j).length≤row.length:=by rw[List.length_take];omega
  have hnx:Mf (DO p) (row.take (j+1))=Mf (DO p) (row.take j)++if row[j].1 (DO p)then [row[j].2.1]else []:=by
   rw[show row.take (j+1)=row.take j++[row[j]]from(List.take_append_getElem hj).symm]
   unfold Mf
   rw[List.filter_append,List.map_append]
   congr 1
   rw[List.filter_cons]
   split<;>rfl
  refine Ok.iT (by omega) (Ok.C3 hj ?_)
  rw[Int.toNat_natCast]
  refine Ok.bif (fun h=>Ok.A4 (by rw[List.length_append];simp only[List.length_cons,List.length_nil];unfold AJ;omega) (hn2 _ ?_)) fun h=>hn2 _ ?_
  ·rw[hnx,if_pos h,←List.append_assoc]
  ·rw[hnx,if_neg (by rw[h];decide),List.append_nil]
 ·subst hJ
  unfold BI
  dsimp only
  rw[List.take_of_length_le (Nat.le_refl _)]
  exact Ok.iF (by omega) hn
structure SM(N:NT)(a:Int)(L:List (List Int))(m:List (BF×Int)):Prop where
 nd:L.Nodup
 rc:∀S∈L,Kj N a S
 mp:En m (L.map FA)
theorem Kj.key_inj{N:NT}{a:Int}{S T:List Int}(h:Kj N a S)(k:Kj N a T)(e:FA S=FA T):S=T:=GL.key_inj (fun _ hz=>(h.rg hz).1) (fun _ hz=>(k.rg hz).1) e
theorem JC{α β:Type} [BEq α] [LawfulBEq α] [BEq β] [LawfulBEq β]{f:α→β}{x:α} :∀ {L:List α},(∀y∈L,f y=f x→y=x)→(L.map f).idxOf (f x)=L.idxOf x
 | [],_=>rfl
 |y::L,h=>by
  rw[List.map_cons,List.idxOf_cons,List.idxOf_cons,JC fun z hz=>h z (by simp[hz])]
  by_cases e:y=x
  ·subst e;simp
  ·have:¬f y=f x:=fun e'=>e (h y (by simp) e')
   rw[beq_eq_false_iff_ne.2 e,beq_eq_false_iff_ne.2 this]
theorem SM.has{N:NT}{a:Int}{L:List (List Int)}{m:List (BF×Int)}(h:SM N a L m){S:List Int}(hS:Kj N a S):(AA m (FA S)).isSome=decide (S∈L):=by
 rw[h.mp.some]
 refine decide_eq_decide.2 ⟨fun h'=>?_,fun h'=>List.mem_map_of_mem h'⟩
 obtain⟨T,hT,e⟩:=List.mem_map.1 h'
 rw[←(h.rc T hT).key_inj hS e];exact hT
theorem SM.num{N:NT}{a:Int}{L:List (List Int)}{m:List (BF×Int)}(h:SM N a L m){S:List Int}(hS:S∈L):(AA m (FA S)).getD 0=((L.idxOf S:Nat):Int):=by
 rw[h.mp.getD (List.mem_map_of_mem hS),JC fun T hT e=>(h.rc T hT).key_inj (h.rc S hS) e]
theorem SM.len{N:NT}{a:Int}{L:List (List Int)}{m:List (BF×Int)}(h:SM N a L m):m.length=L.length:=by rw[h.mp.1,List.length_map]
theorem SM.put{N:NT}{a:Int}{L:List (List Int)}{m:List (BF×Int)}(h:SM N a L m){S:List Int}(hS:Kj N a S)(hn:S∉L):SM N a (L++[S]) (Di m (FA S) (L.length:Int)):=by
 refine⟨List.nodup_append.2 ⟨h.nd,by simp,fun x hx y hy=>?_⟩,fun T hT=>?_,?_⟩
 ·simp at hy;subst hy;exact fun e=>hn (e▸hx)
 ·rcases List.mem_append.1 hT with hT|hT
  ·exact h.rc T hT
  ·simp at hT;subst hT;exact hS
 ·have:=h.mp.put (x:=FA S) fun h'=>by
   obtain⟨T,hT,e⟩:=List.mem_map.1 h'
   rw[(h.rc T hT).key_inj hS e]at hT;exact hn hT
  rw[List.length_map]at this
  rw[List.map_append];exact this
theorem Xo{P:Tb→Prop}{N:NT}{c fu j B:Nat}{a:Int}{p:AD}{S:List Int}{L:List (List Int)}{ms:List (AD×Int)}{m:List (BF×Int)}{nx:(List (List Int)×List (AD×Int)×List (BF×Int)×Nat)→Option Tb}
  (hN:NB N c) (hc:c≤4000) (hS:Kj N a S) (hL:SM N a L m) (hB:∀L:List (List Int),L.Nodup→(∀S∈L,Kj N a S)→L.length≤B) (hB':B≤100000000) (hms:ms.length≤100000) (hf:200000000≤fu)
  (hskip:mv N S (DO p)=[]→Ok (nx (L,ms,m,j+1)) P)
  (hnew:mv N S (DO p)≠ []→∀L' m' more,SM N a L' m'→L'=L++more→Er N (mv N S (DO p))∈L'→Ok (nx (L',ms++[(p,((L'.idxOf (Er N (mv N S (DO p))):Nat):Int))],m',j+1)) P):
  Ok (Ax fu (fun q nx'=>BJ fu N L ms m j nx p S q.1 q.2 nx') (([]:List Int),0)) P:=by
 have hlen:=hN.len
 have hSl:=hS.len
 refine Ok.range (fun i s=>s=mv N (S.take i) (DO p)) S.length rf (by omega) (fun i s nx2 hi hJ hn2=>?_) (fun s nx2 hJ=>?_)
 ·subst hJ
  unfold BJ
  dsimp only
  have hx:=hS.rg (List.getElem_mem hi)
  have hl:=Np hN hc (S:=S.take i) (DO p) (by rw[List.length_take];omega)
  refine Ok.iT (by omega) (Ok.C3 hi (Ok.HK hx.1 (Qe hN hx.1 hx.2) (Xn (by have:=Na hN S[i].toNat;omega) (by omega) hf (hn2 _ ?_))))
  rw[show S.take (i+1)=S.take i++[S[i]]from(List.take_append_getElem hi).symm]
  unfold mv
  rw[List.flatMap_append];simp
 ·subst hJ
  unfold BJ
  dsimp only
  rw[List.take_of_length_le (Nat.le_refl _)]
  refine Ok.iF (by omega) (Ok.ite (fun h=>hskip (List.length_eq_zero_iff.1 (by omega))) fun h=>?_)
  have hne:mv N S (DO p)≠ []:=fun e=>by rw[e]at h;exact h rfl
  have hR:Kj N a (Er N (mv N S (DO p))):= .step hS (J' p) hne
  refine Ok.AV (Hw hN hc (fun x hx=>Ti hN hx) (by have:=Np hN hc (DO p) hSl;omega) hf) fun r hr=>?_
  subst hr
  have hcl:=OX N (mv N S (DO p))
  have hnew:=hnew hne
  generalize Er N (mv N S (DO p))=T at hR hcl hnew
  refine Ok.AV (PL (fun x hx=>by have:=hR.rg hx;omega) (by omega) hf) fun r hr=>?_
  obtain⟨rfl,hk⟩:=hr
  have hLB:=hB L hL.nd hL.rc
  have hml:=hL.len
  rw[hL.has hR]
  refine Ok.A4 (by unfold AJ;omega) (Ok.bif (fun h1=>?_) fun h1=>?_)
  ·have h1:T∉L:=by simpa using h1
   have hput:=hL.put hR h1
   refine Ok.A4 (by unfold AJ;omega) (Ok.A4 (by unfold Dw;omega) (Ok.A4 (by unfold AJ;omega) (Ok.A4 (by simp only[List.length_cons,List.length_nil];unfold AJ;omega) ?_)))
   unfold BZ
   rw[hput.num (by simp)]
   exact Ok.A4 (by unfold AJ;omega) (Ok.A4 (by simp only[List.length_cons,List.length_nil];unfold AJ;omega) (hnew _ _ [T] hput rf (by simp)))
  ·have h1:T∈L:=by simpa using h1
   unfold BZ
   rw[hL.num h1]
   exact Ok.A4 (by unfold AJ;omega) (Ok.A4 (by simp only[List.length_cons,List.length_nil];unfold AJ;omega) (hnew _ _ [] hL (by simp) h1))
theorem OT{l:List Int}{x:Int}{fu:Nat}(hl:l.length≤100000000)(hf:200000000≤fu):Ok (DC fu l x) (fun r=>r=decide (x∈l)):=by
 unfold DC
 refine Ok.AV (Q:=fun i=>0≤i↔x∈l) ?_ fun i hi=>Ok.some (decide_eq_decide.2 hi)
 unfold FI
 refine Ok.count (fun k=>x∉l.take k) l.length (by simp) (by omega) (fun k nx hk hJ hn=>?_) (fun nx hJ=>?_)
 ·unfold CY
  refine Ok.iT (by omega) (Ok.C3 hk (Ok.ite (fun h=>Ok.some ⟨fun _=>?_,fun _=>by omega⟩) fun h=>hn ?_))
  ·rw[h];exact List.getElem_mem hk
  ·rw[Fc hk];rintro(h1|h1)
   ·exact hJ h1
   ·exact h h1
 ·unfold CY
  rw[List.take_of_length_le (Nat.le_refl _)]at hJ
  exact Ok.iF (by omega) (Ok.some ⟨fun h=>absurd h (by decide),fun h=>absurd h hJ⟩)
end Go.GL
namespace Go.GL
open Go.GK
def IU(a b:Gp):Prop:=a.2.1<b.1∨b.2.1<a.1
def T6(ms:List (AD×Int)):List Gp:=ms.flatMap fun m=>(NU m.1).map fun x=>(x.1,x.2,m.2)
theorem Nt{ms:List (AD×Int)}{e:Gp} :e∈T6 ms↔∃m∈ms,∃r∈Ch m.1 256,e=((r.1:Int),(r.2:Int),m.2):=by
 unfold T6 NU
 rw[List.mem_flatMap]
 constructor
 ·rintro⟨m,hm,he⟩
  obtain⟨x,hx,rfl⟩:=List.mem_map.1 he
  obtain⟨r,hr,rfl⟩:=List.mem_map.1 hx
  exact⟨m,hm,r,hr,rf⟩
 ·rintro⟨m,hm,r,hr,rfl⟩
  exact⟨m,hm,List.mem_map.2 ⟨_,List.mem_map.2 ⟨r,hr,rf⟩,rf⟩⟩
theorem RZ{ms:List (AD×Int)}(h:ms.Pairwise fun m m'=> ∀x,x<256→m.1 x=true→m'.1 x=false):(T6 ms).Pairwise IU:=by
 refine List.pairwise_flatMap.2 ⟨fun m _=>?_,?_⟩
 ·unfold NU
  rw[List.map_map]
  refine List.pairwise_map.2 (List.Pairwise.imp (fun{a b} hab=>?_) (GA m.1 256).apart)
  left;show(a.2:Int)<(b.1:Int);omega
 ·refine List.Pairwise.imp (fun{m m'} hm x hx y hy=>?_) h
  obtain⟨x',hx',rfl⟩:=List.mem_map.1 hx
  obtain⟨r,hr,rfl⟩:=List.mem_map.1 hx'
  obtain⟨y',hy',rfl⟩:=List.mem_map.1 hy
  obtain⟨s,hs,rfl⟩:=List.mem_map.1 hy'
  have h1:=(GA m.1 256).run r hr
  have h2:=(GA m'.1 256).run s hs
  by_cases h3:r.2<s.1
  ·left;show(r.2:Int)<(s.1:Int);omega
  ·by_cases h4:s.2<r.1
   ·right;show(s.2:Int)<(r.1:Int);omega
   ·exfalso
    have h5:=h1.2.2 (max r.1 s.1) (by omega) (by omega)
    have h6:=h2.2.2 (max r.1 s.1) (by omega) (by omega)
    rw[hm _ (by omega) h5]at h6;cases h6
theorem Up{es:List Gp}(h:es.Pairwise IU)(hr:∀e∈es,e.1≤e.2.1){i j:Nat}(hi:i<es.length)(hj:j<es.length)(e:es[i].1=es[j].1):i=j:=by
 have a1:=hr _ (List.getElem_mem hi)
 have a2:=hr _ (List.getElem_mem hj)
 rcases Nat.lt_trichotomy i j with h1|h1|h1
 ·have:=List.pairwise_iff_getElem.1 h i j hi hj h1
  unfold IU at this;omega
 ·exact h1
 ·have:=List.pairwise_iff_getElem.1 h j i hj hi h1
  unfold IU at this;omega
theorem Ep(x y:Gp):QB ES x y=decide (x.1<y.1):=by
 unfold QB ES
 simp only[Option.getD_some]
 exact decide_eq_decide.2 (by omega)
theorem Uc{es:List Gp}(h:es.Pairwise IU)(hr:∀e∈es,e.1≤e.2.1):M0 ES es:=by
 refine⟨fun i j=>rfl,fun i=>?_,fun i j k=>?_,fun i j k=>?_,fun i j=>?_⟩
 ·rw[Ep];simp
 ·rw[Ep,Ep,Ep];simp only[decide_eq_true_eq];omega
 ·rw[Ep,Ep,Ep];simp only[decide_eq_false_iff_not];omega
 ·rw[Ep,Ep];simp only[decide_eq_false_iff_not]
  intro h1 h2
  exact Fin.ext (Up h hr i.2 j.2 (by show es[i.1].1=es[j.1].1;have h1':¬es[i.1].1<es[j.1].1:=h1;have h2':¬es[j.1].1<es[i.1].1:=h2;omega))
theorem Rm{es:List Gp}{m n:Nat}(h:es.Pairwise IU)(hr:∀e∈es,0≤e.1∧e.1≤e.2.1∧e.2.1<m∧0≤e.2.2∧e.2.2<n):EJ (Ei ES es) m n:=by
 have hp:(Ei ES es).Perm es:=Dv _ es
 have hm:∀e,e∈Ei ES es↔e∈es:=fun e=>hp.mem_iff
 refine⟨fun e he=>hr e ((hm e).1 he),?_⟩
 have h1:(Ei ES es).Pairwise IU:=(hp.pairwise_iff (R:=IU) fun{a b} hab=>hab.symm).2 h
 have h2:(Ei ES es).Pairwise fun a b=>(!QB ES b a)=true:=GD (fun _=>True) (fun a b c _ _ _=>by rw[Ep,Ep,Ep];simp;omega) (fun a b _ _=>by rw[Ep,Ep];simp;omega) es fun _ _=>trivial
 refine List.Pairwise.imp_of_mem (fun{a b} ha hb hab=>?_) (h1.and h2)
 have a1:=hr a ((hm a).1 ha)
 have a2:=hr b ((hm b).1 hb)
 obtain⟨h3,h4⟩:=hab
 rw[Ep]at h4
 have h4:¬b.1<a.1:=by simpa using h4
 unfold IU at h3;omega
theorem Sw{es:List Gp}{b:Nat}{t:Int}(h:∀e∈es,FB b e=true→e.2.2=t)(hx:∃e∈es,FB b e=true):Cr es b=t:=by
 unfold Cr
 cases hf:es.find? (FB b)with
 |none=>
  obtain⟨e,he,hi⟩:=hx
  have:=List.find?_eq_none.1 hf e he
  exact absurd hi this
 |some e=>exact h e (List.mem_of_find?_eq_some hf) (by have:=List.find?_some hf;exact this)
theorem Sx{es:List Gp}{b:Nat}(h:∀e∈es,FB b e≠true):Cr es b= -1:=by
 unfold Cr
 rw[List.find?_eq_none.2 fun e he=>h e he]
theorem J8(l:List AD):NP l 256 (BD l) (Cg (AY l l.length) 256).2:=(On l 256 (Nat.le_refl _)).1
theorem Vl{p:AD}{x:Nat}(hx:x<256)(h:p x=true):p (DO p)=true:=by
 unfold DO
 cases hf:(List.range 256).find? p with
 |none=>exact absurd h (by have:=List.find?_eq_none.1 hf x (List.mem_range.2 hx);exact this)
 |some a=>exact List.find?_some hf
theorem Nn{N:NT}{p:AD}(hp:p∈BD (Dd N)){x:Nat}(hx:x<256)(h:p x=true)(S:List Int):mv N S (DO p)=mv N S x:=by
 have hal:=(FV _ _ _).1 (((J8 (Dd N)).cls p hp x (DO p) hx (J' p) h).1 (Vl hx h))
 have hrow:∀k,Mf (DO p) (N.2.1.getD k [])=Mf x (N.2.1.getD k []):=fun k=>by
  unfold Mf
  congr 1
  refine List.filter_congr fun e he=>?_
  rw[List.getD_eq_getElem?_getD]at he
  cases hk:N.2.1[k]? with
  |none=>rw[hk]at he;cases he
  |some l=>
   rw[hk]at he
   exact(hal e.1 (List.mem_flatMap.2 ⟨l,List.mem_of_getElem? hk,List.mem_map.2 ⟨e,he,rf⟩⟩)).symm
 unfold mv
 exact congrArg (fun f=>S.flatMap f) (funext fun s=>hrow s.toNat)
noncomputable def Jo(N:NT)(L:List (List Int))(S:List Int)(p:AD):Option (AD×Int):=if mv N S (DO p)=[]then none else some (p,((L.idxOf (Er N (mv N S (DO p))):Nat):Int))
noncomputable def Jp(N:NT)(L:List (List Int))(S:List Int)(ps:List AD):List (AD×Int):=ps.filterMap (Jo N L S)
def VY(N:NT)(L:List (List Int))(S:List Int)(ps:List AD):Prop:= ∀p∈ps,mv N S (DO p)≠ []→Er N (mv N S (DO p))∈L
theorem OK{α β:Type}{f g:α→Option β} :∀ {l:List α},(∀x∈l,f x=g x)→l.filterMap f=l.filterMap g
 | [],_=>rfl
 |x::l,h=>by rw[List.filterMap_cons,List.filterMap_cons,h x (by simp),OK fun y hy=>h y (by simp[hy])]
theorem Th{N:NT}{L more:List (List Int)}{S:List Int}{ps:List AD}(h:VY N L S ps):Jp N (L++more) S ps=Jp N L S ps:=by
 unfold Jp
 refine OK fun p hp=>?_
 unfold Jo
 split
 ·rfl
 ·rename_i h1
  rw[List.idxOf_append,if_pos (h p hp h1)]
structure Mc(N:NT)(b:Int)(L:List (List Int))(S:List Int)(st:XD):Prop where
 acc:st.1=decide (b∈S)
 ed:EJ st.2 256 L.length
 N7:∀x,x<256→Cr st.2 x=if mv N S x=[]then-1 else((L.idxOf (Er N (mv N S x)):Nat):Int)
 cl:∀x,x<256→mv N S x≠ []→Er N (mv N S x)∈L
theorem Mc.ext{N:NT}{b:Int}{L more:List (List Int)}{S:List Int}{st:XD}(h:Mc N b L S st):Mc N b (L++more) S st:=by
 refine⟨h.acc,h.ed.mono (Nat.le_refl _) (by simp),fun x hx=>?_,fun x hx h1=>List.mem_append.2 (.inl (h.cl x hx h1))⟩
 rw[h.N7 x hx]
 split
 ·rfl
 ·rename_i h1
  rw[List.idxOf_append,if_pos (h.cl x hx h1)]
theorem T5{N:NT}{L:List (List Int)}{S:List Int}{ps:List AD}(hM:VY N L S ps):∀e∈T6 (Jp N L S ps),0≤e.1∧e.1≤e.2.1∧e.2.1<(256:Nat)∧0≤e.2.2∧e.2.2<L.length:=fun e he=>by
 obtain⟨m,hm,r,hr,rfl⟩:=Nt.1 he
 obtain⟨p,hp,hf⟩:=List.mem_filterMap.1 hm
 unfold Jo at hf
 split at hf
 ·cases hf
 ·rename_i h1
  cases hf
  have h2:=(GA p 256).run r hr
  have h3:=List.idxOf_lt_length_of_mem (hM p hp h1)
  dsimp only
  omega
theorem MF{N:NT}{L:List (List Int)}{S:List Int} :(T6 (Jp N L S (BD (Dd N)))).Pairwise IU:=by
 refine RZ (List.pairwise_filterMap.2 (List.Pairwise.imp (fun{p q} hpq m hm m' hm'=>?_) (J8 (Dd N)).apart))
 unfold Jo at hm hm'
 split at hm
 ·cases hm
 ·split at hm'
  ·cases hm'
  ·cases hm;cases hm';exact hpq
theorem WJ{N:NT}{b:Int}{L:List (List Int)}{S:List Int}(hM:VY N L S (BD (Dd N))):Mc N b L S (decide (b∈S),Ei ES (T6 (Jp N L S (BD (Dd N))))):=by
 have hp:(Ei ES (T6 (Jp N L S (BD (Dd N))))).Perm _:=Dv _ _
 have I:=J8 (Dd N)
 have hcov:∀x,x<256→∃p∈BD (Dd N),p x=true:=fun x hx=>(I.seen x hx).1 (I.upto x hx hx)
 have hin:∀x,x<256→∀e∈T6 (Jp N L S (BD (Dd N))),FB x e=true→mv N S x≠ []∧e.2.2=((L.idxOf (Er N (mv N S x)):Nat):Int):=fun x hx e he hi=>by
  obtain⟨m,hm,r,hr,rfl⟩:=Nt.1 he
  obtain⟨p,hp,hf⟩:=List.mem_filterMap.1 hm
  have h2:=(GA m.1 256).run r hr
  simp only[FB,Bool.and_eq_true,decide_eq_true_eq]at hi
  have h3:=h2.2.2 x (by omega) (by omega)
  unfold Jo at hf
  split at hf
  ·cases hf
  ·rename_i h1
   cases hf
   rw[Nn hp hx h3]at h1⊢
   exact⟨h1,rf⟩
 refine⟨rf,Rm MF (T5 hM),fun x hx=>?_,fun x hx h1=>?_⟩
 ·split
  ·rename_i h1
   exact Sx fun e he hi=>(hin x hx e (hp.mem_iff.1 he) hi).1 h1
  ·rename_i h1
   refine Sw (fun e he hi=>(hin x hx e (hp.mem_iff.1 he) hi).2) ?_
   obtain⟨p,hpp,hpx⟩:=hcov x hx
   obtain⟨r,hr,r1,r2⟩:=(GA p 256).all x hx hpx
   have h2:Jo N L S p=some (p,((L.idxOf (Er N (mv N S (DO p))):Nat):Int)):=by unfold Jo;rw[if_neg (by rw[Nn hpp hx hpx];exact h1)]
   refine⟨_,hp.mem_iff.2 (Nt.2 ⟨_,List.mem_filterMap.2 ⟨p,hpp,h2⟩,r,hr,rf⟩),?_⟩
   simp only[FB,Bool.and_eq_true,decide_eq_true_eq];omega
 ·obtain⟨p,hpp,hpx⟩:=hcov x hx
  have:=hM p hpp
  rw[Nn hpp hx hpx]at this
  exact this h1
end Go.GL
namespace Go.GL
open Go.GK
theorem Qf(p:AD):(NU p).length≤256:=by
 have I:=GA p 256
 unfold NU
 rw[List.length_map]
 have h1:((Ch p 256).map (·.1)).Nodup:=List.pairwise_map.2 (List.Pairwise.imp_of_mem (fun{a b} ha hb hab=>by have:=I.run a ha;have:=I.run b hb;omega) I.apart)
 have:=EA (b:=List.range 256) h1 fun x hx=>by
  obtain⟨a,ha,rfl⟩:=List.mem_map.1 hx
  have:=I.run a ha
  exact List.mem_range.2 (by omega)
 simpa using this
theorem QW(ms:List (AD×Int)):(T6 ms).length≤ms.length*256:=Gc fun m _=>by rw[List.length_map];exact Qf m.1
theorem Xm{P:Tb→Prop}{m:AD×Int}{k fu:Nat}{nx:(List Gp×Nat)→Option Tb}{pre:List Gp}(hp:pre.length≤100000000)(hf:200000000≤fu)
  (hn:Ok (nx (pre++(NU m.1).map (fun x=>(x.1,x.2,m.2)),k+1)) P):Ok (Ax fu (fun q nx'=>BH fu k nx m q.1 q.2 nx') (pre,0)) P:=by
 have hl:=Qf m.1
 refine Ok.range (fun j s=>s=pre++((NU m.1).take j).map (fun x=>(x.1,x.2,m.2))) (NU m.1).length (by simp) (by omega) (fun j s nx2 hj hJ hn2=>?_) (fun s nx2 hJ=>?_)
 ·subst hJ
  unfold BH
  dsimp only
  refine Ok.iT (by omega) (Ok.C3 hj (Ok.A4 ?_ (hn2 _ ?_)))
  ·rw[List.length_append,List.length_map,List.length_take];simp only[List.length_cons,List.length_nil];unfold AJ;omega
  ·rw[show(NU m.1).take (j+1)=(NU m.1).take j++[(NU m.1)[j]]from(List.take_append_getElem hj).symm,List.map_append,←List.append_assoc];rfl
 ·subst hJ
  unfold BH
  dsimp only
  rw[List.take_of_length_le (Nat.le_refl _)]
  exact Ok.iF (by omega) hn
theorem Xp{P:Tb→Prop}{N:NT}{c fu k B:Nat}{a b:Int}{S:List Int}{L0:List (List Int)}{m0:List (BF×Int)}{out:Tb}{nx:(List (List Int)×Tb×List (BF×Int)×Nat)→Option Tb}
  (hN:NB N c) (hc:c≤4000) (hk:L0[k]?=some S) (hL0:SM N a L0 m0) (hB:∀L:List (List Int),L.Nodup→(∀S∈L,Kj N a S)→L.length≤B) (hB':B≤100000000) (hf:200000000≤fu) (hout:out.length≤100000000)
  (hn:∀L m more st,SM N a L m→L=L0++more→Mc N b L S st→Ok (nx (L,out++[st],m,k+1)) P):
  Ok (Ax fu (fun p nx'=>BK fu N b (Dd N) out k nx p.1 p.2.1 p.2.2.1 p.2.2.2 nx') (L0,([]:List (AD×Int)),m0,0)) P:=by
 have hS:=hL0.rc S (List.mem_of_getElem? hk)
 have hSl:=hS.len
 have hlen:=hN.len
 have hpl:(BD (Dd N)).length≤65536:=J7 _
 have hget:∀more,(L0++more)[k]?=some S:=fun more=>by
  have:=(List.getElem?_eq_some_iff.1 hk).1
  rw[List.getElem?_append_left this];exact hk
 refine Ok.PG (fun j L ms m=>SM N a L m∧(∃more,L=L0++more)∧ms=Jp N L S ((BD (Dd N)).take j)∧VY N L S ((BD (Dd N)).take j)) (BD (Dd N)).length ⟨hL0,⟨[],by simp⟩,rf,fun p hp=>by simp at hp⟩ (by omega) (fun j L ms m nx2 hj hJ hn2=>?_) (fun L ms m nx2 hJ=>?_)
 ·obtain⟨hL,⟨more,hm⟩,hms,hM⟩:=hJ
  unfold BK
  dsimp only
  have hmsl:ms.length≤65536:=by
   rw[hms];have:=List.length_filterMap_le (Jo N L S) ((BD (Dd N)).take j);rw[List.length_take]at this;unfold Jp;omega
  have htk:(BD (Dd N)).take (j+1)=(BD (Dd N)).take j++[(BD (Dd N))[j]]:=(List.take_append_getElem hj).symm
  rw[htk]at hn2
  refine Ok.iT (by omega) (Ok.C3 hj (Ok.HK (by omega) (by rw[Int.toNat_natCast,hm];exact hget more) ?_))
  generalize(BD (Dd N))[j]=p at hn2
  have hsplit:∀L',Jp N L' S ((BD (Dd N)).take j++[p])=Jp N L' S ((BD (Dd N)).take j)++[p].filterMap (Jo N L' S):=fun L'=>by unfold Jp;rw[List.filterMap_append]
  refine Xo hN hc hS hL hB hB' (by omega) hf (fun h=>hn2 _ _ _ ⟨hL,⟨more,hm⟩,?_,fun q hq h1=>?_⟩) fun h L' m' more' hL' hm' hin=>hn2 _ _ _ ⟨hL',⟨more++more',by rw[hm',hm,List.append_assoc]⟩,?_,fun q hq h1=>?_⟩
  ·rw[hsplit,←hms]
   have:Jo N L S p=none:=by unfold Jo;rw[if_pos h]
   simp[this]
  ·rcases List.mem_append.1 hq with hq|hq
   ·exact hM q hq h1
   ·simp at hq;subst hq;exact absurd h h1
  ·rw[hsplit,hm',Th hM,←hms,←hm']
   have:Jo N L' S p=some (p,((L'.idxOf (Er N (mv N S (DO p))):Nat):Int)):=by unfold Jo;rw[if_neg h]
   simp[this]
  ·rcases List.mem_append.1 hq with hq|hq
   ·rw[hm'];exact List.mem_append.2 (.inl (hM q hq h1))
   ·simp at hq;subst hq;exact hin
 ·obtain⟨hL,⟨more,hm⟩,hms,hM⟩:=hJ
  rw[List.take_of_length_le (Nat.le_refl _)]at hms hM
  unfold BK
  dsimp only
  have hmsl:ms.length≤65536:=by
   rw[hms];have:=List.length_filterMap_le (Jo N L S) (BD (Dd N));unfold Jp;omega
  refine Ok.iF (by omega) (Ok.HK (by omega) (by rw[Int.toNat_natCast,hm];exact hget more) (Ok.AV (OT (by omega) hf) fun r hr=>?_))
  subst hr
  refine Ok.range (fun i s=>s=T6 (ms.take i)) ms.length rf (by omega) (fun i s nx3 hi hJ hn3=>?_) (fun s nx3 hJ=>?_)
  ·subst hJ
   unfold B8
   dsimp only
   have hl:=QW (ms.take i)
   have htl:(ms.take i).length≤65536:=by rw[List.length_take];omega
   have:=Nat.mul_le_mul htl (Nat.le_refl 256)
   refine Ok.iT (by omega) (Ok.C3 hi (Xm (by omega) hf (hn3 _ ?_)))
   rw[show ms.take (i+1)=ms.take i++[ms[i]]from(List.take_append_getElem hi).symm]
   unfold T6
   rw[List.flatMap_append];simp
  ·subst hJ
   unfold B8
   dsimp only
   rw[List.take_of_length_le (Nat.le_refl _)]
   have hl:=QW ms
   have:=Nat.mul_le_mul hmsl (Nat.le_refl 256)
   refine Ok.iF (by omega) (Ok.A4 (Uc (by rw[hms];exact MF) fun e he=>?_) (Ok.A4 (by unfold AJ;omega) (Ok.A4 (by simp only[List.length_cons,List.length_nil];unfold AJ;omega) (hn L m more _ hL hm ?_))))
   ·rw[hms]at he;exact(T5 hM e he).2.1
   ·rw[hms];exact WJ hM
structure Re(N:NT)(a b:Int)(L:List (List Int))(T:Tb):Prop where
 len:T.length=L.length
 hd:L[0]?=some (Er N [a])
 nd:L.Nodup
 rc:∀S∈L,Kj N a S
 row:∀(k:Nat) S st,L[k]?=some S→T[k]?=some st→Mc N b L S st
theorem NG{N:NT}{c fu B:Nat}{a b:Int}(hN:NB N c)(hc:c≤4000)(ha:0≤a)(ha':a<N.1.length)(hB:∀L:List (List Int),L.Nodup→(∀S∈L,Kj N a S)→L.length≤B)(hB':B≤100000000)(hf:200000000≤fu):
  Ok (CO fu N a b) (fun T=> ∃L,Re N a b L T):=by
 have hlen:=hN.len
 unfold CO
 refine Ok.AV (Qb hN hc hf) fun r hr=>?_
 obtain⟨rfl,hr⟩:=hr
 refine Ok.A4 (by omega) (Ok.AV (Hw hN hc (fun x hx=>by simp at hx;subst hx;exact⟨ha,ha'⟩) (by simp) hf) fun r hr=>?_)
 subst hr
 have hR:Kj N a (Er N [a]):= .start
 have hcl:=hR.len
 refine Ok.HK (a:=Er N [a]) (by decide) rf (Ok.AV (PL (fun x hx=>by have:=hR.rg hx;omega) (by omega) hf) fun r hr=>?_)
 obtain⟨rfl,hk⟩:=hr
 refine Ok.A4 (by unfold AJ;omega) (Ok.A4 (by simp[AJ]) ?_)
 have hSM:SM N a [Er N [a]] (Di ([]:List (BF×Int)) (FA (Er N [a])) 0):=SM.put (L:=[]) (m:=[]) ⟨.nil,by simp,En.nil⟩ hR (by simp)
 refine Ok.loop (fun(x:List (List Int)×Tb×List (BF×Int)×Nat)=>SM N a x.1 x.2.2.1∧x.2.1.length=x.2.2.2∧x.2.2.2≤x.1.length∧x.1[0]?=some (Er N [a])∧∀(k:Nat) S st,x.1[k]?=some S→x.2.1[k]?=some st→Mc N b x.1 S st) (fun x=>B-x.2.2.2)
  ⟨hSM,rfl,by simp,rfl,fun k S st _ h=>by simp at h⟩ (by dsimp only;omega) fun x nx hI _ hn=>?_
 obtain⟨L,out,m,k⟩:=x
 obtain⟨hL,h1,h2,h3,h4⟩:=hI
 dsimp only at hL h1 h2 h3 h4 hn
 unfold CF
 dsimp only
 have hLB:=hB L hL.nd hL.rc
 rcases Nat.lt_or_ge k L.length with hk'|hk'
 ·have hkS:L[k]?=some L[k]:=List.getElem?_eq_getElem hk'
  refine Ok.iT (by omega) (Xp hN hc hkS hL hB hB' hf (by omega) fun L' m' more st g1 g2 g3=>hn (L',out++[st],m',k+1) ⟨g1,by dsimp only;rw[List.length_append,h1];rfl,?_,?_,fun i S st' e1 e2=>?_⟩ ?_)
  ·dsimp only;rw[g2,List.length_append];omega
  ·dsimp only;rw[g2,List.getElem?_append_left (by omega)];exact h3
  ·dsimp only at e1 e2⊢
   rcases Nat.lt_trichotomy i k with h|h|h
   ·rw[List.getElem?_append_left (by omega)]at e2
    rw[g2,List.getElem?_append_left (by omega)]at e1
    rw[g2];exact(h4 i S st' e1 e2).ext
   ·subst h
    rw[List.getElem?_append_right (by omega),h1,Nat.sub_self]at e2
    rw[g2,List.getElem?_append_left (by omega),hkS]at e1
    cases e1;simp at e2;subst e2;exact g3
   ·rw[List.getElem?_eq_none (by rw[List.length_append];simp;omega)]at e2;cases e2
  ·dsimp only;omega
 ·exact Ok.iF (by omega) (Ok.some ⟨L,by omega,h3,hL.nd,hL.rc,h4⟩)
theorem Xk{N:NT}{s u:Int}{w:List UInt8}(h:Cl (K3 N) s w u):w=[]→Cl (Pt N.1) s [] u:=by
 induction h with
 |refl s=>exact fun _=> .refl s
 | @step s t u v w h1 _ ih=>
  intro e
  obtain⟨rfl,rfl⟩:=List.append_eq_nil_iff.1 e
  rcases h1 with h1|⟨c,h1,_⟩
  ·exact(Cl.one h1).trans (ih rf)
  ·cases h1
theorem YN{N:NT}{s u:Int}{w:List UInt8}(h:Cl (Pt N.1) s w u):Cl (K3 N) s w u:=h.mono fun _ _ _ h=>Cl.one (.inl h)
theorem VF{N:NT}{s u:Int}{c:UInt8}{w:List UInt8}(h:Cl (K3 N) s (c::w) u):∃t v,Cl (Pt N.1) s [] t∧UP N.2.1 t [c] v∧Cl (K3 N) v w u:=by
 generalize hx:c::w=x at h
 induction h with
 |refl s=>cases hx
 | @step s t u v w' h1 h2 ih=>
  rcases h1 with⟨rfl,h1⟩|⟨c',rfl,h1⟩
  ·obtain⟨t',v',i1,i2,i3⟩:=ih hx
   exact⟨t',v',(Cl.one (T:=Pt N.1) ⟨rf,h1⟩).trans i1,i2,i3⟩
  ·cases hx
   exact⟨s,t, .refl s,⟨c,rf,h1⟩,h2⟩
theorem Ky{N:NT}{c:Nat}(hN:NB N c){l:List Int}{s u:Int}(hs:s∈Er N l)(h:Cl (Pt N.1) s [] u):u∈Er N l:=by
 obtain⟨h0,h1,x,hx,hc⟩:=G9.1 hs
 rw[show((s.toNat:Nat):Int)=s by omega]at hc
 have hu:=MR (f:=fun u=>0≤u∧u<N.1.length) (fun s u _ ⟨row,_,h3,h4⟩=>hN.t1 row (List.mem_of_getElem? h3) u h4) h ⟨h0,h1⟩
 refine G9.2 ⟨hu.1,hu.2,x,hx,?_⟩
 rw[show((u.toNat:Nat):Int)=u by omega]
 exact hc.trans h
theorem MS{N:NT}{l:List Int}{s:Int}(hs:s∈l)(h0:0≤s)(h1:s<N.1.length):s∈Er N l:=by
 refine G9.2 ⟨h0,h1,s,hs,?_⟩
 rw[show((s.toNat:Nat):Int)=s by omega]
 exact .refl s
theorem Tl{N:NT}{S:List Int}{c:UInt8}{v:Int}(hS:∀s∈S,0≤s):v∈mv N S c.toNat↔∃s∈S,UP N.2.1 s [c] v:=by
 unfold mv Mf
 rw[List.mem_flatMap]
 constructor
 ·rintro⟨s,hs,h⟩
  obtain⟨e,he,rfl⟩:=List.mem_map.1 h
  obtain⟨he,hc⟩:=List.mem_filter.1 he
  rw[List.getD_eq_getElem?_getD]at he
  cases hk:N.2.1[s.toNat]? with
  |none=>rw[hk]at he;cases he
  |some l=>rw[hk]at he;exact⟨s,hs,c,rfl,hS s hs,l,hk,e,he,hc,rfl⟩
 ·rintro⟨s,hs,c',h1,h0,l,hk,e,he,hc,rfl⟩
  cases h1
  refine⟨s,hs,List.mem_map.2 ⟨e,List.mem_filter.2 ⟨?_,hc⟩,rf⟩⟩
  rw[List.getD_eq_getElem?_getD,hk];exact he
theorem T7{N:NT}{c:Nat}{a b:Int}{L:List (List Int)}{T:Tb}(hN:NB N c)(h:Re N a b L T):∀(w:List UInt8) (k:Nat) S,L[k]?=some S→(B_ T (k:Int) w=true↔∃s∈S,Cl (K3 N) s w b):=by
 intro w
 induction w with
 |nil=>
  intro k S hk
  have hR:=h.rc S (List.mem_of_getElem? hk)
  have hkl:=(List.getElem?_eq_some_iff.1 hk).1
  have hT:T[k]?=some (T[k]'(by have:=h.len;omega)):=List.getElem?_eq_getElem _
  have hr:=h.row k S _ hk hT
  have hrow:Fy T (k:Int)=T[k]'(by have:=h.len;omega):=by unfold Fy;rw[Int.toNat_natCast,List.getD_eq_getElem?_getD,hT];rfl
  show fin T (k:Int)=true↔_
  unfold fin
  rw[hrow,hr.acc,decide_eq_true (by omega:(0:Int)≤k)]
  simp only[Bool.true_and,decide_eq_true_eq]
  refine⟨fun hb=>⟨b,hb, .refl b⟩,fun⟨s,hs,hc⟩=>?_⟩
  obtain⟨l,rfl⟩:=hR.is
  exact Ky hN hs (Xk hc rf)
 |cons x w ih=>
  intro k S hk
  have hR:=h.rc S (List.mem_of_getElem? hk)
  have hkl:=(List.getElem?_eq_some_iff.1 hk).1
  have hT:T[k]?=some (T[k]'(by have:=h.len;omega)):=List.getElem?_eq_getElem _
  have hr:=h.row k S _ hk hT
  have hrow:Fy T (k:Int)=T[k]'(by have:=h.len;omega):=by unfold Fy;rw[Int.toNat_natCast,List.getD_eq_getElem?_getD,hT];rfl
  show B_ T (Je T (k:Int) x.toNat) w=true↔_
  have hst:Je T (k:Int) x.toNat=Cr (T[k]'(by have:=h.len;omega)).2 x.toNat:=by unfold Je;rw[if_neg (by omega),hrow]
  rw[hst,hr.N7 _ x.toNat_lt]
  have hnn:∀s∈S,0≤s:=fun s hs=>(hR.rg hs).1
  have hto:∀ {s:Int},s∈S→Cl (K3 N) s (x::w) b→∃v∈mv N S x.toNat,Cl (K3 N) v w b:=fun{s} hs hc=>by
   obtain⟨t,v,h1,h2,h3⟩:=VF hc
   obtain⟨l,rfl⟩:=hR.is
   exact⟨v,(Tl hnn).2 ⟨t,Ky hN hs h1,h2⟩,h3⟩
  split
  ·rename_i hm
   rw[Jw (by decide)]
   refine⟨fun h=>(by cases h),fun⟨s,hs,hc⟩=>?_⟩
   obtain⟨v,hv,_⟩:=hto hs hc
   rw[hm]at hv;cases hv
  ·rename_i hm
   have hin:=hr.cl _ x.toNat_lt hm
   have hix:L[L.idxOf (Er N (mv N S x.toNat))]?=some (Er N (mv N S x.toNat)):=by
    rw[List.getElem?_eq_getElem (List.idxOf_lt_length_of_mem hin),List.getElem_idxOf]
   rw[ih _ _ hix]
   constructor
   ·rintro⟨s',hs',hc⟩
    obtain⟨h0,_,v,hv,hcl⟩:=G9.1 hs'
    rw[show((s'.toNat:Nat):Int)=s' by omega]at hcl
    obtain⟨s,hs,ho⟩:=(Tl hnn).1 hv
    exact⟨s,hs,Cl.step (v:=[x]) (.inr ho) ((YN hcl).trans hc)⟩
   ·rintro⟨s,hs,hc⟩
    obtain⟨v,hv,hc⟩:=hto hs hc
    have:=Ti hN hv
    exact⟨v,MS hv this.1 this.2,hc⟩
theorem Xe{N:NT}{c:Nat}{a b:Int}{L:List (List Int)}{T:Tb}(hN:NB N c)(ha:0≤a)(ha':a<N.1.length)(h:Re N a b L T)(w:List UInt8):B_ T 0 w=true↔Cl (K3 N) a w b:=by
 have:=T7 hN h w 0 _ h.hd
 rw[show((0:Nat):Int)=0 from rfl]at this
 rw[this]
 constructor
 ·rintro⟨s,hs,hc⟩
  obtain⟨h0,_,v,hv,hcl⟩:=G9.1 hs
  rw[show((s.toNat:Nat):Int)=s by omega]at hcl
  simp at hv;subst hv
  exact(YN hcl).trans hc
 ·intro hc
  exact⟨a,MS (by simp) ha ha',hc⟩
theorem Xd{N:NT}{a b:Int}{L:List (List Int)}{T:Tb}(h:Re N a b L T):FW T:=fun s hs=>by
 obtain⟨k,hk,rfl⟩:=List.getElem_of_mem hs
 have hl:=h.len
 rw[hl]
 exact(h.row k L[k] T[k] (List.getElem?_eq_getElem (by omega)) (List.getElem?_eq_getElem hk)).ed
end Go.GL
namespace Go.GL
open Go.GK
def U7(b:Nat)(row:List (AD×Int×Int)):List Int:=(row.filter fun e=>e.1 b).map fun e=>e.2.2
def ps(N:NT)(S:List Int)(b:Nat):List Int:=S.flatMap fun s=>U7 b (N.2.1.getD s.toNat [])
def P3(m:List (BF×Bool))(u:List BF):Prop:=m.length=u.length∧u.Nodup∧∀x,AA m x=if x∈u then some true else none
theorem P3.put{m:List (BF×Bool)}{u:List BF}(h:P3 m u){x:BF}(hx:x∉u):P3 (Di m x true) (u++[x]):=by
 refine⟨by rw[Iu,h.2.2,if_neg hx,h.1];simp,List.nodup_append.2 ⟨h.2.1,by simp,fun y hy z hz=>?_⟩,fun z=>?_⟩
 ·simp at hz;subst hz;exact fun e=>hx (e▸hy)
 ·rw[Ha,h.2.2]
  by_cases hz:z=x
  ·subst hz;simp
  ·rw[if_neg hz]
   by_cases hu:z∈u<;>simp[hu,hz]
theorem P3.get{m:List (BF×Bool)}{u:List BF}(h:P3 m u)(x:BF):(AA m x).getD false=decide (x∈u):=by
 rw[h.2.2];by_cases hx:x∈u<;>simp[hx]
theorem Qh(b:Nat)(row:List (AD×Int×Int)):(U7 b row).length=(Mf b row).length:=by unfold U7 Mf;simp
theorem SS(N:NT)(S:List Int)(b:Nat):(ps N S b).length=(mv N S b).length:=by
 unfold ps mv
 induction S with
 |nil=>rfl
 |cons s S ih=>rw[List.flatMap_cons,List.flatMap_cons,List.length_append,List.length_append,ih,Qh]
theorem XV{N:NT}{c:Nat}(hN:NB N c){S:List Int}{b:Nat}{x:Int}(hx:x∈ps N S b):0≤x∧x<c:=by
 obtain⟨s,_,hx⟩:=List.mem_flatMap.1 hx
 obtain⟨e,he,rfl⟩:=List.mem_map.1 hx
 have he:=(List.mem_filter.1 he).1
 rw[List.getD_eq_getElem?_getD]at he
 cases hk:N.2.1[s.toNat]? with
 |none=>rw[hk]at he;cases he
 |some l=>
  rw[hk]at he
  have:=hN.q2 l (List.mem_of_getElem? hk) e he
  have:=hN.p1
  omega
theorem J2(l:List Int):(DB l).length=l.length:=(Dv _ l).length_eq
theorem Rn{l:List Int}{x:Int} :x∈DB l↔x∈l:=(Dv _ l).mem_iff
theorem YO{P:Bool→Prop}{p:AD}{k fu:Nat}{nx:(List Int×List Int×Nat)→Option Bool}{row:List (AD×Int×Int)}{q pre:List Int}(hr:row.length≤4000)(hq:q.length≤100000000)(hp:pre.length≤100000000)(hf:200000000≤fu)
  (hn:Ok (nx (q++U7 (DO p) row,pre++Mf (DO p) row,k+1)) P):Ok (Ax fu (fun y nx'=>CU fu p k nx row y.1 y.2.1 y.2.2 nx') (q,pre,0)) P:=by
 refine Ok.Lp (fun j s t=>s=q++U7 (DO p) (row.take j)∧t=pre++Mf (DO p) (row.take j)) row.length (by simp[Mf,U7]) (by omega) (fun j s t nx2 hj hJ hn2=>?_) (fun s t nx2 hJ=>?_)
 ·obtain⟨rfl,rfl⟩:=hJ
  unfold CU
  dsimp only
  have hl:=Nq (DO p) (row.take j)
  have hl2:=Qh (DO p) (row.take j)
  have htl:(row.take j).length≤row.length:=by rw[List.length_take];omega
  have htk:row.take (j+1)=row.take j++[row[j]]:=(List.take_append_getElem hj).symm
  have hnx:Mf (DO p) (row.take (j+1))=Mf (DO p) (row.take j)++if row[j].1 (DO p)then [row[j].2.1]else []:=by
   rw[htk]
   unfold Mf
   rw[List.filter_append,List.map_append]
   congr 1
   rw[List.filter_cons]
   split<;>rfl
  have hnq:U7 (DO p) (row.take (j+1))=U7 (DO p) (row.take j)++if row[j].1 (DO p)then [row[j].2.2]else []:=by
   rw[htk]
   unfold U7
   rw[List.filter_append,List.map_append]
   congr 1
   rw[List.filter_cons]
   split<;>rfl
  refine Ok.iT (by omega) (Ok.C3 hj ?_)
  rw[Int.toNat_natCast]
  refine Ok.bif (fun h=>Ok.A4 (by rw[List.length_append];simp only[List.length_cons,List.length_nil];unfold AJ;omega) (Ok.A4 (by rw[List.length_append];simp only[List.length_cons,List.length_nil];unfold AJ;omega) (hn2 _ _ ⟨?_,?_⟩))) fun h=>hn2 _ _ ⟨?_,?_⟩
  ·rw[hnq,if_pos h,←List.append_assoc]
  ·rw[hnx,if_pos h,←List.append_assoc]
  ·rw[hnq,if_neg (by rw[h];decide),List.append_nil]
  ·rw[hnx,if_neg (by rw[h];decide),List.append_nil]
 ·obtain⟨rfl,rfl⟩:=hJ
  unfold CU
  dsimp only
  rw[List.take_of_length_le (Nat.le_refl _)]
  exact Ok.iF (by omega) hn
def VX(N:NT)(a:Int)(x:BF):Prop:= ∃S b,Kj N a S∧b<256∧ps N S b≠ []∧x=FA (DB (ps N S b))
def YW(N:NT)(a:Int)(r:Bool):Prop:=r=true→∃ks:List BF,ks.Nodup∧ks.length=501∧∀x∈ks,VX N a x
theorem Vk{N:NT}{c fu:Nat}{a:Int}(hN:NB N c)(hc:c≤4000)(ha:0≤a)(ha':a<N.1.length)(hf:200000000≤fu):Ok (EG fu N a) (YW N a):=by
 have hlen:=hN.len
 unfold EG
 refine Ok.AV (Qb hN hc hf) fun r hr=>?_
 obtain⟨rfl,hr⟩:=hr
 refine Ok.A4 (by omega) (Ok.AV (Hw hN hc (fun x hx=>by simp at hx;subst hx;exact⟨ha,ha'⟩) (by simp) hf) fun r hr=>?_)
 subst hr
 have hpl:(BD (Dd N)).length≤65536:=J7 _
 refine Ok.loop (fun(x:List (List Int)×List (BF×Bool)×Nat)=>(∀S∈x.1,Kj N a S)∧(∃u,P3 x.2.1 u∧(∀y∈u,VX N a y)∧u.length≤500∧x.1.length=u.length+1)∧x.2.2≤x.1.length) (fun x=>501-x.2.2)
  ⟨fun S hS=>by simp at hS;subst hS;exact .start,⟨[],⟨rfl, .nil,fun _=>rfl⟩,by simp,by simp,rfl⟩,by simp⟩ (by dsimp only;omega) fun x nx hI _ hn=>?_
 obtain⟨W,m,k⟩:=x
 obtain⟨h1,⟨u,h2,h3,h4,h5⟩,h6⟩:=hI
 dsimp only at h1 h2 h3 h4 h5 h6 hn
 unfold DX
 dsimp only
 rcases Nat.lt_or_ge k W.length with hk|hk
 ·refine Ok.iT (by omega) ?_
  have hS:=h1 _ (List.getElem_mem hk)
  have hkS:W[k]?=some W[k]:=List.getElem?_eq_getElem hk
  generalize W[k]=S at hS hkS
  have hSl:=hS.len
  refine Ok.Lp (fun j W' m'=>(∀S∈W',Kj N a S)∧(∃u,P3 m' u∧(∀y∈u,VX N a y)∧u.length≤500∧W'.length=u.length+1)∧∃more,W'=W++more) (BD (Dd N)).length ⟨h1,⟨u,h2,h3,h4,h5⟩,[],by simp⟩ (by omega) (fun j W' m' nx2 hj hJ hn2=>?_) (fun W' m' nx2 hJ=>?_)
  ·obtain⟨g1,⟨u',g2,g3,g4,g5⟩,more,g6⟩:=hJ
   unfold Dq
   dsimp only
   refine Ok.iT (by omega) (Ok.C3 hj (Ok.HK (by omega) (by rw[Int.toNat_natCast,g6,List.getElem?_append_left hk];exact hkS) ?_))
   generalize(BD (Dd N))[j]=p
   refine Ok.Lp (fun i s t=>s=ps N (S.take i) (DO p)∧t=mv N (S.take i) (DO p)) S.length ⟨rf,rf⟩ (by omega) (fun i s t nx3 hi hJ hn3=>?_) (fun s t nx3 hJ=>?_)
   ·obtain⟨rfl,rfl⟩:=hJ
    unfold Dp
    dsimp only
    have hx:=hS.rg (List.getElem_mem hi)
    have hl:=Np hN hc (S:=S.take i) (DO p) (by rw[List.length_take];omega)
    have hl2:=SS N (S.take i) (DO p)
    refine Ok.iT (by omega) (Ok.C3 hi (Ok.HK hx.1 (Qe hN hx.1 hx.2) (YO (by have:=Na hN S[i].toNat;omega) (by omega) (by omega) hf (hn3 _ _ ⟨?_,?_⟩))))
    ·rw[show S.take (i+1)=S.take i++[S[i]]from(List.take_append_getElem hi).symm]
     unfold ps
     rw[List.flatMap_append];simp
    ·rw[show S.take (i+1)=S.take i++[S[i]]from(List.take_append_getElem hi).symm]
     unfold mv
     rw[List.flatMap_append];simp
   ·obtain⟨rfl,rfl⟩:=hJ
    unfold Dp
    dsimp only
    rw[List.take_of_length_le (Nat.le_refl _)]
    have hl:=Np hN hc (DO p) hSl
    have hl2:=SS N S (DO p)
    refine Ok.iF (by omega) (Ok.A4 (by unfold AJ;omega) (Ok.AV (PL (fun x hx=>by have:=XV hN (Rn.1 hx);omega) (by rw[J2];omega) hf) fun r hr=>?_))
    obtain⟨rfl,hkl⟩:=hr
    rw[J2]at hkl
    refine Ok.ite (fun h=>hn2 _ _ ⟨g1,⟨u',g2,g3,g4,g5⟩,more,g6⟩) fun h=>?_
    rw[J2]at h
    have hne:ps N S (DO p)≠ []:=fun e=>by rw[e]at h;exact h rfl
    have hmne:mv N S (DO p)≠ []:=fun e=>by rw[e]at hl2;exact hne (List.length_eq_zero_iff.1 hl2)
    have hK:VX N a (FA (DB (ps N S (DO p)))):=⟨S,DO p,hS,J' p,hne,rfl⟩
    rw[g2.get]
    refine Ok.A4 (by unfold AJ;omega) (Ok.bif (fun h7=>hn2 _ _ ⟨g1,⟨u',g2,g3,g4,g5⟩,more,g6⟩) fun h7=>?_)
    have h7:FA (DB (ps N S (DO p)))∉u':=by simpa using h7
    have hput:=g2.put h7
    have hml:=g2.1
    refine Ok.ite (fun h8=>Ok.some fun _=>⟨u'++[FA (DB (ps N S (DO p)))],hput.2.1,by rw[List.length_append];simp only[List.length_cons,List.length_nil];omega,fun x hx=>?_⟩) fun h8=>?_
    ·rcases List.mem_append.1 hx with hx|hx
     ·exact g3 x hx
     ·simp at hx;subst hx;exact hK
    ·refine Ok.A4 (by unfold AJ;omega) (Ok.A4 (by unfold AJ;omega) (Ok.AV (Hw hN hc (fun x hx=>Ti hN hx) (by omega) hf) fun r hr=>?_))
     subst hr
     refine Ok.A4 (by simp only[List.length_cons,List.length_nil];unfold AJ;omega) (hn2 _ _ ⟨fun T hT=>?_,⟨u'++[FA (DB (ps N S (DO p)))],hput,fun x hx=>?_,?_,?_⟩,more++[Er N (mv N S (DO p))],by rw[g6,List.append_assoc]⟩)
     ·rcases List.mem_append.1 hT with hT|hT
      ·exact g1 T hT
      ·simp at hT;subst hT;exact .step hS (J' p) hmne
     ·rcases List.mem_append.1 hx with hx|hx
      ·exact g3 x hx
      ·simp at hx;subst hx;exact hK
     ·rw[List.length_append];simp only[List.length_cons,List.length_nil];omega
     ·rw[List.length_append,List.length_append];simp only[List.length_cons,List.length_nil];omega
  ·obtain⟨g1,⟨u',g2,g3,g4,g5⟩,more,g6⟩:=hJ
   unfold Dq
   dsimp only
   refine Ok.iF (by omega) (hn (W',m',k+1) ⟨g1,⟨u',g2,g3,g4,g5⟩,?_⟩ ?_)
   ·dsimp only;rw[g6,List.length_append];omega
   ·dsimp only;omega
 ·exact Ok.iF (by omega) (Ok.some fun h=>by cases h)
end Go.GL
namespace Go.GL
open Go.GK
def HX:NT:=([[],[]],[[],[]],0)
theorem Qw:NB HX 2:=by
 refine⟨rf,by decide,fun l hl=>?_,fun l hl=>?_,by decide,by decide,fun l hl u hu=>?_,fun l hl e he=>?_,fun l hl e he=>?_⟩
 ·simp[HX]at hl;subst hl;simp
 ·simp[HX]at hl;subst hl;simp
 ·simp[HX]at hl;subst hl;cases hu
 ·simp[HX]at hl;subst hl;cases he
 ·simp[HX]at hl;subst hl;cases he
theorem Vf(s:Int)(w:List UInt8)(u:Int):¬K3 HX s w u:=by
 rintro(⟨_,_,l,hl,hu⟩|⟨_,_,_,l,hl,e,he,_⟩)
 ·have:=List.mem_of_getElem? hl
  simp[HX]at this;subst this;cases hu
 ·have:=List.mem_of_getElem? hl
  simp[HX]at this;subst this;cases he
theorem Ok.and{R:Type}{P Q:R→Prop}{x:Option R}(h:Ok x P)(k:Ok x Q):Ok x (fun r=>P r∧Q r):=by
 obtain⟨r,e,h⟩:=h
 obtain⟨s,e',k⟩:=k
 rw[e]at e';cases e'
 exact⟨r,e,h,k⟩
theorem Te{N:NT}{A:List UInt8→Prop}(h:Add HX N 0 A 1)(w:List UInt8):Cl (K3 N) 0 w 1↔A w:=by
 obtain⟨Dl,h1,_,h3⟩:=h.ex
 have e:K3 N=Dl:=by
  funext s w u
  refine propext ((h1 s w u).trans ⟨fun h=>h.elim (fun h=>absurd h (Vf s w u)) id, .inr⟩)
 rw[e]
 exact h3.Zp (by decide) (by unfold Pv;simp[HX]) (by unfold Pv;simp[HX]) w
structure Zv(r:Rx)(Q:NT→Prop)(x:Tb×Int):Prop where
 not:¬FK 16 r→x.1=[]∧x.2≠0
 yes:FK 16 r→∃N,Q N∧NB N (2+2*sz 16 r)∧((YW N 0 true∧x=([],10))∨∃T,FW T∧(∀w,B_ T 0 w=true↔mt 16 r w)∧((200<(He T).length∧x=([],10))∨(He T).length≤200∧x=(He T,0)))
theorem X1{r:Rx}{Q:NT→Prop}{fu B:Nat}(hs:sz 16 r≤1990)(hQ:FK 16 r→Ok (Cm fu HX r 0 1) Q)
  (hB:∀N,Q N→NB N (2+2*sz 16 r)→∀L:List (List Int),L.Nodup→(∀S∈L,Kj N 0 S)→L.length≤B) (hB':B≤100000000) (hf:300000000≤fu):
  Ok (Ma fu r) (fun x=>Zv r Q x∧(¬FK 16 r→C2 fu r=some x.2)):=by
 have hchk:Ok (C2 fu r) (fun e=>e=0↔FK 16 r):=by
  unfold C2
  exact Ok.AV (LY 16 1 r fu (by decide) (by decide) (by omega)) fun e he=>Ok.some he
 obtain⟨e,he,hiff⟩:=hchk
 unfold Ma
 rw[he]
 refine Ok.Cq rf (Ok.ite (fun h=>Ok.some ⟨⟨fun _=>⟨rf,h⟩,fun hr=>absurd (hiff.2 hr) h⟩,fun _=>rfl⟩) fun h=>?_)
 have hr:FK 16 r:=hiff.1 (by omega)
 refine Ok.A4 (by simp[AJ]) (Ok.A4 (by simp[AJ]) (Ok.A4 (by simp[AJ]) (Ok.A4 (by simp[AJ]) ?_)))
 have hadd:=(P1 16 r fu hr (by omega) HX 2 0 1 Qw (by decide) (by decide) (by decide) (by decide) (by omega)).and (hQ hr)
 refine Ok.AV (x:=Cm fu HX r 0 1) hadd fun N hN=>?_
 obtain⟨⟨hN,hA⟩,hQN⟩:=hN
 have hlen:2≤N.1.length:=hA.len
 refine Ok.AV (x:=EG fu N 0) (Vk (c:=2+2*sz 16 r) hN (by omega) (by decide) (by omega) (by omega)) fun y hy=>Ok.bif (fun h=>?_) fun h=>?_
 ·subst h
  exact Ok.some ⟨⟨fun h=>absurd hr h,fun _=>⟨N,hQN,hN, .inl ⟨hy,rf⟩⟩⟩,fun h=>absurd hr h⟩
 ·refine Ok.AV (x:=CO fu N 0 1) (NG (c:=2+2*sz 16 r) hN (by omega) (by decide) (by omega) (hB N hQN hN) hB' (by omega)) fun T hT=>?_
  obtain⟨L,hT⟩:=hT
  have hW:=Xd hT
  have hLB:=hB N hQN hN L hT.nd hT.rc
  have hTl:=hT.len
  have hlg:∀w,B_ T 0 w=true↔mt 16 r w:=fun w=>(Xe hN (by decide) (by omega) hT w).trans (Te hA w)
  refine Ok.AV (LB (n:=100000000) hW.by (hW.sh (by omega) (by decide)) (by decide) (by omega) (by omega)) fun z hz=>?_
  rw[hz.1 hW]
  refine Ok.ite (fun h=>Ok.some ⟨⟨fun h=>absurd hr h,fun _=>⟨N,hQN,hN, .inr ⟨T,hW,hlg, .inl ⟨by dsimp only at h;omega,rf⟩⟩⟩⟩,fun h=>absurd hr h⟩) fun h=>Ok.some ⟨⟨fun h=>absurd hr h,fun _=>⟨N,hQN,hN, .inr ⟨T,hW,hlg, .inr ⟨by dsimp only at h;omega,rf⟩⟩⟩⟩,fun h=>absurd hr h⟩
end Go.GL
namespace Go.GL
open Go.GK
def Mr:Nat→List (List Int)
 |0=>[[]]
 |n+1=>Mr n++(Mr n).map (· ++[(n:Int)])
theorem Pg:∀n,(Mr n).length=2^n
 |0=>rfl
 |n+1=>by
  show(Mr n++(Mr n).map _).length=_
  rw[List.length_append,List.length_map,Pg n,Nat.pow_succ];omega
theorem P8(f:Nat→Bool):∀n,Py n f∈Mr n
 |0=>by simp[Py,ints,Mr]
 |n+1=>by
  have ih:=P8 f n
  show _∈Mr n++(Mr n).map _
  unfold Py at ih⊢
  rw[C4,LN]
  split
  ·exact List.mem_append.2 (.inr (List.mem_map.2 ⟨_,ih,rf⟩))
  ·exact List.mem_append.2 (.inl (by simpa [ints]using ih))
theorem Rz{N:NT}{a:Int}{m:Nat}(hm:N.1.length≤m){L:List (List Int)}(hn:L.Nodup)(h:∀S∈L,Kj N a S):L.length≤2^m:=by
 have:=EA (b:=Mr N.1.length) hn fun S hS=>by
  obtain⟨l,rfl⟩:=(h S hS).is
  exact P8 _ _
 rw[Pg]at this
 exact Nat.le_trans this (Nat.pow_le_pow_right (by decide) hm)
end Go.GL
namespace Go.GL
open Go.GK
def UB:Rx:= .mk 1 UC []
def HA:Rx:= .mk 0 UC []
mutual
def CX:Rx→Nat| .mk _ _ l=>1+Ed l
def Ed:List Rx→Nat
 | []=>0
 |x::l=>CX x+Ed l
end
theorem Ij(x:Rx):1≤CX x:=by cases x;simp[CX]
theorem Cj(x:Rx):CX x=1+Ed x.Aq:=by cases x;rfl
theorem P7(a b:List Rx):Ed (a++b)=Ed a+Ed b:=by
 induction a with
 |nil=>simp[Ed]
 |cons x a ih=>simp only[List.cons_append,Ed,ih];omega
theorem C1{x:Rx}{l:List Rx}(h:x∈l):CX x≤Ed l:=by
 induction l with
 |nil=>cases h
 |cons y l ih=>
  simp only[Ed]
  rcases List.mem_cons.1 h with rfl|h
  ·omega
  ·have:=ih h;omega
def Dx(e:Rx):List Rx:=if e.kind=3 then e.Aq else if e.kind=1 then []else [e]
def HI:List Rx→Rx
 | []=>UB
 | [x]=>x
 |x::y::l=> .mk 3 UC (x::y::l)
def I7(l:List Rx):List Rx:=l.flatMap Dx
def BN(l:List Rx):Rx:=if l.any (fun x=>decide (x.kind=0))then HA else HI (I7 l)
mutual
def GS:Rx→Rx→Bool
 | .mk k p l,y=>decide (k=y.kind)&&(Mh p y.set&&FG l y.Aq)
def FG:List Rx→List Rx→Bool
 | [],m=>m.isEmpty
 |x::l,m=>match m with
  | []=>false
  |y::m=>GS x y&&FG l m
end
def A1(e:Rx):List Rx:=if e.kind=4 then e.Aq else if e.kind=0 then []else [e]
def D2(out:List Rx)(x:Rx):List Rx:=if out.any (fun y=>GS x y)then out else out++[x]
def X8:List Rx→Rx
 | []=>HA
 | [x]=>x
 |x::y::l=> .mk 4 UC (x::y::l)
def HM(l:List Rx):Rx:=X8 ((l.flatMap A1).foldl D2 [])
mutual
def Fj:Rx→Bool
 | .mk k _ l=>if k=1 then true else if k=5 then true else if k=3 then Nh l else if k=4 then Ni l else false
def Nh:List Rx→Bool
 | []=>true
 |x::l=>Fj x&&Nh l
def Ni:List Rx→Bool
 | []=>false
 |x::l=>Fj x||Ni l
end
theorem UY(x:Rx):Ed (Dx x)≤CX x:=by
 unfold Dx
 split
 ·rw[Cj];omega
 ·split
  ·simp[Ed]
  ·simp[Ed]
theorem Kg(l:List Rx):Ed (I7 l)≤Ed l:=by
 induction l with
 |nil=>simp[I7,Ed]
 |cons x l ih=>
  show Ed (Dx x++I7 l)≤_
  rw[P7]
  have:=UY x
  simp only[Ed];omega
theorem WU(l:List Rx):CX (HI l)≤1+Ed l:=by
 match l with
 | []=>simp[HI,UB,CX,Ed]
 | [x]=>simp[HI,Ed]
 |x::y::l=>simp[HI,CX]
theorem QZ(x:Rx)(l:List Rx):CX (BN l)<1+Ed (x::l):=by
 have h1:=Ij x
 unfold BN
 split
 ·simp only[HA,CX,Ed];omega
 ·have:=WU (I7 l)
  have:=Kg l
  simp only[Ed];omega
def DL(b:Nat)(e:Rx):Rx:=
 if e.kind=2 then(if e.set b then UB else HA)
 else if e.kind=5 then match h:e.Aq with
  | []=>HA
  |x::l=>BN [DL b x,e]
 else if e.kind=4 then HM (e.Aq.attach.map fun x=>DL b x.1)
 else if e.kind=3 then match h:e.Aq with
  | []=>HA
  |x::l=>if Fj x then HM [BN [DL b x,BN l],DL b (BN l)]else BN [DL b x,BN l]
 else HA
termination_by CX e
decreasing_by
 ·rw[Cj e,h];simp only[Ed];omega
 ·have:=C1 x.2;rw[Cj e];omega
 ·rw[Cj e,h];simp only[Ed];omega
 ·rw[Cj e,h];exact QZ x l
 ·rw[Cj e,h];simp only[Ed];omega
theorem Y3{b:Nat}{e:Rx}(h:e.kind=2):DL b e=if e.set b then UB else HA:=by rw[DL,if_pos h]
theorem Y2{b:Nat}{e x:Rx}{l:List Rx}(h:e.kind=5)(hs:e.Aq=x::l):DL b e=BN [DL b x,e]:=by
 rw[DL,if_neg (by omega),if_pos h]
 split
 ·rename_i h2;rw[hs]at h2;cases h2
 ·rename_i y m h2;rw[hs]at h2;cases h2;rfl
theorem YK{b:Nat}{e:Rx}(h:e.kind=4):DL b e=HM (e.Aq.map (DL b)):=by
 rw[DL,if_neg (by omega),if_neg (by omega),if_pos h]
 congr 1
 rw[←List.attach_map_subtype_val e.Aq]
 simp
theorem XB{b:Nat}{e x:Rx}{l:List Rx}(h:e.kind=3)(hs:e.Aq=x::l):DL b e=if Fj x then HM [BN [DL b x,BN l],DL b (BN l)]else BN [DL b x,BN l]:=by
 rw[DL,if_neg (by omega),if_neg (by omega),if_neg (by omega),if_pos h]
 split
 ·rename_i h2;rw[hs]at h2;cases h2
 ·rename_i y m h2;rw[hs]at h2;cases h2;rfl
theorem Xc{b:Nat}{e:Rx}(h:e.kind≠2)(h5:e.kind≠5)(h4:e.kind≠4)(h3:e.kind≠3):DL b e=HA:=by
 rw[DL,if_neg h,if_neg h5,if_neg h4,if_neg h3]
end Go.GL
namespace Go.GL
open Go.GK
mutual
def Fb:Rx→List UInt8→Prop
 | .mk k p l,w=>if k=1 then w=[]else if k=2 then∃c:UInt8,w=[c]∧p c.toNat=true else if k=4 then Js l w else if k=3 then D6 l w else if k=5 then KF (Nr l) w else False
def Js:List Rx→List UInt8→Prop
 | [],_=>False
 |x::l,w=>Fb x w∨Js l w
def D6:List Rx→List UInt8→Prop
 | [],w=>w=[]
 |x::l,w=> ∃u v,w=u++v∧Fb x u∧D6 l v
def Nr:List Rx→List UInt8→Prop
 | [],_=>False
 |x::_,w=>Fb x w
end
section
variable {x y e : Rx} {l m : List Rx} {w : List UInt8}
theorem I3:Fb e w↔if e.kind=1 then w=[]else if e.kind=2 then∃c:UInt8,w=[c]∧e.set c.toNat=true else if e.kind=4 then Js e.Aq w else if e.kind=3 then D6 e.Aq w else if e.kind=5 then KF (Nr e.Aq) w else False:=by
 cases e;rw[Fb];exact Iff.rfl
theorem Vh(h:e.kind=1):Fb e w↔w=[]:=by rw[I3,if_pos h]
theorem Zn(h:e.kind=2):Fb e w↔∃c:UInt8,w=[c]∧e.set c.toNat=true:=by rw[I3,if_neg (by omega),if_pos h]
theorem WS(h:e.kind=4):Fb e w↔Js e.Aq w:=by rw[I3,if_neg (by omega),if_neg (by omega),if_pos h]
theorem WT(h:e.kind=3):Fb e w↔D6 e.Aq w:=by rw[I3,if_neg (by omega),if_neg (by omega),if_neg (by omega),if_pos h]
theorem X5(h:e.kind=5):Fb e w↔KF (Nr e.Aq) w:=by rw[I3,if_neg (by omega),if_neg (by omega),if_neg (by omega),if_neg (by omega),if_pos h]
theorem RI(h1:e.kind≠1)(h2:e.kind≠2)(h3:e.kind≠3)(h4:e.kind≠4)(h5:e.kind≠5):¬Fb e w:=by rw[I3,if_neg h1,if_neg h2,if_neg h4,if_neg h3,if_neg h5];exact id
theorem Jr:Js l w↔∃x∈l,Fb x w:=by
 induction l with
 |nil=>simp[Js]
 |cons x l ih=>simp[Js,ih]
theorem Lw:∀ {l:List Rx} {w:List UInt8},D6 (l++m) w↔∃u v,w=u++v∧D6 l u∧D6 m v
 | [],w=>by
  show D6 m w↔∃u v,w=u++v∧u=[]∧D6 m v
  constructor
  ·exact fun h=>⟨[],w,rf,rf,h⟩
  ·rintro⟨u,v,rfl,rfl,h⟩;exact h
 |x::l,w=>by
  show(∃u v,w=u++v∧Fb x u∧D6 (l++m) v)↔_
  constructor
  ·rintro⟨u,v,rfl,h1,h2⟩
   obtain⟨a,b,rfl,h3,h4⟩:=Lw.1 h2
   exact⟨u++a,b,by simp,⟨u,a,rf,h1,h3⟩,h4⟩
  ·rintro⟨a,b,rfl,⟨u,v,rfl,h1,h2⟩,h3⟩
   exact⟨u,v++b,by simp,h1,Lw.2 ⟨v,b,rf,h2,h3⟩⟩
theorem Jq:D6 [x] w↔Fb x w:=by
 show(∃u v,w=u++v∧Fb x u∧v=[])↔_
 constructor
 ·rintro⟨u,v,rfl,h,rfl⟩;simpa using h
 ·exact fun h=>⟨w,[],by simp,h,rf⟩
theorem UZ:D6 (Dx x) w↔Fb x w:=by
 unfold Dx
 split
 ·rename_i h;rw[WT h]
 ·split
  ·rename_i h;rw[Vh h];rfl
  ·exact Jq
theorem TP:∀ {l:List Rx} {w:List UInt8},D6 (I7 l) w↔D6 l w
 | [],w=>Iff.rfl
 |x::l,w=>by
  show D6 (Dx x++I7 l) w↔∃u v,w=u++v∧Fb x u∧D6 l v
  rw[Lw]
  simp only[UZ,TP]
theorem WV:Fb (HI l) w↔D6 l w:=by
 match l with
 | []=>exact Vh rfl
 | [x]=>exact Jq.symm
 |x::y::l=>exact WT rfl
theorem RJ(h:l.any (fun x=>decide (x.kind=0))=true):¬D6 l w:=by
 induction l generalizing w with
 |nil=>cases h
 |cons x l ih=>
  rintro⟨u,v,rfl,h1,h2⟩
  rw[List.any_cons,Bool.or_eq_true]at h
  rcases h with h|h
  ·have h:=of_decide_eq_true h
   exact RI (by omega) (by omega) (by omega) (by omega) (by omega) h1
  ·exact ih h h2
theorem KV:Fb (BN l) w↔D6 l w:=by
 unfold BN
 split
 ·rename_i h
  exact⟨fun h=>absurd h (RI (by decide) (by decide) (by decide) (by decide) (by decide)),fun k=>absurd k (RJ h)⟩
 ·rw[WV,TP]
theorem Q9{A B:List UInt8→Prop}(h:∀w,A w↔B w):KF A w↔KF B w:=by
 rw[show A=B from funext fun w=>propext (h w)]
end
mutual
theorem Oe:∀ {x y:Rx},GS x y=true→∀w,Fb x w↔Fb y w
 | .mk k p l, .mk k' q m,h,w=>by
  simp only[GS,Rx.kind,Rx.set,Rx.Aq,Bool.and_eq_true]at h
  obtain⟨h0,h1,h2⟩:=h
  have h0:=of_decide_eq_true h0
  subst h0
  obtain⟨g1,g2,g3⟩:=Of h2
  simp only[Fb,g1,g2]
  rw[Q9 g3]
  have e:(∃c:UInt8,w=[c]∧p c.toNat=true)↔∃c:UInt8,w=[c]∧q c.toNat=true:=by
   have key:∀c:UInt8,p c.toNat=q c.toNat:=fun c=>KP.1 h1 _ c.toNat_lt
   simp only[key]
  rw[e]
theorem Of:∀ {l m:List Rx},FG l m=true→(∀w,Js l w↔Js m w)∧(∀w,D6 l w↔D6 m w)∧(∀w,Nr l w↔Nr m w)
 | [],[],_=>⟨fun _=>Iff.rfl,fun _=>Iff.rfl,fun _=>Iff.rfl⟩
 | [],_::_,h=>by simp[FG]at h
 |_::_,[],h=>by simp[FG]at h
 |x::l,y::m,h=>by
  simp only[FG,Bool.and_eq_true]at h
  obtain⟨g1,g2,_⟩:=Of h.2
  have g:=Oe h.1
  exact⟨fun w=>by simp only[Js,g,g1],fun w=>by simp only[D6,g,g2],fun w=>g w⟩
end
mutual
theorem Lc:∀x:Rx,GS x x=true
 | .mk k p l=>by simp[GS,Rx.kind,Rx.set,Rx.Aq,Mh,Ld l]
theorem Ld:∀l:List Rx,FG l l=true
 | []=>rfl
 |x::l=>by simp[FG,Lc x,Ld l]
end
mutual
theorem Jm:∀ {x:Rx},Fj x=true↔Fb x []
 | .mk k p l=>by
  simp only[Fj,Fb]
  split
  ·simp
  ·rename_i h1
   split
   ·rename_i h5
    subst h5
    simp[KF.nil]
   ·rename_i h5
    split
    ·rename_i h3;subst h3;simp[Qr]
    ·rename_i h3
     split
     ·rename_i h4;subst h4;simp[Qs]
     ·rename_i h4;simp
theorem Qr:∀ {l:List Rx},Nh l=true↔D6 l []
 | []=>by simp[Nh,D6]
 |x::l=>by
  simp only[Nh,D6,Bool.and_eq_true,Jm,Qr]
  constructor
  ·rintro⟨h1,h2⟩;exact⟨[],[],rfl,h1,h2⟩
  ·rintro⟨u,v,e,h1,h2⟩
   have:=List.append_eq_nil_iff.1 e.symm
   obtain⟨rfl,rfl⟩:=this
   exact⟨h1,h2⟩
theorem Qs:∀ {l:List Rx},Ni l=true↔Js l []
 | []=>by simp[Ni,Js]
 |x::l=>by simp only[Ni,Js,Bool.or_eq_true,Jm,Qs]
end
section
variable {x y e : Rx} {l m : List Rx} {w : List UInt8}
theorem VU:(∃z∈D2 l x,Fb z w)↔(∃z∈l,Fb z w)∨Fb x w:=by
 unfold D2
 split
 ·rename_i h
  obtain⟨y,hy,h⟩:=List.any_eq_true.1 h
  refine⟨.inl,fun k=>k.elim id fun k=>⟨y,hy,(Oe h w).1 k⟩⟩
 ·constructor
  ·rintro⟨z,hz,h⟩
   rcases List.mem_append.1 hz with hz|hz
   ·exact .inl ⟨z,hz,h⟩
   ·simp at hz;subst hz;exact .inr h
  ·rintro(⟨z,hz,h⟩|h)
   ·exact⟨z,by simp[hz],h⟩
   ·exact⟨x,by simp,h⟩
theorem OJ:∀ {m l:List Rx},(∃z∈m.foldl D2 l,Fb z w)↔(∃z∈l,Fb z w)∨∃z∈m,Fb z w
 | [],l=>by simp
 |x::m,l=>by
  rw[List.foldl_cons,OJ,VU]
  simp only[List.mem_cons,exists_eq_or_imp,or_assoc]
theorem WW:Fb (X8 l) w↔∃x∈l,Fb x w:=by
 match l with
 | []=>exact⟨fun h=>absurd h (RI (by decide) (by decide) (by decide) (by decide) (by decide)),fun⟨_,h,_⟩=>by cases h⟩
 | [x]=>simp[X8]
 |x::y::l=>
  rw[←Jr]
  exact WS rf
theorem Pc:(∃x∈A1 e,Fb x w)↔Fb e w:=by
 unfold A1
 split
 ·rename_i h;rw[←Jr,WS h]
 ·split
  ·rename_i h
   exact⟨fun⟨_,h,_⟩=>(by cases h),fun k=>absurd k (RI (by omega) (by omega) (by omega) (by omega) (by omega))⟩
  ·simp
theorem Q7:Fb (HM l) w↔∃x∈l,Fb x w:=by
 unfold HM
 rw[WW,OJ]
 simp only[List.not_mem_nil,false_and,exists_false,false_or,List.mem_flatMap]
 constructor
 ·rintro⟨z,⟨x,hx,hz⟩,h⟩;exact⟨x,hx,Pc.1 ⟨z,hz,h⟩⟩
 ·rintro⟨x,hx,h⟩
  obtain⟨z,hz,h⟩:=Pc.2 h
  exact⟨z,⟨x,hx,hz⟩,h⟩
theorem Ph{A:List UInt8→Prop}{c:UInt8} :KF A (c::w)↔∃u v,w=u++v∧A (c::u)∧KF A v:=by
 constructor
 ·intro h
  have key:∀ {z},KF A z→∀c w,z=c::w→∃u v,w=u++v∧A (c::u)∧KF A v:=by
   intro z h
   induction h with
   |nil=>intro c w e;cases e
   | @cons v z h1 h2 ih=>
    intro c w e
    cases v with
    |nil=>exact ih c w e
    |cons d v=>
     cases e
     exact⟨v,z,rf,h1,h2⟩
  exact key h c w rf
 ·rintro⟨u,v,rfl,h1,h2⟩;exact KF.cons (v:=c::u) h1 h2
theorem RK{c:UInt8} :D6 (x::l) (c::w)↔(∃u v,w=u++v∧Fb x (c::u)∧D6 l v)∨(Fb x []∧D6 l (c::w)):=by
 show(∃u v,c::w=u++v∧Fb x u∧D6 l v)↔_
 constructor
 ·rintro⟨u,v,e,h1,h2⟩
  cases u with
  |nil=>cases e;exact .inr ⟨h1,h2⟩
  |cons d u=>cases e;exact .inl ⟨u,v,rfl,h1,h2⟩
 ·rintro(⟨u,v,rfl,h1,h2⟩|⟨h1,h2⟩)
  ·exact⟨c::u,v,rf,h1,h2⟩
  ·exact⟨[],c::w,rf,h1,h2⟩
end
theorem Kh(c:UInt8):∀(n:Nat) (e:Rx),CX e<n→∀w,Fb (DL c.toNat e) w↔Fb e (c::w)
 |0,_,h,_=>absurd h (Nat.not_lt_zero _)
 |n+1,e,hn,w=>by
  have no:∀w,¬Fb HA w:=fun w=>RI (by decide) (by decide) (by decide) (by decide) (by decide)
  by_cases h2:e.kind=2
  ·rw[Y3 h2,Zn h2]
   split
   ·rename_i hs
    rw[Vh (e:=UB) rfl]
    constructor
    ·rintro rfl;exact⟨c,rfl,hs⟩
    ·rintro⟨d,e,_⟩;cases e;rfl
   ·rename_i hs
    refine⟨fun h=>absurd h (no w),?_⟩
    rintro⟨d,e,h⟩;cases e;exact absurd h hs
  by_cases h5:e.kind=5
  ·rw[X5 h5]
   cases hs:e.Aq with
   |nil=>
    have:DL c.toNat e=HA:=by
     rw[DL,if_neg (by omega),if_pos h5]
     split
     ·rfl
     ·rename_i h;rw[hs]at h;cases h
    rw[this,Ph]
    exact⟨fun h=>absurd h (no w),fun⟨_,_,_,h,_⟩=>h.elim⟩
   |cons x l=>
    have ih:=Kh c n x (by rw[Cj,hs]at hn;simp only[Ed]at hn;omega)
    rw[Y2 h5 hs,KV,Ph]
    show(∃u v,w=u++v∧Fb (DL c.toNat x) u∧D6 [e] v)↔∃u v,w=u++v∧Fb x (c::u)∧KF (Nr (x::l)) v
    simp only[ih,Jq,X5 h5,hs]
  by_cases h4:e.kind=4
  ·rw[YK h4,Q7,WS h4,Jr]
   constructor
   ·rintro⟨_,hy,h⟩
    obtain⟨x,hx,rfl⟩:=List.mem_map.1 hy
    exact⟨x,hx,(Kh c n x (by have:=C1 hx;rw[Cj]at hn;omega) w).1 h⟩
   ·rintro⟨x,hx,h⟩
    exact⟨_,List.mem_map_of_mem hx,(Kh c n x (by have:=C1 hx;rw[Cj]at hn;omega) w).2 h⟩
  by_cases h3:e.kind=3
  ·rw[WT h3]
   cases hs:e.Aq with
   |nil=>
    have:DL c.toNat e=HA:=by
     rw[DL,if_neg (by omega),if_neg (by omega),if_neg (by omega),if_pos h3]
     split
     ·rfl
     ·rename_i h;rw[hs]at h;cases h
    rw[this]
    exact⟨fun h=>absurd h (no w),fun h=>by cases h⟩
   |cons x l=>
    have ih:=Kh c n x (by rw[Cj,hs]at hn;simp only[Ed]at hn;omega)
    have ih2:=Kh c n (BN l) (by have:=QZ x l;rw[Cj,hs]at hn;omega)
    have e1:∀w,Fb (BN [DL c.toNat x,BN l]) w↔∃u v,w=u++v∧Fb x (c::u)∧D6 l v:=fun w=>by
     rw[KV]
     show(∃u v,w=u++v∧Fb (DL c.toNat x) u∧D6 [BN l] v)↔_
     simp only[ih,Jq,KV]
    rw[XB h3 hs,RK]
    split
    ·rename_i hx
     rw[Q7]
     simp only[List.mem_cons,List.not_mem_nil,or_false,exists_eq_or_imp,exists_eq_left,e1,ih2,KV,Jm.1 hx,true_and]
    ·rename_i hx
     rw[e1]
     refine⟨.inl,fun k=>k.elim id fun k=>absurd (Jm.2 k.1) hx⟩
  ·rw[Xc h2 h5 h4 h3]
   refine⟨fun h=>absurd h (no w),fun h=>?_⟩
   by_cases h1:e.kind=1
   ·rw[Vh h1]at h;cases h
   ·exact absurd h (RI h1 h2 h3 h4 h5)
def GH(e:Rx)(w:List UInt8):Rx:=w.foldl (fun e c=>DL c.toNat e) e
theorem Xb{e:Rx} :∀ {w:List UInt8} (v:List UInt8),Fb (GH e w) v↔Fb e (w++v):=by
 intro w
 induction w generalizing e with
 |nil=>exact fun v=>Iff.rfl
 |cons c w ih=>exact fun v=>(ih (e:=DL c.toNat e) v).trans (Kh c _ e (Nat.lt_succ_self _) _)
theorem Tn{e:Rx}{w:List UInt8} :Fj (GH e w)=true↔Fb e w:=by rw[Jm,Xb,List.append_nil]
theorem Tj:∀ {d:Nat} {r:Rx},FK d r→∀w,mt d r w↔Fb r w
 |0,_,h,_=>h.elim
 |d+1,r,⟨hk,hs⟩,w=>by
  have ih:∀x∈r.Aq,∀w,mt d x w↔Fb x w:=fun x hx w=>Tj (hs x hx) w
  unfold mt
  rw[I3]
  have hl:∀(l:List Rx),(∀x∈l,∀w,mt d x w↔Fb x w)→∀w,Ls (l.map (mt d)) w↔D6 l w:=by
   intro l
   induction l with
   |nil=>exact fun _ w=>Iff.rfl
   |cons x l ih2=>
    intro h w
    show(∃u v,w=u++v∧mt d x u∧Ls (l.map (mt d)) v)↔∃u v,w=u++v∧Fb x u∧D6 l v
    simp only[h x (by simp),ih2 fun y hy=>h y (by simp[hy])]
  have ha:(∃x∈r.Aq,mt d x w)↔Js r.Aq w:=by
   rw[Jr]
   exact⟨fun⟨x,hx,h⟩=>⟨x,hx,(ih x hx w).1 h⟩,fun⟨x,hx,h⟩=>⟨x,hx,(ih x hx w).2 h⟩⟩
  have hr:KF (fun v=> ∃x,r.Aq[0]?=some x∧mt d x v) w↔KF (Nr r.Aq) w:=by
   refine Q9 fun v=>?_
   cases hs:r.Aq with
   |nil=>simp[Nr]
   |cons x l=>simp[Nr,ih x (by rw[hs];simp)]
  rw[ha,hl _ ih,hr]
end Go.GL
namespace Go.GL
open Go.GK
mutual
def Jg:Rx→List (List Rx)
 | .mk k p l=>[.mk k p l]::(if k=3 then CJ l else if k=1 then [[]]else [])
def CJ:List Rx→List (List Rx)
 | []=>[[]]
 |x::l=>(Jg x).flatMap fun a=>(CJ l).map fun b=>a++b
end
section
variable {x y e u v s : Rx} {l m K τ : List Rx} {w : List UInt8}
theorem Jf:Jg x=[x]::(if x.kind=3 then CJ x.Aq else if x.kind=1 then [[]]else []):=by cases x;rw[Jg];rfl
theorem D3{t:List Rx} :t∈CJ (x::l)↔∃a∈Jg x,∃b∈CJ l,t=a++b:=by
 simp only[CJ,List.mem_flatMap,List.mem_map]
 constructor
 ·rintro⟨a,ha,b,hb,rfl⟩;exact⟨a,ha,b,hb,rfl⟩
 ·rintro⟨a,ha,b,hb,rfl⟩;exact⟨a,ha,b,hb,rfl⟩
theorem Mu:[x]∈Jg x:=by rw[Jf];simp
theorem Es:∀(l:List Rx),l∈CJ l
 | []=>by simp[CJ]
 |x::l=>D3.2 ⟨[x],Mu,l,Es l,rfl⟩
theorem HO{t:List Rx} :t∈CJ []↔t=[]:=by simp[CJ]
theorem FX:∀ {l m t:List Rx},t∈CJ (l++m)↔∃a∈CJ l,∃b∈CJ m,t=a++b
 | [],m,t=>by
  constructor
  ·exact fun h=>⟨[],by simp[CJ],t,h,rf⟩
  ·rintro⟨a,ha,b,hb,rfl⟩;rw[HO.1 ha];exact hb
 |x::l,m,t=>by
  rw[List.cons_append,D3]
  constructor
  ·rintro⟨a,ha,b,hb,rfl⟩
   obtain⟨c,hc,d,hd,rfl⟩:=FX.1 hb
   exact⟨a++c,D3.2 ⟨a,ha,c,hc,rf⟩,d,hd,by simp⟩
  ·rintro⟨a,ha,b,hb,rfl⟩
   obtain⟨c,hc,d,hd,rfl⟩:=D3.1 ha
   exact⟨c,hc,d++b,FX.2 ⟨d,hd,b,hb,rf⟩,by simp⟩
theorem SC:Dx x∈Jg x:=by
 rw[Jf]
 unfold Dx
 split
 ·exact List.mem_cons_of_mem _ (Es _)
 ·split
  ·simp
  ·simp
theorem ND(a b:List Rx):I7 (a++b)=I7 a++I7 b:=by simp[I7]
mutual
theorem TO:∀ {x:Rx} {t:List Rx},t∈Jg x→I7 t∈Jg x
 | .mk k p l,t,h=>by
  rw[Jf]at h
  rcases List.mem_cons.1 h with rfl|h
  ·show Dx _++[]∈_
   rw[List.append_nil];exact SC
  ·rw[Jf]
   refine List.mem_cons_of_mem _ ?_
   split at h
   ·rename_i hk;rw[if_pos hk];exact CE h
   ·rename_i hk
    split at h
    ·rename_i h1
     simp at h;subst h
     rw[if_neg hk,if_pos h1];simp[I7]
    ·cases h
theorem CE:∀ {l t:List Rx},t∈CJ l→I7 t∈CJ l
 | [],t,h=>by rw[HO.1 h];simp[I7,CJ]
 |x::l,t,h=>by
  obtain⟨a,ha,b,hb,rfl⟩:=D3.1 h
  rw[ND]
  exact D3.2 ⟨_,TO ha,_,CE hb,rf⟩
end
theorem HR(h:τ∈CJ K):Dx (HI τ)∈CJ K:=by
 match τ,h with
 | [],h=>exact h
 | [x],h=>have:=CE h;simpa [I7,HI]using this
 |x::y::l,h=>exact h
mutual
def CV:Rx→List (Rx×List Rx)
 | .mk k p l=>(.mk k p l,[])::(if k=5 then(RG l).map (fun q=>(q.1,q.2++[.mk k p l]))else if k=4 then Nl l else if k=3 then Nk l else [])
def Nl:List Rx→List (Rx×List Rx)
 | []=>[]
 |x::l=>CV x++Nl l
def Nk:List Rx→List (Rx×List Rx)
 | []=>[]
 |x::l=>(CV x).map (fun q=>(q.1,q.2++l))++Nk l
def RG:List Rx→List (Rx×List Rx)
 | []=>[]
 |x::_=>CV x
end
def EI(v:Rx):List (Rx×List Rx):=if v.kind=5 then(RG v.Aq).map (fun q=>(q.1,q.2++[v]))else if v.kind=4 then Nl v.Aq else if v.kind=3 then Nk v.Aq else []
theorem Dy:CV v=(v,[])::EI v:=by cases v;rw[CV];rfl
theorem Cc:(v,[])∈CV v:=by rw[Dy];simp
theorem Tc{q:Rx×List Rx} :q∈Nl l↔∃x∈l,q∈CV x:=by
 induction l with
 |nil=>simp[Nl]
 |cons x l ih=>simp[Nl,ih]
theorem Ta:(u,K)∈Nk l↔∃a x b K',l=a++x::b∧(u,K')∈CV x∧K=K'++b:=by
 induction l with
 |nil=>simp[Nk]
 |cons x l ih=>
  simp only[Nk,List.mem_append,List.mem_map,ih]
  constructor
  ·rintro(⟨⟨u',K'⟩,h,e⟩|⟨a,y,b,K',rfl,h,e⟩)
   ·cases e;exact⟨[],x,l,K',rfl,h,rfl⟩
   ·exact⟨x::a,y,b,K',rf,h,e⟩
  ·rintro⟨a,y,b,K',e,h,rfl⟩
   cases a with
   |nil=>cases e;exact .inl ⟨(u,K'),h,rfl⟩
   |cons z a=>cases e;exact .inr ⟨a,y,b,K',rfl,h,rfl⟩
theorem BV:(u,K)∈EI v↔(v.kind=5∧∃x l K',v.Aq=x::l∧(u,K')∈CV x∧K=K'++[v])∨(v.kind=4∧∃x∈v.Aq,(u,K)∈CV x)∨(v.kind=3∧∃a x b K',v.Aq=a++x::b∧(u,K')∈CV x∧K=K'++b):=by
 unfold EI
 split
 ·rename_i h5
  constructor
  ·intro h
   obtain⟨⟨u',K'⟩,hq,e⟩:=List.mem_map.1 h
   cases e
   refine .inl ⟨h5,?_⟩
   cases hs:v.Aq with
   |nil=>rw[hs]at hq;simp[RG]at hq
   |cons x l=>rw[hs]at hq;exact⟨x,l,K',rfl,hq,rfl⟩
  ·rintro(⟨_,x,l,K',hs,h,rfl⟩|⟨h,_⟩|⟨h,_⟩)
   ·rw[hs];exact List.mem_map.2 ⟨(u,K'),h,rfl⟩
   ·omega
   ·omega
 ·rename_i h5
  split
  ·rename_i h4
   rw[Tc]
   exact⟨fun h=> .inr (.inl ⟨h4,h⟩),fun h=>h.elim (fun h=>absurd h.1 h5) fun h=>h.elim (fun h=>h.2) fun h=>by have:=h.1;omega⟩
  ·rename_i h4
   split
   ·rename_i h3
    rw[Ta]
    exact⟨fun h=> .inr (.inr ⟨h3,h⟩),fun h=>h.elim (fun h=>absurd h.1 h5) fun h=>h.elim (fun h=>absurd h.1 h4) fun h=>h.2⟩
   ·rename_i h3
    exact⟨fun h=>(by cases h),fun h=>h.elim (fun h=>absurd h.1 h5) fun h=>h.elim (fun h=>absurd h.1 h4) fun h=>absurd h.1 h3⟩
end
theorem C6:∀(n:Nat) {v u z:Rx} {K L:List Rx},CX v<n→(u,K)∈CV v→(z,L)∈CV u→(z,L++K)∈CV v
 |0,_,_,_,_,_,h,_,_=>absurd h (Nat.not_lt_zero _)
 |n+1,v,u,z,K,L,hn,h,k=>by
  rw[Dy]at h
  rcases List.mem_cons.1 h with e|h
  ·cases e;simpa using k
  rw[Dy]
  refine List.mem_cons_of_mem _ ?_
  rcases BV.1 h with⟨h5,x,l,K',hs,hq,rfl⟩|⟨h4,x,hx,hq⟩|⟨h3,a,x,b,K',hs,hq,rfl⟩
  ·refine BV.2 (.inl ⟨h5,x,l,L++K',hs,C6 n ?_ hq k,by simp⟩)
   rw[Cj,hs]at hn;simp only[Ed]at hn;omega
  ·refine BV.2 (.inr (.inl ⟨h4,x,hx,C6 n ?_ hq k⟩))
   have:=C1 hx;rw[Cj]at hn;omega
  ·refine BV.2 (.inr (.inr ⟨h3,a,x,b,L++K',hs,C6 n ?_ hq k,by simp⟩))
   have:=C1 (x:=x) (l:=v.Aq) (by rw[hs];simp);rw[Cj]at hn;omega
theorem Hq:∀(n:Nat) {v u:Rx} {K:List Rx},CX v<n→(u,K)∈EI v→CX u<CX v
 |0,_,_,_,h,_=>absurd h (Nat.not_lt_zero _)
 |n+1,v,u,K,hn,h=>by
  have key:∀x∈v.Aq,∀K,(u,K)∈CV x→CX u<CX v:=fun x hx K h=>by
   have h1:=C1 hx
   have h2:=Cj v
   rw[Dy]at h
   rcases List.mem_cons.1 h with e|h
   ·cases e;omega
   ·have:=Hq n (by omega) h;omega
  rcases BV.1 h with⟨h5,x,l,K',hs,hq,rfl⟩|⟨h4,x,hx,hq⟩|⟨h3,a,x,b,K',hs,hq,rfl⟩
  ·exact key x (by rw[hs];simp) _ hq
  ·exact key x hx _ hq
  ·exact key x (by rw[hs];simp) _ hq
section
variable {x y e u v s z : Rx} {l m K L τ : List Rx} {w : List UInt8}
theorem PI(h:(u,K)∈EI v)(k:(z,L)∈CV u):(z,L++K)∈EI v:=by
 have h1:=C6 (CX v+1) (Nat.lt_succ_self _) (v:=v) (by rw[Dy];exact List.mem_cons_of_mem _ h) k
 rw[Dy]at h1
 rcases List.mem_cons.1 h1 with e|h1
 ·have e:z=v:=congrArg Prod.fst e
  subst e
  have a1:=Hq _ (Nat.lt_succ_self _) h
  have a2:CX z≤CX u:=by
   rw[Dy]at k
   rcases List.mem_cons.1 k with e|k
   ·cases e;exact Nat.le_refl _
   ·exact Nat.le_of_lt (Hq _ (Nat.lt_succ_self _) k)
  omega
 ·exact h1
def XC(v:Rx)(K:List Rx):Prop:= ∀a x b,K=a++x::b→(x,b)∈CV v
end
theorem Hm:∀(n:Nat) {v u:Rx} {K:List Rx},CX v<n→(u,K)∈CV v→XC v K
 |0,_,_,_,h,_=>absurd h (Nat.not_lt_zero _)
 |n+1,v,u,K,hn,h=>by
  intro a y b e
  have hv:=Dy (v:=v)
  rw[hv]at h
  rcases List.mem_cons.1 h with e1|h
  ·cases e1;simp at e
  have key:∀x K' K2,(x,K2)∈CV v→CX x<n→(u,K')∈CV x→K=K'++K2→(∀a' b',K2=a'++y::b'→(y,b')∈CV v)→(y,b)∈CV v:=by
   intro x K' K2 hx hsz hu hK h2
   have ih:=Hm n hsz hu
   rw[e]at hK
   rcases List.append_eq_append_iff.1 hK.symm with⟨t,h3,h4⟩|⟨t,h3,h4⟩
   ·exact h2 t b h4
   ·cases t with
    |nil=>exact h2 [] b (by simpa using h4.symm)
    |cons y' t=>
     rw[List.cons_append]at h4
     cases h4
     exact C6 (CX v+1) (Nat.lt_succ_self _) hx (ih a y t h3)
  rcases BV.1 h with⟨h5,x,l,K',hs,hq,rfl⟩|⟨h4,x,hx,hq⟩|⟨h3,a',x,b',K',hs,hq,rfl⟩
  ·refine key x K' [v] ?_ (by rw[Cj,hs]at hn;simp only[Ed]at hn;omega) hq rf fun a' b' e=>?_
   ·rw[hv];exact List.mem_cons_of_mem _ (BV.2 (.inl ⟨h5,x,l,[],hs,Cc,rfl⟩))
   ·cases a' with
    |nil=>cases e;exact Cc
    |cons z a'=>simp at e
  ·refine key x K [] ?_ (by have:=C1 hx;rw[Cj]at hn;omega) hq (by simp) fun a' b' e=>by simp at e
   rw[hv];exact List.mem_cons_of_mem _ (BV.2 (.inr (.inl ⟨h4,x,hx,Cc⟩)))
  ·refine key x K' b' ?_ (by have:=C1 (x:=x) (l:=v.Aq) (by rw[hs];simp);rw[Cj]at hn;omega) hq rf fun a2 b2 e=>?_
   ·rw[hv];exact List.mem_cons_of_mem _ (BV.2 (.inr (.inr ⟨h3,a',x,b',[],hs,Cc,rfl⟩)))
   ·rw[hv];exact List.mem_cons_of_mem _ (BV.2 (.inr (.inr ⟨h3,a'++x::a2,y,b2,[],by rw[hs,e];simp,Cc,rfl⟩)))
mutual
theorem RR:∀ {x:Rx} {v:Rx} {K:List Rx} {s:Rx} {t:List Rx},(x,K)∈CV v→s::t∈Jg x→∃K',(s,K')∈CV v∧∀b∈CJ K,t++b∈CJ K'
 | .mk k p l,v,K,s,t,hx,h=>by
  rw[Jf]at h
  rcases List.mem_cons.1 h with e|h
  ·cases e;exact⟨K,hx,fun b hb=>hb⟩
  ·split at h
   ·rename_i h3
    obtain⟨K',h1,h2⟩:=Kd (u:= .mk k p l) (l:=l) (fun a y b e=>(List.append_nil b).symm▸(by
     rw[Dy];exact List.mem_cons_of_mem _ (BV.2 (.inr (.inr ⟨h3,a,y,b,[],e,Cc,rfl⟩))))) h
    exact⟨K'++K,C6 (CX v+1) (Nat.lt_succ_self _) hx h1,fun b hb=>FX.2 ⟨t,h2,b,hb,rf⟩⟩
   ·split at h
    ·simp at h
    ·cases h
theorem Kd:∀ {l:List Rx} {u:Rx} {s:Rx} {t:List Rx},(∀a y b,l=a++y::b→(y,b++[])∈CV u)→s::t∈CJ l→∃K',(s,K')∈CV u∧t∈CJ K'
 | [],u,s,t,_,h=>by simp[CJ]at h
 |x::l,u,s,t,hs,h=>by
  obtain⟨a,ha,b,hb,e⟩:=D3.1 h
  cases a with
  |nil=>
   exact Kd (l:=l) (fun a y b e2=>hs (x::a) y b (congrArg (List.cons x) e2)) ((show s::t=b from e)▸hb)
  |cons s' a=>
   cases e
   obtain⟨K',h1,h2⟩:=RR (K:=l) (v:=u) (by have:=hs [] x l rfl;simpa using this) ha
   exact⟨K',h1,h2 b hb⟩
end
theorem LO{v:Rx}{K:List Rx}{s:Rx}{t:List Rx}(hK:XC v K)(h:s::t∈CJ K):∃K',(s,K')∈CV v∧t∈CJ K':=Kd (fun a y b e=>by rw[List.append_nil];exact hK a y b e) h
end Go.GL
namespace Go.GL
open Go.GK
theorem Gi{e:Rx}{w:List UInt8}{c:UInt8} :GH e (w++[c])=DL c.toNat (GH e w):=by simp[GH]
def K8(v:Rx):List (List Rx):=(CV v).flatMap fun q=>[q.2,q.1::q.2]
section
variable {x y e u v s z a : Rx} {l m K L τ ρ : List Rx} {w w' : List UInt8} {c : UInt8}
theorem FY:K∈K8 v↔∃u L,(u,L)∈CV v∧(K=L∨K=u::L):=by
 simp only[K8,List.mem_flatMap,List.mem_cons,List.not_mem_nil,or_false]
 exact⟨fun⟨q,h,k⟩=>⟨q.1,q.2,h,k⟩,fun⟨u,L,h,k⟩=>⟨(u,L),h,k⟩⟩
theorem K7(h:K∈K8 v):XC v K:=by
 obtain⟨u,L,k,rfl|rfl⟩:=FY.1 h
 ·exact Hm _ (Nat.lt_succ_self _) k
 ·intro a x b e
  cases a with
  |nil=>cases e;exact k
  |cons y a=>cases e;exact Hm _ (Nat.lt_succ_self _) k a x b rfl
theorem N8(hu:(u,L)∈CV v)(h:K∈K8 u):K++L∈K8 v:=by
 obtain⟨z,K',k,rfl|rfl⟩:=FY.1 h
 ·exact FY.2 ⟨z,_,C6 _ (Nat.lt_succ_self _) hu k, .inl rf⟩
 ·exact FY.2 ⟨z,_,C6 _ (Nat.lt_succ_self _) hu k, .inr rf⟩
theorem Ee(h:(u,K)∈EI v):(u,K)∈CV v:=by rw[Dy];exact List.mem_cons_of_mem _ h
theorem S9(hu:(u,L)∈CV v)(h:(z,K)∈EI u):(z,K++L)∈EI v:=by
 rw[Dy]at hu
 rcases List.mem_cons.1 hu with e|hu
 ·cases e;simpa using h
 ·exact PI hu (Ee h)
def ZS(v e:Rx):Prop:= ∃K∈K8 v,∃τ∈CJ K,e=HI τ
def ZR(v:Rx)(w:List UInt8)(e:Rx):Prop:= ∃u K,(u,K)∈EI v∧∃τ∈CJ K,∃w',w'≠ []∧w'<:+w∧((GH u w').kind≠3∧(GH u w').kind≠1∧(GH u w').kind≠0)∧e=HI (GH u w'::τ)
def Fm(v:Rx)(w:List UInt8)(e:Rx):Prop:=ZS v e∨ZR v w e
theorem Fm.mono(h:Fm v w' e)(hw:w'<:+w):Fm v w e:=h.imp id fun⟨u,K,h1,τ,h2,w2,h3,h4,h5⟩=>⟨u,K,h1,τ,h2,w2,h3,h4.trans hw,h5⟩
theorem Fm.XA(hu:(u,K)∈CV v)(h0:[]∈CJ K)(h:Fm u w e):Fm v w e:=by
 rcases h with⟨L,h1,τ,h2,rfl⟩|⟨z,L,h1,τ,h2,w',h3,h4,h5,rfl⟩
 ·exact .inl ⟨_,N8 hu h1,τ,FX.2 ⟨τ,h2,[],h0,by simp⟩,rf⟩
 ·exact .inr ⟨z,_,S9 hu h1,τ,FX.2 ⟨τ,h2,[],h0,by simp⟩,w',h3,h4,h5,rf⟩
theorem OZ:BN [x,y]=HA∨BN [x,y]=HI (Dx x++Dx y):=by
 unfold BN
 split
 ·exact .inl rf
 ·exact .inr (by simp[I7])
theorem Fm.cat(hu:(u,K)∈CV v)(hρ:ρ∈CJ K)(h:Fm u w e):BN [e,HI ρ]=HA∨Fm v w (BN [e,HI ρ]):=by
 rcases OZ (x:=e) (y:=HI ρ)with h0|h0
 ·exact .inl h0
 refine .inr ?_
 rw[h0]
 have hs:=HR hρ
 rcases h with⟨L,h1,τ,h2,rfl⟩|⟨z,L,h1,τ,h2,w',h3,h4,h5,rfl⟩
 ·exact .inl ⟨_,N8 hu h1,_,FX.2 ⟨_,HR h2,_,hs,rf⟩,rf⟩
 ·refine .inr ⟨z,_,S9 hu h1,τ++Dx (HI ρ),FX.2 ⟨τ,h2,_,hs,rf⟩,w',h3,h4,h5,?_⟩
  congr 1
  cases τ with
  |nil=>
   show Dx (GH z w')++_=_
   unfold Dx
   rw[if_neg h5.1,if_neg h5.2.1];rfl
  |cons y t=>rfl
theorem Ut(h:x∈D2 l y):x∈l∨x=y:=by
 unfold D2 at h
 split at h
 ·exact .inl h
 ·simpa using h
theorem It:∀ {m l:List Rx},x∈m.foldl D2 l→x∈l∨x∈m
 | [],l,h=> .inl h
 |y::m,l,h=>by
  rw[List.foldl_cons]at h
  rcases It h with h|h
  ·rcases Ut h with h|rfl
   ·exact .inl h
   ·exact .inr (by simp)
  ·exact .inr (by simp[h])
theorem MY(h:x∈A1 (HM l)):∃z∈l,x∈A1 z∨∃y∈A1 z,y.kind=4∧x∈y.Aq:=by
 unfold HM at h
 have key:∀y∈(l.flatMap A1).foldl D2 [],∃z∈l,y∈A1 z:=fun y hy=>by
  rcases It hy with h|h
  ·cases h
  ·exact List.mem_flatMap.1 h
 generalize(l.flatMap A1).foldl D2 []=m at h key
 match m,h with
 | [],h=>simp[A1,X8,HA,Rx.kind]at h
 | [y],h=>
  obtain⟨z,hz,hy⟩:=key y (by simp)
  refine⟨z,hz,?_⟩
  have h:x∈A1 y:=h
  unfold A1 at h
  by_cases h4:y.kind=4
  ·rw[if_pos h4]at h;exact .inr ⟨y,hy,h4,h⟩
  ·rw[if_neg h4]at h
   by_cases h0:y.kind=0
   ·rw[if_pos h0]at h;cases h
   ·rw[if_neg h0]at h;simp at h;subst h;exact .inl hy
 |y::y'::m,h=>
  have h:x∈y::y'::m:=h
  obtain⟨z,hz,hy⟩:=key x h
  exact⟨z,hz, .inl hy⟩
def UE(v:Rx):Prop:= ∀w,w≠ []→∀x∈A1 (GH v w),Fm v w x
theorem X7(h:(HI τ).kind=4):τ=[HI τ]:=by
 match τ,h with
 | [],h=>simp[HI,UB,Rx.kind]at h
 | [x],h=>rfl
 |x::y::l,h=>simp[HI,Rx.kind]at h
theorem Fm.sub(hP:∀u K,(u,K)∈EI v→UE u)(h:Fm v w e)(h4:e.kind=4)(ha:a∈e.Aq):Fm v w a:=by
 rcases h with⟨L,h1,τ,h2,rfl⟩|⟨z,L,h1,τ,h2,w',h3,h4',h5,rfl⟩
 ·have e1:=X7 h4
  rw[e1]at h2
  obtain⟨K',k1,k2⟩:=LO (K7 h1) h2
  have ha':(a,[]++K')∈CV v:=C6 _ (Nat.lt_succ_self _) k1 (Ee (BV.2 (.inr (.inl ⟨h4,a,ha,Cc⟩))))
  exact .inl ⟨a::([]++K'),FY.2 ⟨a,_,ha', .inr rf⟩,[a],D3.2 ⟨[a],Mu,[],k2,rf⟩,rf⟩
 ·have e1:=X7 h4
  have e2:τ=[]:=(List.cons.inj e1).2
  subst e2
  have h4:(GH z w').kind=4:=h4
  have ha:a∈(GH z w').Aq:=ha
  exact((hP z L h1 w' h3 a (by unfold A1;rw[if_pos h4];exact ha)).XA (Ee h1) h2).mono h4'
theorem Fm.alts(hP:∀u K,(u,K)∈EI v→UE u)(h:Fm v w e)(hx:x∈A1 e):Fm v w x:=by
 unfold A1 at hx
 split at hx
 ·rename_i h4;exact h.sub hP h4 hx
 ·split at hx
  ·cases hx
  ·simp at hx;subst hx;exact h
theorem Fu(h:x∈A1 HA):False:=by simp[A1,HA,Rx.kind]at h
theorem Fm.HM(hP:∀u K,(u,K)∈EI v→UE u)(h:∀z∈l,∀x∈A1 z,Fm v w x)(hx:x∈A1 (HM l)):Fm v w x:=by
 obtain⟨z,hz,hx|⟨y,hy,h4,hx⟩⟩:=MY hx
 ·exact h z hz x hx
 ·exact(h z hz y hy).sub hP h4 hx
theorem Fm.first(hP:∀u K,(u,K)∈EI v→UE u)(hs:(s,K)∈EI v)(hρ:ρ∈CJ K)(hw:w'≠ [])(hw':w'<:+w)(hx:x∈A1 (BN [GH s w',HI ρ])):Fm v w x:=by
 generalize hg:GH s w'=g at hx
 by_cases h0:g.kind=0
 ·have:BN [g,HI ρ]=HA:=by unfold BN;simp[h0]
  rw[this]at hx;exact(Fu hx).elim
 by_cases h4:g.kind=4
 ·rcases OZ (x:=g) (y:=HI ρ)with h1|h1
  ·rw[h1]at hx;exact(Fu hx).elim
  rw[h1]at hx
  have e1:Dx g=[g]:=by unfold Dx;rw[if_neg (by omega),if_neg (by omega)]
  rw[e1]at hx
  have hr:=HR hρ
  generalize Dx (HI ρ)=r at hx hr
  cases r with
  |nil=>
   have hx:x∈A1 g:=hx
   rw[←hg]at hx
   exact((hP s K hs w' hw x hx).XA (Ee hs) hr).mono hw'
  |cons y t=>
   have hx:x∈[HI (g::y::t)]:=hx
   simp at hx
   subst hx
   exact .inr ⟨s,K,hs,y::t,hr,w',hw,hw',by rw[hg];exact⟨by omega,by omega,h0⟩,by rw[hg]⟩
 ·have hga:g∈A1 g:=by unfold A1;rw[if_neg h4,if_neg h0];simp
  have hF:=hP s K hs w' hw g (by rw[hg];exact hga)
  rcases hF.cat (Ee hs) hρ with h1|h1
  ·rw[h1]at hx;exact(Fu hx).elim
  ·exact(h1.alts hP hx).mono hw'
theorem Dj:BN τ=HA∨BN τ=HI (I7 τ):=by
 unfold BN
 split
 ·exact .inl rf
 ·exact .inr rf
theorem Y4{b:Nat} :DL b HA=HA:=Xc (by decide) (by decide) (by decide) (by decide)
theorem Fm.stat(hP:∀u K,(u,K)∈EI v→UE u)(hw:[c]<:+w):∀(n:Nat) {τ K:List Rx},Ed τ<n→XC v K→τ∈CJ K→(Ed τ<CX v∨∀x∈A1 (DL c.toNat v),Fm v w x)→∀x∈A1 (DL c.toNat (HI τ)),Fm v w x
 |0,_,_,h,_,_,_,_,_=>absurd h (Nat.not_lt_zero _)
 |n+1,[],K,hn,hK,hτ,hb,x,hx=>by
  have:DL c.toNat (HI [])=HA:=Xc (by decide) (by decide) (by decide) (by decide)
  rw[this]at hx;exact(Fu hx).elim
 |n+1,s::τ,K,hn,hK,hτ,hb,x,hx=>by
  obtain⟨K',k1,k2⟩:=LO hK hτ
  have k1':=k1
  rw[Dy]at k1'
  rcases List.mem_cons.1 k1' with e|hs
  ·have e1:s=v:=congrArg Prod.fst e
   have e2:K'=[]:=congrArg Prod.snd e
   subst e1;subst e2
   obtain rfl:=HO.1 k2
   rcases hb with hb|hb
   ·simp only[Ed]at hb;omega
   ·exact hb x hx
  ·have hsz:=Ij s
   have hx0:∀ {x},x∈A1 (BN [DL c.toNat s,BN τ])→Fm v w x:=fun{x} hx=>by
    rcases Dj (τ:=τ)with h1|h1
    ·rw[h1]at hx
     have:BN [DL c.toNat s,HA]=HA:=by unfold BN;simp[HA,Rx.kind]
     rw[this]at hx;exact(Fu hx).elim
    ·rw[h1]at hx
     exact Fm.first (w':=[c]) hP hs (CE k2) (by simp) hw hx
   have hx1:∀ {x},x∈A1 (DL c.toNat (BN τ))→Fm v w x:=fun{x} hx=>by
    rcases Dj (τ:=τ)with h1|h1
    ·rw[h1,Y4]at hx;exact(Fu hx).elim
    ·rw[h1]at hx
     have h2:=Kg τ
     simp only[Ed]at hn
     refine Fm.stat hP hw n (K:=K') (by omega) (Hm _ (Nat.lt_succ_self _) k1) (CE k2) (hb.imp (fun h=>?_) id) x hx
     simp only[Ed]at h;omega
   cases τ with
   |nil=>exact((hP s K' hs [c] (by simp) x hx).XA k1 k2).mono hw
   |cons y t=>
    rw[XB (e:=HI (s::y::t)) (x:=s) (l:=y::t) rfl rfl]at hx
    split at hx
    ·exact Fm.HM hP (l:=[_,_]) (fun z hz x hx=>by
      simp at hz
      rcases hz with rfl|rfl
      ·exact hx0 hx
      ·exact hx1 hx) hx
    ·exact hx0 hx
theorem Fm.base(hP:∀u K,(u,K)∈EI v→UE u)(hw:[c]<:+w):∀x∈A1 (DL c.toNat v),Fm v w x:=by
 intro x hx
 have hE:Fm v w UB:= .inl ⟨[],FY.2 ⟨v,[],Cc, .inl rfl⟩,[],by simp[CJ],rfl⟩
 by_cases h2:v.kind=2
 ·rw[Y3 h2]at hx
  split at hx
  ·simp[A1,UB,Rx.kind]at hx;subst hx;exact hE
  ·exact(Fu hx).elim
 by_cases h5:v.kind=5
 ·cases hs:v.Aq with
  |nil=>
   have:DL c.toNat v=HA:=by
    rw[DL,if_neg (by omega),if_pos h5]
    split
    ·rfl
    ·rename_i h;rw[hs]at h;cases h
   rw[this]at hx;exact(Fu hx).elim
  |cons y l=>
   rw[Y2 h5 hs]at hx
   exact Fm.first (s:=y) (K:=[v]) (ρ:=[v]) (w':=[c]) hP (BV.2 (.inl ⟨h5,y,l,[],hs,Cc,rf⟩)) (Es _) (by simp) hw hx
 by_cases h4:v.kind=4
 ·rw[YK h4]at hx
  refine Fm.HM hP (fun z hz x hx=>?_) hx
  obtain⟨y,hy,rfl⟩:=List.mem_map.1 hz
  have hn:(y,[])∈EI v:=BV.2 (.inr (.inl ⟨h4,y,hy,Cc⟩))
  exact((hP y [] hn [c] (by simp) x hx).XA (Ee hn) (by simp[CJ])).mono hw
 by_cases h3:v.kind=3
 ·cases hs:v.Aq with
  |nil=>
   have:DL c.toNat v=HA:=by
    rw[DL,if_neg (by omega),if_neg (by omega),if_neg (by omega),if_pos h3]
    split
    ·rfl
    ·rename_i h;rw[hs]at h;cases h
   rw[this]at hx;exact(Fu hx).elim
  |cons s τ=>
   have hn:(s,τ)∈EI v:=BV.2 (.inr (.inr ⟨h3,[],s,τ,[],hs,Cc,rfl⟩))
   have hx0:∀ {x},x∈A1 (BN [DL c.toNat s,BN τ])→Fm v w x:=fun{x} hx=>by
    rcases Dj (τ:=τ)with h1|h1
    ·rw[h1]at hx
     have:BN [DL c.toNat s,HA]=HA:=by unfold BN;simp[HA,Rx.kind]
     rw[this]at hx;exact(Fu hx).elim
    ·rw[h1]at hx
     exact Fm.first (w':=[c]) hP hn (CE (Es τ)) (by simp) hw hx
   have hx1:∀ {x},x∈A1 (DL c.toNat (BN τ))→Fm v w x:=fun{x} hx=>by
    rcases Dj (τ:=τ)with h1|h1
    ·rw[h1,Y4]at hx;exact(Fu hx).elim
    ·rw[h1]at hx
     have h2:=Kg τ
     refine Fm.stat hP hw _ (K:=τ) (Nat.lt_succ_self _) (Hm _ (Nat.lt_succ_self _) (Ee hn)) (CE (Es τ)) (.inl ?_) x hx
     rw[Cj,hs];simp only[Ed];omega
   rw[XB h3 hs]at hx
   split at hx
   ·exact Fm.HM hP (l:=[_,_]) (fun z hz x hx=>by
     simp at hz
     rcases hz with rfl|rfl
     ·exact hx0 hx
     ·exact hx1 hx) hx
   ·exact hx0 hx
 ·rw[Xc h2 h5 h4 h3]at hx;exact(Fu hx).elim
theorem Fm.step(hP:∀u K,(u,K)∈EI v→UE u)(ha:Fm v w a):∀x∈A1 (DL c.toNat a),Fm v (w++[c]) x:=by
 have hw:[c]<:+w++[c]:=⟨w,rfl⟩
 rcases ha with⟨L,h1,τ,h2,rfl⟩|⟨u,K,h1,τ,h2,w',h3,h4,h5,rfl⟩
 ·exact Fm.stat hP hw _ (Nat.lt_succ_self _) (K7 h1) h2 (.inr (Fm.base hP hw))
 ·intro x hx
  obtain⟨q,hq⟩:=h4
  have hw2:w'++[c]<:+w++[c]:=⟨q,by rw[←hq];simp⟩
  cases τ with
  |nil=>
   have hx:x∈A1 (DL c.toNat (GH u w')):=hx
   rw[←Gi]at hx
   exact((hP u K h1 _ (by simp) x hx).XA (Ee h1) h2).mono hw2
  |cons y t=>
   have hx0:∀ {x},x∈A1 (BN [DL c.toNat (GH u w'),BN (y::t)])→Fm v (w++[c]) x:=fun{x} hx=>by
    rcases Dj (τ:=y::t)with h1'|h1'
    ·rw[h1']at hx
     have:BN [DL c.toNat (GH u w'),HA]=HA:=by unfold BN;simp[HA,Rx.kind]
     rw[this]at hx;exact(Fu hx).elim
    ·rw[h1',←Gi]at hx
     exact Fm.first hP h1 (CE h2) (by simp) hw2 hx
   have hx1:∀ {x},x∈A1 (DL c.toNat (BN (y::t)))→Fm v (w++[c]) x:=fun{x} hx=>by
    rcases Dj (τ:=y::t)with h1'|h1'
    ·rw[h1',Y4]at hx;exact(Fu hx).elim
    ·rw[h1']at hx
     exact Fm.stat hP hw _ (Nat.lt_succ_self _) (Hm _ (Nat.lt_succ_self _) (Ee h1)) (CE h2) (.inr (Fm.base hP hw)) x hx
   rw[XB (e:=HI (GH u w'::y::t)) (x:=GH u w') (l:=y::t) rfl rfl]at hx
   split at hx
   ·exact Fm.HM hP (l:=[_,_]) (fun z hz x hx=>by
     simp at hz
     rcases hz with rfl|rfl
     ·exact hx0 hx
     ·exact hx1 hx) hx
   ·exact hx0 hx
theorem R_{b:Nat}(hx:x∈A1 (DL b e)):∃a∈A1 e,x∈A1 (DL b a)∨∃y∈A1 (DL b a),y.kind=4∧x∈y.Aq:=by
 by_cases h4:e.kind=4
 ·rw[YK h4]at hx
  obtain⟨z,hz,h⟩:=MY hx
  obtain⟨a,ha,rfl⟩:=List.mem_map.1 hz
  exact⟨a,by unfold A1;rw[if_pos h4];exact ha,h⟩
 ·by_cases h0:e.kind=0
  ·rw[Xc (by omega) (by omega) h4 (by omega)]at hx;exact(Fu hx).elim
  ·exact⟨e,by unfold A1;rw[if_neg h4,if_neg h0];simp, .inl hx⟩
end
theorem Y5:∀(n:Nat) (v:Rx),CX v<n→UE v
 |0,_,h=>absurd h (Nat.not_lt_zero _)
 |n+1,v,hn=>by
  have hP:∀u K,(u,K)∈EI v→UE u:=fun u K h=>Y5 n u (by have:=Hq _ (Nat.lt_succ_self _) h;omega)
  have key:∀(m:Nat) (w:List UInt8),w.length=m+1→∀x∈A1 (GH v w),Fm v w x:=by
   intro m
   induction m with
   |zero=>
    intro w hw x hx
    obtain⟨c,rfl⟩:=List.length_eq_one_iff.1 hw
    exact Fm.base hP (List.suffix_refl _) x hx
   |succ m ih=>
    intro w hw x hx
    obtain⟨w0,c,rfl⟩:∃w0 c,w=w0++[c]:=⟨w.dropLast,w.getLast (by intro e;rw[e]at hw;cases hw),(List.dropLast_concat_getLast _).symm⟩
    rw[Gi]at hx
    obtain⟨a,ha,h⟩:=R_ hx
    have hF:=ih w0 (by simpa using hw) a ha
    rcases h with h|⟨y,hy,h4,h⟩
    ·exact hF.step hP x h
    ·exact(hF.step hP y hy).sub hP h4 h
  intro w hw x hx
  cases hl:w.length with
  |zero=>exact absurd (List.length_eq_zero_iff.1 hl) hw
  |succ m=>exact key m w hl x hx
end Go.GL
namespace Go.GL
open Go.GK
mutual
def UH:Rx→Nat| .mk k _ l=>if k=3 then 1+KZ l else 1
def KZ:List Rx→Nat
 | []=>0
 |x::l=>UH x+KZ l
end
theorem Wu(x:Rx):UH x=if x.kind=3 then 1+KZ x.Aq else 1:=by cases x;rw[UH];rfl
theorem P4(a b:List Rx):KZ (a++b)=KZ a+KZ b:=by
 induction a with
 |nil=>simp[KZ]
 |cons x a ih=>simp only[List.cons_append,KZ,ih];omega
mutual
theorem Sj:∀x:Rx,UH x≤CX x
 | .mk k p l=>by
  have:=Pn l
  simp only[UH,CX]
  split<;>omega
theorem Pn:∀l:List Rx,KZ l≤Ed l
 | []=>Nat.le_refl _
 |x::l=>by
  have:=Sj x
  have:=Pn l
  simp only[KZ,Ed];omega
end
theorem HW:∀(n:Nat) {v u:Rx} {K:List Rx},CX v<n→(u,K)∈CV v→CX u+KZ K≤CX v
 |0,_,_,_,h,_=>absurd h (Nat.not_lt_zero _)
 |n+1,v,u,K,hn,h=>by
  have hv:=Cj v
  rw[Dy]at h
  rcases List.mem_cons.1 h with e|h
  ·cases e;simp[KZ]
  rcases BV.1 h with⟨h5,x,l,K',hs,hq,rfl⟩|⟨h4,x,hx,hq⟩|⟨h3,a,x,b,K',hs,hq,rfl⟩
  ·rw[hs]at hv;simp only[Ed]at hv
   have:=HW n (by omega) hq
   rw[P4];simp only[KZ];rw[Wu v,if_neg (by omega)];omega
  ·have:=C1 hx
   have:=HW n (by omega) hq
   omega
  ·rw[hs,P7]at hv;simp only[Ed]at hv
   have:=HW n (by omega) hq
   have:=Pn b
   rw[P4];omega
theorem Fl{α β:Type}{l:List α}{f:α→List β}{B:Nat}(h:∀x∈l,(f x).length≤B):(l.flatMap f).length≤l.length*B:=by
 induction l with
 |nil=>simp
 |cons x l ih=>
  rw[List.flatMap_cons,List.length_append,List.length_cons,Nat.add_mul]
  have:=h x (by simp)
  have:=ih fun y hy=>h y (by simp[hy])
  omega
theorem SU(n:Nat):1≤2^n:=Nat.one_le_two_pow
mutual
theorem Sm:∀x:Rx,(Jg x).length≤2^UH x
 | .mk k p l=>by
  rw[Jg,UH]
  by_cases h3:k=3
  ·rw[if_pos h3,if_pos h3,List.length_cons,Nat.pow_add]
   have:=K0 l
   have:=SU (KZ l)
   omega
  ·rw[if_neg h3,if_neg h3]
   split<;>simp
theorem K0:∀l:List Rx,(CJ l).length≤2^KZ l
 | []=>by simp[CJ,KZ]
 |x::l=>by
  simp only[CJ,KZ]
  have h1:=Sm x
  have h2:=K0 l
  have:=Fl (l:=Jg x) (f:=fun a=>(CJ l).map fun b=>a++b) (B:=2^KZ l) fun a _=>by rw[List.length_map];exact h2
  rw[Nat.pow_add]
  exact Nat.le_trans this (Nat.mul_le_mul_right _ h1)
end
mutual
theorem Sk:∀ {x:Rx} {t:List Rx},t∈Jg x→t.length≤UH x
 | .mk k p l,t,h=>by
  rw[Jg]at h
  rw[UH]
  rcases List.mem_cons.1 h with rfl|h
  ·split<;>simp
  ·by_cases h3:k=3
   ·rw[if_pos h3]at h⊢
    have:=GO h;omega
   ·rw[if_neg h3]at h⊢
    split at h
    ·simp at h;subst h;simp
    ·cases h
theorem GO:∀ {l t:List Rx},t∈CJ l→t.length≤KZ l
 | [],t,h=>by rw[HO.1 h];simp
 |x::l,t,h=>by
  obtain⟨a,ha,b,hb,rfl⟩:=D3.1 h
  have:=Sk ha
  have:=GO hb
  simp only[KZ,List.length_append];omega
end
mutual
theorem Jn:∀v:Rx,(CV v).length≤CX v
 | .mk k p l=>by
  have h1:=Ov l
  have h2:=Ou l
  have h3:=S_ l
  rw[CV,List.length_cons,CX]
  split
  ·rw[List.length_map];omega
  ·split
   ·omega
   ·split
    ·omega
    ·simp
theorem Ov:∀l:List Rx,(Nl l).length≤Ed l
 | []=>by simp[Nl]
 |x::l=>by
  have:=Jn x
  have:=Ov l
  simp only[Nl,Ed,List.length_append];omega
theorem Ou:∀l:List Rx,(Nk l).length≤Ed l
 | []=>by simp[Nk]
 |x::l=>by
  have:=Jn x
  have:=Ou l
  simp only[Nk,Ed,List.length_append,List.length_map];omega
theorem S_:∀l:List Rx,(RG l).length≤Ed l
 | []=>by simp[RG]
 |x::l=>by
  have:=Jn x
  simp only[RG,Ed];omega
end
def UW:List UInt8→List (List UInt8)
 | []=>[[]]
 |c::w=>(c::w)::UW w
theorem Qa:∀w,(UW w).length=w.length+1
 | []=>rfl
 |c::w=>by simp[UW,Qa w]
theorem QA:∀ {w w':List UInt8},w'<:+w→w'∈UW w
 | [],w',h=>by simp[UW,List.suffix_nil.1 h]
 |c::w,w',h=>by
  rcases List.suffix_cons_iff.1 h with rfl|h
  ·simp[UW]
  ·simp[UW,QA h]
def YM(v:Rx)(w:List UInt8):List Rx:=(K8 v).flatMap (fun K=>(CJ K).map HI)++(CV v).flatMap fun q=>(CJ q.2).flatMap fun τ=>(UW w).map fun w'=>HI (GH q.1 w'::τ)
section
variable {x y e u v s z a : Rx} {l m K L τ ρ : List Rx} {w w' W : List UInt8} {c : UInt8}
theorem Fm.mem(h:Fm v w e):e∈YM v w:=by
 rcases h with⟨K,h1,τ,h2,rfl⟩|⟨u,K,h1,τ,h2,w',h3,h4,h5,rfl⟩
 ·exact List.mem_append_left _ (List.mem_flatMap.2 ⟨K,h1,List.mem_map_of_mem h2⟩)
 ·exact List.mem_append_right _ (List.mem_flatMap.2 ⟨(u,K),Ee h1,List.mem_flatMap.2 ⟨τ,h2,List.mem_map.2 ⟨w',QA h4,rf⟩⟩⟩)
theorem P_(h:K∈K8 v):KZ K≤CX v:=by
 obtain⟨u,L,k,rfl|rfl⟩:=FY.1 h
 ·have:=HW _ (Nat.lt_succ_self _) k;omega
 ·have:=HW _ (Nat.lt_succ_self _) k
  have:=Sj u
  simp only[KZ];omega
theorem VE:(YM v w).length≤CX v*(2^CX v*(w.length+3)):=by
 have h1:=Jn v
 have p:∀ {K},KZ K≤CX v→(CJ K).length≤2^CX v:=fun hK=>Nat.le_trans (K0 _) (Nat.pow_le_pow_right (by omega) hK)
 have h2:(K8 v).length≤(CV v).length*2:=Fl fun q _=>by simp
 have h3:=Fl (l:=K8 v) (f:=fun K=>(CJ K).map HI) (B:=2^CX v) fun K hK=>by rw[List.length_map];exact p (P_ hK)
 have h4:=Fl (l:=CV v) (f:=fun q=>(CJ q.2).flatMap fun τ=>(UW w).map fun w'=>HI (GH q.1 w'::τ)) (B:=2^CX v*(w.length+1)) fun q hq=>by
  refine Nat.le_trans (Fl (B:=w.length+1) fun τ _=>by rw[List.length_map,Qa];exact Nat.le_refl _) (Nat.mul_le_mul_right _ (p ?_))
  have:=HW _ (Nat.lt_succ_self _) (show(q.1,q.2)∈CV v from hq);omega
 unfold YM
 rw[List.length_append]
 have h5:(K8 v).length*2^CX v≤(CX v*2)*2^CX v:=Nat.mul_le_mul_right _ (Nat.le_trans h2 (Nat.mul_le_mul_right _ h1))
 have h6:(CV v).length*(2^CX v*(w.length+1))≤CX v*(2^CX v*(w.length+1)):=Nat.mul_le_mul_right _ h1
 have h7:(CX v*2)*2^CX v+CX v*(2^CX v*(w.length+1))=CX v*(2^CX v*(w.length+3)):=by
  rw[Nat.mul_assoc,←Nat.mul_add,Nat.mul_comm 2,←Nat.mul_add,show 2+(w.length+1)=w.length+3 by omega]
 omega
abbrev BB:Nat:=2097152
theorem Xh(hv:CX v≤12)(hw:w.length≤21):(YM v w).length≤BB:=by
 refine Nat.le_trans VE ?_
 have h1:2^CX v≤2^12:=Nat.pow_le_pow_right (by omega) hv
 have h2:2^CX v*(w.length+3)≤2^12*24:=Nat.mul_le_mul h1 (by omega)
 exact Nat.le_trans (Nat.mul_le_mul hv h2) (by decide)
theorem VT(h:l.Nodup):(D2 l x).Nodup:=by
 unfold D2
 split
 ·exact h
 ·rename_i h2
  refine List.nodup_append.2 ⟨h,by simp,fun a ha b hb=>?_⟩
  simp at hb;subst hb
  intro e;subst e
  exact h2 (List.any_eq_true.2 ⟨a,ha,Lc a⟩)
theorem OI:∀ {m l:List Rx},l.Nodup→(m.foldl D2 l).Nodup
 | [],l,h=>h
 |x::m,l,h=>by rw[List.foldl_cons];exact OI (VT h)
theorem Tg{α:Type} :∀ {l C:List α},l.Nodup→(∀x∈l,x∈C)→l.length≤C.length
 | [],C,_,_=>Nat.zero_le _
 |x::l,C,hn,h=>by
  obtain⟨a,b,rfl⟩:=List.append_of_mem (h x (by simp))
  have hn:=List.nodup_cons.1 hn
  have:=Tg (C:=a++b) hn.2 fun y hy=>by
   have:=h y (by simp[hy])
   rw[List.mem_append,List.mem_cons]at this
   rcases this with h1|rfl|h1
   ·exact List.mem_append_left _ h1
   ·exact absurd hy hn.1
   ·exact List.mem_append_right _ h1
  simp only[List.length_cons,List.length_append]at this⊢;omega
theorem Gb(hv:CX v≤12)(hw:w.length≤21)(h:∀z∈l,∀x∈A1 z,Fm v w x):((l.flatMap A1).foldl D2 []).length≤BB:=by
 refine Nat.le_trans (Tg (C:=YM v w) (OI List.nodup_nil) fun x hx=>?_) (Xh hv hw)
 rcases It hx with h1|h1
 ·cases h1
 ·obtain⟨z,hz,h1⟩:=List.mem_flatMap.1 h1
  exact(h z hz x h1).mem
theorem Qc(hv:CX v≤12)(hw:w≠ []):(Dx (GH v w)).length≤13:=by
 generalize he:GH v w=e
 by_cases h3:e.kind=3
 ·have:e∈A1 e:=by unfold A1;rw[if_neg (by omega),if_neg (by omega)];simp
  rcases Y5 _ v (Nat.lt_succ_self _) w hw e (by rw[he];exact this)with⟨K,h1,τ,h2,rfl⟩|⟨u,K,h1,τ,h2,w',_,_,h5,rfl⟩
  ·have:=GO (HR h2)
   have:=P_ h1
   omega
  ·have:=GO h2
   have:=HW _ (Nat.lt_succ_self _) (Ee h1)
   cases τ with
   |nil=>exact absurd h3 h5.1
   |cons y t=>
    show(GH u w'::y::t).length≤13
    simp only[List.length_cons]at*;omega
 ·unfold Dx
  rw[if_neg h3]
  split<;>simp
inductive Gd(b:Nat):Rx→Prop
 |leaf {e:Rx} (h3:e.kind≠3) (h4:e.kind≠4) (h5:e.kind≠5):Gd b e
 |star {e x:Rx} {l:List Rx} (h:e.kind=5) (hs:e.Aq=x::l) (hx:Gd b x) (hl:(Dx (DL b x)).length≤BB):Gd b e
 |alt {e:Rx} (h:e.kind=4) (hx:∀x∈e.Aq,Gd b x) (hl:(((e.Aq.map (DL b)).flatMap A1).foldl D2 []).length≤BB):Gd b e
 |cat {e x:Rx} {l:List Rx} (h:e.kind=3) (hs:e.Aq=x::l) (hx:Gd b x) (hn:Fj x=true→Gd b (BN l)) (h1:(I7 l).length≤BB) (h2:(Dx (DL b x)).length≤BB) (h3:(Dx (BN l)).length≤BB)
  (h4:(([BN [DL b x,BN l],DL b (BN l)].flatMap A1).foldl D2 []).length≤BB):Gd b e
def XE(v:Rx):Prop:= ∀(w:List UInt8) (c:UInt8),w.length≤20→Gd c.toNat (GH v w)
theorem R0:∀u K,(u,K)∈EI v→UE u:=fun u _ _=>Y5 _ u (Nat.lt_succ_self _)
theorem Gd.zero{b:Nat} :Gd b HA:= .leaf (by decide) (by decide) (by decide)
theorem Gd.one{b:Nat} :Gd b UB:= .leaf (by decide) (by decide) (by decide)
theorem Fm.rest(hw:[c]<:+W)(hK:XC v K)(hτ:τ∈CJ K)(hb:Ed τ<CX v∨∀x∈A1 (DL c.toNat v),Fm v W x):∀x∈A1 (DL c.toNat (BN τ)),Fm v W x:=by
 intro x hx
 rcases Dj (τ:=τ)with h1|h1
 ·rw[h1,Y4]at hx;exact(Fu hx).elim
 ·rw[h1]at hx
  have:=Kg τ
  exact Fm.stat R0 hw _ (Nat.lt_succ_self _) hK (CE hτ) (hb.imp (fun h=>by omega) id) x hx
theorem Xl(hv:CX v≤12)(hW:W.length≤21)(hs:(s,K)∈EI v)(hτ:τ∈CJ K)(hw:w'++[c]<:+W)(hG:Gd c.toNat (GH s w'))(hn:Fj (GH s w')=true→Gd c.toNat (BN τ))
  (hr:∀x∈A1 (DL c.toNat (BN τ)),Fm v W x) (h3:e.kind=3) (he:e.Aq=GH s w'::τ):Gd c.toNat e:=by
 have hk:=HW _ (Nat.lt_succ_self _) (Ee hs)
 have hsz:=Ij s
 have hl:=GO (CE hτ)
 have hq:(Dx (DL c.toNat (GH s w'))).length≤13:=by rw[←Gi];exact Qc (by omega) (by simp)
 refine .cat h3 he hG hn (by unfold BB;omega) (by unfold BB;omega) ?_ (Gb hv hW fun z hz x hx=>?_)
 ·rcases Dj (τ:=τ)with h1|h1
  ·rw[h1];show 1≤BB;unfold BB;omega
  ·rw[h1]
   have:=GO (HR (CE hτ))
   unfold BB;omega
 ·simp at hz
  rcases hz with rfl|rfl
  ·rcases Dj (τ:=τ)with h1|h1
   ·rw[h1]at hx
    have:BN [DL c.toNat (GH s w'),HA]=HA:=by unfold BN;simp[HA,Rx.kind]
    rw[this]at hx;exact(Fu hx).elim
   ·rw[h1,←Gi]at hx
    exact Fm.first R0 hs (CE hτ) (by simp) hw hx
  ·exact hr x hx
theorem Y1(hv:CX v≤12)(hP:∀u K,(u,K)∈EI v→XE u):∀(n:Nat) {τ K:List Rx},Ed τ<n→XC v K→τ∈CJ K→(Ed τ<CX v∨Gd c.toNat v)→Gd c.toNat (HI τ)
 |0,_,_,h,_,_,_=>absurd h (Nat.not_lt_zero _)
 |n+1,[],K,hn,hK,hτ,hb=>Gd.one
 |n+1,s::τ,K,hn,hK,hτ,hb=>by
  obtain⟨K',k1,k2⟩:=LO hK hτ
  have k1':=k1
  rw[Dy]at k1'
  have hsz:=Ij s
  rcases List.mem_cons.1 k1' with e|hs
  ·have e1:s=v:=congrArg Prod.fst e
   have e2:K'=[]:=congrArg Prod.snd e
   subst e1;subst e2
   obtain rfl:=HO.1 k2
   rcases hb with hb|hb
   ·simp only[Ed]at hb;omega
   ·exact hb
  ·cases τ with
   |nil=>exact hP s K' hs [] c (by simp)
   |cons y t=>
    have hKs:=Hm _ (Nat.lt_succ_self _) k1
    refine Xl (W:=[c]) (w':=[]) hv (by simp) hs k2 (List.suffix_refl _) (hP s K' hs [] c (by simp)) (fun _=>?_) (Fm.rest (List.suffix_refl _) hKs k2 (.inr (Fm.base R0 (List.suffix_refl _)))) rf rf
    rcases Dj (τ:=y::t)with h1|h1
    ·rw[h1];exact Gd.zero
    ·rw[h1]
     have h2:=Kg (y::t)
     simp only[Ed]at hn h2 hb
     exact Y1 hv hP n (by omega) hKs (CE k2) (hb.imp (fun h=>by omega) id)
theorem ZN(hv:CX v≤12)(hne:v.kind=5∨v.kind=3→v.Aq≠ [])(hP:∀u K,(u,K)∈EI v→XE u)(c:UInt8):Gd c.toNat v:=by
 by_cases h5:v.kind=5
 ·cases hs:v.Aq with
  |nil=>exact absurd hs (hne (.inl h5))
  |cons y l=>
   have hn:(y,[v])∈EI v:=BV.2 (.inl ⟨h5,y,l,[],hs,Cc,rfl⟩)
   have:=Qc (v:=y) (w:=[c]) (by have:=Hq _ (Nat.lt_succ_self _) hn;omega) (by simp)
   exact .star h5 hs (hP y _ hn [] c (by simp)) (Nat.le_trans this (by decide))
 by_cases h4:v.kind=4
 ·refine .alt h4 (fun x hx=>hP x [] (BV.2 (.inr (.inl ⟨h4,x,hx,Cc⟩))) [] c (by simp)) (Gb (w:=[c]) hv (by simp) fun z hz x hx=>?_)
  obtain⟨y,hy,rfl⟩:=List.mem_map.1 hz
  have hn:(y,[])∈EI v:=BV.2 (.inr (.inl ⟨h4,y,hy,Cc⟩))
  exact(R0 y [] hn [c] (by simp) x hx).XA (Ee hn) (by simp[CJ])
 by_cases h3:v.kind=3
 ·cases hs:v.Aq with
  |nil=>exact absurd hs (hne (.inr h3))
  |cons s τ=>
   have hn:(s,τ)∈EI v:=BV.2 (.inr (.inr ⟨h3,[],s,τ,[],hs,Cc,rfl⟩))
   have hKs:=Hm _ (Nat.lt_succ_self _) (Ee hn)
   have hsz:=Ij s
   have hlt:Ed τ<CX v:=by rw[Cj,hs];simp only[Ed];omega
   refine Xl (W:=[c]) (w':=[]) hv (by simp) hn (Es τ) (List.suffix_refl _) (hP s τ hn [] c (by simp)) (fun _=>?_) (Fm.rest (List.suffix_refl _) hKs (Es τ) (.inl hlt)) h3 hs
   rcases Dj (τ:=τ)with h1|h1
   ·rw[h1];exact Gd.zero
   ·rw[h1]
    have h2:=Kg τ
    exact Y1 hv hP _ (Nat.lt_succ_self _) hKs (CE (Es τ)) (.inl (by omega))
 ·exact .leaf h3 h4 h5
theorem ZC(hv:CX v≤12)(hP:∀u K,(u,K)∈EI v→XE u)(hB:Gd c.toNat v)(hw:w.length≤20)(h:Fm v w e):Gd c.toNat e:=by
 rcases h with⟨K,h1,τ,h2,rfl⟩|⟨u,K,h1,τ,h2,w',h3,h4,h5,rfl⟩
 ·exact Y1 hv hP _ (Nat.lt_succ_self _) (K7 h1) h2 (.inr hB)
 ·have hlen:w'.length≤20:=Nat.le_trans h4.length_le hw
  cases τ with
  |nil=>exact hP u K h1 w' c hlen
  |cons y t=>
   have hKs:=Hm _ (Nat.lt_succ_self _) (Ee h1)
   obtain⟨q,hq⟩:=h4
   have hw2:w'++[c]<:+w++[c]:=⟨q,by rw[←hq];simp⟩
   have hc:[c]<:+w++[c]:=⟨w,rfl⟩
   refine Xl (W:=w++[c]) hv (by simp;omega) h1 h2 hw2 (hP u K h1 w' c hlen) (fun _=>?_) (Fm.rest hc hKs h2 (.inr (Fm.base R0 hc))) rf rf
   rcases Dj (τ:=y::t)with h1|h1
   ·rw[h1];exact Gd.zero
   ·rw[h1];exact Y1 hv hP _ (Nat.lt_succ_self _) hKs (CE h2) (.inr hB)
end
def Ne(v:Rx):Prop:= ∀u K,(u,K)∈CV v→u.kind=5∨u.kind=3→u.Aq≠ []
theorem ZB:∀(n:Nat) (v:Rx),CX v<n→CX v≤12→Ne v→XE v
 |0,_,h,_,_=>absurd h (Nat.not_lt_zero _)
 |n+1,v,hn,hv,hne=>by
  have hP:∀u K,(u,K)∈EI v→XE u:=fun u K h=>ZB n u (by have:=Hq _ (Nat.lt_succ_self _) h;omega) (by have:=Hq _ (Nat.lt_succ_self _) h;omega) fun z L hz=>hne z _ (C6 _ (Nat.lt_succ_self _) (Ee h) hz)
  have hB:=ZN hv (hne v [] Cc) hP
  intro w c hw
  by_cases hw0:w=[]
  ·subst hw0;exact hB c
  have hF:=Y5 _ v (Nat.lt_succ_self _) w hw0
  generalize he:GH v w=e at hF
  by_cases h4:e.kind=4
  ·have ha:A1 e=e.Aq:=by unfold A1;rw[if_pos h4]
   refine .alt h4 (fun x hx=>ZC hv hP (hB c) hw (hF x (by rw[ha];exact hx))) (Gb (w:=w++[c]) hv (by simp;omega) fun z hz x hx=>?_)
   obtain⟨y,hy,rfl⟩:=List.mem_map.1 hz
   exact Fm.step R0 (hF y (by rw[ha];exact hy)) x hx
  ·by_cases h0:e.kind=0
   ·exact .leaf (by omega) h4 (by omega)
   ·exact ZC hv hP (hB c) hw (hF e (by unfold A1;rw[if_neg h4,if_neg h0];simp))
end Go.GL
namespace Go.GL
open Go.GK
theorem Ik:∀l:List Rx,l.length≤Ed l
 | []=>Nat.le_refl _
 |x::l=>by
  have:=Ij x
  have:=Ik l
  simp only[Ed,List.length_cons];omega
theorem Qq(x:Rx):Fj x=if x.kind=1 then true else if x.kind=5 then true else if x.kind=3 then Nh x.Aq else if x.kind=4 then Ni x.Aq else false:=by cases x;rw[Fj];rfl
theorem S7(l:List Rx):Nh l=l.all Fj:=by
 induction l with
 |nil=>rfl
 |cons x l ih=>simp[Nh,ih]
theorem S8(l:List Rx):Ni l=l.any Fj:=by
 induction l with
 |nil=>rfl
 |cons x l ih=>simp[Ni,ih]
theorem Gs{P:Rx→Prop}{l:List Rx}{k:Nat}(hk:k<l.length)(h:∀x∈l.take k,P x)(hx:P l[k]):∀x∈l.take (k+1),P x:=by
 intro x hx'
 rw[←List.take_append_getElem hk]at hx'
 rcases List.mem_append.1 hx' with h1|h1
 ·exact h x h1
 ·simp at h1;subst h1;exact hx
theorem Ho{P:Rx→Prop}{l:List Rx}(h:∀x∈l.take l.length,P x):∀x∈l,P x:=by rwa [List.take_of_length_le (Nat.le_refl _)]at h
theorem PH:∀(fu:Nat) (r:Rx),CX r<fu→Ok (Cs fu r) (fun b=>b=Fj r)
 |0,_,h=>absurd h (Nat.not_lt_zero _)
 |fu+1,r,h=>by
  have hl:=Ik r.Aq
  have hr:=Cj r
  have ih:∀x∈r.Aq,Ok (Cs fu x) (fun b=>b=Fj x):=fun x hx=>PH fu x (by have:=C1 hx;omega)
  have j:∀b:Bool,b=decide (r.kind=1∨r.kind=5)→Ok (De fu r (Cs fu) b) (fun b=>b=Fj r):=fun b hb=>by
   unfold De
   refine Ok.bif (fun h1=>?_) fun h1=>?_
   ·rw[hb]at h1
    have h1:=of_decide_eq_true h1
    refine Ok.some ?_
    rw[Qq]
    rcases h1 with h1|h1
    ·rw[if_pos h1]
    ·rw[if_neg (by omega),if_pos h1]
   ·rw[hb]at h1
    have h1:=of_decide_eq_false h1
    have e:Fj r=if r.kind=3 then Nh r.Aq else if r.kind=4 then Ni r.Aq else false:=by rw[Qq,if_neg (fun h=>h1 (.inl h)),if_neg (fun h=>h1 (.inr h))]
    rw[e]
    refine Ok.ite (fun h3=>?_) fun h3=>Ok.ite (fun h4=>?_) fun h4=>?_
    ·rw[if_pos h3,S7]
     refine Ok.count (fun k=> ∀x∈r.Aq.take k,Fj x=true) r.Aq.length (by simp) (by omega) (fun k nx hk hJ hn=>?_) fun nx hJ=>?_
     ·unfold Dg
      refine Ok.iT (by omega) (Ok.C3 hk (Ok.AV (ih _ (List.getElem_mem hk)) fun b hb=>?_))
      subst hb
      refine Ok.bif (fun hf=>Ok.some ?_) fun hf=>hn (Gs hk hJ (by simpa using hf))
      symm
      rw[List.all_eq_false]
      exact⟨_,List.getElem_mem hk,by simpa using hf⟩
     ·unfold Dg
      exact Ok.iF (by omega) (Ok.some (by symm;rw[List.all_eq_true];exact Ho hJ))
    ·rw[if_neg h3,if_pos h4,S8]
     refine Ok.count (fun k=> ∀x∈r.Aq.take k,Fj x=false) r.Aq.length (by simp) (by omega) (fun k nx hk hJ hn=>?_) fun nx hJ=>?_
     ·unfold Df
      refine Ok.iT (by omega) (Ok.C3 hk (Ok.AV (ih _ (List.getElem_mem hk)) fun b hb=>?_))
      subst hb
      refine Ok.bif (fun hf=>Ok.some ?_) fun hf=>hn (Gs hk hJ hf)
      symm
      rw[List.any_eq_true]
      exact⟨_,List.getElem_mem hk,hf⟩
     ·unfold Df
      refine Ok.iF (by omega) (Ok.some ?_)
      symm
      rw[List.any_eq_false]
      exact fun x hx=>by rw[Ho hJ x hx];simp
    ·rw[if_neg h3,if_neg h4];exact Ok.some rfl
  show Ok (DQ fu (Cs fu) r) _
  unfold DQ
  exact Ok.ite (fun h1=>j _ (by simp[h1])) fun h1=>j _ (by simp[h1])
theorem SD(x y:Rx):GS x y=(decide (x.kind=y.kind)&&(Mh x.set y.set&&FG x.Aq y.Aq)):=by cases x;rw[GS];rfl
theorem Il:∀ {l m:List Rx},FG l m=true↔l.length=m.length∧∀k (h:k<l.length) (h':k<m.length),GS l[k] m[k]=true
 | [],[]=>by simp[FG]
 | [],y::m=>by simp[FG]
 |x::l,[]=>by simp[FG]
 |x::l,y::m=>by
  simp only[FG,Bool.and_eq_true,List.length_cons]
  rw[Il]
  constructor
  ·rintro⟨h1,h2,h3⟩
   refine⟨by omega,fun k hk hk'=>?_⟩
   cases k with
   |zero=>exact h1
   |succ k=>exact h3 k (by omega) (by omega)
  ·rintro⟨h1,h2⟩
   exact⟨h2 0 (by omega) (by omega),by omega,fun k hk hk'=>h2 (k+1) (by omega) (by omega)⟩
theorem Qd:∀(fu:Nat) (x y:Rx),CX x<fu→Ok (Gt fu x y) (fun b=>b=GS x y)
 |0,_,_,h=>absurd h (Nat.not_lt_zero _)
 |fu+1,x,y,h=>by
  have hl:=Ik x.Aq
  have hr:=Cj x
  show Ok (FZ fu (Gt fu) x y) _
  unfold FZ
  rw[SD]
  refine Ok.ite (fun h1=>Ok.some (by simp[h1])) fun h1=>?_
  have h1:x.kind=y.kind:=by omega
  rw[decide_eq_true h1,Bool.true_and]
  refine Ok.bif (fun h2=>Ok.some (by simp at h2;simp[h2])) fun h2=>?_
  have h2:Mh x.set y.set=true:=by simpa using h2
  rw[h2,Bool.true_and]
  refine Ok.ite (fun h3=>Ok.some ?_) fun h3=>?_
  ·cases hq:FG x.Aq y.Aq with
   |false=>rfl
   |true=>have:=(Il.1 hq).1;omega
  ·have h3:x.Aq.length=y.Aq.length:=by omega
   refine Ok.count (fun k=> ∀i (h:i<x.Aq.length) (h':i<y.Aq.length),i<k→GS x.Aq[i] y.Aq[i]=true) x.Aq.length (by intro i _ _ h;omega) (by omega) (fun k nx hk hJ hn=>?_) fun nx hJ=>?_
   ·unfold E3
    refine Ok.iT (by omega) (Ok.C3 hk (Ok.C3 (by omega) (Ok.AV (Qd fu _ _ (by have:=C1 (List.getElem_mem hk);omega)) fun b hb=>?_)))
    subst hb
    refine Ok.bif (fun hf=>Ok.some ?_) fun hf=>hn fun i hi hi' hik=>?_
    ·have hf:GS (x.Aq[k]) (y.Aq[k]'(by omega))=false:=by simpa using hf
     cases hq:FG x.Aq y.Aq with
     |false=>rfl
     |true=>rw[(Il.1 hq).2 k hk (by omega)]at hf;cases hf
    ·rcases Nat.lt_or_ge i k with h5|h5
     ·exact hJ i hi hi' h5
     ·obtain rfl:i=k:=by omega
      simpa using hf
   ·unfold E3
    exact Ok.iF (by omega) (Ok.some (by symm;rw[Il];exact⟨h3,fun k hk hk'=>hJ k hk hk' hk⟩))
theorem TB(fu:Nat){l:List Rx}(h:l≠ []):Ok (Gu fu 3 l) (fun x=>x=HI l):=by
 unfold Gu
 match l,h with
 | [x],_=>exact Ok.iT (by simp) (Ok.HK (by decide) (a:=x) rfl (Ok.some rfl))
 |x::y::l,_=>exact Ok.iF (by simp;omega) (Ok.some rfl)
theorem TC(fu:Nat){l:List Rx}(h:l≠ []):Ok (Gu fu 4 l) (fun x=>x=X8 l):=by
 unfold Gu
 match l,h with
 | [x],_=>exact Ok.iT (by simp) (Ok.HK (by decide) (a:=x) rfl (Ok.some rfl))
 |x::y::l,_=>exact Ok.iF (by simp;omega) (Ok.some rfl)
theorem Vv(x:Rx):I7 [x]=Dx x:=by simp[I7]
theorem JH{l:List Rx}{k:Nat}(hk:k<l.length):I7 (l.take (k+1))=I7 (l.take k)++Dx l[k]:=by
 rw[←List.take_append_getElem hk,ND,Vv]
theorem W4(l:List Rx)(k:Nat):(I7 (l.take k)).length≤(I7 l).length:=by
 conv=>rhs;rw[←List.take_append_drop k l,ND,List.length_append]
 omega
theorem PS{fu:Nat}{l:List Rx}(hf:l.length<fu)(hl:(I7 l).length≤AJ):Ok (IY fu l) (fun x=>x=BN l):=by
 unfold IY
 refine Ok.range (fun k s=>s=I7 (l.take k)∧∀x∈l.take k,x.kind≠0) l.length ⟨rf,by simp⟩ hf (fun k s nx hk hJ hn=>?_) fun s nx hJ=>?_
 ·obtain⟨rfl,h2⟩:=hJ
  unfold FN
  dsimp only
  have hle:=W4 l (k+1)
  rw[JH hk]at hle
  rw[List.length_append]at hle
  refine Ok.iT (by omega) (Ok.C3 hk (Ok.ite (fun h0=>Ok.some ?_) fun h0=>?_))
  ·unfold BN
   rw[if_pos (List.any_eq_true.2 ⟨_,List.getElem_mem hk,decide_eq_true h0⟩)];rfl
  have h2':=Gs hk h2 h0
  refine Ok.ite (fun h3=>?_) fun h3=>Ok.ite (fun h1=>?_) fun h1=>?_
  ·have e:Dx l[k]=l[k].Aq:=by unfold Dx;rw[if_pos h3]
   rw[e]at hle
   exact Ok.A4 (by omega) (hn _ ⟨by rw[JH hk,e],h2'⟩)
  ·have e:Dx l[k]=[]:=by unfold Dx;rw[if_neg h3,if_pos h1]
   exact hn _ ⟨by rw[JH hk,e,List.append_nil],h2'⟩
  ·have e:Dx l[k]=[l[k]]:=by unfold Dx;rw[if_neg h3,if_neg h1]
   rw[e]at hle
   exact Ok.A4 (by omega) (hn _ ⟨by rw[JH hk,e],h2'⟩)
 ·obtain⟨rfl,h2⟩:=hJ
  unfold FN
  dsimp only
  rw[List.take_of_length_le (Nat.le_refl _)]at h2⊢
  have e:BN l=HI (I7 l):=by
   unfold BN
   rw[if_neg]
   intro h
   obtain⟨x,hx,h⟩:=List.any_eq_true.1 h
   exact h2 x hx (of_decide_eq_true h)
  rw[e]
  refine Ok.iF (by omega) (Ok.ite (fun h0=>Ok.some ?_) fun h0=>Ok.AV (TB fu ?_) fun x hx=>Ok.some hx)
  ·have:I7 l=[]:=List.eq_nil_of_length_eq_zero (by omega)
   rw[this];rfl
  ·intro h;rw[h]at h0;simp at h0
theorem Q8{fu:Nat}{x:Rx}{l:List Rx}(hx:CX x<fu)(hf:l.length<fu)(hl:l.length≤BB):Ok (GU fu x l) (fun m=>m=D2 l x):=by
 unfold GU
 have hB:BB+1≤AJ:=by decide
 refine Ok.count (fun k=> ∀y∈l.take k,GS x y=false) l.length (by simp) hf (fun k nx hk hJ hn=>?_) fun nx hJ=>?_
 ·unfold Ev
  refine Ok.iT (by omega) (Ok.C3 hk (Ok.AV (Qd fu x _ hx) fun b hb=>?_))
  subst hb
  refine Ok.bif (fun h=>Ok.some ?_) fun h=>hn (Gs hk hJ h)
  unfold D2
  rw[if_pos (List.any_eq_true.2 ⟨_,List.getElem_mem hk,h⟩)]
 ·unfold Ev
  refine Ok.iF (by omega) (Ok.A4 (by simp;omega) (Ok.C3 (by simp) (Ok.some ?_)))
  unfold D2
  rw[if_neg]
  ·rw[List.set_append_right _ _ (Nat.le_refl _)];simp
  ·intro h
   obtain⟨y,hy,h⟩:=List.any_eq_true.1 h
   rw[Ho hJ y hy]at h;cases h
theorem VV(l:List Rx)(x:Rx):l.length≤(D2 l x).length:=by
 unfold D2
 split
 ·exact Nat.le_refl _
 ·simp
theorem QO:∀(m l:List Rx),l.length≤(m.foldl D2 l).length
 | [],l=>Nat.le_refl _
 |x::m,l=>Nat.le_trans (VV l x) (QO m _)
theorem Uq{fu:Nat}{l:List Rx}(hf:l.length<fu)(hs:∀x∈l,CX x<fu)(hB:BB<fu)(hl:((l.flatMap A1).foldl D2 []).length≤BB):Ok (J3 fu l) (fun x=>x=HM l):=by
 unfold J3
 have pre:∀k (hk:k<l.length) (m:List Rx) (t:List Rx),A1 l[k]=m++t→(m.foldl D2 (((l.take k).flatMap A1).foldl D2 [])).length≤BB:=fun k hk m t e=>by
  refine Nat.le_trans ?_ hl
  have e2:l.flatMap A1=(l.take k).flatMap A1++(m++(t++(l.drop (k+1)).flatMap A1)):=by
   conv=>lhs;rw[←List.take_append_drop k l,List.drop_eq_getElem_cons hk]
   rw[List.flatMap_append,List.flatMap_cons,e,List.append_assoc]
  rw[e2,List.foldl_append,List.foldl_append]
  exact QO _ _
 have tk:∀k (hk:k<l.length),((l.take (k+1)).flatMap A1).foldl D2 []=(A1 l[k]).foldl D2 (((l.take k).flatMap A1).foldl D2 []):=fun k hk=>by
  rw[←List.take_append_getElem hk,List.flatMap_append,List.foldl_append];simp
 refine Ok.range (fun k s=>s=((l.take k).flatMap A1).foldl D2 []) l.length rf hf (fun k s nx hk hJ hn=>?_) fun s nx hJ=>?_
 ·subst hJ
  unfold FP
  dsimp only
  have hsz:=hs _ (List.getElem_mem hk)
  refine Ok.iT (by omega) (Ok.C3 hk (Ok.ite (fun h4=>?_) fun h4=>Ok.ite (fun h0=>?_) fun h0=>?_))
  ·have e:A1 l[k]=l[k].Aq:=by unfold A1;rw[if_pos h4]
   have hlen:=Ik l[k].Aq
   have hr:=Cj l[k]
   refine Ok.range (fun j s=>s=(l[k].Aq.take j).foldl D2 (((l.take k).flatMap A1).foldl D2 [])) l[k].Aq.length rf (by omega) (fun j s nx' hj hJ hn'=>?_) fun s nx' hJ=>?_
   ·subst hJ
    unfold FO
    dsimp only
    have hp:=pre k hk (l[k].Aq.take j) (l[k].Aq.drop j) (by rw[e,List.take_append_drop])
    have hsm:=C1 (List.getElem_mem hj)
    refine Ok.iT (by omega) (Ok.C3 hj (Ok.AV (Q8 (by omega) (by omega) hp) fun m hm=>hn' _ ?_))
    rw[hm,←List.take_append_getElem hj,List.foldl_append];rfl
   ·subst hJ
    unfold FO
    dsimp only
    refine Ok.iF (by omega) (hn _ ?_)
    rw[tk k hk,e,List.take_of_length_le (Nat.le_refl _)]
  ·have e:A1 l[k]=[l[k]]:=by unfold A1;rw[if_neg h4,if_neg h0]
   have hp:(((l.take k).flatMap A1).foldl D2 []).length≤BB:=pre k hk [] [l[k]] e
   refine Ok.AV (Q8 (by omega) (by omega) hp) fun m hm=>hn _ ?_
   rw[hm,tk k hk,e];rfl
  ·have e:A1 l[k]=[]:=by unfold A1;rw[if_neg h4,if_pos (by omega)]
   exact hn _ (by rw[tk k hk,e];rfl)
 ·subst hJ
  unfold FP
  dsimp only
  rw[List.take_of_length_le (Nat.le_refl _)]
  refine Ok.iF (by omega) (Ok.ite (fun h0=>Ok.some ?_) fun h0=>Ok.AV (TC fu ?_) fun x hx=>Ok.some hx)
  ·have:(l.flatMap A1).foldl D2 []=[]:=List.eq_nil_of_length_eq_zero (by omega)
   unfold HM
   rw[this];rfl
  ·intro h;rw[h]at h0;simp at h0
end Go.GL
namespace Go.GL
open Go.GK
mutual
def HQ:Rx→Prop| .mk k _ l=>(k=4→l.length≤BB)∧Ws l
def Ws:List Rx→Prop
 | []=>True
 |x::l=>HQ x∧Ws l
end
theorem V2{l:List Rx} :Ws l↔∀x∈l,HQ x:=by
 induction l with
 |nil=>simp[Ws]
 |cons x l ih=>simp[Ws,ih]
theorem FE{e:Rx} :HQ e↔(e.kind=4→e.Aq.length≤BB)∧∀x∈e.Aq,HQ x:=by
 rw[←V2];cases e;rw[HQ];exact Iff.rfl
mutual
theorem Rb:∀ {v:Rx},CX v≤BB→HQ v
 | .mk k p l,h=>by
  simp only[CX]at h
  have:=Ik l
  simp only[HQ]
  exact⟨fun _=>by omega,Uz (by omega)⟩
theorem Uz:∀ {l:List Rx},Ed l≤BB→Ws l
 | [],_=>by simp[Ws]
 |x::l,h=>by
  simp only[Ed]at h
  simp only[Ws]
  exact⟨Rb (by omega),Uz (by omega)⟩
end
section
variable {x y e : Rx} {l : List Rx} {b : Nat}
theorem YX:HQ UB:=Rb (by decide)
theorem V1:HQ HA:=Rb (by decide)
theorem Xu(h:HQ x)(hy:y∈Dx x):HQ y:=by
 unfold Dx at hy
 split at hy
 ·exact(FE.1 h).2 y hy
 ·split at hy
  ·cases hy
  ·simp at hy;subst hy;exact h
theorem Xv(h:∀x∈l,HQ x):HQ (HI l):=by
 match l,h with
 | [],_=>exact YX
 | [x],h=>exact h x (by simp)
 |x::y::l,h=>exact FE.2 ⟨fun h=>(by cases h),h⟩
theorem KX(h:∀x∈l,HQ x):HQ (BN l):=by
 rcases Dj (τ:=l)with h1|h1
 ·rw[h1];exact V1
 ·rw[h1]
  refine Xv fun x hx=>?_
  obtain⟨y,hy,hx⟩:=List.mem_flatMap.1 hx
  exact Xu (h y hy) hx
theorem V0(h:HQ x)(hy:y∈A1 x):HQ y:=by
 unfold A1 at hy
 split at hy
 ·exact(FE.1 h).2 y hy
 ·split at hy
  ·cases hy
  ·simp at hy;subst hy;exact h
theorem Rc(h:∀x∈l,HQ x)(hl:((l.flatMap A1).foldl D2 []).length≤BB):HQ (HM l):=by
 unfold HM
 have key:∀y∈(l.flatMap A1).foldl D2 [],HQ y:=fun y hy=>by
  rcases It hy with h1|h1
  ·cases h1
  ·obtain⟨z,hz,h1⟩:=List.mem_flatMap.1 h1
   exact V0 (h z hz) h1
 generalize(l.flatMap A1).foldl D2 []=m at hl key
 match m,hl,key with
 | [],_,_=>exact V1
 | [y],_,key=>exact key y (by simp)
 |y::z::m,hl,key=>exact FE.2 ⟨fun _=>hl,key⟩
theorem YJ(h:Gd b e):HQ e→HQ (DL b e):=by
 induction h with
 | @leaf e h3 h4 h5=>
  intro _
  by_cases h2:e.kind=2
  ·rw[Y3 h2]
   split
   ·exact YX
   ·exact V1
  ·rw[Xc h2 h5 h4 h3];exact V1
 | @star e x l h hs hx hl ih=>
  intro hq
  rw[Y2 h hs]
  have:=(FE.1 hq).2 x (by rw[hs];simp)
  refine KX fun z hz=>?_
  simp at hz
  rcases hz with rfl|rfl
  ·exact ih this
  ·exact hq
 | @alt e h hx hl ih=>
  intro hq
  rw[YK h]
  refine Rc (fun z hz=>?_) hl
  obtain⟨x,hx',rfl⟩:=List.mem_map.1 hz
  exact ih x hx' ((FE.1 hq).2 x hx')
 | @cat e x l h hs hx hn h1 h2 h3 h4 ih ih2=>
  intro hq
  have q1:=(FE.1 hq).2 x (by rw[hs];simp)
  have q2:HQ (BN l):=KX fun z hz=>(FE.1 hq).2 z (by rw[hs];simp[hz])
  have q3:HQ (BN [DL b x,BN l]):=KX fun z hz=>by
   simp at hz
   rcases hz with rfl|rfl
   ·exact ih q1
   ·exact q2
  rw[XB h hs]
  split
  ·rename_i hx
   refine Rc (fun z hz=>?_) h4
   simp at hz
   rcases hz with rfl|rfl
   ·exact q3
   ·exact ih2 hx q2
  ·exact q3
end
theorem TV{P:Rx→Nat→Prop} :∀ {l:List Rx},(∀x∈l,∃F,∀fu,F≤fu→P x fu)→∃F,∀x∈l,∀fu,F≤fu→P x fu
 | [],_=>⟨0,by simp⟩
 |x::l,h=>by
  obtain⟨F,hF⟩:=h x (by simp)
  obtain⟨G,hG⟩:=TV (l:=l) fun y hy=>h y (by simp[hy])
  refine⟨F+G,fun y hy fu hf=>?_⟩
  rcases List.mem_cons.1 hy with rfl|hy
  ·exact hF fu (by omega)
  ·exact hG y hy fu (by omega)
theorem Wa{P:Nat→Nat→Prop} :∀(n:Nat),(∀k,k<n→∃F,∀fu,F≤fu→P k fu)→∃F,∀k,k<n→∀fu,F≤fu→P k fu
 |0,_=>⟨0,fun k h=>by omega⟩
 |n+1,h=>by
  obtain⟨F,hF⟩:=h n (by omega)
  obtain⟨G,hG⟩:=Wa n fun k hk=>h k (by omega)
  refine⟨F+G,fun k hk fu hf=>?_⟩
  by_cases e:k=n
  ·subst e;exact hF fu (by omega)
  ·exact hG k (by omega) fu (by omega)
theorem ZD{x y:Rx} :(I7 [x,y]).length=(Dx x).length+(Dx y).length:=by simp[I7]
theorem Xf{b:Nat}{e:Rx}(h:Gd b e):HQ e→∃F,∀fu,F≤fu→Cw fu e (b:Int)=some (DL b e):=by
 have hBB:BB+BB≤AJ:=by decide
 induction h with
 | @leaf e h3 h4 h5=>
  intro _
  refine⟨1,fun fu hf=>?_⟩
  obtain⟨fu,rfl⟩:∃m,fu=m+1:=⟨fu-1,by omega⟩
  refine Ok.eq ?_
  show Ok (Ca fu (Cw fu) e b) _
  unfold Ca
  refine Ok.ite (fun h2=>?_) fun h2=>?_
  ·rw[Y3 h2,Int.toNat_natCast]
   refine Ok.bif (fun hb=>Ok.some ?_) fun hb=>Ok.some ?_
   ·rw[if_pos hb];rfl
   ·rw[if_neg (by simp[hb])];rfl
  ·rw[Xc h2 h5 h4 h3]
   exact Ok.iF h5 (Ok.iF h4 (Ok.iF h3 (Ok.some rf)))
 | @star e x l h hs hx hl ih=>
  intro hq
  have q1:=(FE.1 hq).2 x (by rw[hs];simp)
  obtain⟨F,hF⟩:=ih q1
  refine⟨F+4,fun fu hf=>?_⟩
  obtain⟨fu,rfl⟩:∃m,fu=m+1:=⟨fu-1,by omega⟩
  refine Ok.eq ?_
  show Ok (Ca fu (Cw fu) e b) _
  unfold Ca
  rw[Y2 h hs]
  have he:Dx e=[e]:=by unfold Dx;rw[if_neg (by omega),if_neg (by omega)]
  refine Ok.iF (by omega) (Ok.iT h (Ok.HK (by decide) (a:=x) (by rw[hs];rfl) (Ok.Cq (hF fu (by omega)) (Ok.AV (PS (by simp;omega) ?_) fun z hz=>Ok.some hz))))
  rw[ZD,he];simp only[List.length_cons,List.length_nil];have:13<BB:=by decide
  omega
 | @alt e h hx hl ih=>
  intro hq
  have hq:=FE.1 hq
  obtain⟨F,hF⟩:=TV (P:=fun x fu=>Cw fu x (b:Int)=some (DL b x)) fun x hx=>ih x hx (hq.2 x hx)
  refine⟨F+BB+Ed (e.Aq.map (DL b))+4,fun fu hf=>?_⟩
  obtain⟨fu,rfl⟩:∃m,fu=m+1:=⟨fu-1,by omega⟩
  refine Ok.eq ?_
  show Ok (Ca fu (Cw fu) e b) _
  unfold Ca
  rw[YK h]
  have hlen:=hq.1 h
  have hml:=Ik (e.Aq.map (DL b))
  refine Ok.iF (by omega) (Ok.iF (by omega) (Ok.iT h ?_))
  refine Ok.range (fun k s=>s=(e.Aq.take k).map (DL b)) e.Aq.length rf (by omega) (fun k s nx hk hJ hn=>?_) fun s nx hJ=>?_
  ·subst hJ
   unfold D4
   dsimp only
   refine Ok.iT (by omega) (Ok.C3 hk (Ok.Cq (hF _ (List.getElem_mem hk) fu (by omega)) (Ok.A4 (by simp;omega) (hn _ ?_))))
   rw[←List.take_append_getElem hk,List.map_append];rfl
  ·subst hJ
   unfold D4
   dsimp only
   rw[List.take_of_length_le (Nat.le_refl _)]
   exact Ok.iF (by omega) (Ok.AV (Uq (by omega) (fun x hx=>by have:=C1 hx;omega) (by omega) hl) fun z hz=>Ok.some hz)
 | @cat e x l h hs hx hn h1 h2 h3 h4 ih ih2=>
  intro hq
  have q1:=(FE.1 hq).2 x (by rw[hs];simp)
  have q2:HQ (BN l):=KX fun z hz=>(FE.1 hq).2 z (by rw[hs];simp[hz])
  obtain⟨F,hF⟩:=ih q1
  obtain⟨G,hG⟩:∃G,Fj x=true→∀fu,G≤fu→Cw fu (BN l) (b:Int)=some (DL b (BN l)):=by
   by_cases hx:Fj x=true
   ·obtain⟨G,hG⟩:=ih2 hx q2
    exact⟨G,fun _=>hG⟩
   ·exact⟨0,fun h=>absurd h hx⟩
  refine⟨F+G+BB+CX x+l.length+CX (BN [DL b x,BN l])+CX (DL b (BN l))+8,fun fu hf=>?_⟩
  obtain⟨fu,rfl⟩:∃m,fu=m+1:=⟨fu-1,by omega⟩
  refine Ok.eq ?_
  show Ok (Ca fu (Cw fu) e b) _
  unfold Ca
  rw[XB h hs,hs]
  have hsl:WH (x::l) 1 (((x::l).length:Nat):Int)=l:=by simp[WH]
  rw[hsl]
  refine Ok.iF (by omega) (Ok.iF (by omega) (Ok.iF (by omega) (Ok.iT h (Ok.A4 (by simp only[List.length_cons];omega) ?_))))
  refine Ok.AV (PS (by omega) (by omega)) fun z hz=>?_
  subst hz
  refine Ok.HK (by decide) (a:=x) rf (Ok.Cq (hF fu (by omega)) (Ok.AV (PS (by simp;omega) (by rw[ZD];omega)) fun z hz=>?_))
  subst hz
  refine Ok.HK (by decide) (a:=x) rf (Ok.AV (PH fu x (by omega)) fun z hz=>?_)
  subst hz
  refine Ok.bif (fun hx=>?_) fun hx=>Ok.some (by rw[if_neg (by simp[hx])])
  rw[if_pos hx]
  refine Ok.Cq (hG hx fu (by omega)) (Ok.AV (Uq (by simp;omega) (fun z hz=>?_) (by omega) h4) fun z hz=>Ok.some hz)
  simp at hz
  rcases hz with rfl|rfl<;>omega
theorem Ye{v:Rx}(hv:CX v≤12)(hG:XE v):∀(n:Nat) (w:List UInt8),w.length=n→n≤21→HQ (GH v w)
 |0,w,hw,_=>by
  rw[List.length_eq_zero_iff.1 hw]
  exact Rb (Nat.le_trans hv (by decide))
 |n+1,w,hw,hn=>by
  obtain⟨w0,c,rfl⟩:∃w0 c,w=w0++[c]:=⟨w.dropLast,w.getLast (by intro e;rw[e]at hw;cases hw),(List.dropLast_concat_getLast _).symm⟩
  rw[Gi]
  have hw:w0.length=n:=by simpa using hw
  exact YJ (hG w0 c (by omega)) (Ye hv hG n w0 hw (by omega))
theorem Nj:∀(n:Nat) {v u:Rx} {K:List Rx} {d:Nat},CX v<n→FK d v→(u,K)∈CV v→NR u
 |0,_,_,_,_,h,_,_=>absurd h (Nat.not_lt_zero _)
 |_+1,_,_,_,0,_,h,_=>h.elim
 |n+1,v,u,K,d+1,hn,hr,h=>by
  have hsz:=Cj v
  rw[Dy]at h
  rcases List.mem_cons.1 h with e|h
  ·cases e;exact hr.1
  rcases BV.1 h with⟨h5,x,l,K',hs,hq,rfl⟩|⟨h4,x,hx,hq⟩|⟨h3,a,x,b,K',hs,hq,rfl⟩
  ·have hm:x∈v.Aq:=by rw[hs];simp
   have:=C1 hm
   exact Nj n (by omega) (hr.2 x hm) hq
  ·have:=C1 hx
   exact Nj n (by omega) (hr.2 x hx) hq
  ·have hm:x∈v.Aq:=by rw[hs];simp
   have:=C1 hm
   exact Nj n (by omega) (hr.2 x hm) hq
theorem Qx{d:Nat}{v:Rx}(h:FK d v):Ne v:=fun u K hu hk e=>by
 have:=(Nj _ (Nat.lt_succ_self _) h hu).len
 rw[e]at this
 rcases hk with hk|hk
 ·rw[if_neg (by omega),if_pos hk]at this;simp at this
 ·rw[if_pos (.inl hk)]at this;simp at this
theorem Tm{r:Rx}{s:BF}(hr:FK 16 r)(hv:CX r≤12)(hs:s.length≤20):∃F,∀fu,F≤fu→C2 fu r=some 0→F0 fu r s=some (Fj (GH r s)):=by
 have hG:=ZB _ r (Nat.lt_succ_self _) hv (Qx hr)
 obtain⟨F,hF⟩:=Wa (P:=fun k fu=> ∀h:k<s.length,Cw fu (GH r (s.take k)) ((s[k].toNat:Nat):Int)=some (DL s[k].toNat (GH r (s.take k)))) s.length fun k hk=>by
  have hlen:(s.take k).length=k:=by rw[List.length_take];omega
  obtain⟨F,hF⟩:=Xf (hG (s.take k) s[k] (by omega)) (Ye hv hG k _ hlen (by omega))
  exact⟨F,fun fu hf _=>hF fu hf⟩
 refine⟨F+CX (GH r s)+40,fun fu hf hc=>Ok.eq ?_⟩
 unfold F0
 refine Ok.Cq hc (Ok.iF (by decide) ?_)
 refine Ok.loop (fun x=> ∃k:Nat,k≤s.length∧x=(GH r (s.take k),(k:Int))) (fun x=>s.length-x.2.toNat) ⟨0,by omega,rf⟩ (by dsimp only;omega) fun x nx hI _ hn=>?_
 obtain⟨k,hk,rfl⟩:=hI
 dsimp only at hn⊢
 unfold Fh
 refine Ok.ite (fun h=>?_) fun h=>?_
 ·have hk':k<s.length:=by omega
  refine Ok.Iz hk' (Ok.Cq (hF k hk' fu (by omega) hk') (Ok.A4 (by unfold Dw;omega) (hn _ ⟨k+1,by omega,?_⟩ (by dsimp only;omega))))
  rw[←List.take_append_getElem hk',Gi];rfl
 ·obtain rfl:k=s.length:=by omega
  rw[List.take_of_length_le (Nat.le_refl _)]
  exact Ok.AV (PH fu _ (by omega)) fun b hb=>Ok.some hb
end Go.GL
namespace Go.GL
open Go.GK
def pt:Nat→Rx→Nat
 |0,_=>1
 |d+1,r=>1+(r.Aq.map (pt d)).sum
theorem V7:∀(d:Nat) (r:Rx),sz d r+1≤4*pt d r
 |0,r=>by simp[sz,pt]
 |d+1,r=>by
  show 2+r.Aq.length+(r.Aq.map (sz d)).sum+1≤4*(1+(r.Aq.map (pt d)).sum)
  have:∀l:List Rx,l.length+(l.map (sz d)).sum≤4*(l.map (pt d)).sum:=fun l=>by
   induction l with
   |nil=>simp
   |cons x l ih=>rw[List.map_cons,List.map_cons,List.sum_cons,List.sum_cons,List.length_cons];have:=V7 d x;omega
  have:=this r.Aq
  omega
theorem Om:∀(K:Nat) (m:Int) (r:Rx) (fu:Nat),m≤K→K≤12→K+40≤fu→ -100≤m→Ok (Ex fu r m) (fun n=>1≤n∧(n≤m+1∨n=1)∧(n≤m→∀d,(pt d r:Int)≤n))
 |_,_,_,0,_,_,h,_=>by omega
 |K,m,r,fu+1,hm,hK,hf,h0=>by
  show Ok (EP fu (Ex fu) r m) _
  unfold EP
  refine Ok.loop (fun(x:Int×Int)=> ∃k:Nat,x.2=k∧k≤r.Aq.length∧(k:Int)+1≤x.1∧(x.1≤m+1∨x.1=1)∧(x.1≤m→∀d,((1+((r.Aq.take k).map (pt d)).sum:Nat):Int)≤x.1)) (fun x=>30-x.1.toNat) ⟨0,rf,by omega,by simp, .inr rf,fun _ d=>by simp⟩ (by dsimp only;omega) fun x nx hI hmm hn=>?_
  obtain⟨n,i⟩:=x
  obtain⟨k,rfl,h1,h2,h3,h4⟩:=hI
  dsimp only at h2 h3 h4 hn
  unfold EO
  dsimp only
  have hend:n≤m→¬(k:Int)<((r.Aq.length:Nat):Int)→∀d,(pt d r:Int)≤n:=fun hnm hk d=>by
   obtain rfl:k=r.Aq.length:=by omega
   cases d with
   |zero=>show((1:Nat):Int)≤n;omega
   |succ d=>
    have:=h4 hnm d
    rw[List.take_of_length_le (Nat.le_refl _)]at this
    exact this
  refine Ok.ite (fun hk=>Ok.ite (fun hnm=>?_) fun hnm=>Ok.some ⟨by omega,h3,fun h=>absurd h hnm⟩) fun hk=>Ok.some ⟨by omega,h3,fun h=>hend h hk⟩
  have hk':k<r.Aq.length:=by omega
  refine Ok.C3 hk' (Ok.A4 (by unfold Dw;omega) ?_)
  cases K with
  |zero=>omega
  |succ K=>
   refine Ok.AV (Om K (m-n) _ fu (by omega) (by omega) (by omega) (by omega)) fun q ⟨q1,q2,q3⟩=>?_
   refine Ok.A4 (by unfold Dw;omega) (Ok.A4 (by unfold Dw;omega) (hn _ ⟨k+1,by dsimp only;omega,by omega,by dsimp only;omega,by dsimp only;omega,fun h d=>?_⟩ (by dsimp only;omega)))
   dsimp only at h⊢
   have e1:=h4 (by omega) d
   have e2:=q3 (by omega) d
   rw[show r.Aq.take (k+1)=r.Aq.take k++[r.Aq[k]]from(List.take_append_getElem hk').symm,List.map_append,List.sum_append]
   simp only[List.map_cons,List.map_nil,List.sum_cons,List.sum_nil]
   omega
theorem SA{r:Rx}{fu:Nat}(hf:100≤fu):Ok (GW fu r) (fun b=>b=true→∀d,pt d r≤12):=by
 unfold GW
 refine Ok.AV (Om 12 12 r fu (by decide) (by decide) (by omega) (by decide)) fun n ⟨h1,h2,h3⟩=>Ok.some fun h d=>?_
 have h:=of_decide_eq_true h
 have:=h3 h d
 omega
theorem SR:∀ {d:Nat} {r:Rx},FK d r→CX r≤pt d r
 |0,_,h=>h.elim
 |d+1,r,h=>by
  have key:∀l:List Rx,(∀x∈l,CX x≤pt d x)→Ed l≤(l.map (pt d)).sum:=fun l=>by
   induction l with
   |nil=>intro _;simp[Ed]
   |cons x l ih=>
    intro hl
    have:=hl x (by simp)
    have:=ih fun y hy=>hl y (by simp[hy])
    simp only[Ed,List.map_cons,List.sum_cons];omega
  have:=key r.Aq fun x hx=>SR (h.2 x hx)
  rw[Cj]
  show _≤1+(r.Aq.map (pt d)).sum
  omega
theorem Qv{fu:Nat}{r:Rx}{a b:Int}{slf:NT→Rx→Int→Int→Option NT}(ih:∀N x a b N',slf N x a b=some N'→N'.1.length+1≤N.1.length+CX x):∀(m:Nat) (D:List (List Int)) (E:List (List (AD×Int×Int))) (k:Nat) (i:Int) (N':NT),
  Ax m (fun p nx=>BM fu r a b slf p.1 p.2.1 p.2.2.1 p.2.2.2 nx) (D,E,k,i)=some N'→N'.1.length≤D.length+Ed (r.Aq.drop k)
 |m,D,E,k,i,N',h=>by
  obtain⟨m',nx,rfl,hnx,h⟩:=Bm h
  have h:BM fu r a b slf D E k i nx=some N':=h
  unfold BM at h
  by_cases hk:(k:Int)<((r.Aq.length:Nat):Int)
  ·rw[decide_eq_true hk]at h
   obtain⟨x,hx,h⟩:=Ag (show AV _ _=some N' from h)
   obtain⟨N1,h1,h⟩:=Ag h
   rw[hnx]at h
   have h2:=Qv ih m' _ _ _ _ _ h
   have h3:=ih _ _ _ _ _ h1
   have hk':k<r.Aq.length:=by omega
   rw[JA hk']at hx
   cases hx
   rw[List.drop_eq_getElem_cons hk']
   simp only[Ed]
   dsimp only at h3
   omega
  ·rw[decide_eq_false hk]at h
   have h:some (D,E,i)=some N':=h
   cases h
   show D.length≤_
   omega
theorem Qu{fu:Nat}{r:Rx}{b:Int}{slf:NT→Rx→Int→Int→Option NT}(ih:∀N x a b N',slf N x a b=some N'→N'.1.length+1≤N.1.length+CX x):∀(m:Nat) (D:List (List Int)) (E:List (List (AD×Int×Int))) (a:Int) (k:Nat) (i:Int) (N':NT),
  Ax m (fun p nx=>BL fu r b slf p.1 p.2.1 p.2.2.1 p.2.2.2.1 p.2.2.2.2 nx) (D,E,a,k,i)=some N'→N'.1.length≤D.length+Ed (r.Aq.drop k)
 |m,D,E,a,k,i,N',h=>by
  obtain⟨m',nx,rfl,hnx,h⟩:=Bm h
  have h:BL fu r b slf D E a k i nx=some N':=h
  unfold BL at h
  by_cases hk:(k:Int)<((r.Aq.length:Nat):Int)
  ·rw[decide_eq_true hk]at h
   obtain⟨x,hx,h⟩:=Ag (show AV _ _=some N' from h)
   have hk':k<r.Aq.length:=by omega
   rw[JA hk']at hx
   cases hx
   rw[List.drop_eq_getElem_cons hk']
   simp only[Ed]
   have fin:∀(D1:List (List Int)) (E1:List (List (AD×Int×Int))) (b1:Int),D1.length≤D.length+1→CH fu slf a k i nx r.Aq[k] D1 E1 b1=some N'→N'.1.length≤D.length+(CX r.Aq[k]+Ed (r.Aq.drop (k+1))):=fun D1 E1 b1 hD h=>by
    unfold CH at h
    obtain⟨N1,h1,h⟩:=Ag h
    rw[hnx]at h
    have h2:=Qu ih m' _ _ _ _ _ _ h
    have h3:=ih _ _ _ _ _ h1
    dsimp only at h3
    omega
   by_cases hk2:((k:Int)+1)<((r.Aq.length:Nat):Int)
   ·rw[decide_eq_true hk2]at h
    obtain⟨_,h⟩:=Al (show A4 _ _=some N' from h)
    obtain⟨_,h⟩:=Al h
    exact fin _ _ _ (by simp) h
   ·rw[decide_eq_false hk2]at h
    exact fin _ _ _ (by omega) h
  ·rw[decide_eq_false hk]at h
   have h:some (D,E,i)=some N':=h
   cases h
   show D.length≤_
   omega
theorem Qt:∀(fu:Nat) (N:NT) (r:Rx) (a b:Int) (N':NT),Cm fu N r a b=some N'→N'.1.length+1≤N.1.length+CX r
 |0,_,_,_,_,_,h=>by cases h
 |fu+1,N,r,a,b,N',h=>by
  have hr:=Cj r
  have ih:=fun N x a b N'=>Qt fu N x a b N'
  have h:C7 fu (Cm fu) N r a b=some N':=h
  unfold C7 at h
  by_cases h1:r.kind=1
  ·rw[decide_eq_true h1]at h
   obtain⟨x,_,h⟩:=Ag (show AV _ _=some N' from h)
   obtain⟨_,h⟩:=Al h
   cases h
   simp only[List.length_set];omega
  rw[decide_eq_false h1]at h
  have h:(bif decide (r.kind=2)then _ else _)=some N':=h
  by_cases h2:r.kind=2
  ·rw[decide_eq_true h2]at h
   obtain⟨x,_,h⟩:=Ag (show AV _ _=some N' from h)
   obtain⟨_,h⟩:=Al h
   obtain⟨_,h⟩:=Al h
   cases h
   show N.1.length+1≤_
   omega
  rw[decide_eq_false h2]at h
  have h:(bif decide (r.kind=4)then _ else _)=some N':=h
  by_cases h4:r.kind=4
  ·rw[decide_eq_true h4]at h
   have:=Qv ih fu _ _ _ _ _ (show Ax fu _ _=some N' from h)
   rw[List.drop_zero]at this
   omega
  rw[decide_eq_false h4]at h
  have h:(bif decide (r.kind=3)then _ else _)=some N':=h
  by_cases h3:r.kind=3
  ·rw[decide_eq_true h3]at h
   have:=Qu ih fu _ _ _ _ _ _ (show Ax fu _ _=some N' from h)
   rw[List.drop_zero]at this
   omega
  rw[decide_eq_false h3]at h
  have h:(bif decide (r.kind=5)then _ else _)=some N':=h
  by_cases h5:r.kind=5
  ·rw[decide_eq_true h5]at h
   obtain⟨_,h⟩:=Al (show A4 _ _=some N' from h)
   obtain⟨_,h⟩:=Al h
   obtain⟨x,_,h⟩:=Ag h
   obtain⟨_,h⟩:=Al h
   obtain⟨y,_,h⟩:=Ag h
   obtain⟨_,h⟩:=Al h
   obtain⟨z,hz,h⟩:=Ag h
   obtain⟨N1,hh,hN⟩:=Ag h
   cases hN
   have h3:=ih _ _ _ _ _ hh
   have hm:z∈r.Aq:=by
    unfold idx at hz
    rw[if_pos (by decide)]at hz
    exact List.mem_of_getElem? hz
   have:=C1 hm
   simp only[List.length_set,List.length_append,List.length_cons,List.length_nil]at h3
   show N1.1.length+1≤_
   omega
  ·rw[decide_eq_false h5]at h
   have h:some _=some N':=h
   cases h
   show N.1.length+1≤_
   omega
theorem Vt{r:Rx}{s:BF}(hr:FK 16 r)(hv:CX r≤12)(hs:s.length≤20):∃fu,300000000≤fu∧(C2 fu r=some 0→F0 fu r s=some (Fj (GH r s))):=by
 obtain⟨F,hF⟩:=Tm hr hv hs
 exact⟨F+300000000,by omega,fun h=>hF _ (by omega) h⟩
theorem Oy(r:Rx)(s:BF):∃fu,C0 fu r s=some true:=by
 obtain⟨fu,hf,hM⟩:∃fu,300000000≤fu∧(FK 16 r→CX r≤12→s.length≤20→C2 fu r=some 0→F0 fu r s=some (Fj (GH r s))):=by
  by_cases h:FK 16 r∧CX r≤12∧s.length≤20
  ·obtain⟨fu,h1,h2⟩:=Vt h.1 h.2.1 h.2.2
   exact⟨fu,h1,fun _ _ _=>h2⟩
  ·exact⟨300000000,by decide,fun h1 h2 h3=>absurd ⟨h1,h2,h3⟩ h⟩
 refine⟨fu,Ok.eq ?_⟩
 unfold C0
 refine Ok.AV (SA (by omega)) fun x hx=>Ok.bif (fun _=>Ok.alive (by omega)) fun h=>Ok.ite (fun _=>Ok.alive (by omega)) fun hl=>?_
 have hpt:=hx (Zl h) 16
 have hsz:=V7 16 r
 have hl:s.length≤20:=by omega
 have c1:Ok (C2 fu r) (fun e=>e=0↔FK 16 r):=by
  unfold C2
  exact Ok.AV (LY 16 1 r _ (by decide) (by decide) (by omega)) fun e he=>Ok.some he
 obtain⟨e,q1,q2⟩:=c1
 have hof:=X1 (r:=r) (Q:=fun N=>N.1.length≤13) (fu:=fu) (B:=8192) (by omega)
  (fun hr=>by
   have:=SR hr
   obtain⟨N,h1,_⟩:=P1 16 r fu hr (by omega) HX 2 0 1 Qw (by decide) (by decide) (by decide) (by decide) (by omega)
   have h2:=Qt _ _ _ _ _ _ h1
   have h3:HX.1.length=2:=rfl
   exact⟨N,h1,by omega⟩)
  (fun N hQ _ L hn hL=>Rz (m:=13) hQ hn hL) (by decide) hf
 refine Ok.AV hof fun x hx=>?_
 by_cases hr:FK 16 r
 ·obtain⟨N,_,_,hx⟩:=hx.1.yes hr
  have e0:=q2.2 hr
  subst e0
  rcases hx with⟨_,hx⟩|⟨T,hT,hlg,⟨_,hx⟩|⟨h200,hx⟩⟩
  ·subst hx
   exact Ok.iT (by decide) (Ok.iT (by simp) (Ok.Cq q1 (Ok.iF (by decide) (Ok.iT rf (Ok.Cq q1 (Ok.iT rf (Ok.alive (by omega))))))))
  ·subst hx
   exact Ok.iT (by decide) (Ok.iT (by simp) (Ok.Cq q1 (Ok.iF (by decide) (Ok.iT rf (Ok.Cq q1 (Ok.iT rf (Ok.alive (by omega))))))))
  ·subst hx
   have hcw:=Q0 hT
   have hcs:VW (He T) 300:=hcw.sh (by omega) (by decide)
   refine Ok.iF (by simp) (Ok.AV (P2 hcw.by hcs (by omega) (by decide) (by omega) (by omega)) fun a ha=>Ok.Cq (hM hr (by have:=SR hr;omega) hl q1) (Ok.T ?_ ?_))
   ·rw[ha,NN hcw,Q3 hT]
    have h1:B_ T 0 s=true↔Fj (GH r s)=true:=by rw[hlg,Tj hr,Tn]
    cases h2:B_ T 0 s<;>cases h3:Fj (GH r s)<;>simp[h2,h3]at h1⊢
   ·exact Ok.AV (Sn hcw.by hcs (by decide) (by omega) (by omega)) fun z hz=>Ok.T (hz.2 ⟨hcw,R1 hT⟩) (Ok.alive (by omega))
 ·obtain⟨h1,h2⟩:=hx.1.not hr
  have h3:=hx.2 hr
  refine Ok.iT h2 (Ok.iT (by rw[h1];simp) (Ok.Cq h3 (Ok.iT rf (Ok.alive (by omega)))))
end Go.GL
namespace Go.Proofs.YtjmbmodmepdmjabGreatDoor.automatonMatches
open Go.GK Go.ChangeShapes Go.WideShapes Go.ChangeAt Go.RowKit
theorem own:ownKnob Tryz.prog.godebug=none:=by kernel_rfl
theorem laidOut:laidOutB Tryz.prog=true:=by kernel_rfl
theorem walk(W:World)(hG:El Tryz.prog (Hp.of W))
  {c0:Array Value} (l0:Rx) (hl0:C'.Lay (Hp.of W) l0 c0.toList) (l1:BF):CB Tryz.prog 3 [(.agg c0),(sv l1)] (Hp.of W) [] (.bool true):=by
 obtain⟨v,hc,hv⟩:=CC.1 hl0
 have hcc:c0= #[.int .i64 l0.kind,Ad (word l0.set 0),Ad (word l0.set 1),Ad (word l0.set 2),Ad (word l0.set 3),v]:=Array.ext' hc
 subst hcc
 obtain⟨fu,h⟩:=GL.Oy l0 l1
 exact Hk hv hG h
theorem T9(H:Type)(enc:TypeId×Value→H)(W:World)(base:Nat)(args:Array Value)(ds gs:List (DataW H))(before:List MemPlace)
  (hval:∀(j:Nat) t v,Tryz.f3.params[j]?=some t→args[j]?=some v→Value.okWide Tryz.prog W .any base t v)
  (hW:DataW.Whole enc Tryz.prog Tryz.f3.params.toList Rows.automatonMatchesSpec.vars false W args.toList ds gs before) (hL:laidMetH Tryz.prog Rows.automatonMatchesRow.laid W):
  Calls Tryz.prog 3 args W fun e W'=> ∃v,e= .returned v∧Rows.automatonMatchesSpec.post enc Tryz.prog Tryz.f3 false true false false W args v W':=by
 have hW':=hW
 obtain⟨p,q,hA0,hV,rfl,_,_⟩:=hW
 have hA:DataW.TrodAll enc Tryz.prog W 0 (fun _=>true) true Tryz.f3.params.toList args.toList ds p:=hA0
 rw[Tryz.params3]at hA hval
 obtain⟨v0,vs0,d0,ds0,p0,q0,hargs,rfl,rfl,h0,r0⟩:=trodAll_cons hA
 obtain⟨v1,vs1,d1,ds1,p1,q1,rfl,rfl,rfl,h1,r1⟩:=trodAll_cons r0
 obtain⟨rfl,rfl,rfl⟩:=trodAll_nil r1
 obtain rfl:args= #[v0,v1]:=by cases args;simp_all
 obtain⟨rfl,rfl⟩:=trodVars_none hV
 clear hA0
 simp only[List.append_nil]at hW'
 have hlt:∀x∈p0++(p1),x.block<W.heap.size:=fun x hx=>hW'.lt x hx
 obtain⟨c0,l0,rfl,hl0⟩:=JV.YR Tryz.underlying27 (by kernel_rfl) Zg (hval 0 27 v0 rfl rfl) h0
 obtain⟨l1,rfl⟩:=Wy Tryz.underlying9 (hval 1 9 v1 rfl rfl) h1
 have hG:El Tryz.prog (Hp.of W):=X' hL
 refine(walk W hG l0 hl0 l1 W (SH.start W)).mono fun e W' ⟨he,hs⟩=>?_
 subst he
 have hbel:=hs.below
 exact⟨_,rfl,⟨_,_,_,[],_,[],hW',trodAll_cons_mk (shut_bool Tryz.underlying4 _) trodAll_mk0,(trodAll_cons_mk (Below.trod laidOut (by kernel_rfl) (of_decide_eq_true (by kernel_rfl)) h0 hbel (fun x hx=>hlt x (by simp[hx]))) (trodAll_cons_mk (Below.trod laidOut (by kernel_rfl) (of_decide_eq_true (by kernel_rfl)) h1 hbel (fun x hx=>hlt x (by simp[hx]))) trodAll_mk0)),rfl,hbel.frame _,fun h=>by cases h⟩⟩
theorem TA(os:Os):laidMet Tryz.prog Rows.automatonMatchesRow.laid ((World.doorLaid Tryz.prog 400 os).forCall (fun _ _=>0) ⟨#[], #[.agg #[.int .i64 0, .int .u64 0, .int .u64 0, .int .u64 0, .int .u64 0, .slice none 0 0], .string ⟨#[]⟩],[]⟩).memory:=
 laidMet_of_run' 8 (by kernel_rfl) (by kernel_rfl)
theorem reads(os:Os){H:Type}(enc:TypeId×Value→H):∃places,DataW.whole enc Tryz.prog ((World.doorLaid Tryz.prog 400 os).forCall (fun _ _=>0) ⟨#[], #[.agg #[.int .i64 0, .int .u64 0, .int .u64 0, .int .u64 0, .int .u64 0, .slice none 0 0], .string ⟨#[]⟩],[]⟩).memory Tryz.f3.params.toList Rows.automatonMatchesSpec.vars false (#[.agg #[.int .i64 0, .int .u64 0, .int .u64 0, .int .u64 0, .int .u64 0, .slice none 0 0], .string ⟨#[]⟩]:Array Value).toList 8=some ([.agg [.lit (.int .i64 0), .agg [.lit (.int .u64 0), .lit (.int .u64 0), .lit (.int .u64 0), .lit (.int .u64 0)], .nil], .lit (.string [])],[],places):=
 ⟨[],by kernel_rfl⟩
theorem lifted(os:Os)(started:os.Started)(H:Type)(enc:TypeId×Value→H)(F:Stop.Interp):
  ReturnsInHanded {} Tryz.checked os 3 .any ((OpenSpec.ofChange Rows.automatonMatchesSpec).preRow enc Tryz.prog Tryz.f3 Rows.automatonMatchesRow.domain false Rows.automatonMatchesRow.laid) (((OpenSpec.ofChange Rows.automatonMatchesSpec).at F).post enc Tryz.prog Tryz.f3 false true false false):=by
 obtain⟨places,hx⟩:=reads os enc
 refine returnsInHanded_of_row (C:=Tryz.checked) (s:=(OpenSpec.ofChange Rows.automatonMatchesSpec)) own started (by kernel_rfl) Tryz.func3
  (witness_row_at (enc:=enc) (C:=Tryz.checked) false (World.doorLaid Tryz.prog 400 os) #[.agg #[.int .i64 0, .int .u64 0, .int .u64 0, .int .u64 0, .int .u64 0, .slice none 0 0], .string ⟨#[]⟩] rfl (by kernel_rfl) (by kernel_rfl) (by kernel_rfl)
   (OpenSpec.preRow_of_cond 8 hx (by kernel_rfl) (fun k hk=>by cases hk) (by kernel_rfl) (TA os))) ?_
 intro W base args ds gs before hval hW _ _ _ hL _ _
 exact T9 H enc W base args ds gs before hval hW hL
theorem said:Rows.AutomatonMatchesSaid:=
 OpenClaim.holds_of_cond 3 Tryz.f3 rfl rfl rfl rfl rfl rfl rfl ⟨rfl,rfl,rfl,rfl,rfl⟩ rfl rfl rfl rfl rfl (by kernel_rfl) Tryz.func3 (by kernel_rfl)
  (of_decide_eq_true (by kernel_rfl)) (by unfold Func.isWrapper;first|(rw[if_pos (by decide+kernel)];kernel_rfl)|(rw[if_neg (by decide+kernel)];exact⟨rfl,rfl⟩))
  (fun os started H enc _ F=>by rw[OpenClaim.pre_eq_preRow];exact lifted os started H enc F)
theorem plain(f:FuncId)(fn:Func)(hf:Tryz.pinned.checked.prog.funcNamed "configlang/configlanglaw05.AutomatonMatches" =some f)(hfn:Tryz.pinned.checked.prog.funcs[f]?=some fn):
  false=Tryz.pinned.checked.prog.looks []∧∀(j:Nat) t,fn.params[j]?=some t→Tryz.pinned.checked.prog.wantsStandIn t=false:=by
 obtain rfl:f=3:=Option.some.inj ((show Tryz.prog.funcNamed "configlang/configlanglaw05.AutomatonMatches" =some 3 by kernel_rfl).symm.trans hf) |>.symm
 obtain rfl:fn=Tryz.f3:=(Option.some.inj (Tryz.func3.symm.trans hfn)).symm
 refine⟨by kernel_rfl,fun j t ht=>?_⟩
 rw[Tryz.params3]at ht
 have hm:t∈[27,9]:=by simpa using Array.mem_of_getElem? ht
 have hall:([27,9].all fun u=> !Tryz.prog.wantsStandIn u)=true:=by kernel_rfl
 exact(show Tryz.prog.wantsStandIn t=false by simpa using List.all_eq_true.1 hall t hm)
end Go.Proofs.YtjmbmodmepdmjabGreatDoor.automatonMatches
namespace Go.Proofs.YtjmbmodmepdmjabGreatDoor
theorem automatonMatches_holds:Rows.AutomatonMatchesCardSaid:=
 Claim7.holds_tied_plain_at .later [] _ _ _ _ automatonMatches.said (fun _ h=>by cases h) (by kernel_rfl) (fun _ h=>by cases h) automatonMatches_row_tie rfl ⟨rfl,rfl⟩ (by kernel_rfl) rfl automatonMatches.plain (by kernel_rfl)
end Go.Proofs.YtjmbmodmepdmjabGreatDoor
